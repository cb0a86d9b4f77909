/- Reader: data, be. Printed by gen_rdb.py. -/
import Derived.Test.YtmmdiccpifepfaaRdA
namespace Go.Proofs.Ytmmdiccpifepfaa
open Go.RowKit
set_option linter.unusedVariables false
set_option linter.unusedSimpArgs false
namespace Rd
open Ans Digit Sls Word
/-- What an act on a reader leaves. -/
def RAct (w : World) (A : Nat → Prop) (g : Nat) (y : X) (p : Nat) (op : Str) (e : Ending) (w' : World) : Prop := e = .returned (.tuple #[]) ∧ ∃ A', RA w' A' g y p op ∧ Step A w A' w'
theorem infoV : (Try.prog.info? 49).map (fun i => (i.zero, i.size, i.bytes)) = some (some (.agg #[.string ByteArray.empty, .string ByteArray.empty, .bool false]), 3, 40) := by kernel_rfl
theorem infoR : (Try.prog.info? 69).map (fun i => (i.zero, i.size, i.bytes)) = some (some (.agg #[.int .i64 0, .slice none 0 0]), 2, 32) := by kernel_rfl
/-- The last view's cells, where it is open. -/
theorem RP.open_ {w : World} {Fs B : Nat → Prop} {g p : Nat} {vR vV : Value} {rv : List (Int × Value)} {x : X} {op n t : Str} (h : RP w Fs B g vR vV rv x p op) (ho : opn x.V = some (n, t)) :
    ∃ U gV m c, x.V = U ++ [(n, t, true)] ∧ m = U.length ∧ vV = .slice (some ⟨gV, 0, none⟩) (m + 1) c ∧ w.cell? ⟨gV, m * 3, none⟩ = some (.string ⟨n.toArray⟩) ∧ w.cell? ⟨gV, m * 3 + 1, none⟩ = some (.string ⟨t.toArray⟩) ∧ w.cell? ⟨gV, m * 3 + 2, none⟩ = some (.bool true) ∧ (∀ i, w.frozen? ⟨gV, i, none⟩ = false) ∧ gV ≠ g ∧ gV < w.heap.size := by
  obtain ⟨U, hU⟩ := opn_some ho
  have hv := h.rows.vown
  obtain ⟨A, c, rfl⟩ := own_form hv
  have hl : x.V.length = U.length + 1 := by rw [hU]; simp
  obtain ⟨gV, rfl⟩ : ∃ gV, A = some ⟨gV, 0, none⟩ := by
    rcases hv.2 with ⟨h1, h2⟩ | ⟨g, cap, cur, h1, _⟩
    · omega
    · injection h1 with h1; exact ⟨g, h1⟩
  obtain ⟨d0, d1, d2⟩ := view_at hv (k := U.length) (by omega)
  have e : x.V[U.length]'(by omega) = (n, t, true) := by simp only [hU, List.getElem_concat_length]
  rw [e] at d0 d1 d2
  exact ⟨U, gV, U.length, c, hU, rfl, by rw [hl], d0, d1, d2, own_frozen hv, h.nf.2.1 gV rfl, of_lt hv gV rfl⟩
/-- The last view is another one. -/
theorem RP.setv {w : World} {Fs B : Nat → Prop} {g p gV m c : Nat} {vR : Value} {rv : List (Int × Value)} {x : X} {op n t t' : Str} {b' : Bool} {U : List Vw} (h : RP w Fs B g vR (.slice (some ⟨gV, 0, none⟩) (m + 1) c) rv x p op) (hx : x.V = U ++ [(n, t, true)]) (hm : m = U.length) (j : Nat) (hj : j < 3) (u : Value)
    (hu : ((U ++ [(n, t, true)]).flatMap encV).set (U.length * 3 + j) u = (U ++ [(n, t', b')]).flatMap encV) : RP (w.setCell ⟨gV, m * 3 + j, none⟩ u) Fs B g vR (.slice (some ⟨gV, 0, none⟩) (m + 1) c) rv { x with V := U ++ [(n, t', b')] } p op := by
  subst hm
  refine h.view (y := { x with V := U ++ [(n, t', b')] }) (by rw [hx]; simp) (by omega) u ?_ (by rw [hx]; simp) rfl rfl rfl
  rw [hx]
  exact hu
theorem RP.vstep {w : World} {Fs B A : Nat → Prop} {g p gV m c : Nat} {vR : Value} {rv : List (Int × Value)} {x : X} {op : Str} (h : RP w Fs B g vR (.slice (some ⟨gV, 0, none⟩) m c) rv x p op) (hA : ∀ k, Fs k ∨ B k ∨ Of vR k ∨ Of (.slice (some ⟨gV, 0, none⟩) m c) k → A k) (i : Nat) (u : Value) : Step A w A (w.setCell ⟨gV, i, none⟩ u) :=
  ⟨(Fr.refl A w).setCell (p := ⟨gV, i, none⟩) (.inl (hA gV (.inr (.inr (.inr rfl))))) u, fun k hk => .inl hk⟩
set_option maxRecDepth 100000 in
set_option maxHeartbeats 2000000 in
theorem data_any (s : Str) (w : World) (A : Nat → Prop) (g p : Nat) (op : Str) (x : X) (h : RA w A g x p op) (hs : s.length ≤ 1000000) (hf : Fit 1000000 x) :
    Calls Try.prog 18 #[.pointer (some ⟨g, 0, none⟩), .string ⟨s.toArray⟩] w (RAct w A g (dataR x s) p op) := by
  obtain ⟨Fs, B, vR, vV, rv, hp, hA, hlt⟩ := h
  obtain ⟨c0, c1, c2, c3, fz, hg⟩ := hp.sat.cells
  cases ho : opn x.V with
  | none =>
    have HC := Lib.hid (here_none hp ho)
    have HE := Lib.hid (data_none ho s)
    have HP := Lib.hid hp.bad
    have HS := Lib.hid (hp.step hA 3 (.bool true))
    have HL := Lib.hid hlt
    have f3 := fz 3
    have HA := Lib.hid hA
    clear hp hA hlt ho hf fz
    go_enter Try.func18, Try.ntmps18
    go_wp2_with (go_at_call 31; refine HC.out.mono ?_; rintro e w1 ⟨rfl, rfl⟩)
    go_end0
    exact ⟨rfl, A, ⟨Fs, B, vR, vV, rv, by rw [HE.out]; exact HP.out, HA.out, fun k hk => Nat.lt_of_lt_of_le (HL.out k hk) HS.out.1.size⟩, HS.out⟩
  | some q =>
    obtain ⟨n, t⟩ := q
    obtain ⟨U, gV, m, c, hU, hm, rfl, d0, d1, d2, fV, hne, hgV⟩ := hp.open_ ho
    have ht := hf.2.2 (n, t, true) (by rw [hU]; simp)
    simp only at ht
    have HC := Lib.hid (here_some hp hU hm)
    have HE := Lib.hid (data_some hU s)
    have HP := Lib.hid (hp.setv hU hm 1 (by omega) (.string ⟨(t ++ s).toArray⟩) (set_v0 U (n, t, true) (n, t ++ s, true)))
    have HS := Lib.hid (hp.vstep hA (m * 3 + 1) (.string ⟨(t ++ s).toArray⟩))
    have HL := Lib.hid hlt
    have HA := Lib.hid hA
    have f1 := fV (m * 3 + 1)
    have hadd := fun W => Go.run_string_add_sum (P := Try.prog) (w := W) ⟨t.toArray⟩ ⟨s.toArray⟩ (by simp [ByteArray.size]; omega)
    clear hp hA hlt ho hf fz hU hm d0 d2 fV
    go_enter Try.func18, Try.ntmps18
    go_wp2_with (go_at_call 31; refine HC.out.mono ?_; rintro e w1 ⟨rfl, rfl⟩)
    go_end0
    try rw [ba_app]
    exact ⟨rfl, A, ⟨Fs, B, vR, _, rv, by rw [HE.out]; exact HP.out, HA.out, fun k hk => Nat.lt_of_lt_of_le (HL.out k hk) HS.out.1.size⟩, HS.out⟩
/-- A view more. -/
theorem RP.vpush {w w1 : World} {Fs B : Nat → Prop} {g p g4 n1 cap : Nat} {vR vV : Value} {rv : List (Int × Value)} {x : X} {op : Str} {y : Vw} (h : RP w Fs B g vR vV rv x p op)
    (ho : w1.ownsRow 0 49 3 (.slice (some ⟨g4, 0, none⟩) n1 cap) n1 (x.V.flatMap encV ++ encV y)) (hn1 : n1 = x.V.length + 1) (hf : Fr (Of vV) w w1) (hn : Of vV g4 ∨ New w w1 g4) :
    RP (w1.setCell ⟨g, 1, none⟩ (.slice (some ⟨g4, 0, none⟩) n1 cap)) Fs B g vR (.slice (some ⟨g4, 0, none⟩) n1 cap) rv { x with V := x.V ++ [y] } p op := by
  subst hn1
  have hof : ∀ k, Of (.slice (some ⟨g4, 0, none⟩) (x.V.length + 1) cap) k → k = g4 := fun k hk => by
    have hk : some g4 = some k := hk
    injection hk with hk
    exact hk.symm
  have hs1 := h.sat.fr hf (fun k hk hv => h.hV k hv hk)
  have hg4 : ∀ k, Fs k → k ≠ g4 := fun k hk e => by
    subst e
    rcases hn with hn | hn
    · exact h.hV k hn hk
    · have := h.sat.size k hk; have := hn.1; omega
  have hr4 : ∀ k, Of vR k → k ≠ g4 := fun k hk e => by
    subst e
    rcases hn with hn | hn
    · exact h.rows.hRV k hk hn
    · have := of_lt h.rows.rown k hk; have := hn.1; omega
  have hb4 : ∀ k, B k → k ≠ g4 := fun k hk e => by
    subst e
    rcases hn with hn | hn
    · exact (h.rows.hB k hk).2.2 hn
    · have := (h.rows.hB k hk).1; have := hn.1; omega
  have hfg : Fr (fun k => k = g) w1 (w1.setCell ⟨g, 1, none⟩ (.slice (some ⟨g4, 0, none⟩) (x.V.length + 1) cap)) := Fr.setCell (F := fun k => k = g) (Fr.refl _ _) (p := ⟨g, 1, none⟩) (.inl rfl) _
  obtain ⟨n1, n2, n3⟩ := h.nf
  refine ⟨hs1.set1 _, ⟨own_fr (own_fr h.rows.rown hf (fun k hk => h.rows.hRV k hk)) hfg n1, (h.rows.lines.fr hf (fun k hk => ⟨(h.rows.hB k hk).1, (h.rows.hB k hk).2.2⟩)).fr hfg (fun k hk => ⟨Nat.lt_of_lt_of_le (h.rows.hB k hk).1 hf.size, n3 k hk⟩), ?_, fun k hk hv => hr4 k hk (hof k hv), fun k hk => ⟨by rw [size_setCell]; exact Nat.lt_of_lt_of_le (h.rows.hB k hk).1 hf.size, (h.rows.hB k hk).2.1, fun hv => hb4 k hk (hof k hv)⟩⟩, h.hR, fun k hv hk => hg4 k hk (hof k hv), h.hF⟩
  have e : (x.V ++ [y]).flatMap encV = x.V.flatMap encV ++ encV y := by simp
  show World.ownsRow _ _ _ _ _ (x.V ++ [y]).length ((x.V ++ [y]).flatMap encV)
  rw [e, List.length_append, List.length_singleton]
  exact own_fr ho hfg fun k hk e => (hg4 g h.sat.in_) (by rw [← hof k hk, e])
theorem vpush_step {w w1 : World} {Fs B A : Nat → Prop} {g p g4 n1 cap : Nat} {vR vV : Value} {rv : List (Int × Value)} {x : X} {op : Str} (h : RP w Fs B g vR vV rv x p op) (hA : ∀ k, Fs k ∨ B k ∨ Of vR k ∨ Of vV k → A k) (hlt : ∀ k, A k → k < w.heap.size) {xs : List Value}
    (ho : w1.ownsRow 0 49 3 (.slice (some ⟨g4, 0, none⟩) n1 cap) n1 xs) (hf : Fr (Of vV) w w1) (hn : Of vV g4 ∨ New w w1 g4) (u : Value) :
    Step A w (fun k => A k ∨ k = g4) (w1.setCell ⟨g, 1, none⟩ u) ∧ (∀ k, Fs k ∨ B k ∨ Of vR k ∨ Of (.slice (some ⟨g4, 0, none⟩) n1 cap) k → A k ∨ k = g4) ∧ ∀ k, A k ∨ k = g4 → k < (w1.setCell ⟨g, 1, none⟩ u).heap.size := by
  refine ⟨⟨(hf.mono fun k hk _ => hA k (.inr (.inr (.inr hk)))).setCell (p := ⟨g, 1, none⟩) (.inl (hA g (.inl h.sat.in_))) u, fun k hk => ?_⟩, fun k hk => ?_, fun k hk => ?_⟩
  · rcases hk with hk | rfl
    · exact .inl hk
    · rcases hn with hn | hn
      · exact .inl (hA _ (.inr (.inr (.inr hn))))
      · exact .inr ⟨hn.1, by rw [size_setCell]; exact hn.2⟩
  · rcases hk with hk | hk | hk | hk
    · exact .inl (hA k (.inl hk))
    · exact .inl (hA k (.inr (.inl hk)))
    · exact .inl (hA k (.inr (.inr (.inl hk))))
    · have hk : some g4 = some k := hk
      injection hk with hk
      exact .inr hk.symm
  · rw [size_setCell]
    rcases hk with hk | rfl
    · exact Nat.lt_of_lt_of_le (hlt k hk) hf.size
    · exact of_lt ho k rfl
theorem be_same {x : X} {r : Int} {name t : Str} (h : opn x.V = some (name, t)) : beR x r name = { x with role := r } := by unfold beR; rw [h]; simp
theorem be_other {x : X} {r : Int} {n name t : Str} (h : opn x.V = some (n, t)) (hn : n ≠ name) : beR x r name = badR x := by unfold beR; rw [h]; simp [hn]
theorem be_none {x : X} {r : Int} {name : Str} (h : opn x.V = none) : beR x r name = { x with role := r, V := x.V ++ [(name, [], true)] } := by unfold beR; rw [h]
set_option maxRecDepth 100000 in
set_option maxHeartbeats 2000000 in
theorem be_any (r : Int) (s : Str) (w : World) (A : Nat → Prop) (g p : Nat) (op : Str) (x : X) (h : RA w A g x p op) (hf : Fit 1000000 x) :
    Calls Try.prog 29 #[.pointer (some ⟨g, 0, none⟩), .int .i64 r, .string ⟨s.toArray⟩] w (RAct w A g (beR x r s) p op) := by
  obtain ⟨Fs, B, vR, vV, rv, hp, hA, hlt⟩ := h
  obtain ⟨c0, c1, c2, c3, fz, hg⟩ := hp.sat.cells
  have f1 := fz 1
  have f2 := fz 2
  have f3 := fz 3
  have HA := Lib.hid hA
  have HL := Lib.hid hlt
  cases ho : opn x.V with
  | none =>
    have HC := Lib.hid (here_none hp ho)
    have HE := Lib.hid (be_none (r := r) (name := s) ho)
    have hr := hp.role r
    have HP := Lib.hid hr
    have HS := Lib.hid (hp.step hA 2 (.int .i64 r))
    have hv := hr.rows.vown
    have e1 := hr.sat.cells
    obtain ⟨A1, k1, hu⟩ := own_form hv
    subst hu
    have c1' := e1.2.1
    have f1' := e1.2.2.2.2.1 1
    have Hv := Lib.hid hv
    have hvl := hf.2.1
    obtain ⟨n, hn⟩ : ∃ n, n = x.V.length := ⟨_, rfl⟩
    have hvx : ({ x with role := r } : X).V = x.V := rfl
    rw [hvx, ← hn] at Hv HP c1'
    rw [← hn] at HA
    rw [← hn] at hvl
    clear hp hA hlt ho hf fz hr hv e1 c1 hvx
    have HN := Lib.hid hn
    clear hn
    go_enter Try.func29, Try.ntmps29
    go_wp2_with (first
      | (go_at_call 31; refine HC.out.mono ?_; rintro e w1 ⟨rfl, rfl⟩)
      | (at_builtin; go_loud (refine wp_push rfl (.tmp 32) (.tmp 35) 39 rfl 49 (.agg #[.string ByteArray.empty, .string ByteArray.empty, .bool false]) 3 40 Try.underlying39 infoV rfl (by decide) (.slice A1 n k1) n _ rfl Hv.out #[.string ⟨s.toArray⟩, .string ⟨#[]⟩, .bool true] (by simp only [size_setCell]; rfl) rfl (by intro u hu; simp at hu; rcases hu with rfl | rfl | rfl <;> rfl) (by omega) (by unfold maxLen; omega) ?_; intro g4 cap4 w4 h1 h2 h3; have s4 := HP.out.sat.fr h2 (fun k hk hv => HP.out.hV k hv hk); have q0 := s4.cells.2.1; have q1 := s4.cells.2.2.2.2.1 1; have P1 := Lib.hid h1; have P2 := Lib.hid h2; have P3 := Lib.hid h3; clear s4 h1 h2 h3)))
    go_end0
    have hp4 := RP.vpush HP.out P1.out (by rw [HN.out]) P2.out P3.out (y := (s, [], true))
    obtain ⟨t1, t2, t3⟩ := vpush_step HP.out HA.out (fun k hk => Nat.lt_of_lt_of_le (HL.out k hk) HS.out.1.size) P1.out P2.out P3.out (.slice (some ⟨g4, 0, none⟩) (n + 1) cap4)
    exact ⟨rfl, _, ⟨Fs, B, vR, _, rv, by rw [HE.out]; exact hp4, t2, t3⟩, HS.out.trans t1⟩
  | some q =>
    obtain ⟨n, t⟩ := q
    obtain ⟨U, gV, m, c, hU, hm, rfl, d0, d1, d2, fV, hne, hgV⟩ := hp.open_ ho
    have HC := Lib.hid (here_some hp hU hm)
    by_cases hn : n = s
    · have HE := Lib.hid (be_same (r := r) (hn ▸ ho))
      subst hn
      have HP := Lib.hid (hp.role r)
      have HS := Lib.hid (hp.step hA 2 (.int .i64 r))
      clear hp hA hlt ho hf fz hU hm d1 d2 fV
      go_enter Try.func29, Try.ntmps29
      go_wp2_with (go_at_call 31; refine HC.out.mono ?_; rintro e w1 ⟨rfl, rfl⟩)
      go_end0
      exact ⟨rfl, A, ⟨Fs, B, vR, _, rv, by rw [HE.out]; exact HP.out, HA.out, fun k hk => Nat.lt_of_lt_of_le (HL.out k hk) HS.out.1.size⟩, HS.out⟩
    · have HE := Lib.hid (be_other (r := r) ho hn)
      have hs1 : (n == s) = false := str_f hn
      have hs2 : (n != s) = true := by rw [bne, hs1]; rfl
      have HP := Lib.hid hp.bad
      have HS := Lib.hid (hp.step hA 3 (.bool true))
      clear hp hA hlt ho hf fz hU hm d1 d2 fV hn
      go_enter Try.func29, Try.ntmps29
      go_wp2_with (go_at_call 31; refine HC.out.mono ?_; rintro e w1 ⟨rfl, rfl⟩)
      go_end0
      exact ⟨rfl, A, ⟨Fs, B, vR, _, rv, by rw [HE.out]; exact HP.out, HA.out, fun k hk => Nat.lt_of_lt_of_le (HL.out k hk) HS.out.1.size⟩, HS.out⟩
end Rd
end Go.Proofs.Ytmmdiccpifepfaa
