/- Package timer's pile: an entry is put, taken, moved; container/heap's Push, Remove and Fix. -/
import Derived.Test.YtkmlmjglipmdcaaTmH
namespace Go.Proofs.Ytkmlmjglipmdcaa
open Go.RowKit
set_option linter.unusedVariables false
set_option linter.unusedSimpArgs false
namespace Tm
open Sls
abbrev ep (e : Nat) : Value := .iface 62 (.pointer (some ⟨e, 0, none⟩))
theorem assert_ep (e : Nat) (w : World) : (Instr.typeAssert (ep e) 20 62 true).run Try.prog w = .ok (.tuple #[.pointer (some ⟨e, 0, none⟩), .bool true]) w := by kernel_rfl
theorem infoP : (Try.prog.info? 62).map (fun i => (i.zero, i.size, i.bytes)) = some (some (.pointer none), 1, 8) := by kernel_rfl
/-- A row's end is cut off. -/
theorem own_cut {w : World} {base : Nat} {e : TypeId} {n m c g : Nat} {xs : List Value} (h : w.ownsRow base e 1 (.slice (some ⟨g, 0, none⟩) n c) n xs) (hm : m ≤ n) : w.ownsRow base e 1 (.slice (some ⟨g, 0, none⟩) m c) m (xs.take m) := by
  obtain ⟨hl, h⟩ := h
  refine ⟨by rw [List.length_take]; omega, .inr ?_⟩
  rcases h with ⟨h, _⟩ | ⟨g', cap, cur, h1, h2, h3, h4, h5, h6, h7⟩
  · cases h
  · injection h1 with a1 a2 a3
    injection a1 with a1
    injection a1 with a1
    subst a1 a3
    refine ⟨g, c, cur, rfl, h2, h3, by omega, h5, h6, ?_⟩
    rw [← h7, List.take_take]
    congr 1
    omega
theorem own_cap {w : World} {base : Nat} {e : TypeId} {size n c g : Nat} {xs : List Value} (h : w.ownsRow base e size (.slice (some ⟨g, 0, none⟩) n c) n xs) : n ≤ c ∧ c ≤ 9223372036854775807 := by
  rcases h.2 with ⟨h, _⟩ | ⟨g', cap, cur, h1, h2, h3, h4, h5, h6, h7⟩
  · cases h
  · injection h1 with a1 a2 a3
    subst a3
    unfold maxLen at h5
    exact ⟨h4, by omega⟩
section
variable {w w' : World} {b : Nat} {c0 c2 v : Value} {P : List E}
/-- What Push leaves: the entry x stands last. -/
def Pushed (w : World) (b : Nat) (c0 c2 v : Value) (P : List E) (x : E) (e : Ending) (w' : World) : Prop :=
  ∃ v', e = .returned (.tuple #[]) ∧ PP w' b c0 c2 v' (P ++ [x]) ∧ Fr (fun k => k = b ∨ Foot v P k ∨ k = x.1) w w' ∧ (∀ k, Of v' k → Of v k ∨ New w w' k)
theorem PP.pushed {w1 w2 w3 : World} {g c n : Nat} {x : E} (h : PP w b c0 c2 v P) (hn : n = P.length) (hx : Blk w x.1 65 #[.int .i64 x.2.1, .int .i64 x.2.2, .int .i64 0]) (hb : x.1 ≠ b) (hf : ¬ Foot v P x.1)
    (e1 : w1 = w.setCell ⟨x.1, 2, none⟩ (.int .i64 n)) (p1 : w2.ownsRow 0 62 1 (.slice (some ⟨g, 0, none⟩) (n + 1) c) (n + 1) (P.map encP ++ [.pointer (some ⟨x.1, 0, none⟩)])) (p2 : Fr (Of v) w1 w2) (p3 : Of v g ∨ New w1 w2 g) (e3 : w3 = w2.setCell ⟨b, 1, none⟩ (.slice (some ⟨g, 0, none⟩) (n + 1) c)) :
    Pushed w b c0 c2 v P x (.returned (.tuple #[])) w3 := by
  have f1 : Fr (fun k => k = x.1) w w1 := by rw [e1]; exact (Fr.refl (fun k => k = x.1) w).setCell (p := ⟨x.1, 2, none⟩) (.inl rfl) _
  have f3 : Fr (fun k => k = b) w2 w3 := by rw [e3]; exact (Fr.refl (fun k => k = b) w2).setCell (p := ⟨b, 1, none⟩) (.inl rfl) _
  have z1 := f1.size
  have z2 := p2.size
  have z3 := f3.size
  have hgb : g ≠ b := fun e => by
    rcases p3 with g1 | g1
    · exact h.vb (e ▸ g1)
    · have := g1.1; have := h.blk.lt; omega
  have hgx : g ≠ x.1 := fun e => by
    rcases p3 with g1 | g1
    · exact hf (.inl (e ▸ g1))
    · have := g1.1; have := hx.lt; omega
  have hOf : ∀ k, Of (.slice (some ⟨g, 0, none⟩) (n + 1) c) k → k = g := fun k hk => by
    have hk : some g = some k := hk
    injection hk with hk
    exact hk.symm
  have hin : ∀ y ∈ P, y.1 ≠ x.1 := fun y hy e => hf (.inr ⟨y, hy, e⟩)
  refine ⟨_, rfl, ⟨?_, ?_, ?_, ?_, ?_, fun hk => hgb (hOf _ hk).symm⟩, ?_, fun k hk => ?_⟩
  · have h2 := Blk.put (cs := #[c0, v, c2]) ((h.blk.fr f1 (fun e => hb e.symm)).fr p2 h.vb) 1 (.slice (some ⟨g, 0, none⟩) (n + 1) c)
    rw [← e3] at h2
    simpa using h2
  · have := own_fr p1 f3 (fun k hk e => hgb (by rw [← hOf k hk]; exact e))
    rw [List.length_append, List.map_append, ← hn]
    exact this
  · intro i hi
    by_cases e : i < P.length
    · rw [List.getElem_append_left e]
      exact (((h.ent i e).fr f1 (hin _ (List.getElem_mem e))).fr p2 (h.off _ (List.getElem_mem e)).2).fr f3 (h.off _ (List.getElem_mem e)).1
    · have hi' : i = P.length := by rw [List.length_append] at hi; simp at hi; omega
      subst hi'
      rw [List.getElem_append_right (Nat.le_refl _)]
      simp only [Nat.sub_self, List.getElem_singleton]
      have h1 := hx.put 2 (.int .i64 n)
      rw [← e1] at h1
      have h2 := (h1.fr p2 (fun g1 => hf (.inl g1))).fr f3 hb
      rw [hn] at h2
      simpa using h2
  · rw [List.map_append, List.nodup_append]
    refine ⟨h.nodup, by simp, ?_⟩
    intro y hy z hz
    obtain ⟨q, hq, rfl⟩ := List.mem_map.1 hy
    simp at hz
    rw [hz]
    exact hin q hq
  · intro y hy
    rcases List.mem_append.1 hy with hy | hy
    · refine ⟨(h.off y hy).1, fun g1 => ?_⟩
      have := hOf _ g1
      rcases p3 with g2 | g2
      · exact (h.off y hy).2 (by rw [this]; exact g2)
      · have := g2.1
        have hl := foot_lt h y.1 (.inr ⟨y, hy, rfl⟩)
        omega
    · rw [List.mem_singleton.1 hy]
      exact ⟨hb, fun g1 => hgx (hOf _ g1).symm⟩
  · refine (((f1.mono (F' := fun k => k = b ∨ Foot v P k ∨ k = x.1) (fun k hk _ => .inr (.inr hk))).trans p2 (fun k hk _ => .inr (.inl (.inl hk)))).trans f3 (fun k hk _ => .inl hk))
  · rw [hOf k hk]
    rcases p3 with g1 | g1
    · exact .inl g1
    · exact .inr ⟨by have := g1.1; omega, by have := g1.2; omega⟩
set_option maxRecDepth 100000 in
theorem push_any (h : PP w b c0 c2 v P) (hl : P.length ≤ 4096) (x : E) (hx : Blk w x.1 65 #[.int .i64 x.2.1, .int .i64 x.2.2, .int .i64 0]) (hb : x.1 ≠ b) (hf : ¬ Foot v P x.1) : Calls Try.prog 47 #[.pointer (some ⟨b, 1, none⟩), ep x.1] w (Pushed w b c0 c2 v P x) := by
  obtain ⟨A, c, rfl⟩ := h.form
  obtain ⟨n, hn⟩ : ∃ n, n = P.length := ⟨_, rfl⟩
  have H := Lib.hid h
  have HX := Lib.hid hx
  have OW := Lib.hid h.row
  have c1 := h.c1
  have cf := h.blk.frozen 1
  have x2 := hx.cell 2
  have xf := hx.frozen 2
  simp only [List.getElem?_toArray, List.getElem?_cons_zero, List.getElem?_cons_succ] at x2
  have HA := Lib.hid h.vb
  have hbl := h.blk.lt
  have HP := Lib.hid (fun (w1 w2 w3 : World) (g c' : Nat) => PP.pushed (w1 := w1) (w2 := w2) (w3 := w3) (g := g) (c := c') (n := n) (x := x) h hn hx hb hf)
  obtain ⟨eb, heb⟩ : ∃ eb, eb = x.1 := ⟨_, rfl⟩
  simp only [← heb, ← hn] at HP OW
  rw [← heb] at x2 xf hb
  rw [← hn] at c1 hl
  rw [← heb]
  have hbe : b ≠ eb := fun e => hb e.symm
  have hta := assert_ep eb w
  have HN := Lib.hid hn
  have HF := Lib.hid hf
  rw [← heb] at HF
  have hb1 := h.blk.fr ((Fr.refl (fun k => k = eb) w).setCell (p := ⟨eb, 2, none⟩) (.inl rfl) (.int .i64 n)) hbe
  rw [← hn] at hb1 HA HF
  have HB1 := Lib.hid hb1
  rw [← hn]
  clear h hx hf heb hn hb1
  go_enter Try.func47, Try.ntmps47
  have OW1 := Lib.hid (own_fr OW.out ((Fr.refl (fun k => k = eb) w).setCell (p := ⟨eb, 2, none⟩) (.inl rfl) (.int .i64 n)) (fun k hk e => HF.out (.inl (by have e : k = eb := e; rw [← e]; exact hk))))
  go_upto_region 3 with (fail)
  obtain ⟨w1, hw1⟩ : ∃ w1, w1 = w.setCell ⟨eb, 2, none⟩ (.int .i64 n) := ⟨_, rfl⟩
  rw [← hw1] at HB1 OW1 ⊢
  have HW1 := Lib.hid hw1
  have hb1 := HB1.out
  have d1 := hb1.cell 1
  have df := hb1.frozen 1
  simp only [List.getElem?_toArray, List.getElem?_cons_zero, List.getElem?_cons_succ] at d1
  clear c1 cf x2 xf hw1 hb1
  go_wp2_with (at_builtin; go_loud (refine wp_push rfl (.tmp 23) (.tmp 25) 59 rfl 62 (.pointer none) 1 8 Try.underlying59 infoP rfl (by decide) (.slice A n c) n _ rfl OW1.out #[.pointer (some ⟨eb, 0, none⟩)] rfl rfl (one_lit rfl) (by omega) (by unfold maxLen; omega) ?_; intro g5 cap5 w5 p1 p2 p3; have P1 := Lib.hid p1; have P2 := Lib.hid p2; have P3 := Lib.hid p3; have hb5 := HB1.out.fr p2 HA.out; have c5 := hb5.cell 1; have cf5 := hb5.frozen 1; simp only [List.getElem?_toArray, List.getElem?_cons_zero, List.getElem?_cons_succ] at c5; clear p1 p2 p3 hb5))
  go_end0
  exact HP.out _ _ _ _ _ HW1.out P1.out P2.out P3.out rfl
/-- What Pop leaves: the last entry is gone. -/
theorem PP.popped {g c n : Nat} {P : List E} {x : E} (h : PP w b c0 c2 (.slice (some ⟨g, 0, none⟩) (n + 1) c) (P ++ [x])) (hn : n = P.length) : PP (w.setCell ⟨b, 1, none⟩ (.slice (some ⟨g, 0, none⟩) n c)) b c0 c2 (.slice (some ⟨g, 0, none⟩) n c) P := by
  have f3 : Fr (fun k => k = b) w (w.setCell ⟨b, 1, none⟩ (.slice (some ⟨g, 0, none⟩) n c)) := (Fr.refl (fun k => k = b) w).setCell (p := ⟨b, 1, none⟩) (.inl rfl) _
  have hgb : g ≠ b := fun e => h.vb (e ▸ rfl)
  have hmem : ∀ y ∈ P, y ∈ P ++ [x] := fun y hy => List.mem_append_left _ hy
  refine ⟨?_, ?_, fun i hi => ?_, ?_, fun y hy => ⟨(h.off y (hmem y hy)).1, (h.off y (hmem y hy)).2⟩, h.vb⟩
  · have h2 := Blk.put (cs := #[c0, .slice (some ⟨g, 0, none⟩) (n + 1) c, c2]) h.blk 1 (.slice (some ⟨g, 0, none⟩) n c)
    simpa using h2
  · have h1 := own_cut (m := n) (n := n + 1) (xs := (P ++ [x]).map encP) (by have := h.row; rw [List.length_append] at this; simpa [hn] using this) (by omega)
    have e : ((P ++ [x]).map encP).take n = P.map encP := by rw [List.map_append, hn, List.take_left' (by rw [List.length_map])]
    rw [e] at h1
    rw [← hn]
    exact own_fr h1 f3 (fun k hk e => hgb (by have hk : some g = some k := hk; injection hk with hk; rw [hk]; exact e))
  · have := (h.ent i (by rw [List.length_append]; omega)).fr f3 (h.off _ (List.getElem_mem _)).1
    rw [List.getElem_append_left hi] at this
    exact this
  · have := h.nodup
    rw [List.map_append, List.nodup_append] at this
    exact this.1
set_option maxRecDepth 100000 in
theorem pop_any {P : List E} {x : E} (h : PP w b c0 c2 v (P ++ [x])) (hl : P.length ≤ 4096) : Calls Try.prog 46 #[.pointer (some ⟨b, 1, none⟩)] w fun e w' => ∃ v', e = .returned (ep x.1) ∧ PP w' b c0 c2 v' P ∧ (∀ k, Of v' k → Of v k) ∧ Fr (fun k => k = b) w w' := by
  obtain ⟨g, c, rfl⟩ := h.has (by simp)
  obtain ⟨n, hn⟩ : ∃ n, n = P.length := ⟨_, rfl⟩
  have hn1 : (P ++ [x]).length = n + 1 := by rw [List.length_append, hn]; rfl
  rw [hn1] at h
  have hx := h.c1
  have cf := h.blk.frozen 1
  have lc : w.cell? ⟨g, n, none⟩ = some (.pointer (some ⟨x.1, 0, none⟩)) := by
    have := own_cell (i := n) (n := (P ++ [x]).length) (xs := (P ++ [x]).map encP) (by rw [hn1]; have := h.row; rw [hn1] at this; exact this) (by rw [List.length_map]; omega)
    rw [this, List.getElem_map, List.getElem_append_right (by omega)]
    simp [hn, encP]
  rw [hn1]
  have HP := Lib.hid (h.popped hn)
  have hgb : g ≠ b := fun e => h.vb (e ▸ rfl)
  have hcap := own_cap (n := n + 1) (by have := h.row; rw [hn1] at this; exact this)
  obtain ⟨hcap1, hcap2⟩ := hcap
  rw [← hn] at hl
  obtain ⟨eb, heb⟩ : ∃ eb, eb = x.1 := ⟨_, rfl⟩
  rw [← heb] at lc ⊢
  have hsub : ((n : Int) + 1 - 1) = (n : Int) := by omega
  clear h hn hn1 heb
  go_enter Try.func46, Try.ntmps46
  go_wp2_with fail
  go_ret
  refine ⟨.slice (some ⟨g, 0, none⟩) n c, rfl, HP.out, fun k hk => hk, (Fr.refl (fun k => k = b) w).setCell (p := ⟨b, 1, none⟩) (.inl rfl) _⟩
end
end Tm
end Go.Proofs.Ytkmlmjglipmdcaa
