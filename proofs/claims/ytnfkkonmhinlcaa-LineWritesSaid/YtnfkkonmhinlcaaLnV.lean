/- Package line: a new line, in plain terms; a text longer than is read. -/
import Derived.Test.YtnfkkonmhinlcaaLnQ
import Derived.Test.YtnfkkonmhinlcaaBrkX
import Derived.Test.YtnfkkonmhinlcaaBrow
namespace Go.Proofs.Ytnfkkonmhinlcaa
open Go.RowKit
set_option linter.unusedVariables false
set_option linter.unusedSimpArgs false
namespace Ln
open Run (O ROp timesR endsR dueT nextT chk chkR Fit)
def zeroS : S := ⟨0, 0, 0, 0, 0, 0, [], [], 0, 0, []⟩
def newS (b c j : Int) (t : Str) : S × Int :=
  if Backoff.ok b c j = false then (zeroS, 2) else if (Brk.readR t).2 ≠ 0 then (zeroS, (Brk.readR t).2) else (⟨b, c, j, 0, 0, 0, (Brk.readR t).1, [], 0, 0, []⟩, 0)
theorem fine_ok {x : O} (h : Brk.Fine x) : Run.okO x = true ∧ 0 ≤ x.2.2 := by
  cases h with
  | send s h => exact ⟨by cases s <;> simp_all [Run.okO], by simp⟩
  | wait n h => exact ⟨by simp [Run.okO]; omega, by simp⟩
  | stop => exact ⟨rfl, by simp⟩
theorem fine_chk (l : List O) : ∀ a : Int, (∀ x ∈ l, Brk.Fine x) → a + Brk.sumN l ≤ 1099511627776 → chkR a l = 0 := by
  induction l with
  | nil => intro a _ _; rfl
  | cons x l ih =>
    intro a hf hs
    obtain ⟨h1, h2⟩ := fine_ok (hf x (by simp))
    have hl := Brk.sumN_nn (fun y hy => hf y (List.mem_cons_of_mem _ hy))
    have e : Brk.sumN (x :: l) = x.2.2 + Brk.sumN l := by simp [Brk.sumN]
    rw [e] at hs
    unfold Run.chkR
    rw [if_neg (by rw [h1]; simp), if_neg (by omega)]
    exact ih _ (fun y hy => hf y (List.mem_cons_of_mem _ hy)) (by omega)
theorem read_wf {l : List O} (h : Brk.ReadOk l) : ∀ x ∈ l, Run.wfO x := fun x hx => by
  obtain ⟨h1, h2, h3⟩ := h.ok x hx
  exact ⟨Run.wf64.1 h1, by unfold maxLen; omega, Run.wf64.1 h3⟩
theorem read_fit {l : List O} (h : Brk.ReadOk l) (now : Int) (h1 : 0 ≤ now) (h2 : now ≤ 549755813888) : Fit l now :=
  ⟨⟨h1, by omega⟩, fine_chk l now h.fine (by have := h.sumN; omega), by have := h.len; omega, read_wf h⟩
theorem newS_ok {b c j : Int} {t : Str} (h : (newS b c j t).2 = 0) : Ok (newS b c j t).1 0 := by
  unfold newS at h ⊢
  by_cases h1 : Backoff.ok b c j = false
  · rw [if_pos h1] at h; cases h
  · rw [if_neg h1] at h ⊢
    by_cases h2 : (Brk.readR t).2 ≠ 0
    · rw [if_pos h2] at h; exact absurd h h2
    · rw [if_neg h2]
      exact ⟨by simpa using h1, by simp, by simp, fun hb => by simp [busy] at hb, fun now a b => read_fit (Brk.read_ok t) now a b, by simp, fun h => by simp at h⟩
theorem gro_ops {w wr : World} {v : Value} {l : List O} (h : Brk.GrO w wr v l) (hl : Brk.ReadOk l) : RSl 3 ROp wr (Of v) [v] l := Run.own_ops h.own (read_wf hl)
set_option maxRecDepth 100000 in
theorem read_long (t : Str) (h : 255 < t.length) (w : World) : Calls Try.prog 28 #[.string ⟨t.toArray⟩] w (Brk.ReadPost (Brk.readR t) w) := by
  have HR := Lib.hid (show Brk.readR t = ([], 5) by unfold Brk.readR; rw [if_pos h])
  go_enter Try.func28, Try.ntmps28
  go_wp2
  go_ret2
  exact ⟨.slice none 0 0, by rw [HR.out]; rfl, by rw [HR.out]; exact Sls.Grow.start _ _ _ _⟩
theorem lread_any (t : Str) (w : World) : Calls Try.prog 28 #[.string ⟨t.toArray⟩] w (Brk.ReadPost (Brk.readR t) w) := by
  by_cases h : 255 < t.length
  · exact read_long t h w
  · exact Brk.read_any t (by omega) w
/-- 'b = append(b, s...)', b a row of the call's own, or of a thing. -/
theorem run_hstr {P : Program} {w : World} (t u ty e : TypeId) (i : TypeInfo) (ht : P.underlying t = some (.slice e)) (hu : P.underlying u = some .string) (hi : P.info? e = some i) (hz : i.zero = some (.int .u8 0))
    (hsize : i.size = 1) (hby : i.bytes = 1) (v : Value) (l m : Str) (hown : w.ownsRow 0 e 1 v l.length (l.map encB)) (hl : l.length + m.length ≤ 100000000) :
    ∃ v' w', (Builtin.append_ #[t, u] ty #[v, .string ⟨m.toArray⟩]).run P w = .ok v' w' ∧ w'.ownsRow 0 e 1 v' (l ++ m).length ((l ++ m).map encB) ∧ Fr (Of v) w w' ∧ ∀ g, Of v' g → Of v g ∨ New w w' g := by
  have hm : (⟨m.toArray⟩ : ByteArray).size = m.length := by simp [ByteArray.size]
  have e1 : Lib.strCells ⟨m.toArray⟩ = m.map encB := by simp [Lib.strCells, encB]
  obtain ⟨v', w', h1, h2, h3, h4⟩ := Lib.run_append_own_string (P := P) w 0 t u ty e i ht hu hi hz hsize hby v l.length (l.map encB) hown ⟨m.toArray⟩ (by rw [hm]; unfold maxLen; omega) (by rw [hm]; omega) (Nat.zero_le _)
  rw [hm, e1, ← List.map_append, ← List.length_append] at h2
  refine ⟨v', w', h1, h2, (Fr.refl _ _).grown h3 (fun k hk => .inl hk), fun g hg => ?_⟩
  by_cases hm0 : (⟨m.toArray⟩ : ByteArray).size = 0
  · rcases hown.2 with ⟨rfl, h0⟩ | ⟨b, cap, cur, rfl, _, hb, hnc, hcm, hcs, htake⟩
    · rw [h4.2 ⟨rfl, hm0⟩] at hg
      cases hg
    · have hcs' : cur.size = cap := by simpa using hcs
      have hr := Lib.run_append_room_string (P := P) w t u ty e i ht hu hi hsize b l.length cap cur hb ⟨m.toArray⟩ (by omega) (by omega)
      rw [hr] at h1
      injection h1 with h1 _
      subst h1
      exact .inl hg
  · rcases hown.2 with ⟨rfl, h0⟩ | ⟨b, cap, cur, rfl, _, hb, hnc, hcm, hcs, htake⟩
    · have hr := run_append_nil_string (P := P) w t u ty e i (.int .u8 0) ht hu hi hz ⟨m.toArray⟩ (by omega) (by omega) (by rw [hby]; omega)
      rw [hr] at h1
      injection h1 with h1 h5
      subst h1 h5
      have hg : some w.heap.size = some g := hg
      injection hg with hg
      subst hg
      exact .inr ⟨Nat.le_refl _, by simp⟩
    · have hcs' : cur.size = cap := by simpa using hcs
      by_cases hroom : l.length + (⟨m.toArray⟩ : ByteArray).size ≤ cap
      · have hr := Lib.run_append_room_string (P := P) w t u ty e i ht hu hi hsize b l.length cap cur hb ⟨m.toArray⟩ hroom (by omega)
        rw [hr] at h1
        injection h1 with h1 _
        subst h1
        exact .inl hg
      · have holds : ∀ j u, (l.map encB)[j]? = some u → w.cell? ((⟨b, 0, none⟩ : Addr).add j) = some u := hown.cells (g := b) rfl
        have hr := Lib.run_append_grow_string (P := P) w t u ty e i (.int .u8 0) ht hu hi hz ⟨b, 0, none⟩ l.length cap (l.map encB) (by rw [hsize]; simp) holds ⟨m.toArray⟩ (by omega) (by omega) (by rw [hby]; exact growslice_fits (by omega) (by omega))
        rw [hr] at h1
        injection h1 with h1 h5
        subst h1 h5
        have hg : some w.heap.size = some g := hg
        injection hg with hg
        subst hg
        exact .inr ⟨Nat.le_refl _, by simp⟩
theorem wp_hstr {P : Program} {W : World} {ops : Array Oper} {rest : List Oper} {o : Oper} {a : Act} {Q : Exit → Act → World → Prop} (hgd : o.guard = none) (s x : Operand) (t u : TypeId) (ho : o.op = .call { callee := .builtin .append, args := #[s, x], argTypes := #[t, u] })
    (e : TypeId) (ht : P.underlying t = some (.slice e)) (hu : P.underlying u = some .string) (hinfo : (P.info? e).map (fun i => (i.zero, i.size, i.bytes)) = some (some (.int .u8 0), 1, 1))
    (v : Value) (l : Str) (hs : a.eval s = v) (hb : W.ownsRow 0 e 1 v l.length (l.map encB)) (m : Str) (hx : a.eval x = .string ⟨m.toArray⟩) (hl : l.length + m.length ≤ 100000000)
    (h : ∀ v' w', w'.ownsRow 0 e 1 v' (l ++ m).length ((l ++ m).map encB) → Fr (Of v) W w' → (∀ g, Of v' g → Of v g ∨ New W w' g) → wpList P ops Q rest (a.put o.dst v') w') : wpList P ops Q (o :: rest) a W := by
  obtain ⟨i0, hi, hz0, hz1, hz2⟩ := info_parts hinfo
  refine wpList_plain hgd fun K hK => ?_
  obtain ⟨v', w', hr, h2, h3, h4⟩ := run_hstr (P := P) (w := W) t u o.type e i0 ht hu hi hz0 hz1 hz2 v l m hb hl
  unfold Oper.wp execOp
  simp only [ho, resolve, invoke, builtin, Sem.run_bind, Sem.run_pure, Result.andThen_ok, List.map_toArray, List.map_cons, List.map_nil, hs, hx, hr]
  exact hK _ _ (h v' w' h2 h3 h4)
end Ln
end Go.Proofs.Ytnfkkonmhinlcaa
