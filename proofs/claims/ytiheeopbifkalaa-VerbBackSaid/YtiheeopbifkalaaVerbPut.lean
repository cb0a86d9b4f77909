/- Package verb: Put. -/
import Derived.Test.YtiheeopbifkalaaVerbParse
namespace Go.Proofs.Ytiheeopbifkalaa
open Go.RowKit
set_option linter.unusedVariables false
set_option linter.unusedSimpArgs false
namespace Verb
theorem neq_cmd (W : World) (a b : Int) (p q m n : Str) :
    (binOp .neq 61 (.agg #[.int .i64 a, .string ⟨p.toArray⟩, .string ⟨m.toArray⟩]) (.agg #[.int .i64 b, .string ⟨q.toArray⟩, .string ⟨n.toArray⟩])).run Try.prog W = .ok (.bool (!decide ((a, p, m) = (b, q, n)))) W := by
  have h1 : Try.prog.underlying 61 = some (.struct (Try.prog.fieldsOf 61)) := by kernel_rfl
  have h2 : Try.prog.stoodInHeld 61 = false := by kernel_rfl
  have hu := Try.underlying61
  rw [run_neq_struct, run_equalIn_struct W _ _ _ _ h1 h2]
  simp [Program.fieldsOf, hu, Op.eqFields, go_sem]
  by_cases e1 : a = b <;> by_cases e2 : p = q <;> by_cases e3 : m = n <;> simp [e1, e2, e3]
def lineR (w : Str) (c : C) : Str := w ++ (if c.2.1.isEmpty then [] else 32 :: c.2.1) ++ (if c.2.2.isEmpty then [] else 32 :: c.2.2)
def putR (c : C) : Str × Int :=
  if (findR (fun x => x.1 == c.1)).2 = false then ([], 1) else
  if (parseR (lineR (findR (fun x => x.1 == c.1)).1.2.1 c)).2 ≠ 0 ∨ (parseR (lineR (findR (fun x => x.1 == c.1)).1.2.1 c)).1 ≠ c then ([], 3) else (lineR (findR (fun x => x.1 == c.1)).1.2.1 c, 0)
def PutIs (r : Str × Int) (e : Ending) : Prop := e = .returned (.tuple #[.string ⟨r.1.toArray⟩, .int .i64 r.2])
theorem find_word_len (p : V → Bool) : (findR p).1.2.1.length ≤ 6 := by
  unfold findR
  cases h : verbs.find? p with
  | none => simp [zeroR]
  | some x =>
    have : ∀ x ∈ verbs, x.2.1.length ≤ 6 := by decide
    exact this x (List.mem_of_find?_eq_some h)
set_option maxRecDepth 100000 in
set_option maxHeartbeats 4000000 in
theorem put_any (c : C) (w : World) (ha : c.2.1.length ≤ 100000) (hb : c.2.2.length ≤ 100000) : Calls Try.prog 32 #[.agg #[.int .i64 c.1, .string ⟨c.2.1.toArray⟩, .string ⟨c.2.2.toArray⟩]] w fun e w' => PutIs (putR c) e ∧ Fr No w w' := by
  obtain ⟨cv, ca, cb⟩ := c
  simp only at ha hb
  have hc : ∀ W, Fr No (w.alloc (.cells #[.int .i64 cv, .string ⟨ca.toArray⟩, .string ⟨cb.toArray⟩] 61)) W → ∀ x : V, Calls Try.prog 64 #[.agg #[.int .i64 x.1, .string ⟨x.2.1.toArray⟩, .int .i64 x.2.2.1, .string ⟨x.2.2.2.toArray⟩], .pointer (some ⟨w.heap.size, 0, none⟩)] W fun e w' => e = .returned (.bool (x.1 == cv)) ∧ Fr No W w' := fun W hf x =>
    put1_any W w.heap.size cv x (((Blk.new w 61 #[.int .i64 cv, .string ⟨ca.toArray⟩, .string ⟨cb.toArray⟩]).fr hf (fun h => h)).cell 0) (Nat.lt_of_lt_of_le (by rw [size_alloc]; omega) hf.size)
  have HC := Lib.hid hc
  have hwl := find_word_len (fun x : V => x.1 == cv)
  have HP := Lib.hid (show putR (cv, ca, cb) = if (findR (fun x : V => x.1 == cv)).2 = false then ([], 1) else if (parseR (lineR (findR (fun x : V => x.1 == cv)).1.2.1 (cv, ca, cb))).2 ≠ 0 ∨ (parseR (lineR (findR (fun x : V => x.1 == cv)).1.2.1 (cv, ca, cb))).1 ≠ (cv, ca, cb) then ([], 3) else (lineR (findR (fun x : V => x.1 == cv)).1.2.1 (cv, ca, cb), 0) from rfl)
  clear hc
  go_enter Try.func32, Try.ntmps32
  go_wp2_with fail
  refine (find_put _ _ (fun x => x.1 == cv) HC.out).mono ?_
  rintro e w1 ⟨hr, hf⟩
  have B1 := Lib.hid ((Blk.new w 61 #[.int .i64 cv, .string ⟨ca.toArray⟩, .string ⟨cb.toArray⟩]).fr hf (fun h => h))
  have F1 := Lib.hid (((Fr.refl No w).alloc _).then_no hf)
  generalize findR (fun x : V => x.1 == cv) = r at hr HP hwl
  obtain ⟨⟨xv, xw, xt, xh⟩, ok⟩ := r
  have hr' : e = .returned (.tuple #[.agg #[.int .i64 xv, .string ⟨xw.toArray⟩, .int .i64 xt, .string ⟨xh.toArray⟩], .bool ok]) := hr
  subst hr'
  simp only at hwl
  clear hr hf HC
  cases ok
  · have HR := Lib.hid (show putR (cv, ca, cb) = ([], 1) by rw [HP.out]; rfl)
    go_wp2
    go_ret2
    exact ⟨by rw [HR.out]; rfl, F1.out.alloc _⟩
  · have HR1 := Lib.hid (show putR (cv, ca, cb) = if (parseR (lineR xw (cv, ca, cb))).2 ≠ 0 ∨ (parseR (lineR xw (cv, ca, cb))).1 ≠ (cv, ca, cb) then ([], 3) else (lineR xw (cv, ca, cb), 0) by rw [HP.out]; rfl)
    have c0 := B1.out.cell 0
    have c1 := B1.out.cell 1
    have c2 := B1.out.cell 2
    simp at c0 c1 c2
    have hlt := B1.out.lt
    have hne : w.heap.size ≠ w1.heap.size := by omega
    obtain ⟨t, ht⟩ : ∃ t, t = lineR xw (cv, ca, cb) := ⟨_, rfl⟩
    have htl : t.length ≤ 400000 := by rw [ht]; unfold lineR; simp only [List.length_append]; split <;> split <;> simp <;> omega
    rw [← ht] at HR1
    have hpa := fun W => parse_any t W htl
    obtain ⟨⟨⟨pv, pa, pb⟩, pc⟩, hpr⟩ : ∃ r, r = parseR t := ⟨_, rfl⟩
    rw [← hpr] at hpa HR1
    have Hpa := Lib.hid hpa
    clear hpa HP
    have hcs : (pc != 0) = true ∨ ((pc != 0) = false ∧ (decide ((pv, pa, pb) = (cv, ca, cb)) = false)) ∨ ((pc != 0) = false ∧ (decide ((pv, pa, pb) = (cv, ca, cb)) = true)) := by
      cases h1 : pc != 0
      · cases h2 : decide ((pv, pa, pb) = (cv, ca, cb))
        · exact .inr (.inl ⟨rfl, rfl⟩)
        · exact .inr (.inr ⟨rfl, rfl⟩)
      · exact .inl rfl
    have HE1 := Lib.hid (fun h : (pc != 0) = true => show putR (cv, ca, cb) = ([], 3) by rw [HR1.out, if_pos (Or.inl (bne_iff_ne.1 h))])
    have HE2 := Lib.hid (fun h : decide ((pv, pa, pb) = (cv, ca, cb)) = false => show putR (cv, ca, cb) = ([], 3) by rw [HR1.out, if_pos (Or.inr (of_decide_eq_false h))])
    have HG := Lib.hid (fun (h1 : (pc != 0) = false) (h2 : decide ((pv, pa, pb) = (cv, ca, cb)) = true) => show putR (cv, ca, cb) = (t, 0) by
      rw [HR1.out, if_neg]
      rintro (h | h)
      · exact h (bne_eq_false_iff_eq.1 h1)
      · exact h (of_decide_eq_true h2))
    have hq := fun W => neq_cmd W pv cv pa ca pb cb
    have hg : Try.prog.eqGuardType Try.prog.depth 61 = false := by kernel_rfl
    have HQ := Lib.hid hq
    clear hq HR1
    cases hea : ca.isEmpty
    · cases heb : cb.isEmpty
      · have he : (⟨xw.toArray⟩ : ByteArray) ++ (⟨#[32]⟩ ++ ⟨ca.toArray⟩) ++ (⟨#[32]⟩ ++ ⟨cb.toArray⟩) = ⟨t.toArray⟩ := by rw [ht]; unfold lineR; simp only [hea, heb]; rfl
        have He := Lib.hid he
        clear he ht
        go_wp2_with fail
        rw [He.out]
        refine (Hpa.out _).mono ?_
        rintro e w2 ⟨hp, hf⟩
        have hp' : e = .returned (.tuple #[.agg #[.int .i64 pv, .string ⟨pa.toArray⟩, .string ⟨pb.toArray⟩], .int .i64 pc]) := hp
        subst hp'
        have B2 := (B1.out.alloc (.cells #[.int .i64 xv, .string ⟨xw.toArray⟩, .int .i64 xt, .string ⟨xh.toArray⟩] 99)).fr hf (fun h => h)
        have F2 := Lib.hid ((F1.out.alloc (.cells #[.int .i64 xv, .string ⟨xw.toArray⟩, .int .i64 xt, .string ⟨xh.toArray⟩] 99)).then_no hf)
        have k0 := B2.cell 0
        have k1 := B2.cell 1
        have k2 := B2.cell 2
        simp at k0 k1 k2
        have hlt2 := B2.lt
        have hne2 : w.heap.size ≠ w2.heap.size := by omega
        clear hf hp B2 c0 c1 c2
        rcases hcs with h1 | ⟨h1, h2⟩ | ⟨h1, h2⟩
        · have HR := Lib.hid (HE1.out h1)
          go_wp2
          go_ret2
          exact ⟨by rw [HR.out]; rfl, F2.out.alloc _⟩
        · have HR := Lib.hid (HE2.out h2)
          have hq := HQ.out
          rw [h2] at hq
          clear h2
          go_wp2
          go_ret2
          exact ⟨by rw [HR.out]; rfl, F2.out.alloc _⟩
        · have HR := Lib.hid (HG.out h1 h2)
          have hq := HQ.out
          rw [h2] at hq
          clear h2
          go_wp2
          go_ret2
          exact ⟨by rw [HR.out]; rfl, F2.out.alloc _⟩
      · have he : (⟨xw.toArray⟩ : ByteArray) ++ (⟨#[32]⟩ ++ ⟨ca.toArray⟩) = ⟨t.toArray⟩ := by
          rw [ht]; unfold lineR; simp only [hea, heb, if_true, List.append_nil]; rfl
        have He := Lib.hid he
        clear he ht
        go_wp2_with fail
        rw [He.out]
        refine (Hpa.out _).mono ?_
        rintro e w2 ⟨hp, hf⟩
        have hp' : e = .returned (.tuple #[.agg #[.int .i64 pv, .string ⟨pa.toArray⟩, .string ⟨pb.toArray⟩], .int .i64 pc]) := hp
        subst hp'
        have B2 := (B1.out.alloc (.cells #[.int .i64 xv, .string ⟨xw.toArray⟩, .int .i64 xt, .string ⟨xh.toArray⟩] 99)).fr hf (fun h => h)
        have F2 := Lib.hid ((F1.out.alloc (.cells #[.int .i64 xv, .string ⟨xw.toArray⟩, .int .i64 xt, .string ⟨xh.toArray⟩] 99)).then_no hf)
        have k0 := B2.cell 0
        have k1 := B2.cell 1
        have k2 := B2.cell 2
        simp at k0 k1 k2
        have hlt2 := B2.lt
        have hne2 : w.heap.size ≠ w2.heap.size := by omega
        clear hf hp B2 c0 c1 c2
        rcases hcs with h1 | ⟨h1, h2⟩ | ⟨h1, h2⟩
        · have HR := Lib.hid (HE1.out h1)
          go_wp2
          go_ret2
          exact ⟨by rw [HR.out]; rfl, F2.out.alloc _⟩
        · have HR := Lib.hid (HE2.out h2)
          have hq := HQ.out
          rw [h2] at hq
          clear h2
          go_wp2
          go_ret2
          exact ⟨by rw [HR.out]; rfl, F2.out.alloc _⟩
        · have HR := Lib.hid (HG.out h1 h2)
          have hq := HQ.out
          rw [h2] at hq
          clear h2
          go_wp2
          go_ret2
          exact ⟨by rw [HR.out]; rfl, F2.out.alloc _⟩
    · cases heb : cb.isEmpty
      · have he : (⟨xw.toArray⟩ : ByteArray) ++ (⟨#[32]⟩ ++ ⟨cb.toArray⟩) = ⟨t.toArray⟩ := by
          rw [ht]; unfold lineR; simp only [hea, heb, if_true, List.append_nil]; rfl
        have He := Lib.hid he
        clear he ht
        go_wp2_with fail
        rw [He.out]
        refine (Hpa.out _).mono ?_
        rintro e w2 ⟨hp, hf⟩
        have hp' : e = .returned (.tuple #[.agg #[.int .i64 pv, .string ⟨pa.toArray⟩, .string ⟨pb.toArray⟩], .int .i64 pc]) := hp
        subst hp'
        have B2 := (B1.out.alloc (.cells #[.int .i64 xv, .string ⟨xw.toArray⟩, .int .i64 xt, .string ⟨xh.toArray⟩] 99)).fr hf (fun h => h)
        have F2 := Lib.hid ((F1.out.alloc (.cells #[.int .i64 xv, .string ⟨xw.toArray⟩, .int .i64 xt, .string ⟨xh.toArray⟩] 99)).then_no hf)
        have k0 := B2.cell 0
        have k1 := B2.cell 1
        have k2 := B2.cell 2
        simp at k0 k1 k2
        have hlt2 := B2.lt
        have hne2 : w.heap.size ≠ w2.heap.size := by omega
        clear hf hp B2 c0 c1 c2
        rcases hcs with h1 | ⟨h1, h2⟩ | ⟨h1, h2⟩
        · have HR := Lib.hid (HE1.out h1)
          go_wp2
          go_ret2
          exact ⟨by rw [HR.out]; rfl, F2.out.alloc _⟩
        · have HR := Lib.hid (HE2.out h2)
          have hq := HQ.out
          rw [h2] at hq
          clear h2
          go_wp2
          go_ret2
          exact ⟨by rw [HR.out]; rfl, F2.out.alloc _⟩
        · have HR := Lib.hid (HG.out h1 h2)
          have hq := HQ.out
          rw [h2] at hq
          clear h2
          go_wp2
          go_ret2
          exact ⟨by rw [HR.out]; rfl, F2.out.alloc _⟩
      · have he : xw = t := by
          rw [ht]; unfold lineR; simp only [hea, heb, if_true, List.append_nil]
        clear ht
        subst he
        go_wp2_with fail
        refine (Hpa.out _).mono ?_
        rintro e w2 ⟨hp, hf⟩
        have hp' : e = .returned (.tuple #[.agg #[.int .i64 pv, .string ⟨pa.toArray⟩, .string ⟨pb.toArray⟩], .int .i64 pc]) := hp
        subst hp'
        have B2 := (B1.out.alloc (.cells #[.int .i64 xv, .string ⟨xw.toArray⟩, .int .i64 xt, .string ⟨xh.toArray⟩] 99)).fr hf (fun h => h)
        have F2 := Lib.hid ((F1.out.alloc (.cells #[.int .i64 xv, .string ⟨xw.toArray⟩, .int .i64 xt, .string ⟨xh.toArray⟩] 99)).then_no hf)
        have k0 := B2.cell 0
        have k1 := B2.cell 1
        have k2 := B2.cell 2
        simp at k0 k1 k2
        have hlt2 := B2.lt
        have hne2 : w.heap.size ≠ w2.heap.size := by omega
        clear hf hp B2 c0 c1 c2
        rcases hcs with h1 | ⟨h1, h2⟩ | ⟨h1, h2⟩
        · have HR := Lib.hid (HE1.out h1)
          go_wp2
          go_ret2
          exact ⟨by rw [HR.out]; rfl, F2.out.alloc _⟩
        · have HR := Lib.hid (HE2.out h2)
          have hq := HQ.out
          rw [h2] at hq
          clear h2
          go_wp2
          go_ret2
          exact ⟨by rw [HR.out]; rfl, F2.out.alloc _⟩
        · have HR := Lib.hid (HG.out h1 h2)
          have hq := HQ.out
          rw [h2] at hq
          clear h2
          go_wp2
          go_ret2
          exact ⟨by rw [HR.out]; rfl, F2.out.alloc _⟩
end Verb
end Go.Proofs.Ytiheeopbifkalaa
