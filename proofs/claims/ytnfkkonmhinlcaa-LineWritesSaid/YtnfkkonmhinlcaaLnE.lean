/- Package line: what the laws' arguments read as. -/
import Derived.Test.YtnfkkonmhinlcaaLnW
import Derived.Test.YtnfkkonmhinlcaaLnA
import Derived.Test.YtnfkkonmhinlcaaLaw
namespace Go.Proofs.Ytnfkkonmhinlcaa
open Go.RowKit
set_option linter.unusedVariables false
set_option linter.unusedSimpArgs false
namespace Ln
open Run (O ROp timesR endsR dueT nextT chk chkR Fit)
abbrev X19 := Int × (Int × (Bool × (Int × (Str × List O))))
abbrev R19 : Rd X19 := RTwo 1 (RInt .u8) (RTwo 1 (RInt .u8) (RTwo 1 RBool (RTwo 1 (RInt .i64) (RTwo 1 RStr (RSl 3 (RTwo 1 (RInt .i64) (RTwo 1 RStr (RInt .i64))))))))
/-- An element of the law's list: its cells. -/
structure El (X : World) (ad : Addr) (vo : Value) (x : X19) : Prop where
  c0 : X.cell? ad = some (.int .u8 x.1)
  c1 : X.cell? ⟨ad.block, ad.off + 1, none⟩ = some (.int .u8 x.2.1)
  c2 : X.cell? ⟨ad.block, ad.off + 2, none⟩ = some (.bool x.2.2.1)
  c3 : X.cell? ⟨ad.block, ad.off + 3, none⟩ = some (.int .i64 x.2.2.2.1)
  c4 : X.cell? ⟨ad.block, ad.off + 4, none⟩ = some (.string ⟨x.2.2.2.2.1.toArray⟩)
  c5 : X.cell? ⟨ad.block, ad.off + 5, none⟩ = some vo
theorem El.fr {w X : World} {F : Nat → Prop} {ad : Addr} {vo : Value} {x : X19} (h : El w ad vo x) (hf : Fr F w X) (hb : ad.block < w.heap.size) (hn : ¬ F ad.block) : El X ad vo x :=
  ⟨(hf.cell hb hn).trans h.c0, (hf.cell (p := ⟨ad.block, ad.off + 1, none⟩) hb hn).trans h.c1, (hf.cell (p := ⟨ad.block, ad.off + 2, none⟩) hb hn).trans h.c2, (hf.cell (p := ⟨ad.block, ad.off + 3, none⟩) hb hn).trans h.c3, (hf.cell (p := ⟨ad.block, ad.off + 4, none⟩) hb hn).trans h.c4, (hf.cell (p := ⟨ad.block, ad.off + 5, none⟩) hb hn).trans h.c5⟩
theorem u8_in {n : Int} (h : (Lit.int .u8 n).wf = true) : 0 ≤ n ∧ n ≤ 255 := by simpa [Lit.wf, IntKind.min, IntKind.max, IntKind.signed, IntKind.bits] using h
theorem op19_at {W : World} {A : Option Addr} {n c : Nat} {l : List X19} (h : RSl 6 R19 W (Ahead W.heap.size) [.slice A n c] l) {k : Nat} (hk : k < l.length) :
    ∃ ad vo, A = some ad ∧ (ad.add (k * 6)).block < W.heap.size ∧ El W (ad.add (k * 6)) vo l[k] ∧ RSl 3 ROp W (Ahead W.heap.size) [vo] l[k].2.2.2.2.2 ∧ (0 ≤ l[k].1 ∧ l[k].1 ≤ 255) ∧ (0 ≤ l[k].2.1 ∧ l[k].2.1 ≤ 255) ∧ (-9223372036854775808 ≤ l[k].2.2.2.1 ∧ l[k].2.2.2.1 ≤ 9223372036854775807) ∧ l[k].2.2.2.2.1.length ≤ maxLen := by
  obtain ⟨ad, ecs, rfl, hb, hl, hc, h1, ⟨e1, w1⟩, h2, ⟨e2, w2⟩, h3, e3, h4, ⟨e4, w4⟩, h5, ⟨e5, w5⟩, h6⟩ := Sls.sl_at h hk
  have hb' : (ad.add (k * 6)).block < W.heap.size := by rw [block_add]; exact hb
  have u0 := hc 0 (by omega)
  have u1 := hc 1 (by omega)
  have u2 := hc 2 (by omega)
  have u3 := hc 3 (by omega)
  have u4 := hc 4 (by omega)
  have u5 := hc 5 (by omega)
  match ecs, hl with
  | [a, b, d, e, f, v], _ =>
    simp only [List.take_succ_cons, List.take_zero, List.drop_succ_cons, List.drop_zero] at e1 e2 e3 e4 e5 h6
    injection e1 with e1
    injection e2 with e2
    injection (show ([d] : List Value) = [.bool l[k].2.2.1] from e3) with e3
    injection e4 with e4
    injection e5 with e5
    subst e1 e2 e3 e4 e5
    rw [add_zero] at u0
    exact ⟨ad, v, rfl, hb', ⟨u0, u1, u2, u3, u4, u5⟩, h6, u8_in w1, u8_in w2, Run.wf64.1 w4, w5⟩
theorem newS_zero {b c j : Int} {t : Str} (h : (newS b c j t).2 ≠ 0) : newS b c j t = (zeroS, (newS b c j t).2) := by
  unfold newS at h ⊢
  by_cases h1 : Backoff.ok b c j = false
  · rw [if_pos h1]
  · rw [if_neg h1] at h ⊢
    by_cases h2 : (Brk.readR t).2 ≠ 0
    · rw [if_pos h2]
    · rw [if_neg h2] at h
      exact absurd rfl h
theorem newS_some {b c j : Int} {t : Str} (h : (newS b c j t).2 = 0) : ∃ L, newS b c j t = (⟨b, c, j, 0, 0, 0, L, [], 0, 0, []⟩, 0) := by
  unfold newS at h ⊢
  by_cases h1 : Backoff.ok b c j = false
  · rw [if_pos h1] at h; cases h
  · rw [if_neg h1] at h ⊢
    by_cases h2 : (Brk.readR t).2 ≠ 0
    · rw [if_pos h2] at h; exact absurd h h2
    · rw [if_neg h2]
      exact ⟨_, rfl⟩
theorem tries_at {w X : World} {G : Nat → Prop} {g : Nat} {s : S} (h : LW w G g s) : ∃ gw, w.cell? ⟨g, 0, none⟩ = some (.pointer (some ⟨gw, 0, none⟩)) ∧ w.frozen? ⟨g, 0, none⟩ = false ∧ ∀ X, Fr No w X → X.cell? ⟨g, 0, none⟩ = some (.pointer (some ⟨gw, 0, none⟩)) ∧ Calls Try.prog 21 #[.pointer (some ⟨gw, 0, none⟩)] X fun e w' => e = .returned (.int .i64 s.n) ∧ X = w' := by
  obtain ⟨gw, vF, rp, vh, Gr, h⟩ := h
  exact ⟨gw, h.blk.cell 0, h.blk.frozen 0, fun X hX => ⟨(h.no hX).blk.cell 0, Backoff.tries_any (h.no hX).wait⟩⟩
theorem cons_of {l : List Value} {v : Value} (h : l.take 1 = [v]) : l = v :: l.drop 1 := by
  rw [← List.singleton_append, ← h, List.take_append_drop]
abbrev XC := Str × (Int × (Int × (Int × (Int × (Int × (Int × (Int × (Int × Str))))))))
theorem con_form {w : World} {S : Nat → Prop} {cs : Array Value} {x : XC} (h : (RTwo 1 RStr (RTwo 1 (RInt .i64) (RTwo 1 (RInt .i64) (RTwo 1 (RInt .i64) (RTwo 1 (RInt .i64) (RTwo 1 (RInt .i64) (RTwo 1 (RInt .i64) (RTwo 1 (RInt .i64) (RTwo 1 (RInt .i64) RStr))))))))) w S cs.toList x) : cs = #[.string ⟨x.1.toArray⟩, .int .i64 x.2.1, .int .i64 x.2.2.1, .int .i64 x.2.2.2.1, .int .i64 x.2.2.2.2.1, .int .i64 x.2.2.2.2.2.1, .int .i64 x.2.2.2.2.2.2.1, .int .i64 x.2.2.2.2.2.2.2.1, .int .i64 x.2.2.2.2.2.2.2.2.1, .string ⟨x.2.2.2.2.2.2.2.2.2.toArray⟩] := by
  obtain ⟨_, ⟨h1, _⟩, _, ⟨h2, _⟩, _, ⟨h3, _⟩, _, ⟨h4, _⟩, _, ⟨h5, _⟩, _, ⟨h6, _⟩, _, ⟨h7, _⟩, _, ⟨h8, _⟩, _, ⟨h9, _⟩, h10, _⟩ := h
  apply Array.toList_inj.1
  rw [cons_of h1, cons_of h2, cons_of h3, cons_of h4, cons_of h5, cons_of h6, cons_of h7, cons_of h8, cons_of h9, h10]
theorem newS_more {b c j : Int} {t : Str} (h : (newS b c j t).2 = 0) : ∃ L, newS b c j t = (⟨b, c, j, 0, 0, 0, L, [], 0, 0, []⟩, 0) ∧ Brk.readR t = (L, 0) ∧ Backoff.ok b c j = true ∧ t.length ≤ 255 := by
  unfold newS at h ⊢
  by_cases h1 : Backoff.ok b c j = false
  · rw [if_pos h1] at h; cases h
  · rw [if_neg h1] at h ⊢
    by_cases h2 : (Brk.readR t).2 ≠ 0
    · rw [if_pos h2] at h; exact absurd h h2
    · rw [if_neg h2]
      have h3 : (Brk.readR t).2 = 0 := Decidable.of_not_not h2
      have h4 : Brk.readR t = ((Brk.readR t).1, 0) := by rw [← h3]
      exact ⟨_, rfl, h4, by simpa using h1, (Brk.readR_yes h4).1⟩
theorem row_one {w : World} {G : Nat → Prop} {v : Value} {k : Int} {t : Str} (h : Row w G v [(k, t)]) : ∃ g c, v = .slice (some ⟨g, 0, none⟩) 1 c ∧ w.cell? ⟨g, 0, none⟩ = some (.int .i64 k) ∧ w.cell? ⟨g, 1, none⟩ = some (.string ⟨t.toArray⟩) := by
  have ho := h.own
  rcases ho.2 with ⟨rfl, h0⟩ | ⟨g, cap, cur, rfl, _, hg, h1, h2, h3, h4⟩
  · cases h0
  · exact ⟨g, cap, rfl, ho.cells (g := g) rfl 0 _ rfl, ho.cells (g := g) rfl 1 _ rfl⟩
/-- Steps that were read, off the line's blocks. -/
structure OpsRow (w : World) (G : Nat → Prop) (v : Value) (l : List O) : Prop where
  own : w.ownsRow 0 69 3 v l.length (l.flatMap Run.encO)
  off : ∀ k, Of v k → k < w.heap.size ∧ ¬ G k
theorem OpsRow.step {w w' : World} {G G' : Nat → Prop} {v : Value} {l : List O} (h : OpsRow w G v l) (hs : Step G w G' w') : OpsRow w' G' v l :=
  ⟨own_fr h.own hs.1 (fun k hk => (h.off k hk).2), fun k hk => ⟨Nat.lt_of_lt_of_le (h.off k hk).1 hs.1.size, fun hg => (hs.2 k hg).elim (h.off k hk).2 (fun e => by have := (h.off k hk).1; have := e.1; omega)⟩⟩
theorem OpsRow.no {w w' : World} {G : Nat → Prop} {v : Value} {l : List O} (h : OpsRow w G v l) (hf : Fr No w w') : OpsRow w' G v l := ⟨own_fr h.own hf (fun _ _ h => h), fun k hk => ⟨Nat.lt_of_lt_of_le (h.off k hk).1 hf.size, (h.off k hk).2⟩⟩
theorem ends_sum {l : List O} : ∀ a : Int, endsR a l = a + Brk.sumN l := by
  induction l with
  | nil => intro a; simp [Run.endsR, Brk.sumN]
  | cons x l ih =>
    intro a
    have e : Brk.sumN (x :: l) = x.2.2 + Brk.sumN l := by simp [Brk.sumN]
    have e2 : endsR a (x :: l) = endsR (a + x.2.2) l := rfl
    rw [e2, ih, e]; omega
theorem Comes.next {t0 now : Int} {L : List O} {k : Nat} {sent : Str} {s : S} (h : Comes L t0 now k sent s) (hf : Fit L t0) (hs : s.st = 3) : now < (nextS s).1 ∧ (nextS s).1 ≤ endsR t0 L := by
  rcases h.st with ⟨h1, _⟩ | ⟨h1, h2, h3, h4, h5, h6, h7, h8⟩
  · omega
  obtain ⟨u1, u2, u3⟩ := Run.times_up hf.ck
  have hb : busy s = true := decide_eq_true (.inl h1)
  unfold nextS seqNext
  rw [if_neg (by omega), if_pos hb, h2, h3, h4]
  unfold Run.nextT
  cases hfind : (timesR t0 L).find? (fun x => x.2.1 != 2 && decide (now < x.1)) with
  | some x =>
    have hm := List.mem_of_find?_eq_some hfind
    have hp := List.find?_some hfind
    simp only [Bool.and_eq_true, decide_eq_true_eq] at hp
    exact ⟨hp.2, u2 x hm⟩
  | none =>
    simp only
    rw [if_pos h6]
    exact ⟨h6, Int.le_refl _⟩
theorem Comes.len {t0 now : Int} {L : List O} {k : Nat} {sent : Str} {s : S} (h : Comes L t0 now k sent s) (hf : Fit L t0) : sent.length ≤ (Brk.allS L).length := by
  rcases h.st with ⟨_, h2⟩ | ⟨h1, h2, h3, h4, h5, h6, h7, h8⟩
  · rw [h2]; exact Nat.le_refl _
  · have h9 := sent_cat (u := t0 - 1) (v := now) (x := endsR t0 L) hf.ck (by have := h.at'.1; omega) (by omega)
    rw [sent_all (u := t0 - 1) (v := endsR t0 L) (start := t0) (l := L) hf.ck (by omega) (Int.le_refl _)] at h9
    rw [h8, ← h9, List.length_append]
    omega
theorem goOn_wf {s : S} {now : Int} (hft : Fit s.seq s.start) (hl : s.held.length ≤ 4096) : ∀ x ∈ (goOnS s now).2, wfU x := by
  have h1 : ∀ x ∈ dueS s now, wfU x := by
    intro x hx
    unfold dueS at hx
    obtain ⟨y, hy, rfl⟩ := List.mem_map.1 hx
    have := (hft.wf y (due_mem hy)).2.1
    unfold outO
    split
    · exact ⟨⟨by simp, by simp⟩, by unfold maxLen; simp⟩
    · exact ⟨⟨by simp, by simp⟩, this⟩
  unfold goOnS
  split
  · intro x hx
    rcases List.mem_append.1 hx with hx | hx
    · exact h1 x hx
    · unfold tailS at hx
      split at hx
      · cases hx
      · rw [List.mem_singleton.1 hx]
        exact ⟨⟨by simp, by simp⟩, by unfold maxLen; simp only; omega⟩
  · exact h1
theorem one_wf {k : Int} {t : Str} (hk : 0 ≤ k ∧ k ≤ 10) (ht : t.length ≤ 100000) : ∀ x ∈ [((k, t) : U)], wfU x := by
  intro x hx
  rw [List.mem_singleton.1 hx]
  exact ⟨by simp only; omega, by unfold maxLen; simp only; omega⟩
theorem start_wf (s : S) : ∀ x ∈ (startS s).2, wfU x := by
  unfold startS
  split
  · exact one_wf (by decide) (by simp)
  · simp
theorem stop_wf (s : S) : ∀ x ∈ (stopS s).2, wfU x := by
  unfold stopS
  split
  · simp
  · split
    · simp
    · exact one_wf (by decide) (by simp)
theorem opened_wf {s : S} {k : Int} (h : Ok s k) (now : Int) (okb : Bool) (r : Int) : ∀ x ∈ (openedS s now okb r).2, wfU x := by
  unfold openedS
  split
  · simp
  · rename_i hc
    obtain ⟨n1, n2⟩ := late_no (show lateI now = false by simpa using (not_or.1 hc).2)
    split
    · simp
    · exact goOn_wf (h.first now n1 n2) h.len
theorem tick_wf {s : S} {k : Int} (h : Ok s k) (now : Int) : ∀ x ∈ (tickS s now).2, wfU x := by
  unfold tickS
  split
  · simp
  · rename_i hc
    split
    · exact one_wf (by decide) (by simp)
    · rename_i h1
      have hb : busy s = true := by
        have h9 : (nextS s).2 = true := by simpa using (not_or.1 hc).1
        unfold nextS at h9
        rw [if_neg h1] at h9
        by_cases g : busy s = true
        · exact g
        · rw [if_neg g] at h9; cases h9
      exact goOn_wf (h.fit hb) h.len
theorem send_wf (s : S) (t : Str) (ht : t.length ≤ 100000) : ∀ x ∈ (sendS s t).2.1, wfU x := by
  unfold sendS
  split
  · split
    · simp
    · exact one_wf (by decide) ht
  · split <;> simp
theorem break_wf {s : S} {k : Int} (h : Ok s k) (now : Int) (l : List O) (hl : l.length ≤ 1000) (hw : ∀ x ∈ l, Run.wfO x) : ∀ x ∈ (breakS s now l).2.1, wfU x := by
  unfold breakS
  split
  · simp
  · split
    · simp
    · split
      · simp
      · rename_i h1 h2 h3
        exact goOn_wf (s := beginS s 5 l now) (fit_chk (Decidable.of_not_not h3) hl hw) h.len
theorem ops_go {w w' : World} {B : Nat → Prop} {v : Value} {l : List O} (h : RSl 3 ROp w B [v] l) (hf : Fr No w w') (hB : ∀ k, B k → k < w.heap.size) : RSl 3 ROp w' B [v] l := (RSl.stable ROp.stable).go h (Kept.of_no hf hB) (fun _ h => h)
theorem row_sl {w : World} {G : Nat → Prop} {v : Value} {l : List U} (h : Row w G v l) (hw : ∀ x ∈ l, wfU x) : RSl 2 ROut w (Of v) [v] l := own_outs h.own hw
end Ln
end Go.Proofs.Ytnfkkonmhinlcaa
