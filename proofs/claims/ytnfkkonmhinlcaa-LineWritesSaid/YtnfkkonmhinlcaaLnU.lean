/- Package line: rows of what is done to a line; the reference's Same and Written; late; out. -/
import Derived.Test.YtnfkkonmhinlcaaLnP
namespace Go.Proofs.Ytnfkkonmhinlcaa
open Go.RowKit
set_option linter.unusedVariables false
set_option linter.unusedSimpArgs false
namespace Ln
open Run (O isT is_any)
theorem infoU : (Try.prog.info? 65).map (fun i => (i.zero, i.size, i.bytes)) = some (some (.agg #[.int .i64 0, .string ByteArray.empty]), 2, 24) := by kernel_rfl
def encU (x : U) : List Value := [.int .i64 x.1, .string ⟨x.2.toArray⟩]
abbrev ROut : Rd U := RTwo 1 (RInt .i64) RStr
def wfU (x : U) : Prop := (-9223372036854775808 ≤ x.1 ∧ x.1 ≤ 9223372036854775807) ∧ x.2.length ≤ maxLen
theorem ROut_iff {w : World} {S : Nat → Prop} {cs : List Value} {x : U} (hl : cs.length = 2) : ROut w S cs x ↔ cs = encU x ∧ wfU x := by
  match cs, hl with
  | [a, b], _ =>
    unfold wfU encU
    constructor
    · rintro ⟨_, ⟨h1, h2⟩, h3, h4⟩
      simp at h1 h3
      subst h1 h3
      exact ⟨rfl, Run.wf64.1 h2, h4⟩
    · rintro ⟨h, h2, h4⟩
      injection h with h1 h
      injection h with h3 h
      subst h1 h3
      exact ⟨by simp, ⟨rfl, Run.wf64.2 h2⟩, ⟨rfl, h4⟩⟩
theorem encU_len (l : List U) : (l.flatMap encU).length = l.length * 2 := by
  induction l with
  | nil => rfl
  | cons a l ih => rw [List.flatMap_cons, List.length_append, ih, List.length_cons]; simp [encU]; omega
theorem encU_get (l : List U) (i : Nat) (h : i < l.length) : (l.flatMap encU)[i * 2]? = some (.int .i64 l[i].1) ∧ (l.flatMap encU)[i * 2 + 1]? = some (.string ⟨l[i].2.toArray⟩) := by
  induction l generalizing i with
  | nil => simp at h
  | cons a l ih =>
    rw [List.flatMap_cons]
    cases i with
    | zero => simp [encU]
    | succ i =>
      have := ih i (by simpa using h)
      have e : (encU a).length = 2 := rfl
      rw [List.getElem?_append_right (by rw [e]; omega), List.getElem?_append_right (by rw [e]; omega), e, show (i + 1) * 2 - 2 = i * 2 by omega, show (i + 1) * 2 + 1 - 2 = i * 2 + 1 by omega]
      simpa using this
theorem own_outs {w : World} {base : Nat} {e : TypeId} {v : Value} {l : List U} (h : w.ownsRow base e 2 v l.length (l.flatMap encU)) (hl : ∀ x ∈ l, wfU x) : RSl 2 ROut w (Of v) [v] l := by
  rcases h.2 with ⟨rfl, h0⟩ | ⟨g, cap, cur, rfl, _, hg, h1, h2, h3, h4⟩
  · have : l = [] := List.eq_nil_of_length_eq_zero h0
    subst this
    exact ⟨none, 0, rfl, Nat.le_refl _, Nat.zero_le _, fun _ => rfl, fun i hi => by simp at hi⟩
  · refine ⟨some ⟨g, 0, none⟩, cap, rfl, h1, h2, fun h => (by cases h), fun i hi => ⟨⟨g, 0, none⟩, encU l[i], rfl, rfl, rfl, fun j hj => ?_, ?_⟩⟩
    · obtain ⟨g1, g2⟩ := encU_get l i hi
      obtain rfl | rfl : j = 0 ∨ j = 1 := by omega
      · exact h.cells (g := g) rfl _ _ g1
      · exact h.cells (g := g) rfl _ _ g2
    · exact (ROut_iff rfl).2 ⟨rfl, hl _ (List.getElem_mem hi)⟩
theorem out_cells {w : World} {S : Nat → Prop} {v : Value} {l : List U} (h : RSl 2 ROut w S [v] l) :
    ∃ A cap, v = .slice A l.length cap ∧ l.length ≤ cap ∧ cap ≤ maxLen ∧ ∀ i (hi : i < l.length), ∃ ad, A = some ad ∧ S ad.block ∧ w.cell? (ad.add (i * 2)) = some (.int .i64 l[i].1) ∧ w.cell? ⟨(ad.add (i * 2)).block, (ad.add (i * 2)).off + 1, none⟩ = some (.string ⟨l[i].2.toArray⟩) := by
  obtain ⟨A, cap, h1, h2, h3, _, h5⟩ := h
  refine ⟨A, cap, by injection h1, h2, h3, fun i hi => ?_⟩
  obtain ⟨ad, ecs, g1, g2, g3, g4, g5⟩ := h5 i hi
  obtain ⟨rfl, hw⟩ := (ROut_iff g3).1 g5
  have k0 := g4 0 (by omega)
  have k1 := g4 1 (by omega)
  have e1 : (ad.add (i * 2)).add 1 = ⟨(ad.add (i * 2)).block, (ad.add (i * 2)).off + 1, none⟩ := rfl
  rw [← add_add, e1] at k1
  exact ⟨ad, g1, g2, by simpa [encU] using k0, k1⟩
theorem neq_out (W : World) (a b : Int) (p q : Str) :
    (binOp .neq 65 (.agg #[.int .i64 a, .string ⟨p.toArray⟩]) (.agg #[.int .i64 b, .string ⟨q.toArray⟩])).run Try.prog W = .ok (.bool (!decide ((a, p) = (b, q)))) W := by
  have h1 : Try.prog.underlying 65 = some (.struct (Try.prog.fieldsOf 65)) := by kernel_rfl
  have h2 : Try.prog.stoodInHeld 65 = false := by kernel_rfl
  have hu := Try.underlying65
  rw [run_neq_struct, run_equalIn_struct W _ _ _ _ h1 h2]
  simp [Program.fieldsOf, hu, Op.eqFields, go_sem]
  by_cases e1 : a = b <;> by_cases e2 : p = q <;> simp [e1, e2]
set_option maxHeartbeats 1000000 in
theorem same_any (v u : Value) (l m : List U) (w : World) (S T : Nat → Prop) (hv : RSl 2 ROut w S [v] l) (hu : RSl 2 ROut w T [u] m) :
    Calls Try.prog 26 #[v, u] w fun e w' => e = .returned (.bool (decide (l = m))) ∧ ∃ n, w' = w.drewN n := by
  obtain ⟨A, cap, rfl, hc1, hc2, hel⟩ := out_cells hv
  obtain ⟨B, cap', rfl, hd1, hd2, hem⟩ := out_cells hu
  clear hv hu
  unfold maxLen at hc2 hd2
  have Hel := Lib.hid hel
  have Hem := Lib.hid hem
  clear hel hem
  by_cases hlen : l.length = m.length
  · have Hlen := Lib.hid hlen
    have hb : ((l.length : Int) != (m.length : Int)) = false := by simp [hlen]
    have hlm : l.length ≤ m.length := by omega
    clear hlen
    go_enter Try.func26, Try.ntmps26
    go_wp2
    go_loopw [5] (fun i wr => ∃ k : Nat, i = .int .i64 k ∧ k ≤ l.length ∧ Hid (∃ n, wr = w.drewN n) ∧ Hid (∀ j (h : j < l.length) (h' : j < m.length), j < k → l[j] = m[j])) (fun i _ => l.length - (intOf i).toNat)
    case atStart => exact ⟨0, rfl, by omega, ⟨0, rfl⟩, fun j _ _ h => absurd h (by omega)⟩
    case round =>
      obtain ⟨k, rfl, hk, hw, hd⟩ := hrel
      obtain ⟨n, hn⟩ := hw.out
      subst hn
      by_cases hlt : k < l.length
      · have hlt' : k < m.length := by omega
        obtain ⟨ad, rfl, _, hcell1, hcell2⟩ := Hel.out k hlt
        obtain ⟨bd, rfl, _, hcell4, hcell5⟩ := Hem.out k hlt'
        have hg : Try.prog.eqGuardType Try.prog.depth 65 = false := by kernel_rfl
        have hq := fun W : World => neq_out W l[k].1 m[k].1 l[k].2 m[k].2
        by_cases hx : l[k] = m[k]
        · have hx' : decide ((l[k].1, l[k].2) = (m[k].1, m[k].2)) = true := decide_eq_true hx
          rw [hx'] at hq
          have hn : Hid (∀ j (h : j < l.length) (h' : j < m.length), j < k + 1 → l[j] = m[j]) := by
            intro j h h' hj
            by_cases e : j = k
            · subst e; exact hx
            · exact hd.out j h h' (by omega)
          clear hd hx hx'
          go_wp2
          go_quiet (fail)
          go_wp2
          go_roundw
          case rel => exact ⟨k + 1, by go_num, by omega, ⟨_, rfl⟩, hn⟩
          case measure => simp [intOf]; omega
        · have hx' : decide ((l[k].1, l[k].2) = (m[k].1, m[k].2)) = false := decide_eq_false hx
          rw [hx'] at hq
          have hne : decide (l = m) = false := by
            rw [decide_eq_false_iff_not]
            intro e; subst e; exact hx rfl
          have Hne := Lib.hid hne
          clear hd hx hne hx'
          go_wp2
          go_quiet (fail)
          go_wp2
          go_ret
          exact ⟨ret_bool Hne.out.symm, _, World.drewN_drewN _ _ _⟩
      · have he : Hid (decide (l = m) = true) := by
          show decide (l = m) = true
          rw [decide_eq_true_iff]
          exact List.ext_getElem Hlen.out fun j h h' => hd.out j h h' (by omega)
        clear hd
        go_wp2
        go_ret
        exact ⟨ret_bool he.out.symm, n, rfl⟩
  · have hb : ((l.length : Int) != (m.length : Int)) = true := by simp; omega
    have hne : decide (l = m) = false := by
      rw [decide_eq_false_iff_not]
      intro e; subst e; exact hlen rfl
    have Hne := Lib.hid hne
    clear hlen hne
    go_enter Try.func26, Try.ntmps26
    go_wp2
    go_ret
    exact ⟨ret_bool Hne.out.symm, 0, rfl⟩
theorem rlate_any (now : Int) (w : World) : Calls Try.prog 58 #[.int .i64 now] w fun e w' => e = .returned (.bool (lateI now)) ∧ w = w' := by
  have hc : (now < 0 ∧ lateI now = true) ∨ (0 ≤ now ∧ 549755813888 < now ∧ lateI now = true) ∨ (0 ≤ now ∧ now ≤ 549755813888 ∧ lateI now = false) := by
    unfold lateI
    simp only [decide_eq_true_eq, decide_eq_false_iff_not]
    omega
  rcases hc with ⟨h1, e⟩ | ⟨h1, h2, e⟩ | ⟨h1, h2, e⟩
  all_goals
    have HE := Lib.hid e
    clear e
    go_enter Try.func58, Try.ntmps58
    go_wp2
    all_goals
      go_ret
      have he := HE.out
      first
        | exact ⟨ret_bool he.symm, rfl⟩
        | (refine ⟨ret_bool ?_, rfl⟩; rw [he]; simp; done)
        | (refine ⟨ret_bool ?_, rfl⟩; rw [he]; simp; omega)
theorem isT_late {now : Int} (h : isT now = true) : lateI now = decide (549755813888 < now) := by
  have := Run.isT_iff.1 h
  unfold lateI
  rw [decide_eq_decide]
  omega
theorem isT_not {now : Int} (h : isT now = false) : lateI now = true := by
  unfold lateI
  rw [decide_eq_true_iff]
  have : ¬ (0 ≤ now ∧ now ≤ 1099511627776) := fun c => by rw [Run.isT_iff.2 c] at h; cases h
  omega
theorem late_any (now : Int) (w : World) : Calls Try.prog 33 #[.int .i64 now] w fun e w' => e = .returned (.bool (lateI now)) ∧ w = w' := by
  have hc : (isT now = false ∧ lateI now = true) ∨ (isT now = true ∧ 549755813888 < now ∧ lateI now = true) ∨ (isT now = true ∧ now ≤ 549755813888 ∧ lateI now = false) := by
    cases h : isT now
    · exact .inl ⟨rfl, isT_not h⟩
    · rw [isT_late h]
      by_cases g : 549755813888 < now
      · exact .inr (.inl ⟨rfl, g, decide_eq_true g⟩)
      · exact .inr (.inr ⟨rfl, by omega, decide_eq_false g⟩)
  rcases hc with ⟨h1, e⟩ | ⟨h1, h2, e⟩ | ⟨h1, h2, e⟩
  all_goals
    have HE := Lib.hid e
    have HI := Lib.hid h1
    clear e h1
    go_enter Try.func33, Try.ntmps33
    go_wp2_with (go_at_call 53; refine (is_any _ _).mono ?_; rintro e w' ⟨rfl, rfl⟩; rw [HI.out])
    go_ret
    have he := HE.out
    first
      | exact ⟨ret_bool he.symm, rfl⟩
      | (refine ⟨ret_bool ?_, rfl⟩; rw [he]; simp; done)
      | (refine ⟨ret_bool ?_, rfl⟩; rw [he]; simp; omega)
/-- All bytes that are written. -/
def writR (l : List U) : Str := l.flatMap (fun x => if x.1 = 3 then x.2 else [])
theorem writ_take {l : List U} {k : Nat} (h : k < l.length) : writR (l.take (k + 1)) = writR (l.take k) ++ (if l[k].1 = 3 then l[k].2 else []) := by
  unfold writR
  rw [List.take_succ_eq_append_getElem h, List.flatMap_append]; simp
theorem writ_split (l : List U) (k : Nat) : writR l = writR (l.take k) ++ writR (l.drop k) := by
  unfold writR
  rw [← List.flatMap_append, List.take_append_drop]
set_option maxHeartbeats 1000000 in
theorem written_any (v : Value) (l : List U) (hsum : (writR l).length ≤ 1000000) (w : World) (S : Nat → Prop) (hv : RSl 2 ROut w S [v] l) :
    Calls Try.prog 10 #[v] w fun e w' => e = .returned (.string ⟨(writR l).toArray⟩) ∧ w = w' := by
  obtain ⟨A, cap, rfl, hc1, hc2, hel⟩ := out_cells hv
  clear hv
  unfold maxLen at hc2
  have Hel := Lib.hid hel
  have HSU := Lib.hid hsum
  clear hel hsum
  go_enter Try.func10, Try.ntmps10
  go_wp2_with fail
  go_loopw [3, 4] (fun bv iv wr => ∃ (k : Nat) (t : Str), iv = .int .i64 k ∧ bv = .string ⟨t.toArray⟩ ∧ k ≤ l.length ∧ t.length ≤ 1000000 ∧ Hid (t = writR (l.take k)) ∧ Hid (w = wr)) (fun _ i _ => l.length - (intOf i).toNat)
  case atStart => exact ⟨0, [], rfl, rfl, by omega, by simp, rfl, rfl⟩
  case round =>
    obtain ⟨k, t, rfl, rfl, hk, ht, HN, HW⟩ := hrel
    have hw := HW.out
    subst hw
    by_cases hlt : k < l.length
    · obtain ⟨ad, rfl, -, c0, c1⟩ := Hel.out k hlt
      have hwt := writ_take hlt
      have hnext : (t ++ (if l[k].1 = 3 then l[k].2 else [])).length ≤ 1000000 := by
        have h1 := HSU.out
        rw [writ_split l (k + 1), hwt, List.length_append, ← HN.out] at h1
        omega
      have HN2 := Lib.hid (show t ++ (if l[k].1 = 3 then l[k].2 else []) = writR (l.take (k + 1)) by rw [hwt, HN.out])
      clear HN hwt
      generalize l[k] = x at c0 c1 hnext HN2
      obtain ⟨a, s⟩ := x
      simp only at c0 c1 hnext HN2
      by_cases ha : a = 3
      · subst ha
        rw [if_pos rfl] at hnext HN2
        rw [List.length_append] at hnext
        go_wp2_with fail
        go_roundw
        case rel => exact ⟨k + 1, t ++ s, by go_num, by first | rfl | (simp; done) | (simp [ByteArray.ext_iff]; done), by omega, by simp; omega, HN2, by first | exact trivial | exact rfl⟩
        case measure => simp [intOf]; omega
      · rw [if_neg ha, List.append_nil] at HN2
        have hb : (a == 3) = false := by simpa using ha
        clear ha hnext
        go_wp2_with fail
        go_roundw
        case rel => exact ⟨k + 1, t, by go_num, rfl, by omega, ht, HN2, by first | exact trivial | exact rfl⟩
        case measure => simp [intOf]; omega
    · have HE := Lib.hid (show t = writR l by rw [HN.out, List.take_of_length_le (by omega)])
      clear HN
      go_wp2_with fail
      go_ret
      exact ⟨ret_str HE.out, rfl⟩
end Ln
end Go.Proofs.Ytnfkkonmhinlcaa
