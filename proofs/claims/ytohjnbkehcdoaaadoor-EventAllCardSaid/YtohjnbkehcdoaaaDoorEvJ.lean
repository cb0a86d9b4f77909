/- Package event: rows of events (how they read), lines of a text in plain terms, fault.New, Same. -/
import Derived.Test.YtohjnbkehcdoaaaDoorEvG
import Derived.BigQuiet
namespace Go.Proofs.YtohjnbkehcdoaaaDoor
open Go.RowKit
set_option linter.unusedVariables false
set_option linter.unusedSimpArgs false
namespace Ev
open Digit Sls
def encE (e : E) : List Value := [.int .i64 e.k, .int .i64 e.who, .int .i64 e.n, .bool e.ok, .string ⟨e.s.toArray⟩]
/-- An event as it reads. -/
def REv : Rd E := fun _ _ cs e => cs = encE e ∧ e.s.length ≤ maxLen
theorem REv.stable : Rd.Stable REv := ⟨fun h _ _ => h⟩
theorem ev_cells {w : World} {S : Nat → Prop} {v : Value} {l : List E} (h : RSl 5 REv w S [v] l) :
    ∃ A cap, v = .slice A l.length cap ∧ l.length ≤ cap ∧ cap ≤ maxLen ∧ ∀ i (hi : i < l.length), ∃ ad, A = some ad ∧ S ad.block ∧ w.cell? (ad.add (i * 5)) = some (.int .i64 l[i].k) ∧ w.cell? ⟨(ad.add (i * 5)).block, (ad.add (i * 5)).off + 1, none⟩ = some (.int .i64 l[i].who) ∧ w.cell? ⟨(ad.add (i * 5)).block, (ad.add (i * 5)).off + 2, none⟩ = some (.int .i64 l[i].n) ∧ w.cell? ⟨(ad.add (i * 5)).block, (ad.add (i * 5)).off + 3, none⟩ = some (.bool l[i].ok) ∧ w.cell? ⟨(ad.add (i * 5)).block, (ad.add (i * 5)).off + 4, none⟩ = some (.string ⟨l[i].s.toArray⟩) ∧ l[i].s.length ≤ maxLen := by
  obtain ⟨A, cap, h1, h2, h3, _, h5⟩ := h
  refine ⟨A, cap, by injection h1, h2, h3, fun i hi => ?_⟩
  obtain ⟨ad, ecs, g1, g2, g3, g4, rfl, hw⟩ := h5 i hi
  have k0 := g4 0 (by omega)
  have k1 := g4 1 (by omega)
  have k2 := g4 2 (by omega)
  have k3 := g4 3 (by omega)
  have k4 := g4 4 (by omega)
  have e1 : (ad.add (i * 5)).add 1 = ⟨(ad.add (i * 5)).block, (ad.add (i * 5)).off + 1, none⟩ := rfl
  have e2 : (ad.add (i * 5)).add 2 = ⟨(ad.add (i * 5)).block, (ad.add (i * 5)).off + 2, none⟩ := rfl
  have e3 : (ad.add (i * 5)).add 3 = ⟨(ad.add (i * 5)).block, (ad.add (i * 5)).off + 3, none⟩ := rfl
  have e4 : (ad.add (i * 5)).add 4 = ⟨(ad.add (i * 5)).block, (ad.add (i * 5)).off + 4, none⟩ := rfl
  rw [← add_add, e1] at k1
  rw [← add_add, e2] at k2
  rw [← add_add, e3] at k3
  rw [← add_add, e4] at k4
  exact ⟨ad, g1, g2, by simpa [encE] using k0, k1, k2, k3, k4, hw⟩
theorem infoE : (Tryd.prog.info? 23).map (fun i => (i.zero, i.size, i.bytes)) = some (some (.agg #[.int .i64 0, .int .i64 0, .int .i64 0, .bool false, .string ByteArray.empty]), 5, 48) := by kernel_rfl
theorem eq_ev (a b : E) : decide ((a.k, a.who, a.n, a.ok, a.s) = (b.k, b.who, b.n, b.ok, b.s)) = decide (a = b) := by
  obtain ⟨a1, a2, a3, a4, a5⟩ := a
  obtain ⟨b1, b2, b3, b4, b5⟩ := b
  simp
theorem neq_ev (W : World) (a b : E) : (binOp .neq 23 (.agg (cE a)) (.agg (cE b))).run Tryd.prog W = .ok (.bool (!decide (a = b))) W := by
  have h1 : Tryd.prog.underlying 23 = some (.struct (Tryd.prog.fieldsOf 23)) := by kernel_rfl
  have h2 : Tryd.prog.stoodInHeld 23 = false := by kernel_rfl
  have hu := Tryd.underlying23
  rw [run_neq_struct, run_equalIn_struct W _ _ _ _ h1 h2, ← eq_ev]
  unfold cE
  simp [Program.fieldsOf, hu, Op.eqFields, go_sem]
  by_cases e1 : a.k = b.k <;> by_cases e2 : a.who = b.who <;> by_cases e3 : a.n = b.n <;> by_cases e4 : a.ok = b.ok <;> by_cases e5 : a.s = b.s <;> simp [e1, e2, e3, e4, e5]
theorem eql_ev (W : World) (a b : E) : (binOp .eql 23 (.agg (cE a)) (.agg (cE b))).run Tryd.prog W = .ok (.bool (decide (a = b))) W := by
  have h1 : Tryd.prog.underlying 23 = some (.struct (Tryd.prog.fieldsOf 23)) := by kernel_rfl
  have h2 : Tryd.prog.stoodInHeld 23 = false := by kernel_rfl
  have hu := Tryd.underlying23
  rw [run_eql_struct, run_equalIn_struct W _ _ _ _ h1 h2, ← eq_ev]
  unfold cE
  simp [Program.fieldsOf, hu, Op.eqFields, go_sem]
  by_cases e1 : a.k = b.k <;> by_cases e2 : a.who = b.who <;> by_cases e3 : a.n = b.n <;> by_cases e4 : a.ok = b.ok <;> by_cases e5 : a.s = b.s <;> simp [e1, e2, e3, e4, e5]
set_option maxHeartbeats 4000000 in
theorem same_any (v u : Value) (l m : List E) (w : World) (S T : Nat → Prop) (hv : RSl 5 REv w S [v] l) (hu : RSl 5 REv w T [u] m) :
    Calls Tryd.prog 14 #[v, u] w fun e w' => e = .returned (.bool (decide (l = m))) ∧ ∃ n, w' = w.drewN n := by
  obtain ⟨A, cap, rfl, hc1, hc2, hel⟩ := ev_cells hv
  obtain ⟨B, cap', rfl, hd1, hd2, hem⟩ := ev_cells hu
  clear hv hu
  unfold maxLen at hc2 hd2
  have Hel := Lib.hid hel
  have Hem := Lib.hid hem
  clear hel hem
  by_cases hlen : l.length = m.length
  · have Hlen := Lib.hid hlen
    have hb : ((l.length : Int) != (m.length : Int)) = false := by simp [hlen]
    have hlm : l.length ≤ m.length := by omega
    clear hlen
    go_enter Tryd.func14, Tryd.ntmps14
    go_wp2
    go_loopw [5] (fun i wr => ∃ k : Nat, i = .int .i64 k ∧ k ≤ l.length ∧ Hid (∃ n, wr = w.drewN n) ∧ Hid (∀ j (h : j < l.length) (h' : j < m.length), j < k → l[j] = m[j])) (fun i _ => l.length - (intOf i).toNat)
    case atStart => exact ⟨0, rfl, by omega, ⟨0, rfl⟩, fun j _ _ h => absurd h (by omega)⟩
    case round =>
      obtain ⟨k, rfl, hk, hw, hd⟩ := hrel
      obtain ⟨n, hn⟩ := hw.out
      subst hn
      by_cases hlt : k < l.length
      · have hlt' : k < m.length := by omega
        obtain ⟨ad, rfl, _, hcell1, hcell2, hcell3, hcell31, hcell32, _⟩ := Hel.out k hlt
        obtain ⟨bd, rfl, _, hcell4, hcell5, hcell6, hcell61, hcell62, _⟩ := Hem.out k hlt'
        have hg : Tryd.prog.eqGuardType Tryd.prog.depth 23 = false := by kernel_rfl
        have hq := fun W : World => neq_ev W l[k] m[k]
        unfold cE at hq
        by_cases hx : l[k] = m[k]
        · have hx' : decide (l[k] = m[k]) = true := decide_eq_true hx
          rw [hx'] at hq
          have hn : Hid (∀ j (h : j < l.length) (h' : j < m.length), j < k + 1 → l[j] = m[j]) := by
            intro j h h' hj
            by_cases e : j = k
            · subst e; exact hx
            · exact hd.out j h h' (by omega)
          clear hd hx hx'
          go_wp2
          go_quiet (fail)
          go_wp2
          go_roundw
          case rel => exact ⟨k + 1, by go_num, by omega, ⟨_, rfl⟩, hn⟩
          case measure => simp [intOf]; omega
        · have hx' : decide (l[k] = m[k]) = false := decide_eq_false hx
          rw [hx'] at hq
          have hne : decide (l = m) = false := by
            rw [decide_eq_false_iff_not]
            intro e; subst e; exact hx rfl
          have Hne := Lib.hid hne
          clear hd hx hne hx'
          go_wp2
          go_quiet (fail)
          go_wp2
          go_ret
          exact ⟨ret_bool Hne.out.symm, _, World.drewN_drewN _ _ _⟩
      · have he : Hid (decide (l = m) = true) := by
          show decide (l = m) = true
          rw [decide_eq_true_iff]
          exact List.ext_getElem Hlen.out fun j h h' => hd.out j h h' (by omega)
        clear hd
        go_wp2
        go_ret
        exact ⟨ret_bool he.out.symm, n, rfl⟩
  · have hb : ((l.length : Int) != (m.length : Int)) = true := by simp; omega
    have hne : decide (l = m) = false := by
      rw [decide_eq_false_iff_not]
      intro e; subst e; exact hlen rfl
    have Hne := Lib.hid hne
    clear hlen hne
    go_enter Tryd.func14, Tryd.ntmps14
    go_wp2
    go_ret
    exact ⟨ret_bool Hne.out.symm, 0, rfl⟩
/-- A fault: its line, of what, of which code. -/
def cF (n : Int) (t : Str) (c : Int) : Array Value := #[.int .i64 n, .string ⟨t.toArray⟩, .iface 67 (.int .i64 c)]
def NewF (c n : Int) (t : Str) (w : World) (e : Ending) (w' : World) : Prop := ∃ b, e = .returned (.iface 70 (.pointer (some ⟨b, 0, none⟩))) ∧ Blk w' b 74 (cF n t c) ∧ Fr No w w' ∧ w.heap.size ≤ b
theorem newf_any (c n : Int) (t : Str) (w : World) (hc : c ≠ 0) : Calls Tryd.prog 36 #[.int .i64 c, .int .i64 n, .string ⟨t.toArray⟩] w (NewF c n t w) := by
  have hb : (c == 0) = false := by rw [beq_eq_false_iff_ne]; exact hc
  clear hc
  go_enter Tryd.func36, Tryd.ntmps36
  go_wp2
  go_ret
  exact ⟨w.heap.size, rfl, Blk.new w _ _, (Fr.refl No w).alloc _, Nat.le_refl _⟩
/-! ### The lines of a text. -/
/-- A line's end: its event, or that it is wrong. -/
def stepL (o : List E) (n : Nat) (cur : Str) : Except Nat (List E) :=
  if cur = [] ∨ cur.head? = some 35 then .ok o else if (readE cur).2 = 0 then .ok (o ++ [(readE cur).1]) else .error n
def goA (o : List E) (n : Nat) (cur : Str) : Str → Except Nat (List E)
  | [] => stepL o n cur
  | c :: t => if c = 10 then (match stepL o n cur with | .ok o' => goA o' (n + 1) [] t | .error m => .error m) else goA o n (cur ++ [c]) t
def allE (s : Str) : Except Nat (List E) := goA [] 1 [] s
def thenA (r : Except Nat (List E)) (f : List E → Except Nat (List E)) : Except Nat (List E) := match r with | .ok o => f o | .error m => .error m
/-- Where the walk over a text stands behind k bytes. -/
def resA (o : List E) (n : Nat) (cur : Str) (s : Str) (k : Nat) : Except Nat (List E) := if k ≤ s.length then goA o n cur (s.drop k) else .ok o
theorem resA_start (s : Str) : allE s = resA [] 1 [] s 0 := by unfold resA allE; rw [if_pos (Nat.zero_le _)]; rfl
theorem resA_more {o : List E} {n k : Nat} {cur s : Str} (h : k < s.length) (hc : s[k] ≠ 10) : resA o n cur s k = resA o n (cur ++ [s[k]]) s (k + 1) := by
  unfold resA
  rw [if_pos (by omega), if_pos (by omega), List.drop_eq_getElem_cons h, goA, if_neg hc]
theorem resA_line {o : List E} {n k : Nat} {cur s : Str} (h : k < s.length) (hc : s[k] = 10) : resA o n cur s k = thenA (stepL o n cur) fun o' => resA o' (n + 1) [] s (k + 1) := by
  unfold thenA resA
  rw [if_pos (by omega), List.drop_eq_getElem_cons h, goA, if_pos hc]
  cases stepL o n cur with
  | ok o' => simp only; rw [if_pos (by omega)]
  | error m => rfl
theorem resA_end {o : List E} {n : Nat} {cur s : Str} : resA o n cur s s.length = thenA (stepL o n cur) fun o' => resA o' (n + 1) [] s (s.length + 1) := by
  unfold thenA resA
  rw [if_pos (Nat.le_refl _), List.drop_of_length_le (Nat.le_refl _), goA]
  cases stepL o n cur with
  | ok o' => simp only; rw [if_neg (by omega)]
  | error m => rfl
theorem resA_done {o : List E} {n k : Nat} {cur s : Str} (h : ¬ k ≤ s.length) : resA o n cur s k = .ok o := by unfold resA; rw [if_neg h]
theorem read_code (s : Str) : (∃ e, readE s = (e, 0)) ∨ readE s = (E0, 3) := by rw [← read_same]; exact rreadE_code s
theorem step_skip {o : List E} {n : Nat} {cur : Str} (h : cur = [] ∨ cur.head? = some 35) : stepL o n cur = .ok o := by unfold stepL; rw [if_pos h]
theorem step_ok {o : List E} {n : Nat} {cur : Str} {e : E} (h : ¬ (cur = [] ∨ cur.head? = some 35)) (hr : readE cur = (e, 0)) : stepL o n cur = .ok (o ++ [e]) := by unfold stepL; rw [if_neg h, hr]; rfl
theorem step_bad {o : List E} {n : Nat} {cur : Str} (h : ¬ (cur = [] ∨ cur.head? = some 35)) (hr : readE cur = (E0, 3)) : stepL o n cur = .error n := by unfold stepL; rw [if_neg h, hr]; rfl
theorem show_long (s : Str) : s.length ≤ (showR s).length := by
  induction s with
  | nil => simp
  | cons c s ih =>
    have e : showR (c :: s) = signR c ++ showR s := rfl
    have := (sign_len c).1
    rw [e]; simp; omega
theorem read_len {s : Str} {e : E} (h : readE s = (e, 0)) : e.s.length ≤ s.length := by
  obtain ⟨r, hr, hc, hl⟩ := put_read h
  obtain ⟨r', hr', -, -, -, -, -, h6⟩ := check_row hc
  rw [hr] at hr'
  injection hr' with e1
  subst e1
  rw [← hl]
  unfold lineR
  cases hs : r.s with
  | true =>
    have := show_long e.s
    simp
    omega
  | false => rw [h6 hs]; exact Nat.zero_le _
/-- What All answers. -/
def evB : Str := [101, 118, 101, 110, 116]
def AllIs (r : Except Nat (List E)) (w : World) (x : Ending) (w' : World) : Prop := match r with
  | .ok l => ∃ v, x = .returned (.tuple #[v, .nilIface]) ∧ RSl 5 REv w' (New w w') [v] l ∧ Fr No w w'
  | .error n => ∃ b, x = .returned (.tuple #[.slice none 0 0, .iface 70 (.pointer (some ⟨b, 0, none⟩))]) ∧ Blk w' b 74 (cF n evB 3) ∧ Fr No w w' ∧ w.heap.size ≤ b
def RallIs (r : Except Nat (List E)) (w : World) (x : Ending) (w' : World) : Prop := match r with
  | .ok l => ∃ v, x = .returned (.tuple #[v, .int .i64 0, .int .i64 0]) ∧ RSl 5 REv w' (New w w') [v] l ∧ Fr No w w'
  | .error n => x = .returned (.tuple #[.slice none 0 0, .int .i64 3, .int .i64 n]) ∧ Fr No w w'
theorem grow_ev {w wr : World} {v : Value} {l : List E} (h : Grow w wr 23 5 encE v l) (hl : ∀ e ∈ l, e.s.length ≤ 900000) : RSl 5 REv wr (New w wr) [v] l :=
  h.sl (fun _ _ => rfl) (fun x hx _ _ => ⟨rfl, by have := hl x hx; unfold maxLen; omega⟩)
theorem all_in {l : List E} {e : E} (h : ∀ x ∈ l, x.s.length ≤ 900000) (he : e.s.length ≤ 900000) : ∀ x ∈ l ++ [e], x.s.length ≤ 900000 := by
  intro x hx
  rcases List.mem_append.1 hx with hx | hx
  · exact h x hx
  · rw [List.mem_singleton.1 hx]; exact he
end Ev
end Go.Proofs.YtohjnbkehcdoaaaDoor
