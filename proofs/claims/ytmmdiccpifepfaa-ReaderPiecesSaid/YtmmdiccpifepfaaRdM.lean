/- Reader: rows of replies and of views in memory; the last word of a reply. Printed by gen_rdm.py. -/
import Derived.Test.YtmmdiccpifepfaaRdF
import Derived.Test.YtmmdiccpifepfaaRdR
import Derived.Test.YtmmdiccpifepfaaRdP
import Derived.Test.YtmmdiccpifepfaaWordJoin
import Derived.Test.YtmmdiccpifepfaaAnsS
namespace Go.Proofs.Ytmmdiccpifepfaa
open Go.RowKit
set_option linter.unusedVariables false
set_option linter.unusedSimpArgs false
namespace Rd
open Ans Digit Sls Word
/-- A reply in a row: its number, and the row of its lines. -/
def encR (y : Int × Value) : List Value := [.int .i64 y.1, y.2]
def encV (v : Vw) : List Value := [.string ⟨v.1.toArray⟩, .string ⟨v.2.1.toArray⟩, .bool v.2.2]
/-- The lines of replies, in blocks that never turn. -/
def Lines (w : World) (B : Nat → Prop) (rv : List (Int × Value)) (R : List Rep) : Prop := rv.length = R.length ∧ ∀ i (h : i < rv.length) (h' : i < R.length), rv[i].1 = R[i].1 ∧ RSl 1 RStr w B [rv[i].2] R[i].2
/-- What was read, as two rows. -/
structure Rows (T : TypeId) (w : World) (B : Nat → Prop) (vR vV : Value) (rv : List (Int × Value)) (x : X) : Prop where
  rown : w.ownsRow 0 69 2 vR rv.length (rv.flatMap encR)
  lines : Lines w B rv x.R
  vown : w.ownsRow 0 T 3 vV x.V.length (x.V.flatMap encV)
  hRV : ∀ k, Of vR k → ¬ Of vV k
  hB : ∀ k, B k → k < w.heap.size ∧ ¬ Of vR k ∧ ¬ Of vV k
theorem of_lt {w : World} {e : TypeId} {size n : Nat} {v : Value} {xs : List Value} (h : w.ownsRow 0 e size v n xs) (k : Nat) (hk : Of v k) : k < w.heap.size := by
  rcases h.2 with ⟨rfl, _⟩ | ⟨g, cap, cur, rfl, _, hg, _⟩
  · cases hk
  · have hk : some g = some k := hk
    injection hk with hk
    subst hk
    exact (Array.getElem?_eq_some_iff.1 hg).1
theorem Lines.fr {w w' : World} {B G : Nat → Prop} {rv : List (Int × Value)} {R : List Rep} (h : Lines w B rv R) (hf : Fr G w w') (hB : ∀ k, B k → k < w.heap.size ∧ ¬ G k) : Lines w' B rv R :=
  ⟨h.1, fun i h1 h2 => ⟨(h.2 i h1 h2).1, (RSl.stable RStr.stable).go (h.2 i h1 h2).2 (Kept.of_fr hf hB) (fun _ h => h)⟩⟩
theorem Lines.mono {w : World} {B B' : Nat → Prop} {rv : List (Int × Value)} {R : List Rep} (h : Lines w B rv R) (hB : ∀ k, B k → B' k) : Lines w B' rv R :=
  ⟨h.1, fun i h1 h2 => ⟨(h.2 i h1 h2).1, (RSl.stable RStr.stable).go (h.2 i h1 h2).2 (Kept.refl _ _) hB⟩⟩
theorem Lines.push {w : World} {B : Nat → Prop} {rv : List (Int × Value)} {R : List Rep} (h : Lines w B rv R) {n : Int} {v : Value} {L : List Str} (hv : RSl 1 RStr w B [v] L) : Lines w B (rv ++ [(n, v)]) (R ++ [(n, L)]) := by
  obtain ⟨h1, h2⟩ := h
  refine ⟨by simp [h1], fun i hi hi' => ?_⟩
  rw [List.length_append, List.length_singleton] at hi hi'
  by_cases hlt : i < rv.length
  · rw [List.getElem_append_left hlt, List.getElem_append_left (by omega)]
    exact h2 i hlt (by omega)
  · rw [List.getElem_append_right (by omega), List.getElem_append_right (by omega)]
    simp only [List.getElem_singleton]
    exact ⟨trivial, hv⟩
theorem Rows.fr {T : TypeId} {w w' : World} {B G : Nat → Prop} {vR vV : Value} {rv : List (Int × Value)} {x : X} (h : Rows T w B vR vV rv x) (hf : Fr G w w') (h1 : ∀ k, Of vR k → ¬ G k) (h2 : ∀ k, Of vV k → ¬ G k) (h3 : ∀ k, B k → ¬ G k) : Rows T w' B vR vV rv x :=
  ⟨own_fr h.rown hf h1, h.lines.fr hf (fun k hk => ⟨(h.hB k hk).1, h3 k hk⟩), own_fr h.vown hf h2, h.hRV, fun k hk => ⟨Nat.lt_of_lt_of_le (h.hB k hk).1 hf.size, (h.hB k hk).2⟩⟩
theorem Rows.no {T : TypeId} {w w' : World} {B : Nat → Prop} {vR vV : Value} {rv : List (Int × Value)} {x : X} (h : Rows T w B vR vV rv x) (hf : Fr No w w') : Rows T w' B vR vV rv x :=
  h.fr hf (fun _ _ h => h) (fun _ _ h => h) (fun _ _ h => h)
theorem fmR (l : List (Int × Value)) : (l.flatMap encR).length = l.length * 2 := by
  induction l with
  | nil => rfl
  | cons x l ih => rw [List.flatMap_cons, List.length_append, ih]; simp [encR]; omega
theorem fmV (l : List Vw) : (l.flatMap encV).length = l.length * 3 := by
  induction l with
  | nil => rfl
  | cons x l ih => rw [List.flatMap_cons, List.length_append, ih]; simp [encV]; omega
/-- A view's cells. -/
theorem view_at {T : TypeId} {w : World} {g n c : Nat} {V : List Vw} (h : w.ownsRow 0 T 3 (.slice (some ⟨g, 0, none⟩) n c) V.length (V.flatMap encV)) {k : Nat} (hk : k < V.length) :
    w.cell? ⟨g, k * 3, none⟩ = some (.string ⟨V[k].1.toArray⟩) ∧ w.cell? ⟨g, k * 3 + 1, none⟩ = some (.string ⟨V[k].2.1.toArray⟩) ∧ w.cell? ⟨g, k * 3 + 2, none⟩ = some (.bool V[k].2.2) := by
  have e : ∀ j u, j < 3 → (encV V[k])[j]? = some u → w.cell? ⟨g, k * 3 + j, none⟩ = some u := by
    intro j u hj hu
    have := fm_get V encV 3 k j hk (fun _ _ => rfl) hj
    rw [hu] at this
    have := h.cells (g := g) rfl (k * 3 + j) _ this
    have e2 : (⟨g, 0, none⟩ : Addr).add (k * 3 + j) = ⟨g, k * 3 + j, none⟩ := by rw [Addr.add_lit, Nat.zero_add]
    rw [e2] at this
    exact this
  exact ⟨e 0 _ (by omega) rfl, e 1 _ (by omega) rfl, e 2 _ (by omega) rfl⟩
theorem last_len {n : Int} {L : List Str} (h : L.length ≠ 1) : lastR (n, L) = [] := by
  unfold lastR
  match L, h with
  | [], _ => rfl
  | [_], h => exact absurd rfl h
  | _ :: _ :: _, _ => rfl
theorem last_nil {n : Int} {l : Str} (h : cutR l = []) : lastR (n, [l]) = [] := by
  show (cutR l).getLast?.getD [] = []
  rw [h]; rfl
theorem last_some {n : Int} {l z : Str} {c : List Str} (h : cutR l = c ++ [z]) : lastR (n, [l]) = z := by
  show (cutR l).getLast?.getD [] = z
  rw [h]; simp
set_option maxRecDepth 100000 in
set_option maxHeartbeats 2000000 in
theorem last_any (n : Int) (v : Value) (L : List Str) (w : World) (S : Nat → Prop) (hS : ∀ k, S k → k < w.heap.size) (h : RSl 1 RStr w S [v] L) (hl : ∀ l ∈ L, l.length ≤ 900000) :
    Calls Try.prog 30 #[.agg #[.int .i64 n, v]] w fun e w' => e = .returned (.string ⟨(lastR (n, L)).toArray⟩) ∧ Fr No w w' := by
  obtain ⟨A, c, rfl, hc1, hc2⟩ := h.slice
  unfold maxLen at hc2
  have H := Lib.hid h
  have HS := Lib.hid hS
  have X0 := Lib.hid (Blk.new w 69 #[.int .i64 n, .slice A L.length c])
  have F0 := Lib.hid ((Fr.refl No w).alloc (.cells #[.int .i64 n, .slice A L.length c] 69))
  clear h hS
  by_cases h1 : L.length = 1
  · obtain ⟨l, rfl⟩ := List.length_eq_one_iff.1 h1
    have hll := hl l (by simp)
    clear hl
    have H1 := Lib.hid (str_keep H.out F0.out HS.out)
    obtain ⟨ad, rfl, cs, -, -⟩ := str_at H1.out (k := 0) (by simp)
    have cs' : (w.alloc (.cells #[.int .i64 n, .slice (some ad) [l].length c] 69)).cell? ad = some (.string ⟨l.toArray⟩) := by
      have e : ad.add 0 = ad := by cases ad; rfl
      rw [e] at cs
      simpa using cs
    simp only [List.length_singleton] at X0 F0 cs' H1 ⊢
    have x1 : (w.alloc (.cells #[.int .i64 n, .slice (some ad) 1 c] 69)).cell? ⟨w.heap.size, 1, none⟩ = some (.slice (some ad) 1 c) := X0.out.cell 1
    clear cs H HS h1
    have hcc := fun W => cut_any l W (by omega)
    rcases List.eq_nil_or_concat (cutR l) with hn | ⟨d, z, hz⟩
    · have HE := Lib.hid (last_nil (n := n) hn)
      rw [hn] at hcc
      clear hn
      go_enter Try.func30, Try.ntmps30
      go_wp2_with (go_at_call 41; refine (hcc _).mono ?_; rintro e w2 ⟨u, rfl, ho, hst⟩; obtain ⟨A2, c2, rfl⟩ := own_form ho; have HST := Lib.hid hst; clear ho hst)
      go_ret
      rw [HE.out]
      exact ⟨rfl, F0.out.then_no HST.out.1⟩
    · rw [List.concat_eq_append] at hz
      have HE := Lib.hid (last_some (n := n) hz)
      have hcut := cutR_len l
      rw [hz] at hcc hcut
      obtain ⟨m, hm⟩ : ∃ m, m = d.length := ⟨_, rfl⟩
      have hcm : (d ++ [z]).length = m + 1 := by simp [hm]
      simp only [hcm] at hcc hcut
      have HZ : Hid (∀ (W : World) g c, W.ownsRow 0 9 1 (.slice (some ⟨g, 0, none⟩) (m + 1) c) (m + 1) ((d ++ [z]).map encS) → W.cell? ⟨g, m, none⟩ = some (.string ⟨z.toArray⟩)) := Lib.hid (by
        intro W g c h
        have := h.cells (g := g) rfl d.length (encS z) (by simp)
        rw [Addr.add_lit, Nat.zero_add, ← hm] at this
        exact this)
      have HG : Hid (∀ (W : World) A c xs, W.ownsRow 0 9 1 (.slice A (m + 1) c) (m + 1) xs → ∃ g, A = some ⟨g, 0, none⟩) := Lib.hid (by
        intro W A c xs h
        rcases h.2 with ⟨h1, h2⟩ | ⟨g, cap, cur, h1, _⟩
        · omega
        · injection h1 with h1; exact ⟨g, h1⟩)
      have hb0 : ((((m + 1 : Nat) : Int)) == 0) = false := by rw [beq_eq_false_iff_ne]; omega
      have hml : m ≤ 2000000 := by omega
      clear hm hz hcm hcut
      go_enter Try.func30, Try.ntmps30
      go_wp2_with (go_at_call 41; refine (hcc _).mono ?_; rintro e w2 ⟨u, rfl, ho, hst⟩; obtain ⟨A2, c2, rfl⟩ := own_form ho; obtain ⟨g2, rfl⟩ := HG.out _ _ _ _ ho; have cz := HZ.out _ _ _ ho; have HST := Lib.hid hst; clear ho hst)
      go_ret
      rw [HE.out]
      exact ⟨rfl, F0.out.then_no HST.out.1⟩
  · have HE := Lib.hid (last_len (n := n) h1)
    have hb : ((L.length : Int) != 1) = true := by simp; omega
    clear h1
    go_enter Try.func30, Try.ntmps30
    go_wp2
    go_ret
    rw [HE.out]
    exact ⟨rfl, F0.out⟩
set_option maxRecDepth 100000 in
set_option maxHeartbeats 2000000 in
theorem rlast_any (n : Int) (v : Value) (L : List Str) (w : World) (S : Nat → Prop) (hS : ∀ k, S k → k < w.heap.size) (h : RSl 1 RStr w S [v] L) (hl : ∀ l ∈ L, l.length ≤ 900000) :
    Calls Try.prog 34 #[.agg #[.int .i64 n, v]] w fun e w' => e = .returned (.string ⟨(lastR (n, L)).toArray⟩) ∧ Fr No w w' := by
  obtain ⟨A, c, rfl, hc1, hc2⟩ := h.slice
  unfold maxLen at hc2
  have H := Lib.hid h
  have HS := Lib.hid hS
  have X0 := Lib.hid (Blk.new w 69 #[.int .i64 n, .slice A L.length c])
  have F0 := Lib.hid ((Fr.refl No w).alloc (.cells #[.int .i64 n, .slice A L.length c] 69))
  clear h hS
  by_cases h1 : L.length = 1
  · obtain ⟨l, rfl⟩ := List.length_eq_one_iff.1 h1
    have hll := hl l (by simp)
    clear hl
    have H1 := Lib.hid (str_keep H.out F0.out HS.out)
    obtain ⟨ad, rfl, cs, -, -⟩ := str_at H1.out (k := 0) (by simp)
    have cs' : (w.alloc (.cells #[.int .i64 n, .slice (some ad) [l].length c] 69)).cell? ad = some (.string ⟨l.toArray⟩) := by
      have e : ad.add 0 = ad := by cases ad; rfl
      rw [e] at cs
      simpa using cs
    simp only [List.length_singleton] at X0 F0 cs' H1 ⊢
    have x1 : (w.alloc (.cells #[.int .i64 n, .slice (some ad) 1 c] 69)).cell? ⟨w.heap.size, 1, none⟩ = some (.slice (some ad) 1 c) := X0.out.cell 1
    clear cs H HS h1
    have hcc := fun W => rcut_any l W (by omega)
    rcases List.eq_nil_or_concat (cutR l) with hn | ⟨d, z, hz⟩
    · have HE := Lib.hid (last_nil (n := n) hn)
      rw [hn] at hcc
      clear hn
      go_enter Try.func34, Try.ntmps34
      go_wp2_with (go_at_call 45; refine (hcc _).mono ?_; rintro e w2 ⟨u, rfl, ho, hst⟩; obtain ⟨A2, c2, rfl⟩ := own_form ho; have HST := Lib.hid hst; clear ho hst)
      go_ret
      rw [HE.out]
      exact ⟨rfl, F0.out.then_no HST.out.1⟩
    · rw [List.concat_eq_append] at hz
      have HE := Lib.hid (last_some (n := n) hz)
      have hcut := cutR_len l
      rw [hz] at hcc hcut
      obtain ⟨m, hm⟩ : ∃ m, m = d.length := ⟨_, rfl⟩
      have hcm : (d ++ [z]).length = m + 1 := by simp [hm]
      simp only [hcm] at hcc hcut
      have HZ : Hid (∀ (W : World) g c, W.ownsRow 0 9 1 (.slice (some ⟨g, 0, none⟩) (m + 1) c) (m + 1) ((d ++ [z]).map encS) → W.cell? ⟨g, m, none⟩ = some (.string ⟨z.toArray⟩)) := Lib.hid (by
        intro W g c h
        have := h.cells (g := g) rfl d.length (encS z) (by simp)
        rw [Addr.add_lit, Nat.zero_add, ← hm] at this
        exact this)
      have HG : Hid (∀ (W : World) A c xs, W.ownsRow 0 9 1 (.slice A (m + 1) c) (m + 1) xs → ∃ g, A = some ⟨g, 0, none⟩) := Lib.hid (by
        intro W A c xs h
        rcases h.2 with ⟨h1, h2⟩ | ⟨g, cap, cur, h1, _⟩
        · omega
        · injection h1 with h1; exact ⟨g, h1⟩)
      have hb0 : ((((m + 1 : Nat) : Int)) == 0) = false := by rw [beq_eq_false_iff_ne]; omega
      have hml : m ≤ 2000000 := by omega
      clear hm hz hcm hcut
      go_enter Try.func34, Try.ntmps34
      go_wp2_with (go_at_call 45; refine (hcc _).mono ?_; rintro e w2 ⟨u, rfl, ho, hst⟩; obtain ⟨A2, c2, rfl⟩ := own_form ho; obtain ⟨g2, rfl⟩ := HG.out _ _ _ _ ho; have cz := HZ.out _ _ _ ho; have HST := Lib.hid hst; clear ho hst)
      go_ret
      rw [HE.out]
      exact ⟨rfl, F0.out.then_no HST.out.1⟩
  · have HE := Lib.hid (last_len (n := n) h1)
    have hb : ((L.length : Int) != 1) = true := by simp; omega
    clear h1
    go_enter Try.func34, Try.ntmps34
    go_wp2
    go_ret
    rw [HE.out]
    exact ⟨rfl, F0.out⟩
end Rd
end Go.Proofs.Ytmmdiccpifepfaa
