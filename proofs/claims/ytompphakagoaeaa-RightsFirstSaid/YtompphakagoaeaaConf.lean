/- Configurations: how they are read, and how a slice of structs that a call has made of its own is read. Plain lemmas. -/
import Derived.Test.YtompphakagoaeaaBytes
import Derived.Test.YtompphakagoaeaaArr
import Derived.Test.YtompphakagoaeaaRows
import Derived.WalkKit
import Derived.Outline
import Derived.BigQuiet
import Derived.Deep.QuietTactic
import Derived.Deep.RegionLaw
import Derived.Deep.DeepMust
namespace Go.Proofs.Ytompphakagoaeaa
open Go.RowKit
set_option linter.unusedVariables false
set_option linter.unusedSimpArgs false
namespace Conf
abbrev RI : Rd Int := RInt .i64
abbrev Con := Str × (Int × (Int × (Int × (Int × (Int × (Int × (Int × (Int × Str))))))))
abbrev RCon : Rd Con := RTwo 1 RStr (RTwo 1 RI (RTwo 1 RI (RTwo 1 RI (RTwo 1 RI (RTwo 1 RI (RTwo 1 RI (RTwo 1 RI (RTwo 1 RI RStr))))))))
abbrev Grp := Str × List Str
abbrev RGrp : Rd Grp := RTwo 1 RStr (RSl 1 RStr)
abbrev Usr := Str × Str
abbrev RUsr : Rd Usr := RTwo 1 RStr RStr
abbrev Acc := Str × (Str × Int)
abbrev RAcc : Rd Acc := RTwo 1 RStr (RTwo 1 RStr RI)
abbrev C := List Con × (List Grp × (List Usr × (List Acc × List Str)))
abbrev RConf : Rd C := RTwo 1 (RSl 10 RCon) (RTwo 1 (RSl 2 RGrp) (RTwo 1 (RSl 2 RUsr) (RTwo 1 (RSl 3 RAcc) (RArr 10 1 RStr))))
theorem infoCon : (Try.prog.info? 50).map (fun i => (i.zero, i.size, i.bytes)) = some (some (.agg #[.string ByteArray.empty, .int .i64 0, .int .i64 0, .int .i64 0, .int .i64 0, .int .i64 0, .int .i64 0, .int .i64 0, .int .i64 0, .string ByteArray.empty]), 10, 96) := by kernel_rfl
theorem infoGrp : (Try.prog.info? 53).map (fun i => (i.zero, i.size, i.bytes)) = some (some (.agg #[.string ByteArray.empty, .slice none 0 0]), 2, 40) := by kernel_rfl
theorem infoUsr : (Try.prog.info? 55).map (fun i => (i.zero, i.size, i.bytes)) = some (some (.agg #[.string ByteArray.empty, .string ByteArray.empty]), 2, 32) := by kernel_rfl
theorem infoAcc : (Try.prog.info? 41).map (fun i => (i.zero, i.size, i.bytes)) = some (some (.agg #[.string ByteArray.empty, .string ByteArray.empty, .int .i64 0]), 3, 40) := by kernel_rfl
theorem infoStr : (Try.prog.info? 9).map (fun i => (i.zero, i.size, i.bytes)) = some (some (.string ByteArray.empty), 1, 16) := by kernel_rfl
theorem stable_con : RCon.Stable := RTwo.stable RStr.stable (RTwo.stable (RInt.stable _) (RTwo.stable (RInt.stable _) (RTwo.stable (RInt.stable _) (RTwo.stable (RInt.stable _) (RTwo.stable (RInt.stable _) (RTwo.stable (RInt.stable _) (RTwo.stable (RInt.stable _) (RTwo.stable (RInt.stable _) RStr.stable))))))))
theorem stable_grp : RGrp.Stable := RTwo.stable RStr.stable (RSl.stable RStr.stable)
theorem stable_usr : RUsr.Stable := RTwo.stable RStr.stable RStr.stable
theorem stable_acc : RAcc.Stable := RTwo.stable RStr.stable (RTwo.stable RStr.stable (RInt.stable _))
theorem stable : RConf.Stable := RTwo.stable (RSl.stable stable_con) (RTwo.stable (RSl.stable stable_grp) (RTwo.stable (RSl.stable stable_usr) (RTwo.stable (RSl.stable stable_acc) (RArr.stable RStr.stable))))

section
variable {w : World} {S : Nat → Prop}
theorem str_one {s : Str} {cs : List Value} (h : RStr w S cs s) : cs = [.string ⟨s.toArray⟩] := h.1
theorem flat_get : ∀ (l : List (List Value)) (k i j : Nat) (hi : i < l.length), (∀ x ∈ l, x.length = k) → j < k → l.flatten[i * k + j]? = l[i][j]?
  | x :: l, k, 0, j, hi, h, hj => by
    rw [List.flatten_cons, List.getElem?_append_left (by rw [h x (by simp)]; omega)]; simp
  | x :: l, k, i + 1, j, hi, h, hj => by
    have := flat_get l k i j (by simpa using hi) (fun y hy => h y (by simp [hy])) hj
    rw [List.flatten_cons, List.getElem?_append_right (by rw [h x (by simp), Nat.add_mul]; omega), h x (by simp), Nat.add_mul, show i * k + 1 * k + j - k = i * k + j by omega, this]
    rfl
/-- A slice of structs, at the head of a block of the call's own. -/
theorem own_slK {base : Nat} {e : TypeId} {k : Nat} {v : Value} {α : Type} {R : Rd α} {l : List (List Value)} (h : w.ownsRow base e k v l.length l.flatten) (hk : ∀ x ∈ l, x.length = k)
    (hR : ∀ x ∈ l, ∃ a, R w S x a) (hS : ∀ b, Of v b → S b) : ∃ xs : List α, xs.length = l.length ∧ RSl k R w S [v] xs := by
  obtain ⟨xs, hl, hp⟩ := list_of_pos (p := fun i a => ∀ h : i < l.length, R w S l[i] a) l.length fun i hi => by
    obtain ⟨a, ha⟩ := hR l[i] (List.getElem_mem _)
    exact ⟨a, fun _ => ha⟩
  refine ⟨xs, hl, ?_⟩
  rcases h.2 with ⟨rfl, h0⟩ | ⟨g, cap, cur, rfl, _, hg, h1, h2, h3, h4⟩
  · have : xs = [] := List.eq_nil_of_length_eq_zero (by omega)
    subst this
    exact ⟨none, 0, rfl, Nat.le_refl _, Nat.zero_le _, fun _ => rfl, fun i hi => by simp at hi⟩
  · refine ⟨some ⟨g, 0, none⟩, cap, by rw [hl], by omega, h2, fun h => (by cases h), fun i hi => ⟨⟨g, 0, none⟩, l[i], rfl, hS _ rfl, hk _ (List.getElem_mem _), fun j hj => ?_, hp i hi (by omega)⟩⟩
    have e1 : (l.flatten)[i * k + j]? = some ((l[i]'(by omega))[j]'(by rw [hk _ (List.getElem_mem _)]; exact hj)) := by
      rw [flat_get l k i j (by omega) hk hj]
      exact List.getElem?_eq_getElem _
    have hh := h.cells (g := g) rfl (i * k + j) _ e1
    rw [hh, List.getElem?_eq_getElem]
theorem con_open {cs : List Value} {x : Con} (h : RCon w S cs x) : ∃ a b : Str, ∃ n1 n2 n3 n4 n5 n6 n7 n8 : Int, a = x.1 ∧ b = x.2.2.2.2.2.2.2.2.2 ∧ a.length ≤ maxLen ∧ b.length ≤ maxLen ∧
    cs = [.string ⟨a.toArray⟩, .int .i64 n1, .int .i64 n2, .int .i64 n3, .int .i64 n4, .int .i64 n5, .int .i64 n6, .int .i64 n7, .int .i64 n8, .string ⟨b.toArray⟩] := by
  obtain ⟨hl, ⟨h1, b1⟩, h⟩ := h
  obtain ⟨l2, ⟨h2, b2⟩, h⟩ := h
  obtain ⟨l3, ⟨h3, b3⟩, h⟩ := h
  obtain ⟨l4, ⟨h4, b4⟩, h⟩ := h
  obtain ⟨l5, ⟨h5, b5⟩, h⟩ := h
  obtain ⟨l6, ⟨h6, b6⟩, h⟩ := h
  obtain ⟨l7, ⟨h7, b7⟩, h⟩ := h
  obtain ⟨l8, ⟨h8, b8⟩, h⟩ := h
  obtain ⟨l9, ⟨h9, b9⟩, h10, b10⟩ := h
  refine ⟨x.1, x.2.2.2.2.2.2.2.2.2, x.2.1, x.2.2.1, x.2.2.2.1, x.2.2.2.2.1, x.2.2.2.2.2.1, x.2.2.2.2.2.2.1, x.2.2.2.2.2.2.2.1, x.2.2.2.2.2.2.2.2.1, rfl, rfl, b1, b10, ?_⟩
  have t : ∀ (l : List Value), l.take 1 ++ l.drop 1 = l := fun l => List.take_append_drop 1 l
  rw [← t cs, h1, ← t (cs.drop 1), h2, ← t ((cs.drop 1).drop 1), h3, ← t (((cs.drop 1).drop 1).drop 1), h4, ← t ((((cs.drop 1).drop 1).drop 1).drop 1), h5, ← t (((((cs.drop 1).drop 1).drop 1).drop 1).drop 1), h6,
    ← t ((((((cs.drop 1).drop 1).drop 1).drop 1).drop 1).drop 1), h7, ← t (((((((cs.drop 1).drop 1).drop 1).drop 1).drop 1).drop 1).drop 1), h8, ← t ((((((((cs.drop 1).drop 1).drop 1).drop 1).drop 1).drop 1).drop 1).drop 1), h9, h10]
  rfl
theorem conf_open {cs : Array Value} {x : C} (h : RConf w S cs.toList x) : ∃ vC vG vU vA : Value, ∃ bs : List Value, cs = (vC :: vG :: vU :: vA :: bs).toArray ∧ RSl 10 RCon w S [vC] x.1 ∧ RSl 2 RGrp w S [vG] x.2.1 ∧ RSl 2 RUsr w S [vU] x.2.2.1 ∧ RSl 3 RAcc w S [vA] x.2.2.2.1 ∧
    RArr 10 1 RStr w S bs x.2.2.2.2 := by
  obtain ⟨l1, h1, h⟩ := h
  obtain ⟨l2, h2, h⟩ := h
  obtain ⟨l3, h3, h⟩ := h
  obtain ⟨l4, h4, h⟩ := h
  match hcs : cs.toList, l1, l2, l3, l4 with
  | a :: b :: c :: d :: bs, _, _, _, _ =>
    rw [hcs] at h1 h2 h3 h4 h
    exact ⟨a, b, c, d, bs, by rw [← hcs], by simpa using h1, by simpa using h2, by simpa using h3, by simpa using h4, by simpa using h⟩
  | [], h, _, _, _ => simp [hcs] at h
  | [_], _, h, _, _ => simp [hcs] at h
  | [_, _], _, _, h, _ => simp [hcs] at h
  | [_, _, _], _, _, _, h => simp [hcs] at h
theorem conf_mk {vC vG vU vA : Value} {bs : List Value} {x : C} (h1 : RSl 10 RCon w S [vC] x.1) (h2 : RSl 2 RGrp w S [vG] x.2.1) (h3 : RSl 2 RUsr w S [vU] x.2.2.1) (h4 : RSl 3 RAcc w S [vA] x.2.2.2.1) (h5 : RArr 10 1 RStr w S bs x.2.2.2.2) :
    RConf w S (vC :: vG :: vU :: vA :: bs) x := ⟨by simp, h1, by simp, h2, by simp, h3, by simp, h4, h5⟩
theorem arr_get {bs : List Value} {l : List Str} (h : RArr 10 1 RStr w S bs l) : bs.length = 10 ∧ ∀ i, i < 10 → ∃ s : Str, bs[i]? = some (.string ⟨s.toArray⟩) ∧ s.length ≤ maxLen := by
  obtain ⟨h1, h2, h3⟩ := h
  refine ⟨by omega, fun i hi => ?_⟩
  obtain ⟨h4, h5⟩ := h3 i (by omega)
  refine ⟨_, ?_, h5⟩
  have : ((bs.drop (i * 1)).take 1)[0]? = bs[i]? := by simp
  rw [← this, h4]; rfl
theorem arr_mk {bs : List Value} (h1 : bs.length = 10) (h : ∀ i, i < 10 → ∃ s : Str, bs[i]? = some (.string ⟨s.toArray⟩) ∧ s.length ≤ maxLen) : ∃ l, RArr 10 1 RStr w S bs l := by
  obtain ⟨l, hl, hp⟩ := list_of_pos (p := fun i (s : Str) => bs[i]? = some (.string ⟨s.toArray⟩) ∧ s.length ≤ maxLen) 10 h
  refine ⟨l, hl, by omega, fun i hi => ?_⟩
  obtain ⟨h2, h3⟩ := hp i hi
  refine ⟨?_, h3⟩
  rw [Nat.mul_one, List.take_one, List.head?_drop, h2]; rfl
end
/-- 's[:j]' of a text. -/
theorem slice_upto {P : Program} (w : World) (T : TypeId) (hT : P.underlying T = some .string) (s : Str) (i : Int) (a : Nat) (hi : i = a) (h : a ≤ s.length) :
    (Instr.slice T (.string ⟨s.toArray⟩) none (some (.int .i64 i)) none).run P w = .ok (.string ⟨(s.take a).toArray⟩) w := by
  rw [run_slice_string_to_if w T ⟨s.toArray⟩ .i64 i hT, if_pos ⟨by omega, by rw [hi]; show (a : Int) ≤ ((s.toArray.size : Nat) : Int); simp; omega⟩]
  rw [ByteArray.extract_mk, show i.toNat = a by omega]
  simp
/-- A text, cut. -/
def cutS (s : Str) : Str := s.take 40
theorem cut40_any (s : Str) (w : World) : Calls Try.prog 7 #[.string ⟨s.toArray⟩] w fun e w' => e = .returned (.string ⟨(cutS s).toArray⟩) ∧ w = w' := by
  by_cases h : 40 < s.length
  · have hsl := fun W : World => slice_upto (P := Try.prog) W 9 Try.underlying9 s 40 40 rfl (by omega)
    go_enter Try.func7, Try.ntmps7
    go_wp2
    go_ret
    refine ⟨?_, rfl⟩
    exact ret_str rfl
  · go_enter Try.func7, Try.ntmps7
    go_wp2
    go_ret
    refine ⟨?_, rfl⟩
    exact ret_str (by unfold cutS; rw [List.take_of_length_le (by omega)])
end Conf
end Go.Proofs.Ytompphakagoaeaa
