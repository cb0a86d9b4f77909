/- Contracts of slices.Index, slices.Delete and slices.Clone, at slices of integers and of strings. -/
import Derived.Test.YtepnjmgacfjhiaaRows
import Derived.Test.YtepnjmgacfjhiaaOwn
import Derived.WalkKit
import Derived.Outline
import Derived.WalkSpells
import Derived.BigQuiet
import Derived.Deep.QuietTactic
import Derived.Deep.RegionLaw
import Derived.Deep.AppendLies
import Derived.Lib.SliceRun
namespace Go.Proofs.Ytepnjmgacfjhiaa
open Go.RowKit
set_option linter.unusedVariables false
set_option linter.unusedSimpArgs false
/-- The place of x in l; -1: it is not there. -/
def place {α : Type} [BEq α] (l : List α) (x : α) : Int := match l.findIdx? (· == x) with | some i => (i : Int) | none => -1
theorem place_at {α : Type} [BEq α] {l : List α} {x : α} {k : Nat} (h : k < l.length) (hx : (l[k] == x) = true) (hn : ∀ j (h : j < l.length), j < k → (l[j] == x) = false) : place l x = (k : Int) := by
  have : l.findIdx? (· == x) = some k := by
    rw [List.findIdx?_eq_some_iff_getElem]
    exact ⟨h, by simpa using hx, fun j hj => by simpa using hn j (by omega) hj⟩
  simp [place, this]
theorem place_none {α : Type} [BEq α] {l : List α} {x : α} (hn : ∀ j (h : j < l.length), (l[j] == x) = false) : place l x = -1 := by
  have : l.findIdx? (· == x) = none := by
    rw [List.findIdx?_eq_none_iff]
    intro y hy
    obtain ⟨j, h, rfl⟩ := List.getElem_of_mem hy
    exact hn j h
  simp [place, this]
theorem place_cases {α : Type} [BEq α] (l : List α) (x : α) : (place l x = -1 ∧ ∀ j (h : j < l.length), (l[j] == x) = false) ∨ ∃ k, ∃ h : k < l.length, place l x = (k : Int) ∧ (l[k] == x) = true ∧ ∀ j (h : j < l.length), j < k → (l[j] == x) = false := by
  cases hf : l.findIdx? (· == x) with
  | none =>
    rw [List.findIdx?_eq_none_iff] at hf
    exact .inl ⟨place_none fun j h => hf _ (List.getElem_mem h), fun j h => hf _ (List.getElem_mem h)⟩
  | some k =>
    rw [List.findIdx?_eq_some_iff_getElem] at hf
    obtain ⟨h, h1, h2⟩ := hf
    have h3 : ∀ j (h : j < l.length), j < k → (l[j] == x) = false := fun j h hj => by simpa using h2 j hj
    exact .inr ⟨k, h, place_at h h1 h3, h1, h3⟩
namespace Sint
set_option maxHeartbeats 400000 in
theorem index_any (v : Value) (l : List Int) (x : Int) (w : World) (S : Nat → Prop) (hv : RSl 1 (RInt .i64) w S [v] l) : Calls Try.prog 103 #[v, .int .i64 x] w fun e w' => e = .returned (.int .i64 (place l x)) ∧ w = w' := by
  obtain ⟨A, cap, rfl, hc1, hc2, hel⟩ := hv.ints
  clear hv
  unfold maxLen at hc2
  have Hel := Lib.hid hel
  clear hel
  go_enter Try.func103, Try.ntmps103
  go_wp2
  go_loop [5, 8] (fun _ i => ∃ k : Nat, i = .int .i64 k ∧ k ≤ l.length ∧ Hid (∀ j (h : j < l.length), j < k → (l[j] == x) = false)) (fun _ i => l.length - (intOf i).toNat)
  case atStart => exact ⟨0, rfl, by omega, fun j _ h => absurd h (by omega)⟩
  case round =>
    obtain ⟨k, rfl, hk, hd⟩ := hrel
    by_cases hlt : k < l.length
    · obtain ⟨ad, rfl, _, hcell, _⟩ := Hel.out k hlt
      cases hx : l[k] == x
      · have hn : Hid (∀ j (h : j < l.length), j < k + 1 → (l[j] == x) = false) := by
          intro j h hj
          by_cases e : j = k
          · subst e; exact hx
          · exact hd.out j h (by omega)
        have hx' : (x == l[k]) = false := by rw [beq_eq_false_iff_ne] at hx ⊢; exact fun e => hx e.symm
        clear hx hd
        go_wp2
        go_round
        case rel => exact ⟨k + 1, by go_num, by omega, hn⟩
        case measure => simp [intOf]; omega
      · have hx' : (x == l[k]) = true := by rw [beq_iff_eq] at hx ⊢; exact hx.symm
        have hf : Hid (place l x = (k : Int)) := place_at hlt hx hd.out
        clear hx hd
        go_wp2
        go_ret
        exact ⟨ret_int hf.out.symm, rfl⟩
    · have hf : Hid (place l x = -1) := place_none fun j h => hd.out j h (by omega)
      clear hd
      go_wp2
      go_ret
      exact ⟨ret_int hf.out.symm, rfl⟩
theorem infoE : (Try.prog.info? 3).map (fun i => (i.zero, i.size, i.bytes)) = some (some (.int .i64 0), 1, 8) := by kernel_rfl
theorem zeroE : ∀ w, (zeroValue 3).run Try.prog w = .ok (.int .i64 0) w := fun w => by kernel_rfl
def enc (x : Int) : Value := .int .i64 x
theorem enc_one (l : List Int) : ∀ u ∈ l.map enc, u.oneCell' = true := by
  intro u hu
  obtain ⟨x, _, rfl⟩ := List.mem_map.1 hu
  rfl
set_option maxHeartbeats 1600000 in
set_option maxRecDepth 1000000 in
theorem delete_any (v : Value) (l : List Int) (i base : Nat) (w : World) (hown : w.ownsRow base 3 1 v l.length (l.map enc)) (hi : i < l.length) :
    Calls Try.prog 102 #[v, .int .i64 i, .int .i64 (i + 1)] w fun e w' => ∃ v', e = .returned v' ∧ w'.ownsRow base 3 1 v' (l.eraseIdx i).length ((l.eraseIdx i).map enc) ∧ v'.ownBlock = v.ownBlock ∧ Fr (fun k => v.ownBlock = some k) w w' := by
  obtain ⟨i0, hi0, hz0, hz1, hz2⟩ := info_parts infoE
  have hcl0 : ∀ g cap, v = .slice (some ⟨g, 0, none⟩) l.length cap → ∀ j (h : j < l.length), w.cell? ⟨g, j, none⟩ = some (enc l[j]) := by
    intro g cap hv j h
    have := hown.cells (g := g) (by rw [hv]; rfl) j (enc l[j]) (by simp [h])
    simpa [Addr.add_lit] using this
  obtain ⟨g, cap, cur, rfl, hb, hg, hnc, hcm, hcs, htk⟩ : ∃ g cap cur, v = .slice (some ⟨g, 0, none⟩) l.length cap ∧ base ≤ g ∧ Blk w g 3 cur ∧ l.length ≤ cap ∧ cap ≤ maxLen ∧ cur.size = cap * 1 ∧ cur.toList.take (l.length * 1) = l.map enc := by
    rcases hown.2 with ⟨_, h0⟩ | h
    · omega
    · exact h
  have hc := hcl0 g cap rfl
  clear hcl0
  rw [Nat.mul_one] at hcs htk
  unfold maxLen at hcm
  obtain ⟨news, hnews⟩ : ∃ news, news = (l.drop (i + 1)).map enc := ⟨_, rfl⟩
  have hlen : news.length = l.length - (i + 1) := by rw [hnews]; simp
  have hget : ∀ t (h : t < l.length - (i + 1)), news[t]? = some (enc (l[i + 1 + t]'(by omega))) := by
    intro t h
    rw [hnews, List.getElem?_map, List.getElem?_drop, List.getElem?_eq_getElem (by omega)]
    rfl
  obtain ⟨A, hA, hsrc⟩ : ∃ A : Addr, (if cap = i + 1 then some (⟨g, 0, none⟩ : Addr) else some ⟨g, i + 1, none⟩) = some A ∧ Hid (∀ t u, news[t]? = some u → w.drew.cell? (A.add t) = some u) := by
    by_cases h : cap = i + 1
    · refine ⟨⟨g, 0, none⟩, by simp [h], fun t u hu => ?_⟩
      have h0 : news.length = 0 := by rw [hlen]; omega
      rw [List.length_eq_zero_iff.1 h0] at hu
      simp at hu
    · refine ⟨⟨g, i + 1, none⟩, by simp [h], fun t u hu => ?_⟩
      have ht : t < l.length - (i + 1) := by
        have := (List.getElem?_eq_some_iff.1 hu).1
        rwa [hlen] at this
      rw [hget t ht] at hu
      rw [Addr.add_lit]
      exact (hc (i + 1 + t) (by omega)).trans hu
  have s1 : Hid (news.length = (l.length - (i + 1)) * 1) := by rw [Nat.mul_one]; exact hlen
  have s2 : Hid (∀ u ∈ news, u.oneCell' = true) := by rw [hnews]; exact enc_one _
  have s3 : Hid (∀ t, t < news.length → (w.drew.cell? ⟨g, 0 + i * 1 + t, none⟩).isSome = true ∧ w.drew.frozen? ⟨g, 0 + i * 1 + t, none⟩ = false) := by
    intro t ht
    rw [hlen] at ht
    rw [Nat.mul_one, Nat.zero_add]
    exact ⟨by show (w.cell? _).isSome = true; rw [hc (i + t) (by omega)]; rfl, hg.frozen _⟩
  obtain ⟨W1, hW1⟩ : ∃ W1, W1 = w.drew.setCells g (0 + i * 1) news := ⟨_, rfl⟩
  have hB1 : Blk W1 g 3 (cur.toList.take i ++ news ++ cur.toList.drop (i + news.length)).toArray := by
    rw [hW1]
    have := Blk.puts (w := w.drew) news (0 + i * 1) (cs := cur) hg (by rw [hcs]; omega)
    simpa using this
  have hF1 : Fr (fun k => some g = some k) w W1 := by rw [hW1]; exact fr_setCells _ _ _ ((Fr.refl _ _).drew) (.inl rfl)
  have hcl : ∀ ty, (Builtin.clear_ #[30] ty #[.slice (some ⟨g, i + (l.length - (i + 1)), none⟩) (l.length - (i + (l.length - (i + 1)))) (cap - (i + (l.length - (i + 1))))]).run Try.prog W1 = .ok (.tuple #[]) (W1.setCells g (i + (l.length - (i + 1))) (List.replicate (l.length - (i + (l.length - (i + 1)))) (.int .i64 0))) :=
    fun ty => Lib.run_clear_slice W1 _ _ ty _ Try.underlying30 zeroE rfl rfl g (i + (l.length - (i + 1))) _ _ (by omega) (fun t ht => by rw [hB1.cell, Array.getElem?_eq_getElem (by simp; omega)]; rfl) (fun t ht => hB1.frozen _)
  have HB1 := Lib.hid hB1
  have HF1 := Lib.hid hF1
  have hW : Hid (W1 = w.drew.setCells g (0 + i * 1) news) := hW1
  have hic : i ≤ cap := by omega
  have hjc : i + 1 ≤ cap := by omega
  have hp0 : (0 : Int) ≤ (i : Int) + 1 := by omega
  have hp1 : (i : Int) + 1 ≤ (l.length : Int) := by omega
  have hp2 : ((i : Int) + 1).toNat = i + 1 := by omega
  have Hn := Lib.hid hnews
  have Hl := Lib.hid hlen
  have Hcs := Lib.hid hcs
  have Htk := Lib.hid htk
  clear hW1 hB1 hF1 hg hc hget hnews hlen hown hcs htk
  go_enter Try.func102, Try.ntmps102
  go_wp2_with fail
  go_region_law (refine step_append_room rfl (.tmp 22) (.tmp 25) 30 rfl 3 i0 1 Try.underlying30 hi0 hz1 g 0 i cap (by simp [Act.eval, Act.put]) A (l.length - (i + 1)) (cap - (i + 1)) news (by simp [Act.eval, Act.put]) s1.out hsrc.out s2.out (by omega) s3.out ?_; rw [← hW.out])
  go_wp2
  go_ret
  have hn1 : (l.eraseIdx i).length = i + (l.length - (i + 1)) := by rw [List.length_eraseIdx_of_lt hi]; omega
  refine ⟨_, rfl, ⟨by simp, .inr ⟨g, cap, _, by rw [hn1]; rfl, hb, Blk.puts _ _ HB1.out ?_, by rw [hn1]; omega, by unfold maxLen; omega, ?_, ?_⟩⟩, rfl, fr_setCells _ _ _ HF1.out (.inl rfl)⟩
  · have h1 := Hl.out; have h2 := Hcs.out; simp; omega
  · have h1 := Hl.out; have h2 := Hcs.out; simp; omega
  · have h1 := Hl.out; have h2 := Hcs.out; have h3 := Htk.out; have h4 := Hn.out
    have h5 : cur.toList.take i = (l.take i).map enc := by
      rw [List.map_take, ← h3, List.take_take, Nat.min_eq_left (by omega)]
    rw [hn1, Nat.mul_one, List.eraseIdx_eq_take_drop_succ, List.map_append, ← h4, ← h5]
    simp only []
    rw [List.append_assoc, List.take_append_of_le_length (by simp; omega), List.take_take, Nat.min_self, List.take_append_of_le_length (by simp; omega)]
    exact List.take_of_length_le (by simp; omega)
theorem sl_cells {w : World} {S : Nat → Prop} {ad : Addr} {cap n : Nat} {l : List Int} (hv : RSl 1 (RInt .i64) w S [.slice (some ad) n cap] l) : ∀ j u, (l.map enc)[j]? = some u → w.cell? (ad.add j) = some u := by
  obtain ⟨A, cap', hA, _, _, hel⟩ := hv.ints
  injection hA with hA _ _
  subst hA
  intro j u hu
  have hj : j < l.length := by
    have := (List.getElem?_eq_some_iff.1 hu).1
    simpa using this
  obtain ⟨ad', e, _, hc, _⟩ := hel j hj
  injection e with e
  subst e
  rw [hc, ← hu]
  simp [hj, enc]
theorem clone_any (v : Value) (l : List Int) (w : World) (S : Nat → Prop) (hv : RSl 1 (RInt .i64) w S [v] l) (hlen : l.length * 8 ≤ 140737488355328) :
    Calls Try.prog 101 #[v] w fun e w' => ∃ v', e = .returned v' ∧ w'.ownsRow w.heap.size 3 1 v' l.length (l.map enc) ∧ Fr No w w' := by
  obtain ⟨i0, hi, hz0, hz1, hz2⟩ := info_parts infoE
  obtain ⟨A, cap, rfl, hc1, hc2, hel⟩ := hv.ints
  cases A with
  | none =>
    have hl : l = [] := by
      cases l with
      | nil => rfl
      | cons a l => obtain ⟨ad, h, _⟩ := hel 0 (by simp); cases h
    subst hl
    clear hv hel hlen
    have q := fun (W : World) (a : Option Addr) (n c n' c' : Nat) => Lib.run_eql_slice_nil (P := Try.prog) W 30 3 a n c n' c' Try.underlying30
    go_enter Try.func101, Try.ntmps101
    go_wp2
    go_ret
    exact ⟨_, rfl, World.ownsRow_nil _ _ _ _, Fr.refl _ _⟩
  | some ad =>
    have Hc := Lib.hid (sl_cells hv)
    have h1 := Lib.hid (enc_one l)
    clear hv hel
    have q := fun (W : World) (a : Option Addr) (n c n' c' : Nat) => Lib.run_eql_slice_nil (P := Try.prog) W 30 3 a n c n' c' Try.underlying30
    go_enter Try.func101, Try.ntmps101
    go_wp2_with (at_builtin; refine wpList_append_own _ rfl _ _ 30 rfl w.heap.size 3 i0 (.int .i64 0) 1 8 Try.underlying30 hi hz0 hz1 hz2 rfl (by decide) _ 0 [] rfl (World.ownsRow_lit w #[] 0 (Nat.le_refl _) (Nat.zero_le _) rfl) ad l.length cap (l.map enc) rfl (by simp) (fun j u hu => (World.cell?_alloc_lt w _ _ (World.block_lt_of_cell? w _ (Hc.out j u hu))).trans (Hc.out j u hu)) h1.out (by unfold maxLen at hc2 ⊢; omega) (by omega) (by simp) ?_; intro v' w1 hown' hgrow _)
    go_ret
    rw [Nat.zero_add, List.nil_append] at hown'
    exact ⟨_, rfl, hown', ((Fr.refl _ _).alloc _).grown hgrow (fun k hk => by have hk' : some w.heap.size = some k := hk; injection hk' with hk'; subst hk'; exact .inr (Nat.le_refl _))⟩
end Sint
namespace Sstr
theorem infoE : (Try.prog.info? 9).map (fun i => (i.zero, i.size, i.bytes)) = some (some (.string ByteArray.empty), 1, 16) := by kernel_rfl
theorem zeroE : ∀ w, (zeroValue 9).run Try.prog w = .ok (.string ByteArray.empty) w := fun w => by kernel_rfl
def enc (x : Str) : Value := .string ⟨x.toArray⟩
end Sstr
end Go.Proofs.Ytepnjmgacfjhiaa
