/- Package seat: rows of members: one struck, one found. Printed by gen_seats.py. -/
import Derived.Test.YtepnjmgacfjhiaaSeatP
import Derived.Test.YtepnjmgacfjhiaaSls
import Derived.Deep.RegionLaw
namespace Go.Proofs.Ytepnjmgacfjhiaa
open Go.RowKit
set_option linter.unusedVariables false
set_option linter.unusedSimpArgs false
/-- 'clear(s)', s of one element. -/
theorem run_clear_one {P : Program} (w : World) (t e ty : TypeId) (z : Value) (zs : List Value) (ht : P.underlying t = some (.slice e)) (hv : ∀ w, (zeroValue e).run P w = .ok z w) (hz : (Builtin.zeroCells z.cells 1).toList = zs) (h1 : ∀ u ∈ zs, u.oneCell' = true) (b o c : Nat)
    (hc : ∀ j, j < zs.length → (w.cell? ⟨b, o + j, none⟩).isSome = true) (hf : ∀ j, j < zs.length → w.frozen? ⟨b, o + j, none⟩ = false) :
    (Builtin.clear_ #[t] ty #[.slice (some ⟨b, o, none⟩) 1 c]).run P w = .ok (.tuple #[]) (w.setCells b o zs) := by
  have hst := run_storeCells_cells (P := P) b o zs 0 w (by simpa using hc) (by simpa using hf) h1
  simp only [Nat.add_zero] at hst
  simp [Builtin.clear_, run_underlying ht, hv, hz, hst]
namespace Seat
open Sls
def encM (m : Int × Int) : List Value := [.int .i64 m.1, .int .i64 m.2]
theorem encM_one (l : Sh) : ∀ u ∈ l.flatMap encM, u.oneCell' = true := by
  intro u hu
  obtain ⟨x, -, h⟩ := List.mem_flatMap.1 hu
  simp only [encM, List.mem_cons, List.not_mem_nil, or_false] at h
  rcases h with rfl | rfl <;> rfl
theorem fm2 (l : Sh) : (l.flatMap encM).length = l.length * 2 := by
  induction l with
  | nil => rfl
  | cons x l ih => rw [List.flatMap_cons, List.length_append, ih]; simp [encM]; omega
theorem fmTake (l : Sh) (i : Nat) : (l.take i).flatMap encM = (l.flatMap encM).take (i * 2) := by
  by_cases h : i ≤ l.length
  · conv => rhs; rw [← List.take_append_drop i l, List.flatMap_append]
    rw [List.take_left' (by rw [fm2, List.length_take]; omega)]
  · rw [List.take_of_length_le (by omega), List.take_of_length_le (by rw [fm2]; omega)]
theorem infoM : (Try.prog.info? 114).map (fun i => (i.zero, i.size, i.bytes)) = some (some (.agg #[.int .i64 0, .int .i64 0]), 2, 16) := by kernel_rfl
theorem zeroM : ∀ w, (zeroValue 114).run Try.prog w = .ok (.agg #[.int .i64 0, .int .i64 0]) w := fun w => by kernel_rfl
set_option maxRecDepth 100000 in
set_option maxHeartbeats 4000000 in
theorem delete_any (v : Value) (l : Sh) (i base : Nat) (w : World) (hown : w.ownsRow base 114 2 v l.length (l.flatMap encM)) (hi : i < l.length) (hlm : l.length ≤ 4096) :
    Calls Try.prog 57 #[v, .int .i64 i, .int .i64 (i + 1)] w fun e w' => ∃ v', e = .returned v' ∧ w'.ownsRow base 114 2 v' (l.eraseIdx i).length ((l.eraseIdx i).flatMap encM) ∧ v'.ownBlock = v.ownBlock ∧ Fr (Of v) w w' := by
  obtain ⟨i0, hi0, hz0, hz1, hz2⟩ := info_parts infoM
  obtain ⟨g, cap, cur, rfl, hb, hg, hnc, hcm, hcs, htk⟩ : ∃ g cap cur, v = .slice (some ⟨g, 0, none⟩) l.length cap ∧ base ≤ g ∧ Blk w g 114 cur ∧ l.length ≤ cap ∧ cap ≤ maxLen ∧ cur.size = cap * 2 ∧ cur.toList.take (l.length * 2) = l.flatMap encM := by
    rcases hown.2 with ⟨_, h0⟩ | h
    · omega
    · exact h
  unfold maxLen at hcm
  obtain ⟨r, hr⟩ : ∃ r, r = l.length - (i + 1) := ⟨_, rfl⟩
  obtain ⟨news, hnews⟩ : ∃ news, news = (l.drop (i + 1)).flatMap encM := ⟨_, rfl⟩
  have hlen : news.length = r * 2 := by rw [hnews, fm2, List.length_drop, hr]
  have hsrc0 : ∀ t u, news[t]? = some u → w.drew.cell? ⟨g, (i + 1) * 2 + t, none⟩ = some u := by
    intro t u hu
    have e : news = (cur.toList.take (l.length * 2)).drop ((i + 1) * 2) := by
      rw [htk, hnews]
      conv => rhs; rw [← List.take_append_drop (i + 1) l, List.flatMap_append]
      rw [List.drop_left' (by rw [fm2, List.length_take]; omega)]
    rw [e, List.getElem?_drop] at hu
    have h2 := hg.cell ((i + 1) * 2 + t)
    show w.cell? _ = _
    rw [h2]
    rw [List.getElem?_take] at hu
    split at hu
    · simpa using hu
    · cases hu
  obtain ⟨A, hA, hsrc⟩ : ∃ A : Addr, (if cap = i + 1 then some (⟨g, 0, none⟩ : Addr) else some ⟨g, (i + 1) * 2, none⟩) = some A ∧ Hid (∀ t u, news[t]? = some u → w.drew.cell? (A.add t) = some u) := by
    by_cases h : cap = i + 1
    · refine ⟨⟨g, 0, none⟩, by simp [h], fun t u hu => ?_⟩
      have h0 : news.length = 0 := by rw [hlen]; omega
      rw [List.length_eq_zero_iff.1 h0] at hu
      simp at hu
    · refine ⟨⟨g, (i + 1) * 2, none⟩, by simp [h], fun t u hu => ?_⟩
      rw [Addr.add_lit]
      exact hsrc0 t u hu
  have s1 : Hid (news.length = r * 2) := hlen
  have s2 : Hid (∀ u ∈ news, u.oneCell' = true) := by rw [hnews]; exact encM_one _
  have s3 : Hid (∀ t, t < news.length → (w.drew.cell? ⟨g, 0 + i * 2 + t, none⟩).isSome = true ∧ w.drew.frozen? ⟨g, 0 + i * 2 + t, none⟩ = false) := by
    intro t ht
    rw [hlen] at ht
    exact ⟨by show (w.cell? _).isSome = true; rw [hg.cell, Array.getElem?_eq_getElem (by omega)]; rfl, hg.frozen _⟩
  obtain ⟨W1, hW1⟩ : ∃ W1, W1 = w.drew.setCells g (0 + i * 2) news := ⟨_, rfl⟩
  have hB1 : Blk W1 g 114 (cur.toList.take (i * 2) ++ news ++ cur.toList.drop (i * 2 + news.length)).toArray := by
    rw [hW1]
    have := Blk.puts (w := w.drew) news (0 + i * 2) (cs := cur) hg (by rw [hcs, hlen]; omega)
    simpa using this
  have h68 : Fr (fun k => some g = some k) w W1 := by rw [hW1]; exact fr_setCells _ _ _ ((Fr.refl _ _).drew) (.inl rfl)
  have hcl0 : ∀ ty c, (Builtin.clear_ #[103] ty #[.slice (some ⟨g, (i + r) * 2, none⟩) 1 c]).run Try.prog W1 = .ok (.tuple #[]) (W1.setCells g ((i + r) * 2) [.int .i64 0, .int .i64 0]) :=
    fun ty c => run_clear_one W1 _ _ ty _ [.int .i64 0, .int .i64 0] Try.underlying103 zeroM (by kernel_rfl) (by intro u hu; simp at hu; rw [hu]; rfl) g ((i + r) * 2) c (fun t ht => by
      have ht : t < 2 := ht
      rw [hB1.cell, Array.getElem?_eq_getElem (by simp; omega)]; rfl) (fun t ht => hB1.frozen _)
  have hcl : ∀ ty c, (Builtin.clear_ #[103] ty #[.slice (some ⟨g, (i + (l.length - (i + 1))) * 2, none⟩) (l.length - (i + (l.length - (i + 1)))) c]).run Try.prog W1 = .ok (.tuple #[]) (W1.setCells g ((i + (l.length - (i + 1))) * 2) [.int .i64 0, .int .i64 0]) := by
    intro ty c
    rw [show l.length - (i + (l.length - (i + 1))) = 1 by omega, ← hr]
    exact hcl0 ty c
  have HB1 := Lib.hid hB1
  have HQ1 := Lib.hid h68
  have hW : Hid (W1 = w.drew.setCells g (0 + i * 2) news) := hW1
  have hic : i ≤ cap := by omega
  have hjc : i + 1 ≤ cap := by omega
  have hp0 : (0 : Int) ≤ (i : Int) + 1 := by omega
  have hp1 : (i : Int) + 1 ≤ (l.length : Int) := by omega
  have hp2 : ((i : Int) + 1).toNat = i + 1 := by omega
  have hlr : l.length = i + 1 + r := by omega
  have Hn := Lib.hid hnews
  have Hl := Lib.hid hlen
  have Hcs := Lib.hid hcs
  have Htk := Lib.hid htk
  have Hlr := Lib.hid hlr
  have Hr := Lib.hid hr
  clear hW1 hB1 h68 hg hnews hlen hown hcs htk hsrc0 hlr hcl0
  go_enter Try.func57, Try.ntmps57
  go_wp2_with fail
  go_region_law (refine step_append_room rfl (.tmp 22) (.tmp 25) 103 rfl 114 i0 2 Try.underlying103 hi0 hz1 g 0 i cap (by simp [Act.eval, Act.put]) A r (cap - (i + 1)) news (by simp [Act.eval, Act.put]; omega) s1.out hsrc.out s2.out (by omega) s3.out ?_; rw [← hW.out])
  go_wp2
  go_ret
  have hn1 : (l.eraseIdx i).length = i + r := by rw [List.length_eraseIdx_of_lt hi]; have := Hlr.out; omega
  have h1 := Hl.out
  have h2 := Hcs.out
  have h3 := Htk.out
  have h4 := Hn.out
  have h6 := Hlr.out
  have h7 := Hr.out
  have h5 : cur.toList.take (i * 2) = (l.take i).flatMap encM := by
    rw [fmTake, ← h3, List.take_take, Nat.min_eq_left (by omega)]
  have hA1 : (cur.toList.take (i * 2)).length = i * 2 := by rw [List.length_take, Array.length_toList]; omega
  have hl5 : ((l.take i).flatMap encM).length = i * 2 := by rw [fm2, List.length_take]; omega
  refine ⟨_, rfl, ⟨by rw [fm2], .inr ⟨g, cap, _, by rw [hn1, h7]; rfl, hb, Blk.puts _ _ HB1.out ?_, by rw [hn1]; omega, by unfold maxLen; omega, ?_, ?_⟩⟩, rfl, fr_setCells _ _ _ HQ1.out (.inl rfl)⟩
  · simp only [List.size_toArray, List.length_append, hA1, h1, List.length_drop, Array.length_toList, h2, List.length_cons, List.length_nil]; omega
  · simp only [List.size_toArray, List.length_append, hA1, h1, List.length_drop, List.length_take, Array.length_toList, h2, List.length_cons, List.length_nil]; omega
  · rw [← h7, hn1, List.eraseIdx_eq_take_drop_succ, List.flatMap_append, ← h4, ← h5]
    simp only []
    rw [List.append_assoc, List.take_append_of_le_length (by simp only [List.size_toArray, List.length_append, hA1, h1, List.length_drop, List.length_take, Array.length_toList, h2]; omega), List.take_take, Nat.min_self, List.take_append_of_le_length (by simp only [List.length_append, hA1, h1]; omega)]
    exact List.take_of_length_le (by simp only [List.length_append, hA1, h1]; omega)
set_option maxRecDepth 100000 in
theorem mem_at {w wr : World} {S : Nat → Prop} {l : Sh} {A : Option Addr} {m c i : Nat} {R : Rd (Int × Int)} (hR : ∀ w S cs x, R w S cs x → cs = encM x) (h : RSl 2 R w S [.slice A m c] l) (hS : ∀ k, S k → k < w.heap.size) (hf : Fr No w wr) (hi : i < l.length) :
    ∃ ad, A = some ad ∧ ad.block < wr.heap.size ∧ wr.cell? (ad.add (i * 2)) = some (.int .i64 l[i].1) ∧ wr.cell? ⟨(ad.add (i * 2)).block, (ad.add (i * 2)).off + 1, none⟩ = some (.int .i64 l[i].2) := by
  obtain ⟨ad, ecs, g1, g2, g3, g4, g5⟩ := sl_at h hi
  rw [hR _ _ _ _ g5] at g4
  have hk : ∀ j, wr.cell? ((ad.add (i * 2)).add j) = w.cell? ((ad.add (i * 2)).add j) := fun j => hf.cell (by rw [block_add, block_add]; exact hS _ g2) (fun h => h)
  have e0 := (hk 0).trans (g4 0 (by omega))
  have e1 := (hk 1).trans (g4 1 (by omega))
  rw [add_zero] at e0
  exact ⟨ad, g1, Nat.lt_of_lt_of_le (hS _ g2) hf.size, e0, e1⟩
/-- A member that reads. -/
def RM : Rd (Int × Int) := fun _ _ cs x => cs = encM x
theorem RM.stable : Rd.Stable RM := ⟨fun h _ _ => h⟩
theorem own_rm {w : World} {base : Nat} {e : TypeId} {v : Value} {l : Sh} (h : w.ownsRow base e 2 v l.length (l.flatMap encM)) : RSl 2 RM w (Of v) [v] l := own_slE h (fun _ _ => rfl) (fun _ _ => rfl) (fun _ h => h)
theorem own_lt {w : World} {base : Nat} {e : TypeId} {size n : Nat} {v : Value} {xs : List Value} (h : w.ownsRow base e size v n xs) : ∀ k, Of v k → k < w.heap.size := fun k hk => (h.lt k hk).2
theorem rm_fr {w w2 : World} {S : Nat → Prop} {v : Value} {l : Sh} (h : RSl 2 RM w S [v] l) (hS : ∀ k, S k → k < w.heap.size) (hf : Fr No w w2) : RSl 2 RM w2 S [v] l := (RSl.stable RM.stable).go h (Kept.of_no hf hS) (fun _ h => h)
set_option maxRecDepth 100000 in
theorem find1_any (w : World) (BI : Nat) (m : Int × Int) (id : Int) (hc : w.cell? ⟨BI, 0, none⟩ = some (.int .i64 id)) (hlt : BI < w.heap.size) :
    Calls Try.prog 68 #[.agg #[.int .i64 m.1, .int .i64 m.2], .pointer (some ⟨BI, 0, none⟩)] w fun e w' => e = .returned (.bool (m.1 == id)) ∧ Fr No w w' := by
  have hb := (Blk.new w 114 #[.int .i64 m.1, .int .i64 m.2]).cell 0
  have hu := ((Fr.refl No w).alloc (.cells #[.int .i64 m.1, .int .i64 m.2] 114)).cell (p := ⟨BI, 0, none⟩) hlt (fun h => h) |>.trans hc
  have hne : BI ≠ w.heap.size := by omega
  go_enter Try.func68, Try.ntmps68
  go_wp2
  go_ret
  exact ⟨rfl, (Fr.refl _ _).alloc _⟩
theorem placeM_at {L : Sh} {id : Int} {k : Nat} (h : k < L.length) (hx : (L[k].1 == id) = true) (hn : ∀ j (h : j < L.length), j < k → (L[j].1 == id) = false) : placeM L id = k := by
  rcases placeM_cases L id with ⟨_, _, g⟩ | ⟨j, hj, e, _, g1, _, g⟩
  · rw [g k h] at hx; cases hx
  · rw [e]
    rcases Nat.lt_trichotomy j k with h1 | h1 | h1
    · have := hn j hj h1; rw [g1] at this; simp at this
    · rw [h1]
    · have := g k h h1; rw [hx] at this; cases this
theorem placeM_none {L : Sh} {id : Int} (hn : ∀ j (h : j < L.length), (L[j].1 == id) = false) : placeM L id = -1 := by
  rcases placeM_cases L id with ⟨e, _⟩ | ⟨j, hj, e, _, g1, _⟩
  · exact e
  · have := hn j hj; rw [g1] at this; simp at this
set_option maxRecDepth 100000 in
set_option maxHeartbeats 2000000 in
theorem index_any (v : Value) (l : Sh) (id : Int) (w : World) (S : Nat → Prop) (hS : ∀ k, S k → k < w.heap.size) (h : RSl 2 RM w S [v] l) (BI : Nat) (hc : w.cell? ⟨BI, 0, none⟩ = some (.int .i64 id)) (hlt : BI < w.heap.size) :
    Calls Try.prog 67 #[v, .func (.func 68) #[] #[.pointer (some ⟨BI, 0, none⟩)]] w fun e w' => e = .returned (.int .i64 (placeM l id)) ∧ Fr No w w' := by
  obtain ⟨A, kA, rfl, hU1, hU2⟩ := h.slice
  unfold maxLen at hU2
  have H := Lib.hid h
  have HS := Lib.hid hS
  have HC := Lib.hid hc
  clear h hS hc
  go_enter Try.func67, Try.ntmps67
  go_wp2_with fail
  go_loopw [8] (fun iv wr => ∃ k : Nat, iv = .int .i64 k ∧ k ≤ l.length ∧ Hid (∀ j (h : j < l.length), j < k → (l[j].1 == id) = false) ∧ Hid (Fr No w wr)) (fun i _ => l.length - (intOf i).toNat)
  case atStart => exact ⟨0, rfl, by omega, Lib.hid (fun j _ h => absurd h (by omega)), Lib.hid (Fr.refl _ _)⟩
  case round =>
    obtain ⟨k, rfl, hk, Hd, HF⟩ := hrel
    by_cases hk2 : k < l.length
    · obtain ⟨ad, rfl, -, k1, k2⟩ := mem_at (fun _ _ _ _ h => h) H.out HS.out HF.out hk2
      have hcl := find1_any wr BI l[k] id ((HF.out.cell (p := ⟨BI, 0, none⟩) hlt (fun h => h)).trans HC.out) (Nat.lt_of_lt_of_le hlt HF.out.size)
      obtain ⟨m, hm⟩ : ∃ m, (l[k].1 == id) = m := ⟨_, rfl⟩
      rw [hm] at hcl
      have Hcl := Lib.hid hcl
      have Hm := Lib.hid hm
      obtain ⟨a, ha⟩ : ∃ a, a = l[k].1 := ⟨_, rfl⟩
      obtain ⟨b, hb⟩ : ∃ b, b = l[k].2 := ⟨_, rfl⟩
      rw [← ha, ← hb] at Hcl
      rw [← ha] at k1
      rw [← hb] at k2
      clear hcl hm ha hb
      cases m
      · have hn2 : Hid (∀ j (h : j < l.length), j < k + 1 → (l[j].1 == id) = false) := Lib.hid (fun j h hj => by
          by_cases e : j = k
          · subst e; exact Hm.out
          · exact Hd.out j h (by omega))
        go_wp2_with fail
        refine Hcl.out.mono ?_
        rintro e w2 ⟨rfl, hf⟩
        have F2 := Lib.hid (HF.out.then_no hf)
        clear hf
        go_wp2_with fail
        go_roundw
        case rel => exact ⟨k + 1, by go_num, by omega, hn2, F2⟩
        case measure => simp [intOf]; omega
      · have hx := Lib.hid (placeM_at hk2 Hm.out Hd.out)
        go_wp2_with fail
        refine Hcl.out.mono ?_
        rintro e w2 ⟨rfl, hf⟩
        have F2 := Lib.hid (HF.out.then_no hf)
        clear hf
        go_wp2_with fail
        go_ret
        exact ⟨ret_int hx.out.symm, F2.out⟩
    · have hx := Lib.hid (placeM_none fun j h => Hd.out j h (by omega))
      clear Hd
      go_wp2_with fail
      go_ret
      exact ⟨ret_int hx.out.symm, HF.out⟩
end Seat
end Go.Proofs.Ytepnjmgacfjhiaa
