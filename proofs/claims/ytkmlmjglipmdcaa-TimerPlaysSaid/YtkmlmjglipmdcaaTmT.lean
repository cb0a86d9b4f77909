/- Package timer's timer in memory, and its methods New, made, Len, At, Next. -/
import Derived.Test.YtkmlmjglipmdcaaTmR
import Derived.Test.YtkmlmjglipmdcaaTmK
import Derived.Test.YtkmlmjglipmdcaaTmL
namespace Go.Proofs.Ytkmlmjglipmdcaa
open Go.RowKit
set_option linter.unusedVariables false
set_option linter.unusedSimpArgs false
namespace Tm
open Sls
structure TQ (w : World) (F : Nat → Prop) (b : Nat) (most : Int) (P : List E) (M : List (Int × Nat)) (v : Value) (mp : Nat) : Prop where
  pp : PP w b (.int .i64 most) (.map (some mp)) v P
  mat : MAt w mp M
  perm : (P.map (fun x => (x.2.1, x.1))).Perm M
  nodup : (P.map (fun x => x.2.1)).Nodup
  ok : Ok (at' P) P.length
  mb : mp ≠ b
  mf : ¬ Foot v P mp
  fb : F b
  fm : F mp
  ff : ∀ k, Foot v P k → F k
  lt : ∀ k, F k → k < w.heap.size
  len : (P.length : Int) ≤ most
  most : 1 ≤ most ∧ most ≤ 4096
/-- A timer at b, all of it in the blocks F: who is waited for, the earliest first. -/
def TAt (w : World) (F : Nat → Prop) (b : Nat) (most : Int) (L : List A2) : Prop := ∃ P M v mp, TQ w F b most P M v mp ∧ (P.map (·.2)).Perm L ∧ Srt L
section
variable {w w' : World} {F : Nat → Prop} {b mp : Nat} {most : Int} {P : List E} {M : List (Int × Nat)} {v : Value} {L : List A2}
theorem TQ.fr {H : Nat → Prop} (h : TQ w F b most P M v mp) (hf : Fr H w w') (hn : ∀ k, F k → ¬ H k) : TQ w' F b most P M v mp :=
  ⟨h.pp.fr hf (hn _ h.fb) (fun k hk => hn k (h.ff k hk)), h.mat.fr hf (hn _ h.fm), h.perm, h.nodup, h.ok, h.mb, h.mf, h.fb, h.fm, h.ff, fun k hk => Nat.lt_of_lt_of_le (h.lt k hk) hf.size, h.len, h.most⟩
theorem TQ.no (h : TQ w F b most P M v mp) (hf : Fr No w w') : TQ w' F b most P M v mp := h.fr hf (fun _ _ h => h)
theorem TAt.fr {H : Nat → Prop} (h : TAt w F b most L) (hf : Fr H w w') (hn : ∀ k, F k → ¬ H k) : TAt w' F b most L := by
  obtain ⟨P, M, v, mp, h, h1, h2⟩ := h
  exact ⟨P, M, v, mp, h.fr hf hn, h1, h2⟩
theorem TAt.no (h : TAt w F b most L) (hf : Fr No w w') : TAt w' F b most L := h.fr hf (fun _ _ h => h)
theorem TAt.lt (h : TAt w F b most L) : ∀ k, F k → k < w.heap.size := by
  obtain ⟨P, M, v, mp, h, _⟩ := h
  exact h.lt
theorem TAt.srt (h : TAt w F b most L) : Srt L := by
  obtain ⟨P, M, v, mp, _, _, h⟩ := h
  exact h
theorem TQ.ids (h : TQ w F b most P M v mp) : (ids (P.map (·.2))).Nodup := by
  unfold Tm.ids
  rw [List.map_map]
  exact h.nodup
theorem TAt.ids (h : TAt w F b most L) : (ids L).Nodup := by
  obtain ⟨P, M, v, mp, h, h1, _⟩ := h
  exact (List.Perm.nodup_iff (h1.map (fun m : A2 => m.1))).1 h.ids
theorem TAt.len (h : TAt w F b most L) : (L.length : Int) ≤ most ∧ 1 ≤ most ∧ most ≤ 4096 := by
  obtain ⟨P, M, v, mp, h, h1, _⟩ := h
  have := h1.length_eq
  rw [List.length_map] at this
  exact ⟨by rw [← this]; exact h.len, h.most⟩
theorem TQ.keys (h : TQ w F b most P M v mp) : (M.map (·.1)).Nodup := by
  have := (List.Perm.nodup_iff (h.perm.map (fun m : Int × Nat => m.1))).1 (by rw [List.map_map]; exact h.nodup)
  exact this
theorem TQ.c0 (h : TQ w F b most P M v mp) : w.cell? ⟨b, 0, none⟩ = some (.int .i64 most) := h.pp.blk.cell 0
theorem TQ.c2 (h : TQ w F b most P M v mp) : w.cell? ⟨b, 2, none⟩ = some (.map (some mp)) := h.pp.blk.cell 2
theorem TQ.mlen (h : TQ w F b most P M v mp) : M.length = P.length := by rw [← h.perm.length_eq, List.length_map]
theorem map_ne (w : World) (r : Nat) : (binOp .neq 57 (.map (some r)) (.map none)).run Try.prog w = .ok (.bool true) w := by
  have := run_neq_map_nil (P := Try.prog) w 57 _ _ (some r) umap
  simpa using this
/-- Nobody of that name. -/
theorem TQ.lacks (h : TQ w F b most P M v mp) {id : Int} (hp : (P.map (·.2)).Perm L) (hh : hasId L id = false) : ∀ p ∈ M, p.1 ≠ id := fun p hm e => by
  have h1 := h.perm.mem_iff.2 hm
  obtain ⟨x, hx, rfl⟩ := List.mem_map.1 h1
  have : hasId L id = true := has_iff.2 (List.mem_map.2 ⟨x.2, hp.mem_iff.1 (List.mem_map.2 ⟨x, hx, rfl⟩), e⟩)
  rw [hh] at this
  cases this
/-- Somebody of that name: where they stand in the pile, and in the map. -/
theorem TQ.found (h : TQ w F b most P M v mp) {id : Int} (hp : (P.map (·.2)).Perm L) (hh : hasId L id = true) : ∃ i j, ∃ hi : i < P.length, ∃ hj : j < M.length, P[i].2.1 = id ∧ M[j] = (id, P[i].1) := by
  obtain ⟨m, hm, he⟩ := List.mem_map.1 (has_iff.1 hh)
  obtain ⟨x, hx, rfl⟩ := List.mem_map.1 (hp.mem_iff.2 hm)
  obtain ⟨i, hi, rfl⟩ := List.getElem_of_mem hx
  have hM : (P[i].2.1, P[i].1) ∈ M := h.perm.mem_iff.1 (List.mem_map.2 ⟨_, List.getElem_mem hi, rfl⟩)
  obtain ⟨j, hj, hje⟩ := List.getElem_of_mem hM
  exact ⟨i, j, hi, hj, he, by rw [hje, he]⟩
theorem made_any (h : TQ w F b most P M v mp) : Calls Try.prog 19 #[.pointer (some ⟨b, 0, none⟩)] w fun e w' => e = .returned (.bool true) ∧ w = w' := by
  have c2 := h.c2
  have hm := fun W => map_ne W mp
  clear h
  go_enter Try.func19, Try.ntmps19
  go_wp2
  go_ret
  exact ⟨rfl, rfl⟩
theorem made_nil (w : World) : Calls Try.prog 19 #[.pointer none] w fun e w' => e = .returned (.bool false) ∧ w = w' := by
  go_enter Try.func19, Try.ntmps19
  go_wp2
  go_ret
  exact ⟨rfl, rfl⟩
theorem new_no (most : Int) (h : most < 1 ∨ 4096 < most) (w : World) : Calls Try.prog 7 #[.int .i64 most] w fun e w' => e = .returned (.tuple #[.pointer none, .int .i64 2]) ∧ w = w' := by
  rcases h with h | h
  · go_enter Try.func7, Try.ntmps7
    go_wp2
    go_ret2
    exact ⟨rfl, rfl⟩
  · by_cases h1 : most < 1
    · omega
    · go_enter Try.func7, Try.ntmps7
      go_wp2
      go_ret2
      exact ⟨rfl, rfl⟩
def Made (most : Int) (w : World) (e : Ending) (w' : World) : Prop := ∃ b, e = .returned (.tuple #[.pointer (some ⟨b, 0, none⟩), .int .i64 0]) ∧ TAt w' (New w w') b most [] ∧ Fr No w w'
theorem new_yes (most : Int) (h1 : 1 ≤ most) (h2 : most ≤ 4096) (w : World) : Calls Try.prog 7 #[.int .i64 most] w (Made most w) := by
  have hmm := @run_makeMap Try.prog
  go_enter Try.func7, Try.ntmps7
  go_wp2
  go_ret2
  have f1 := ((Fr.refl No w).alloc (.map #[] 0)).alloc (.cells #[.int .i64 most, .slice none 0 0, .map (some w.heap.size)] 61)
  have hz : (w.alloc (.map #[] 0)).heap.size = w.heap.size + 1 := by simp
  have hb := Blk.new (w.alloc (.map #[] 0)) 61 #[.int .i64 most, .slice none 0 0, .map (some w.heap.size)]
  rw [hz] at hb
  have hm : MAt ((w.alloc (.map #[] 0)).alloc (.cells #[.int .i64 most, .slice none 0 0, .map (some w.heap.size)] 61)) w.heap.size [] :=
    ⟨#[], 0, by rw [heap_alloc_old _ _ (by rw [hz]; omega)]; exact heap_alloc_new w _, rfl⟩
  have hz2 : ((w.alloc (.map #[] 0)).alloc (.cells #[.int .i64 most, .slice none 0 0, .map (some w.heap.size)] 61)).heap.size = w.heap.size + 2 := by simp
  have hnf : ∀ k, ¬ Foot (.slice none 0 0) [] k := fun k hk => by
    rcases hk with g | ⟨x, hx, _⟩
    · cases g
    · cases hx
  refine ⟨w.heap.size + 1, rfl, ⟨[], [], .slice none 0 0, w.heap.size, ⟨⟨hb, World.ownsRow_nil _ _ _ _, fun i hi => by simp at hi, by simp, fun x hx => (by cases hx), fun g => (by cases g)⟩, hm, List.Perm.refl _, by simp, fun k _ hk => by simp at hk, by omega, hnf _, ⟨by omega, by omega⟩, ⟨Nat.le_refl _, by omega⟩, fun k hk => absurd hk (hnf k), fun k hk => hk.2, by simp; omega, ⟨h1, h2⟩⟩, List.Perm.refl _, List.Pairwise.nil⟩, f1⟩
theorem len_all (h : TAt w F b most L) : Calls Try.prog 10 #[.pointer (some ⟨b, 0, none⟩)] w fun e w' => e = .returned (.int .i64 L.length) ∧ w = w' := by
  obtain ⟨P, M, v, mp, h, hp, _⟩ := h
  have HM := Lib.hid (made_any h)
  have c2 := h.c2
  have hl := len_run h.mat 3
  have e : L.length = M.length := by rw [h.mlen, ← hp.length_eq, List.length_map]
  rw [e]
  clear h hp e
  go_enter Try.func10, Try.ntmps10
  go_wp2_with fail
  refine HM.out.mono ?_
  rintro e w0 ⟨rfl, hw⟩
  subst hw
  go_wp2_with fail
  go_ret
  exact ⟨rfl, rfl⟩
theorem len_nil (w : World) : Calls Try.prog 10 #[.pointer none] w fun e w' => e = .returned (.int .i64 0) ∧ w = w' := by
  have HM := Lib.hid (made_nil w)
  go_enter Try.func10, Try.ntmps10
  go_wp2_with fail
  refine HM.out.mono ?_
  rintro e w0 ⟨rfl, hw⟩
  subst hw
  go_wp2_with fail
  go_ret
  exact ⟨rfl, rfl⟩
theorem atR_yes {x : A2} (hn : (ids L).Nodup) (h : x ∈ L) : atR L x.1 = (x.2, true) := by
  unfold atR
  cases hf : L.find? (fun m => m.1 == x.1) with
  | none => exact absurd (List.find?_eq_none.1 hf x h) (by simp)
  | some m =>
    have h1 := List.find?_some hf
    have h2 : m = x := srt_ids hn (List.mem_of_find?_eq_some hf) h (by simpa using h1)
    rw [h2]
theorem atR_no {id : Int} (h : hasId L id = false) : atR L id = (0, false) := by
  unfold atR
  have : L.find? (fun m => m.1 == id) = none := by
    rw [List.find?_eq_none]
    intro m hm
    have : ¬ hasId L id = true := by rw [h]; simp
    rw [has_iff] at this
    simp
    rintro rfl
    exact this (List.mem_map.2 ⟨m, hm, rfl⟩)
  rw [this]
set_option maxRecDepth 100000 in
theorem at_any (h : TAt w F b most L) (id : Int) : Calls Try.prog 17 #[.pointer (some ⟨b, 0, none⟩), .int .i64 id] w fun e w' => e = .returned (.tuple #[.int .i64 (atR L id).1, .bool (atR L id).2]) ∧ w = w' := by
  have hn := h.ids
  obtain ⟨P, M, v, mp, h, hp, _⟩ := h
  have HM := Lib.hid (made_any h)
  have c2 := h.c2
  cases hh : hasId L id
  · rw [atR_no hh]
    have hl := look_no h.mat (h.lacks hp hh)
    clear h hp hh hn
    go_enter Try.func17, Try.ntmps17
    go_wp2_with fail
    refine HM.out.mono ?_
    rintro e w0 ⟨rfl, hw⟩
    subst hw
    go_wp2_with fail
    go_ret2
    exact ⟨rfl, rfl⟩
  · obtain ⟨i, j, hi, hj, h1, h2⟩ := h.found hp hh
    have hx : P[i].2 ∈ L := hp.mem_iff.1 (List.mem_map.2 ⟨_, List.getElem_mem hi, rfl⟩)
    have ha := atR_yes hn hx
    rw [h1] at ha
    rw [ha]
    have hl := look_yes h.mat h.keys hj
    rw [h2] at hl
    have a1 := (h.pp.ent i hi).cell 1
    simp only [List.getElem?_toArray, List.getElem?_cons_zero, List.getElem?_cons_succ] at a1
    obtain ⟨eb, heb⟩ : ∃ x, x = P[i].1 := ⟨_, rfl⟩
    obtain ⟨t, ht⟩ : ∃ x, x = P[i].2.2 := ⟨_, rfl⟩
    rw [← heb] at a1 hl
    rw [← ht] at a1 ⊢
    simp only [encB] at hl
    clear h hp hh hn hi hj h1 h2 hx ha heb ht
    go_enter Try.func17, Try.ntmps17
    go_wp2_with fail
    refine HM.out.mono ?_
    rintro e w0 ⟨rfl, hw⟩
    subst hw
    go_wp2_with fail
    go_ret2
    exact ⟨rfl, rfl⟩
/-- Who comes first. -/
def headR (L : List A2) : Int × Int × Bool := match L with | [] => (0, 0, false) | x :: _ => (x.1, x.2, true)
set_option maxRecDepth 100000 in
theorem next_any (h : TAt w F b most L) : Calls Try.prog 16 #[.pointer (some ⟨b, 0, none⟩)] w fun e w' => e = .returned (.tuple #[.int .i64 (headR L).1, .int .i64 (headR L).2.1, .bool (headR L).2.2]) ∧ Fr No w w' := by
  have HL := Lib.hid (len_all h)
  obtain ⟨P, M, v, mp, h, hp, hs⟩ := h
  have hlen : P.length = L.length := by rw [← hp.length_eq, List.length_map]
  cases L with
  | nil =>
    clear h hp hs hlen
    go_enter Try.func16, Try.ntmps16
    go_wp2_with fail
    refine HL.out.mono ?_
    rintro e w0 ⟨rfl, hw⟩
    subst hw
    go_wp2_with fail
    go_ret3
    exact ⟨rfl, Fr.refl _ _⟩
  | cons y t =>
    have h0 : 0 < P.length := by rw [hlen]; simp
    obtain ⟨t', ht⟩ := root_head hp hs h.ok h0
    injection ht with ht _
    rw [at_get h0] at ht
    obtain ⟨g, c, rfl⟩ := h.pp.has h0
    have c1 := h.pp.c1
    have r0 := h.pp.cell h0
    have a0 := (h.pp.ent 0 h0).cell 0
    have a1 := (h.pp.ent 0 h0).cell 1
    rw [← ht] at a0 a1
    simp only [List.getElem?_toArray, List.getElem?_cons_zero, List.getElem?_cons_succ] at a0 a1
    obtain ⟨eb, heb⟩ : ∃ x, x = P[0].1 := ⟨_, rfl⟩
    rw [← heb] at a0 a1 r0
    obtain ⟨n, hn⟩ : ∃ n, n = P.length := ⟨_, rfl⟩
    rw [← hn] at c1 h0
    rw [List.length_cons] at HL
    show Calls _ _ _ _ fun e w' => e = .returned (.tuple #[.int .i64 y.1, .int .i64 y.2, .bool true]) ∧ Fr No w w'
    have hne : (((t.length + 1 : Nat) : Int) == 0) = false := by simp; omega
    obtain ⟨m, hm⟩ : ∃ m, m = t.length + 1 := ⟨_, rfl⟩
    rw [← hm] at HL hne
    obtain ⟨yi, yt⟩ := y
    simp only at a0 a1
    clear h hp hs hlen ht heb hn hm
    go_enter Try.func16, Try.ntmps16
    go_wp2_with fail
    refine HL.out.mono ?_
    rintro e w0 ⟨rfl, hw⟩
    subst hw
    go_wp2_with fail
    go_quiet (fail)
    all_goals
      go_wp2_with fail
      go_ret3
      exact ⟨rfl, by repeat' (first | with_reducible exact Fr.refl _ _ | with_reducible refine Fr.drew ?_ | with_reducible refine Fr.drewN ?_ _)⟩
theorem next_nil (w : World) : Calls Try.prog 16 #[.pointer none] w fun e w' => e = .returned (.tuple #[.int .i64 0, .int .i64 0, .bool false]) ∧ w = w' := by
  have HL := Lib.hid (len_nil w)
  go_enter Try.func16, Try.ntmps16
  go_wp2_with fail
  refine HL.out.mono ?_
  rintro e w0 ⟨rfl, hw⟩
  subst hw
  go_wp2_with fail
  go_ret3
  exact ⟨rfl, rfl⟩
theorem at_nil (w : World) (id : Int) : Calls Try.prog 17 #[.pointer none, .int .i64 id] w fun e w' => e = .returned (.tuple #[.int .i64 0, .bool false]) ∧ w = w' := by
  have HM := Lib.hid (made_nil w)
  go_enter Try.func17, Try.ntmps17
  go_wp2_with fail
  refine HM.out.mono ?_
  rintro e w0 ⟨rfl, hw⟩
  subst hw
  go_wp2_with fail
  go_ret2
  exact ⟨rfl, rfl⟩
end
end Tm
end Go.Proofs.Ytkmlmjglipmdcaa
