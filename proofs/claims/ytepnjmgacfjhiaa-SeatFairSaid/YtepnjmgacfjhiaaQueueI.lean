/- Contracts of package queue, at integers and at strings: what each call returns, and what the queue holds behind it. -/
import Derived.Test.YtepnjmgacfjhiaaSlices
import Derived.Deep.DeepFit
namespace Go.Proofs.Ytepnjmgacfjhiaa
open Go.RowKit
set_option linter.unusedVariables false
set_option linter.unusedSimpArgs false
theorem erase_at {α : Type} [BEq α] [LawfulBEq α] {l : List α} {x : α} {k : Nat} (h : k < l.length) (hx : (l[k] == x) = true) (hn : ∀ j (h : j < l.length), j < k → (l[j] == x) = false) : l.erase x = l.eraseIdx k := by
  rw [List.erase_eq_eraseIdx]
  have : l.idxOf? x = some k := by
    show l.findIdx? (· == x) = some k
    rw [List.findIdx?_eq_some_iff_getElem]
    exact ⟨h, by simpa using hx, fun j hj => by simpa using hn j (by omega) hj⟩
  rw [this]
namespace Qint
open Sint
def Wf (x : Int) : Prop := (Lit.int .i64 x).wf = true
def QAt (w : World) (F : Nat → Prop) (b : Nat) (l : List Int) (most : Int) : Prop :=
  ∃ v, Blk w b 130 #[v, .int .i64 most] ∧ w.ownsRow 0 3 1 v l.length (l.map enc) ∧ F b ∧ (∀ k, v.ownBlock = some k → F k ∧ k ≠ b) ∧ (∀ k, F k → k < w.heap.size) ∧ (∀ x ∈ l, Wf x) ∧ 1 ≤ most ∧ most ≤ 4096 ∧ l.length ≤ 4096
theorem rd_enc {l : List Int} (h : ∀ x ∈ l, Wf x) (w : World) : ∀ x ∈ l, ∀ S, (RInt .i64) w S [enc x] x := fun x hx S => ⟨rfl, h x hx⟩
theorem QAt.fr {w w' : World} {F G : Nat → Prop} {b : Nat} {l : List Int} {most : Int} (h : QAt w F b l most) (hf : Fr G w w') (hn : ∀ k, F k → ¬ G k) : QAt w' F b l most := by
  obtain ⟨v, h1, h2, h3, h4, h5, h6⟩ := h
  exact ⟨v, h1.fr hf (hn _ h3), own_fr h2 hf (fun k hk => hn k (h4 k hk).1), h3, h4, fun k hk => Nat.lt_of_lt_of_le (h5 k hk) hf.size, h6⟩
theorem new_yes (most : Int) (w : World) (h1 : 1 ≤ most) (h2 : most ≤ 4096) : Calls Try.prog 50 #[.int .i64 most] w fun e w' => ∃ b, e = .returned (.tuple #[.pointer (some ⟨b, 0, none⟩), .int .i64 0]) ∧ QAt w' (New w w') b [] most ∧ Fr No w w' := by
  go_enter Try.func50, Try.ntmps50
  go_wp2
  go_ret2
  exact ⟨w.heap.size, rfl, ⟨.slice none 0 0, Blk.new _ _ _, World.ownsRow_nil _ _ _ _, ⟨Nat.le_refl _, by simp⟩, fun k hk => by simp [Value.ownBlock] at hk, fun k hk => hk.2, fun x hx => by simp at hx, h1, h2, by simp⟩, (Fr.refl _ _).alloc _⟩
theorem new_no (most : Int) (w : World) (h : most < 1 ∨ 4096 < most) : Calls Try.prog 50 #[.int .i64 most] w fun e w' => e = .returned (.tuple #[.pointer none, .int .i64 2]) ∧ w = w' := by
  by_cases h1 : most < 1
  · clear h
    go_enter Try.func50, Try.ntmps50
    go_wp2
    go_ret2
    exact ⟨rfl, rfl⟩
  · have h2 : 4096 < most := by omega
    clear h
    go_enter Try.func50, Try.ntmps50
    go_wp2
    go_ret2
    exact ⟨rfl, rfl⟩
section
variable {w : World} {F : Nat → Prop} {b : Nat} {l : List Int} {most : Int}
theorem len_any (h : QAt w F b l most) : Calls Try.prog 97 #[.pointer (some ⟨b, 0, none⟩)] w fun e w' => e = .returned (.int .i64 l.length) ∧ w = w' := by
  obtain ⟨v, h1, h2, _⟩ := h
  obtain ⟨A, cap, rfl⟩ : ∃ A cap, v = .slice A l.length cap := by
    rcases h2.2 with ⟨rfl, h0⟩ | ⟨g, cap, _, rfl, _⟩
    · exact ⟨none, 0, by rw [h0]⟩
    · exact ⟨_, cap, rfl⟩
  have hc := h1.cell 0
  simp at hc
  clear h1 h2
  go_enter Try.func97, Try.ntmps97
  go_wp2
  go_ret
  exact ⟨rfl, rfl⟩
theorem place_q (x : Int) (h : QAt w F b l most) : Calls Try.prog 98 #[.pointer (some ⟨b, 0, none⟩), .int .i64 x] w fun e w' => e = .returned (.int .i64 (place l x)) ∧ w = w' := by
  obtain ⟨v, h1, h2, _, _, _, h6, _⟩ := h
  have hr := Lib.hid (own_sl h2 rfl (rd_enc h6 w))
  have hc := h1.cell 0
  simp at hc
  clear h1 h2
  go_enter Try.func98, Try.ntmps98
  go_wp2_with (go_at_call 103; refine (index_any _ l x _ _ hr.out).mono ?_; rintro e w' ⟨rfl, rfl⟩)
  go_ret
  exact ⟨rfl, rfl⟩
def putR (l : List Int) (most : Int) (x : Int) : List Int × Int := if 0 ≤ place l x then (l, 8) else if most ≤ l.length then (l, 6) else (l ++ [x], 0)
set_option maxRecDepth 100000 in
theorem put_any (x : Int) (hx : Wf x) (h : QAt w F b l most) : Calls Try.prog 99 #[.pointer (some ⟨b, 0, none⟩), .int .i64 x] w fun e w' => ∃ F', e = .returned (.int .i64 (putR l most x).2) ∧ QAt w' F' b (putR l most x).1 most ∧ Step F w F' w' := by
  have Hq := Lib.hid h
  obtain ⟨v, h1, h2, h3, h4, h5, h6, h7, h8, h9⟩ := h
  obtain ⟨A, cap, rfl⟩ : ∃ A cap, v = .slice A l.length cap := by
    rcases h2.2 with ⟨rfl, h0⟩ | ⟨g, cap, _, rfl, _⟩
    · exact ⟨none, 0, by rw [h0]⟩
    · exact ⟨_, cap, rfl⟩
  have c0 := h1.cell 0
  have c1 := h1.cell 1
  have f0 := h1.frozen 0
  simp at c0 c1
  have m0 : (most == 0) = false := by simp; omega
  by_cases hp : 0 ≤ place l x
  · have hr := Lib.hid (show putR l most x = (l, 8) by simp [putR, hp])
    clear h1 h2 h3 h4 h5 h6
    go_enter Try.func99, Try.ntmps99
    go_wp2_with (go_at_call 98; refine (place_q x Hq.out).mono ?_; rintro e w' ⟨rfl, rfl⟩)
    go_ret
    exact ⟨F, ret_int (by rw [hr.out]), by rw [hr.out]; exact Hq.out, Step.refl _ _⟩
  · by_cases hm : most ≤ l.length
    · have hr := Lib.hid (show putR l most x = (l, 6) by simp [putR, hp, hm])
      clear h1 h2 h3 h4 h5 h6
      go_enter Try.func99, Try.ntmps99
      go_wp2_with (go_at_call 98; refine (place_q x Hq.out).mono ?_; rintro e w' ⟨rfl, rfl⟩)
      go_quiet (fail)
      go_wp2
      go_ret
      exact ⟨F, ret_int (by rw [hr.out]), by rw [hr.out]; exact Hq.out.fr ((Fr.refl No _).drewN _) (fun _ _ h => h), (Fr.refl _ _).drewN _, fun k hk => .inl hk⟩
    · have hr := Lib.hid (show putR l most x = (l ++ [x], 0) by simp [putR, hp, hm])
      have H1 := Lib.hid h1
      have H2 := Lib.hid h2
      have H4 := Lib.hid h4
      have H5 := Lib.hid h5
      have H6 := Lib.hid h6
      clear h1 h2 h4 h5 h6
      obtain ⟨i0, hi, hz0, hz1, hz2⟩ := info_parts infoE
      go_enter Try.func99, Try.ntmps99
      go_wp2_with (go_at_call 98; refine (place_q x Hq.out).mono ?_; rintro e w' ⟨rfl, rfl⟩)
      go_quiet (fail)
      go_wp2_with (at_builtin; go_loud (refine wpList_append_lies _ rfl _ _ 30 rfl 0 3 i0 (.int .i64 0) 1 8 Try.underlying30 hi hz0 hz1 hz2 rfl (by decide) _ l.length (l.map enc) rfl (World.ownsRow.alloc H2.out _) ⟨w.heap.size, 0, none⟩ 1 1 [enc x] rfl rfl (cell_lit _ #[enc x] _) (one_lit rfl) (by decide) (by unfold maxLen; omega) (by omega) (Nat.zero_le _) _ rfl ?_; intro g cap' w1 hown' hgrow hlie hlt; have hg1 : (World.alloc (w.drewN _) _).grownBy w1 (Value.slice A l.length cap).ownBlock := hgrow; have hl1 : (Value.slice A l.length cap).ownBlock = some g ∨ g = w.heap.size + 1 := hlie.elim Or.inl (fun h => Or.inr (h.trans (by simp))); have hb1 := (Blk.alloc (H1.out.drewN _) _).grown hg1 (fun e => (H4.out b e.symm).2 rfl); have d0 := hb1.cell 0; have d1 := hb1.frozen 0; simp at d0; have Hb1 := Lib.hid hb1; have Hg1 := Lib.hid hg1; have Hl1 := Lib.hid hl1; have Hw1 := Lib.hid hown'; clear hgrow hlie hg1 hl1 hb1 hown'))
      go_ret
      have hf : Fr (fun k => (Value.slice A l.length cap).ownBlock = some k) w w1 := (((Fr.refl _ _).drewN _).alloc _).grown Hg1.out (fun k hk => .inl hk)
      have hgn : F g ∨ New w w1 g := by
        rcases Hl1.out with h | h
        · exact .inl (H4.out g h).1
        · exact .inr ⟨by omega, hlt⟩
      have hgb : g ≠ b := by
        rcases Hl1.out with h | h
        · exact (H4.out g h).2
        · have := H5.out b h3; omega
      have hset : Fr (fun k => k = b) w1 (w1.setCell ⟨b, 0, none⟩ (.slice (some ⟨g, 0, none⟩) (l.length + 1) cap')) := Fr.setCell (F := fun k => k = b) (Fr.refl _ _) (p := ⟨b, 0, none⟩) (.inl rfl) _
      refine ⟨fun k => F k ∨ k = g, ret_int (by rw [hr.out]), ?_, (hf.mono (fun k hk _ => (H4.out k hk).1)).setCell (p := ⟨b, 0, none⟩) (.inl h3) _, fun k hk => ?_⟩
      · rw [hr.out]
        refine ⟨.slice (some ⟨g, 0, none⟩) (l.length + 1) cap', by simpa using Hb1.out.put 0 (.slice (some ⟨g, 0, none⟩) (l.length + 1) cap'), ?_, .inl h3, ?_, ?_, ?_, h7, h8, by simp; omega⟩
        · have := own_fr Hw1.out hset (fun k hk => by injection hk with hk; subst hk; exact hgb)
          simpa using this
        · intro k hk
          injection hk with hk
          subst hk
          exact ⟨.inr rfl, hgb⟩
        · intro k hk
          rw [size_setCell]
          rcases hk with hk | rfl
          · exact Nat.lt_of_lt_of_le (H5.out k hk) hf.size
          · exact hlt
        · intro y hy
          rw [List.mem_append] at hy
          rcases hy with hy | hy
          · exact H6.out y hy
          · rw [List.mem_singleton.1 hy]; exact hx
      · rcases hk with hk | rfl
        · exact .inl hk
        · rcases hgn with h | h
          · exact .inl h
          · exact .inr ⟨h.1, Nat.lt_of_lt_of_le h.2 hset.size⟩
set_option maxRecDepth 100000 in
theorem drop_any (x : Int) (h : QAt w F b l most) : Calls Try.prog 96 #[.pointer (some ⟨b, 0, none⟩), .int .i64 x] w fun e w' => e = .returned (.bool (decide (0 ≤ place l x))) ∧ QAt w' F b (l.erase x) most ∧ Step F w F w' := by
  have Hq := Lib.hid h
  obtain ⟨v, h1, h2, h3, h4, h5, h6, h7, h8, h9⟩ := h
  rcases place_cases l x with ⟨p1, p2⟩ | ⟨k, hk, p1, p2, p3⟩
  · have he : l.erase x = l := List.erase_of_not_mem fun hm => by
      obtain ⟨j, hj, rfl⟩ := List.getElem_of_mem hm
      have := p2 j hj
      simp at this
    have P1 := Lib.hid p1
    have He := Lib.hid he
    clear h1 h2 h3 h4 h5 h6 p1 p2 he
    go_enter Try.func96, Try.ntmps96
    go_wp2_with (go_at_call 98; refine (place_q x Hq.out).mono ?_; rintro e w' ⟨rfl, rfl⟩; rw [P1.out])
    go_ret
    exact ⟨ret_bool (by rw [P1.out]; rfl), by rw [He.out]; exact Hq.out, Step.refl _ _⟩
  · have he : l.erase x = l.eraseIdx k := erase_at hk p2 p3
    have P1 := Lib.hid p1
    have He := Lib.hid he
    have c0 := h1.cell 0
    have f0 := h1.frozen 0
    simp at c0
    have H1 := Lib.hid h1
    have H2 := Lib.hid h2
    have H4 := Lib.hid h4
    have H5 := Lib.hid h5
    have H6 := Lib.hid h6
    have hk4 : k ≤ 4096 := by omega
    clear h1 h2 h4 h5 h6 p1 p2 p3 he
    go_enter Try.func96, Try.ntmps96
    go_wp2_with (first
      | (go_at_call 98; refine (place_q x Hq.out).mono ?_; rintro e w' ⟨rfl, rfl⟩; rw [P1.out])
      | (go_at_call 102; go_loud (refine (delete_any v l k 0 _ H2.out hk).mono ?_; rintro e w1 ⟨v', rfl, hown', hob, hf⟩; obtain ⟨A', c', rfl⟩ := own_form hown'; have hb1 := H1.out.fr hf (fun e => (H4.out b e).2 rfl); have d0 := hb1.cell 0; have d1 := hb1.frozen 0; simp at d0; have Hb1 := Lib.hid hb1; have Hw1 := Lib.hid hown'; have Hob := Lib.hid hob; have Hf := Lib.hid hf; clear hb1 hown' hob hf)))
    go_ret
    have hset : Fr (fun k => k = b) w1 (w1.setCell ⟨b, 0, none⟩ (.slice A' (l.eraseIdx k).length c')) := Fr.setCell (F := fun k => k = b) (Fr.refl _ _) (p := ⟨b, 0, none⟩) (.inl rfl) _
    refine ⟨ret_bool (by rw [P1.out]; symm; simp), ?_, (Hf.out.mono (fun k hk _ => (H4.out k hk).1)).setCell (p := ⟨b, 0, none⟩) (.inl h3) _, fun k hk => .inl hk⟩
    rw [He.out]
    refine ⟨.slice A' (l.eraseIdx k).length c', by simpa using Hb1.out.put 0 (.slice A' (l.eraseIdx k).length c'), own_fr Hw1.out hset (fun j hj e => ?_), h3, ?_, ?_, ?_, h7, h8, ?_⟩
    · exact (H4.out j (Hob.out ▸ hj)).2 e
    · intro j hj
      exact H4.out j (Hob.out ▸ hj)
    · intro j hj
      rw [size_setCell]
      exact Nat.lt_of_lt_of_le (H5.out j hj) Hf.out.size
    · exact fun y hy => H6.out y (List.mem_of_mem_eraseIdx hy)
    · rw [List.length_eraseIdx_of_lt hk]; omega
def takeR (l : List Int) : Option (Int × List Int) := match l with | [] => none | x :: t => some (x, t)
theorem take_no (h : QAt w F b [] most) : Calls Try.prog 100 #[.pointer (some ⟨b, 0, none⟩)] w fun e w' => e = .returned (.tuple #[(.int .i64 0), .bool false]) ∧ w = w' := by
  have H := Lib.hid h
  clear h
  go_enter Try.func100, Try.ntmps100
  go_wp2_with (go_at_call 97; refine (len_any H.out).mono ?_; rintro e w' ⟨rfl, rfl⟩)
  go_ret2
  exact ⟨rfl, rfl⟩
set_option maxRecDepth 100000 in
theorem take_yes (x : Int) (t : List Int) (h : QAt w F b (x :: t) most) : Calls Try.prog 100 #[.pointer (some ⟨b, 0, none⟩)] w fun e w' => e = .returned (.tuple #[.int .i64 x, .bool true]) ∧ QAt w' F b t most ∧ Step F w F w' := by
  have H := Lib.hid h
  obtain ⟨v, h1, h2, _⟩ := h
  obtain ⟨g, cap, rfl, _, _⟩ := h2.form (by simp)
  have c0 := h1.cell 0
  have c2 : w.cell? ⟨g, 0, none⟩ = some (enc x) := by
    have := h2.cells (g := g) rfl 0 (enc x) (by simp)
    rwa [add_zero] at this
  simp at c0
  unfold enc at c2
  clear h1 h2
  go_enter Try.func100, Try.ntmps100
  go_wp2_with (first
    | (go_at_call 97; refine (len_any H.out).mono ?_; rintro e w' ⟨rfl, rfl⟩)
    | (go_at_call 96; refine (drop_any x H.out).mono ?_; rintro e w1 ⟨rfl, hq, hs⟩; have Hq := Lib.hid hq; have Hs := Lib.hid hs; clear hq hs))
  go_ret2
  have := Hq.out
  rw [List.erase_cons_head] at this
  exact ⟨rfl, this, Hs.out⟩
end
set_option maxRecDepth 100000 in
theorem all_any {w : World} {F : Nat → Prop} {b : Nat} {l : List Int} {most : Int} (h : QAt w F b l most) : Calls Try.prog 95 #[.pointer (some ⟨b, 0, none⟩)] w fun e w' => ∃ v', e = .returned v' ∧ w'.ownsRow w.heap.size 3 1 v' l.length (l.map enc) ∧ Fr No w w' := by
  obtain ⟨v, h1, h2, _, _, _, h6, _, _, h9⟩ := h
  have hr := Lib.hid (own_sl h2 rfl (rd_enc h6 w))
  have hc := h1.cell 0
  simp at hc
  clear h1 h2
  go_enter Try.func95, Try.ntmps95
  go_wp2_with (go_at_call 101; refine (clone_any _ l _ _ hr.out (by omega)).mono ?_; rintro e w1 ⟨v', rfl, hown, hf⟩; have Ho := Lib.hid hown; have Hf := Lib.hid hf; clear hown hf)
  go_ret
  exact ⟨_, rfl, Ho.out, Hf.out⟩
theorem nil_put (x : Int) (w : World) : Calls Try.prog 99 #[.pointer none, .int .i64 x] w fun e w' => e = .returned (.int .i64 14) ∧ w = w' := by
  go_enter Try.func99, Try.ntmps99
  go_wp2
  go_ret
  exact ⟨rfl, rfl⟩
theorem nil_place (x : Int) (w : World) : Calls Try.prog 98 #[.pointer none, .int .i64 x] w fun e w' => e = .returned (.int .i64 (-1)) ∧ w = w' := by
  go_enter Try.func98, Try.ntmps98
  go_wp2
  go_ret
  exact ⟨rfl, rfl⟩
theorem nil_drop (x : Int) (w : World) : Calls Try.prog 96 #[.pointer none, .int .i64 x] w fun e w' => e = .returned (.bool false) ∧ w = w' := by
  go_enter Try.func96, Try.ntmps96
  go_wp2
  go_ret
  exact ⟨rfl, rfl⟩
theorem nil_len (w : World) : Calls Try.prog 97 #[.pointer none] w fun e w' => e = .returned (.int .i64 0) ∧ w = w' := by
  go_enter Try.func97, Try.ntmps97
  go_wp2
  go_ret
  exact ⟨rfl, rfl⟩
theorem nil_take (w : World) : Calls Try.prog 100 #[.pointer none] w fun e w' => e = .returned (.tuple #[(.int .i64 0), .bool false]) ∧ w = w' := by
  go_enter Try.func100, Try.ntmps100
  go_wp2
  go_ret2
  exact ⟨rfl, rfl⟩
theorem nil_all (w : World) : Calls Try.prog 95 #[.pointer none] w fun e w' => e = .returned (.slice none 0 0) ∧ w = w' := by
  go_enter Try.func95, Try.ntmps95
  go_wp2
  go_ret
  exact ⟨rfl, rfl⟩

end Qint
end Go.Proofs.Ytepnjmgacfjhiaa
