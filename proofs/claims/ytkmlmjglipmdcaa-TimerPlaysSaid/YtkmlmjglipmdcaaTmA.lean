/- Package timer: its reference: place, At, Cancel. Printed by gen_tma.py. -/
import Derived.Test.YtkmlmjglipmdcaaTmX
namespace Go.Proofs.Ytkmlmjglipmdcaa
open Go.RowKit
set_option linter.unusedVariables false
set_option linter.unusedSimpArgs false
namespace Tm
open Sls
def encA (x : A2) : List Value := [.int .i64 x.1, .int .i64 x.2]
def RA : Rd A2 := fun _ _ cs x => cs = encA x
theorem RA.stable : Rd.Stable RA := ⟨fun h _ _ => h⟩
theorem own_ra {w : World} {base : Nat} {e : TypeId} {v : Value} {l : List A2} {S : Nat → Prop} (h : w.ownsRow base e 2 v l.length (l.flatMap encA)) (hs : ∀ k, Of v k → S k) : RSl 2 RA w S [v] l := own_slE h (fun _ _ => rfl) (fun _ _ => rfl) hs
theorem ra_at {w wr : World} {S : Nat → Prop} {l : List A2} {A : Option Addr} {m c i : Nat} (h : RSl 2 RA w S [.slice A m c] l) (hS : ∀ k, S k → k < w.heap.size) (hf : Fr No w wr) (hi : i < l.length) :
    ∃ ad, A = some ad ∧ wr.cell? (ad.add (i * 2)) = some (.int .i64 l[i].1) ∧ wr.cell? ⟨(ad.add (i * 2)).block, (ad.add (i * 2)).off + 1, none⟩ = some (.int .i64 l[i].2) := by
  obtain ⟨ad, ecs, g1, g2, g3, g4, g5⟩ := sl_at h hi
  have g5 : ecs = encA l[i] := g5
  rw [g5] at g4
  have hk : ∀ j, wr.cell? ((ad.add (i * 2)).add j) = w.cell? ((ad.add (i * 2)).add j) := fun j => hf.cell (by rw [block_add, block_add]; exact hS _ g2) (fun h => h)
  have e0 := (hk 0).trans (g4 0 (by omega))
  have e1 := (hk 1).trans (g4 1 (by omega))
  rw [add_zero] at e0
  exact ⟨ad, g1, e0, e1⟩
theorem infoA : (Try.prog.info? 54).map (fun i => (i.zero, i.size, i.bytes)) = some (some (.agg #[.int .i64 0, .int .i64 0]), 2, 16) := by kernel_rfl
theorem encA_one (l : List A2) : ∀ u ∈ l.flatMap encA, u.oneCell' = true := by
  intro u hu
  obtain ⟨x, -, h⟩ := List.mem_flatMap.1 hu
  simp only [encA, List.mem_cons, List.not_mem_nil, or_false] at h
  rcases h with rfl | rfl <;> rfl
theorem fmA (l : List A2) : (l.flatMap encA).length = l.length * 2 := by
  induction l with
  | nil => rfl
  | cons x l ih => rw [List.flatMap_cons, List.length_append, ih, List.length_cons]; show 2 + _ = _; omega
/-- The reference's timer reads in the blocks S. -/
structure RT (w : World) (S : Nat → Prop) (vL : Value) (L : List A2) : Prop where
  l : RSl 2 RA w S [vL] L
  lt : ∀ k, S k → k < w.heap.size
section
variable {w w' : World} {S : Nat → Prop} {vL : Value} {L : List A2} {most : Int}
theorem RT.fr {H : Nat → Prop} (h : RT w S vL L) (hf : Fr H w w') (hn : ∀ k, S k → ¬ H k) : RT w' S vL L :=
  ⟨(RSl.stable RA.stable).go h.l (Kept.of_fr hf (fun k hk => ⟨h.lt k hk, hn k hk⟩)) (fun _ h => h), fun k hk => Nat.lt_of_lt_of_le (h.lt k hk) hf.size⟩
theorem RT.no (h : RT w S vL L) (hf : Fr No w w') : RT w' S vL L := h.fr hf (fun _ _ h => h)
theorem RT.more {S' : Nat → Prop} (h : RT w S vL L) (hs : ∀ k, S k → S' k) (hl : ∀ k, S' k → k < w.heap.size) : RT w S' vL L :=
  ⟨(RSl.stable RA.stable).go h.l (Kept.refl _ _) hs, hl⟩
theorem RT.form (h : RT w S vL L) : ∃ A c, vL = .slice A L.length c ∧ L.length ≤ c ∧ c ≤ 9223372036854775807 := by
  obtain ⟨A, c, e1, e2, e3⟩ := h.l.slice
  unfold maxLen at e3
  exact ⟨A, c, e1, e2, by omega⟩
abbrev agT (vL : Value) (most : Int) : Value := .agg #[vL, .int .i64 most]
def placeA (L : List A2) (id : Int) : Int := match L.findIdx? (fun m => m.1 == id) with | some i => (i : Int) | none => -1
theorem placeA_cases (L : List A2) (id : Int) : (placeA L id = -1 ∧ hasId L id = false) ∨ ∃ k, ∃ h : k < L.length, placeA L id = (k : Int) ∧ hasId L id = true ∧ L[k].1 = id := by
  cases hf : L.findIdx? (fun m => m.1 == id) with
  | none =>
    left
    have hn := List.findIdx?_eq_none_iff.1 hf
    refine ⟨by unfold placeA; rw [hf], ?_⟩
    cases hh : hasId L id
    · rfl
    · obtain ⟨m, hm, e⟩ := List.mem_map.1 (has_iff.1 hh)
      have := hn m hm
      rw [e] at this
      simp at this
  | some k =>
    right
    obtain ⟨h, h1, h2⟩ := List.findIdx?_eq_some_iff_getElem.1 hf
    have h3 : L[k].1 = id := by simpa using h1
    exact ⟨k, h, by unfold placeA; rw [hf], has_iff.2 (List.mem_map.2 ⟨_, List.getElem_mem h, h3⟩), h3⟩
theorem placeA_at {L : List A2} {id : Int} {k : Nat} (hk : k < L.length) (h : (L[k].1 == id) = true) (hn : ∀ j (hj : j < L.length), j < k → (L[j].1 == id) = false) : placeA L id = (k : Int) := by
  unfold placeA
  have : L.findIdx? (fun m => m.1 == id) = some k := List.findIdx?_eq_some_iff_getElem.2 ⟨hk, h, fun j hj => by simpa using hn j (by omega) hj⟩
  rw [this]
theorem placeA_no {L : List A2} {id : Int} (hn : ∀ j (hj : j < L.length), (L[j].1 == id) = false) : placeA L id = -1 := by
  unfold placeA
  have : L.findIdx? (fun m => m.1 == id) = none := List.findIdx?_eq_none_iff.2 (fun x hx => by
    obtain ⟨j, hj, rfl⟩ := List.getElem_of_mem hx
    simpa using hn j hj)
  rw [this]
set_option maxRecDepth 100000 in
set_option maxHeartbeats 2000000 in
theorem rplace_any (h : RT w S vL L) (id : Int) : Calls Try.prog 23 #[agT vL most, .int .i64 id] w fun e w' => e = .returned (.int .i64 (placeA L id)) ∧ Fr No w w' := by
  obtain ⟨A, c, rfl, hA1, hA2⟩ := h.form
  have hf := (Fr.refl No w).alloc (.cells #[.slice A L.length c, .int .i64 most] 37)
  have X := Blk.new w 37 #[.slice A L.length c, .int .i64 most]
  have H := Lib.hid h
  have HF := Lib.hid hf
  obtain ⟨bx, hbx⟩ : ∃ bx, w.heap.size = bx := ⟨_, rfl⟩
  rw [hbx] at X
  clear h
  go_enter Try.func23, Try.ntmps23
  go_wp2_with fail
  generalize w.alloc (.cells #[.slice A L.length c, .int .i64 most] 37) = w1 at X HF hf ⊢
  have x0 : w1.cell? ⟨bx, 0, none⟩ = some (.slice A L.length c) := X.cell 0
  clear X hf hbx
  go_loop [5] (fun i => ∃ k : Nat, i = .int .i64 k ∧ k ≤ L.length ∧ Hid (∀ j (h : j < L.length), j < k → (L[j].1 == id) = false)) (fun i => L.length - (intOf i).toNat)
  case atStart => exact ⟨0, rfl, by omega, Lib.hid (fun j h hj => absurd hj (by omega))⟩
  case round =>
    obtain ⟨k, rfl, hk, HB⟩ := hrel
    by_cases hlt : k < L.length
    · obtain ⟨ad, rfl, m0, m1⟩ := ra_at H.out.l H.out.lt HF.out hlt
      cases hx : L[k].1 == id
      · have HN : Hid (∀ j (h : j < L.length), j < k + 1 → (L[j].1 == id) = false) := Lib.hid (fun j h hj => by
          by_cases e : j = k
          · subst e; exact hx
          · exact HB.out j h (by omega))
        obtain ⟨x, hx2⟩ : ∃ x, x = L[k].1 := ⟨_, rfl⟩
        rw [← hx2] at m0 hx
        clear hx2 m1
        go_wp2_with fail
        go_round
        case rel => exact ⟨k + 1, by go_num, by omega, HN⟩
        case measure => simp [intOf]; omega
      · have HY := Lib.hid (placeA_at hlt hx HB.out)
        obtain ⟨x, hx2⟩ : ∃ x, x = L[k].1 := ⟨_, rfl⟩
        rw [← hx2] at m0 hx
        clear m1
        clear hx2
        go_wp2_with fail
        go_ret
        rw [HY.out]
        exact ⟨rfl, HF.out⟩
    · have HE := Lib.hid (placeA_no fun j hj => HB.out j hj (by omega))
      go_wp2_with fail
      go_ret
      rw [HE.out]
      exact ⟨rfl, HF.out⟩
set_option maxRecDepth 100000 in
set_option maxHeartbeats 2000000 in
theorem rat_any (h : RT w S vL L) (hn : (ids L).Nodup) (id : Int) : Calls Try.prog 18 #[agT vL most, .int .i64 id] w fun e w' => e = .returned (.tuple #[.int .i64 (atR L id).1, .bool (atR L id).2]) ∧ Fr No w w' := by
  obtain ⟨A, c, rfl, hA1, hA2⟩ := h.form
  have hf := (Fr.refl No w).alloc (.cells #[.slice A L.length c, .int .i64 most] 37)
  have X := Blk.new w 37 #[.slice A L.length c, .int .i64 most]
  have HP := Lib.hid (rplace_any (most := most) (h.no hf) id)
  have H := Lib.hid h
  obtain ⟨bx, hbx⟩ : ∃ bx, w.heap.size = bx := ⟨_, rfl⟩
  rw [hbx] at X
  have HF := Lib.hid hf
  obtain ⟨p, hp⟩ : ∃ p, p = placeA L id := ⟨_, rfl⟩
  rw [← hp] at HP
  rcases placeA_cases L id with ⟨h1, h2⟩ | ⟨k, hk, h1, h2, h3⟩
  · have hpl : p < 0 := by omega
    rw [atR_no h2]
    clear h hp h1 h2 hn hf
    go_enter Try.func18, Try.ntmps18
    go_upto_region 1 with (fail)
    generalize w.alloc (.cells #[.slice A L.length c, .int .i64 most] 37) = w1 at X HF HP ⊢
    have X := Lib.hid X
    have Xo := X.out
    have x0 := Xo.cell 0
    have x1 := Xo.cell 1
    have xf0 := Xo.frozen 0
    have xf1 := Xo.frozen 1
    simp only [List.getElem?_toArray, List.getElem?_cons_zero, List.getElem?_cons_succ] at x0 x1
    clear Xo
    go_wp2_with fail
    refine HP.out.mono ?_
    rintro e w2 ⟨rfl, hf⟩
    have HF2 := Lib.hid (HF.out.then_no hf)
    clear hf
    go_wp2_with fail
    go_ret2
    exact ⟨rfl, HF2.out⟩
  · have ha := atR_yes hn (List.getElem_mem hk)
    rw [h3] at ha
    rw [ha]
    obtain ⟨t, ht⟩ : ∃ t, t = L[k].2 := ⟨_, rfl⟩
    rw [← ht]
    have HTE := Lib.hid ht
    have hpk : p = (k : Int) := by omega
    subst hpk
    clear hp h h1 h2 h3 hn hf ha ht
    go_enter Try.func18, Try.ntmps18
    go_upto_region 1 with (fail)
    generalize w.alloc (.cells #[.slice A L.length c, .int .i64 most] 37) = w1 at X HF HP ⊢
    have X := Lib.hid X
    have Xo := X.out
    have x0 := Xo.cell 0
    have x1 := Xo.cell 1
    have xf0 := Xo.frozen 0
    have xf1 := Xo.frozen 1
    simp only [List.getElem?_toArray, List.getElem?_cons_zero, List.getElem?_cons_succ] at x0 x1
    clear Xo
    go_wp2_with fail
    refine HP.out.mono ?_
    rintro e w2 ⟨rfl, hf⟩
    have HF2 := Lib.hid (HF.out.then_no hf)
    have Xo := X.out.fr hf (fun h => h)
    clear x0 x1 xf0 xf1
    have x0 := Xo.cell 0
    have x1 := Xo.cell 1
    have xf0 := Xo.frozen 0
    have xf1 := Xo.frozen 1
    simp only [List.getElem?_toArray, List.getElem?_cons_zero, List.getElem?_cons_succ] at x0 x1
    clear Xo hf
    obtain ⟨ad, rfl, m0, m1⟩ := ra_at H.out.l H.out.lt HF2.out hk
    rw [← HTE.out] at m1
    clear m0
    go_wp2_with fail
    go_ret2
    exact ⟨rfl, HF2.out⟩
/-- What an act of the reference tells. -/
def RTells (L' : List A2) (r : Value) (most : Int) (S : Nat → Prop) (w : World) (e : Ending) (w' : World) : Prop :=
  ∃ S' vL', e = .returned (.tuple #[agT vL' most, r]) ∧ RT w' S' vL' L' ∧ (∀ k, S' k → S k ∨ New w w' k) ∧ Fr No w w'
theorem wo_take {L : List A2} {id : Int} {k : Nat} (hk : k < L.length) : wo (L.take (k + 1)) id = if L[k].1 = id then wo (L.take k) id else wo (L.take k) id ++ [L[k]] := by
  unfold wo
  rw [List.take_succ_eq_append_getElem hk, List.filter_append]
  split
  · rename_i e
    rw [List.filter_cons_of_neg (by simp [e])]
    simp
  · rename_i e
    rw [List.filter_cons_of_pos (by simp [e])]
    rfl
theorem wo_len (L : List A2) (id : Int) : decide ((wo L id).length < L.length) = hasId L id := by
  cases hh : hasId L id
  · have : id ∉ ids L := fun g => by have := has_iff.2 g; rw [hh] at this; cases this
    rw [wo_none this]
    simp
  · apply decide_eq_true
    obtain ⟨m, hm, e⟩ := List.mem_map.1 (has_iff.1 hh)
    have : (wo L id).length < L.length := by
      unfold wo
      have h1 := List.length_filter_le (fun m : A2 => m.1 != id) L
      rcases Nat.lt_or_ge (List.filter (fun m : A2 => m.1 != id) L).length L.length with g | g
      · exact g
      · have := List.length_filter_eq_length_iff.1 (Nat.le_antisymm h1 g) m hm
        simp [e] at this
    exact this
set_option maxRecDepth 100000 in
set_option maxHeartbeats 4000000 in
theorem rcancel_any (h : RT w S vL L) (hln : L.length ≤ 4096) (id : Int) : Calls Try.prog 12 #[agT vL most, .int .i64 id] w (RTells (wo L id) (.bool (hasId L id)) most S w) := by
  obtain ⟨A, c, rfl, hA1, hA2⟩ := h.form
  have X := (Blk.new w 37 #[.slice A L.length c, .int .i64 most]).alloc (.cells #[.slice none 0 0, .int .i64 0] 37)
  have Y := Blk.new (w.alloc (.cells #[.slice A L.length c, .int .i64 most] 37)) 37 #[.slice none 0 0, .int .i64 0]
  have F1 := ((Fr.refl No w).alloc (.cells #[.slice A L.length c, .int .i64 most] 37)).alloc (.cells #[.slice none 0 0, .int .i64 0] 37)
  rw [size_alloc] at Y
  have H := Lib.hid h
  obtain ⟨bx, hbx⟩ : ∃ bx, w.heap.size = bx := ⟨_, rfl⟩
  obtain ⟨br, hbr⟩ : ∃ br, bx + 1 = br := ⟨_, rfl⟩
  rw [hbx] at X Y
  rw [hbr] at Y
  have hwl0 := wo_len L id
  obtain ⟨hb, hhb⟩ : ∃ hb, hb = hasId L id := ⟨_, rfl⟩
  rw [← hhb] at hwl0
  rw [← hhb]
  have HWL := Lib.hid hwl0
  clear hhb hwl0
  obtain ⟨n, hn⟩ : ∃ n, n = L.length := ⟨_, rfl⟩
  rw [← hn] at X Y F1 HWL hA1 hln
  rw [← hn]
  have HN := Lib.hid hn
  have HBX := Lib.hid (And.intro hbx hbr)
  clear h hn
  go_enter Try.func12, Try.ntmps12
  go_upto_region 1 with (fail)
  generalize (w.alloc (.cells #[.slice A n c, .int .i64 most] 37)).alloc (.cells #[.slice none 0 0, .int .i64 0] 37) = w1 at X Y F1 ⊢
  have X := Lib.hid X
  have Y := Lib.hid Y
  have F1 := Lib.hid F1
  clear hbx hbr
  go_wp2_with fail
  go_loopw [6, 7] (fun ov iv wr => ∃ (k m d : Nat) (B : Option Addr), ov = .slice B m d ∧ iv = .int .i64 k ∧ k ≤ n ∧ m ≤ k ∧ Hid (m = (wo (L.take k) id).length) ∧ Hid (Grow w1 wr 54 2 encA ov (wo (L.take k) id))) (fun _ i _ => n - (intOf i).toNat)
  case atStart => exact ⟨0, 0, 0, none, rfl, rfl, by omega, by omega, rfl, Grow.start _ _ _ _⟩
  case round =>
    obtain ⟨k, m, d, B, rfl, rfl, hk, hmk, HM, HG⟩ := hrel
    have Xo := X.out.fr HG.out.fr (fun h => h)
    have x0 := Xo.cell 0
    have x1 := Xo.cell 1
    have xf0 := Xo.frozen 0
    have xf1 := Xo.frozen 1
    simp only [List.getElem?_toArray, List.getElem?_cons_zero, List.getElem?_cons_succ] at x0 x1
    clear Xo
    by_cases hlt : k < n
    · have hltL : k < L.length := by rw [← HN.out]; exact hlt
      obtain ⟨ad, rfl, m0, m1⟩ := ra_at H.out.l H.out.lt (F1.out.then_no HG.out.fr) hltL
      have htk := wo_take (id := id) hltL
      obtain ⟨xi, hxi⟩ : ∃ x, x = L[k].1 := ⟨_, rfl⟩
      obtain ⟨xt, hxt⟩ : ∃ x, x = L[k].2 := ⟨_, rfl⟩
      rw [show L[k] = (xi, xt) by rw [hxi, hxt]] at htk
      have htk : wo (L.take (k + 1)) id = if xi = id then wo (L.take k) id else wo (L.take k) id ++ [(xi, xt)] := htk
      have HTK := Lib.hid htk
      rw [← hxi] at m0
      rw [← hxt] at m1
      have OW := Lib.hid (show wr.ownsRow 0 54 2 (.slice B m d) m ((wo (L.take k) id).flatMap encA) from by have := HG.out.own; rw [← HM.out] at this; exact this)
      clear hxi hxt htk
      clear hltL
      by_cases he : xi = id
      · have heb : (xi != id) = false := by simpa using he
        have hw : wo (L.take (k + 1)) id = wo (L.take k) id := by
          have := HTK.out
          rw [if_pos he] at this
          exact this
        have HW := Lib.hid hw
        clear he hw
        go_wp2_with fail
        go_roundw
        case rel => exact ⟨k + 1, m, d, B, rfl, by go_num, by omega, by omega, by rw [HW.out]; exact HM, by rw [HW.out]; exact HG⟩
        case measure => simp [intOf]; omega
      · have heb : (xi != id) = true := by simpa using he
        have hw : wo (L.take (k + 1)) id = wo (L.take k) id ++ [(xi, xt)] := by
          have := HTK.out
          rw [if_neg he] at this
          exact this
        have HW := Lib.hid hw
        clear he hw
        go_wp2_with (at_builtin; go_loud (refine wp_push rfl (.tmp 24) (.tmp 30) 35 rfl 54 (.agg #[.int .i64 0, .int .i64 0]) 2 16 Try.underlying35 infoA rfl (by decide) (.slice B m d) m _ rfl OW.out #[.int .i64 xi, .int .i64 xt] rfl rfl (by intro u hu; simp at hu; rcases hu with rfl | rfl <;> rfl) (by omega) (by unfold maxLen; omega) ?_; intro g5 cap5 w5 p1 p2 p3; have P1 := Lib.hid p1; have P2 := Lib.hid p2; have P3 := Lib.hid p3; clear p1 p2 p3))
        go_roundw
        case rel => exact ⟨k + 1, m + 1, cap5, _, rfl, by go_num, by omega, by omega, (show m + 1 = _ by rw [HW.out, List.length_append, ← HM.out]; rfl), (by
          rw [HW.out]
          have e := HM.out
          have g := HG.out
          have p1 := P1.out
          have p2 := P2.out
          have p3 := P3.out
          generalize wo (L.take k) id = l0 at e g p1 p2 p3 ⊢
          subst e
          exact g.push (x := (xi, xt)) p1 p2 p3)⟩
        case measure => simp [intOf]; omega
    · have HE := Lib.hid (show wo (L.take k) id = wo L id by rw [List.take_of_length_le (by have := HN.out; omega)])
      rw [HE.out] at HG HM
      have hwl := HWL.out
      rw [← HM.out] at hwl
      have Yo := Y.out.fr HG.out.fr (fun h => h)
      have y0 := Yo.cell 0
      have y1 := Yo.cell 1
      have yf0 := Yo.frozen 0
      have yf1 := Yo.frozen 1
      simp only [List.getElem?_toArray, List.getElem?_cons_zero, List.getElem?_cons_succ] at y0 y1
      obtain ⟨w2, hw2⟩ : ∃ w2, w2 = wr := ⟨_, rfl⟩
      subst hw2
      have hne1 : bx ≠ br := by have := HBX.out; omega
      have hne2 : br ≠ bx := fun e => hne1 e.symm
      have HX2 := Lib.hid (X.out.fr HG.out.fr (fun h => h))
      have HY2 := Lib.hid Yo
      clear Yo
      go_wp2_with fail
      have f3 : Fr No w (((w2.setCell ⟨bx, 0, none⟩ (.slice B m d)).setCell ⟨br, 0, none⟩ (.slice B m d)).setCell ⟨br, 1, none⟩ (.int .i64 most)) := (((F1.out.then_no HG.out.fr).setCell (p := ⟨bx, 0, none⟩) (.inr (by have := HBX.out; show w.heap.size ≤ bx; omega)) _).setCell (p := ⟨br, 0, none⟩) (.inr (by have := HBX.out; show w.heap.size ≤ br; omega)) _).setCell (p := ⟨br, 1, none⟩) (.inr (by have := HBX.out; show w.heap.size ≤ br; omega)) _
      have b9 := (((HY2.out.far (p := ⟨bx, 0, none⟩) hne2 (.slice B m d)).put 0 (.slice B m d)).put 1 (.int .i64 most))
      simp only [List.setIfInBounds_toArray, List.set_cons_zero, List.set_cons_succ] at b9
      have e0 := b9.cell 0
      have e1 := b9.cell 1
      simp only [List.getElem?_toArray, List.getElem?_cons_zero, List.getElem?_cons_succ] at e0 e1
      have hnew := HG.out.new
      have ff : Fr (fun k => k = bx ∨ k = br) w2 (((w2.setCell ⟨bx, 0, none⟩ (.slice B m d)).setCell ⟨br, 0, none⟩ (.slice B m d)).setCell ⟨br, 1, none⟩ (.int .i64 most)) := (((Fr.refl (fun k => k = bx ∨ k = br) w2).setCell (p := ⟨bx, 0, none⟩) (.inl (.inl rfl)) _).setCell (p := ⟨br, 0, none⟩) (.inl (.inr rfl)) _).setCell (p := ⟨br, 1, none⟩) (.inl (.inr rfl)) _
      have hxl := X.out.lt
      have hyl := Y.out.lt
      have own2 := own_fr HG.out.own ff (fun k hk e => by have := (hnew k hk).1; rcases e with e | e <;> omega)
      rw [← HM.out] at own2
      have RTT : RTells (wo L id) (.bool hb) most S w (.returned (.tuple #[agT (.slice B m d) most, .bool hb])) (((w2.setCell ⟨bx, 0, none⟩ (.slice B m d)).setCell ⟨br, 0, none⟩ (.slice B m d)).setCell ⟨br, 1, none⟩ (.int .i64 most)) :=
        ⟨Of (.slice B m d), .slice B m d, rfl, ⟨own_ra (by rw [← HM.out]; exact own2) (fun _ h => h), fun k hk => (own2.lt k hk).2⟩, fun k hk => .inr ⟨by have := (hnew k hk).1; have := F1.out.size; omega, (own2.lt k hk).2⟩, f3⟩
      have RTT := Lib.hid RTT
      refine bodyPost_ret (v := .tuple #[.agg #[.slice B m d, .int .i64 most], .bool hb]) ?_ rfl RTT.out
      clear b9 RTT f3 ff own2
      simp [results, Try.f12, go_sem, e0, e1, hwl]
end
end Tm
end Go.Proofs.Ytkmlmjglipmdcaa
