/- container/heap's Fix, Push and Remove over package timer's pile. -/
import Derived.Test.YtkmlmjglipmdcaaTmQ
namespace Go.Proofs.Ytkmlmjglipmdcaa
open Go.RowKit
set_option linter.unusedVariables false
set_option linter.unusedSimpArgs false
namespace Tm
open Sls
section
variable {w w' : World} {b : Nat} {c0 c2 v : Value} {P : List E}
theorem Perm1.then {w1 w2 : World} {Q R : List E} {n : Nat} (h : Perm1 w w1 b c0 c2 v P Q n) (k : Perm1 w1 w2 b c0 c2 v Q R n) : Perm1 w w2 b c0 c2 v P R n :=
  ⟨k.pp, k.perm.trans h.perm, fun m hm => (k.tail m hm).trans (h.tail m hm), h.fr.trans k.fr (fun x hx _ => (foot_sw h.perm).1 hx)⟩
set_option maxRecDepth 100000 in
theorem fix_any (h : PP w b c0 c2 v P) {i : Nat} (hi : i < P.length) (hl : P.length ≤ 4096) (hd : Dn (at' P) P.length i i) : Calls Try.prog 21 #[hp b, .int .i64 i] w (Heaped w b c0 c2 v P P.length) := by
  obtain ⟨A, c, rfl⟩ := h.form
  have m1 := meth_Len h.c1
  have HL := Lib.hid (len_any A P.length c w)
  have HD := Lib.hid (down_any h hi (Nat.le_refl _) hl hd)
  have HLL := Lib.hid (And.intro hi hl)
  obtain ⟨n, hn⟩ : ∃ n, n = P.length := ⟨_, rfl⟩
  rw [← hn] at HL HD m1 hi
  rw [← hn]
  have HN := Lib.hid hn
  clear h hd hl hn
  go_enter Try.func21, Try.ntmps21
  go_wp2_with fail
  refine HL.out.mono ?_
  rintro e w0 ⟨rfl, hw⟩
  subst hw
  go_wp2_with fail
  refine HD.out.mono ?_
  rintro e w1 ⟨Q, mv, rfl, hq, h1, h2⟩
  have HQ := Lib.hid hq
  cases mv
  · obtain ⟨rfl, hu⟩ := h2 rfl
    have HU := Lib.hid (up_any hq.pp (j := i) (n := n) hi (by rw [HN.out]; exact Nat.le_refl _) HLL.out.2 hu)
    clear hq h1 h2 hu
    go_wp2_with fail
    refine HU.out.mono ?_
    rintro e w2 ⟨R, rfl, hr, ho⟩
    have HR := Lib.hid (HQ.out.then hr)
    have HO := Lib.hid ho
    clear hr ho
    go_wp2_with fail
    go_end0
    exact ⟨R, rfl, HR.out, HO.out⟩
  · have HO := Lib.hid (h1 rfl)
    clear hq h1 h2
    go_wp2_with fail
    go_end0
    exact ⟨Q, rfl, HQ.out, HO.out⟩
def HPushed (w : World) (b : Nat) (c0 c2 v : Value) (P : List E) (x : E) (e : Ending) (w' : World) : Prop :=
  ∃ v' Q, e = .returned (.tuple #[]) ∧ PP w' b c0 c2 v' Q ∧ Q.Perm (P ++ [x]) ∧ Ok (at' Q) Q.length ∧ Fr (fun k => k = b ∨ Foot v P k ∨ k = x.1) w w' ∧ (∀ k, Of v' k → Of v k ∨ New w w' k)
set_option maxRecDepth 100000 in
theorem hpush_any (h : PP w b c0 c2 v P) (hl : P.length < 4096) (ho : Ok (at' P) P.length) (x : E) (hx : Blk w x.1 65 #[.int .i64 x.2.1, .int .i64 x.2.2, .int .i64 0]) (hb : x.1 ≠ b) (hf : ¬ Foot v P x.1) : Calls Try.prog 22 #[hp b, ep x.1] w (HPushed w b c0 c2 v P x) := by
  have HP := Lib.hid (push_any h (by omega) x hx hb hf)
  have HO := Lib.hid (pushed (g := at' (P ++ [x])) ho (fun m hm => by rw [at_get hm, at_get (by rw [List.length_append]; omega), List.getElem_append_left hm]))
  have HE := Lib.hid (show ∀ k, Foot v P k → k < w.heap.size from foot_lt h)
  have m1 : (method 193 67 (.pointer (some ⟨b, 1, none⟩)) "Push").run Try.prog w = .ok (47, .pointer (some ⟨b, 1, none⟩)) w := meth_Push
  have hlen : (P ++ [x]).length = P.length + 1 := by rw [List.length_append]; rfl
  obtain ⟨n, hn⟩ : ∃ n, n = P.length := ⟨_, rfl⟩
  rw [← hn] at hlen HO hl
  have HN := Lib.hid hlen
  have HXL := Lib.hid hx.lt
  obtain ⟨eb, heb⟩ : ∃ eb, eb = x.1 := ⟨_, rfl⟩
  rw [← heb] at HP ⊢
  have HEB := Lib.hid heb
  clear h ho hx hf hn hlen hb heb
  go_enter Try.func22, Try.ntmps22
  go_wp2_with fail
  refine HP.out.mono ?_
  rintro e w1 ⟨v', rfl, hp, hfr, hof⟩
  obtain ⟨A, c, rfl⟩ := hp.form
  have m2 := meth_Len hp.c1
  have HLN := Lib.hid (len_any A (P ++ [x]).length c w1)
  have HU := Lib.hid (up_any hp (j := n) (n := n + 1) (by omega) (by rw [HN.out]; exact Nat.le_refl _) (by rw [HN.out]; omega) HO.out)
  rw [HN.out] at m2 HLN HU hof
  have HFR := Lib.hid hfr
  have HOF := Lib.hid hof
  have hsub : ((n + 1 : Nat) : Int) - 1 = (n : Int) := by omega
  clear hp hfr hof
  go_wp2_with fail
  refine HLN.out.mono ?_
  rintro e w2 ⟨rfl, hw⟩
  subst hw
  go_wp2_with fail
  refine HU.out.mono ?_
  rintro e w3 ⟨Q, rfl, hq, ho⟩
  have HQ := Lib.hid hq
  have HOQ := Lib.hid ho
  clear hq ho
  go_wp2_with fail
  go_end0
  have hlt := HFR.out.size
  have hlt2 := HQ.out.fr.size
  refine ⟨_, Q, rfl, HQ.out.pp, HQ.out.perm, by rw [HQ.out.perm.length_eq, HN.out]; exact HOQ.out, HFR.out.trans HQ.out.fr (fun k hk hl2 => ?_), fun k hk => (HOF.out k hk).imp id (fun g => ⟨g.1, Nat.lt_of_lt_of_le g.2 hlt2⟩)⟩
  rcases hk with g | ⟨y, hy, e⟩
  · rcases HOF.out k g with g1 | g1
    · exact .inr (.inl (.inl g1))
    · have := g1.1; omega
  · rcases List.mem_append.1 hy with g1 | g1
    · exact .inr (.inl (.inr ⟨y, g1, e⟩))
    · rw [List.mem_singleton.1 g1] at e
      exact .inr (.inr e.symm)
/-- What Remove leaves. -/
def HRemoved (w : World) (b : Nat) (c0 c2 v : Value) (P : List E) (x : E) (e : Ending) (w' : World) : Prop :=
  ∃ v' Q, e = .returned (ep x.1) ∧ PP w' b c0 c2 v' Q ∧ (Q ++ [x]).Perm P ∧ Ok (at' Q) Q.length ∧ Fr (fun k => k = b ∨ Foot v P k) w w' ∧ (∀ k, Of v' k → Of v k)
theorem split_last {R : List E} {n : Nat} (h : R.length = n + 1) : R = R.take n ++ [at' R n] := by
  have hn : n < R.length := by omega
  rw [at_get hn, ← List.take_succ_eq_append_getElem hn, List.take_of_length_le (by omega)]
theorem at_take {R : List E} {n m : Nat} (h : m < n) : at' (R.take n) m = at' R m := by
  unfold at' List.getD
  rw [List.getElem?_take_of_lt h]
theorem take_len {R : List E} {n : Nat} (h : R.length = n + 1) : (R.take n).length = n := by rw [List.length_take]; omega
set_option maxRecDepth 100000 in
set_option maxHeartbeats 4000000 in
theorem remove_any (h : PP w b c0 c2 v P) {i : Nat} (hi : i < P.length) (hl : P.length ≤ 4096) (ho : Ok (at' P) P.length) : Calls Try.prog 24 #[hp b, .int .i64 i] w (HRemoved w b c0 c2 v P (at' P i)) := by
  obtain ⟨A, c, rfl⟩ := h.form
  have m1 := meth_Len h.c1
  have HL := Lib.hid (len_any A P.length c w)
  obtain ⟨n, hn⟩ : ∃ n, n + 1 = P.length := ⟨P.length - 1, by omega⟩
  have hn4 : n ≤ 4096 := by omega
  have hsub : ((n + 1 : Nat) : Int) - 1 = (n : Int) := by omega
  -- what Pop leaves, once the first n are a heap
  have TL := Lib.hid (fun (w1 : World) (R : List E) (hp1 : Perm1 w w1 b c0 c2 (.slice A P.length c) P R P.length) (hlast : at' R n = at' P i) (hok : Ok (at' R) n) => (show
      Calls Try.prog 46 #[.pointer (some ⟨b, 1, none⟩)] w1 (HRemoved w b c0 c2 (.slice A P.length c) P (at' P i)) from by
    have hRl : R.length = n + 1 := by rw [hp1.len, hn]
    have hsp := split_last hRl
    have hpp := hp1.pp
    rw [hsp] at hpp
    refine (pop_any hpp (by rw [take_len hRl]; omega)).mono ?_
    rintro e w2 ⟨v', rfl, h1, h2, h3⟩
    refine ⟨v', R.take n, by rw [hlast], h1, by rw [← hlast, ← hsp]; exact hp1.perm, (by rw [take_len hRl]; exact hok.congr (fun m hm => at_take hm)), (hp1.fr.mono (F' := fun k => k = b ∨ Foot (.slice A P.length c) P k) (fun k hk _ => .inr hk)).trans h3 (fun k hk _ => .inl hk), h2⟩))
  by_cases hin : i = n
  · subst hin
    have HT := Lib.hid (TL.out w P (Perm1.start h _) rfl (ho.less (by omega)))
    have mP : (method 193 67 (.pointer (some ⟨b, 1, none⟩)) "Pop").run Try.prog w = .ok (46, .pointer (some ⟨b, 1, none⟩)) w := meth_Pop
    rw [← hn] at m1 HL HT
    rw [← hn]
    have hne : ((i : Int) != (i : Int)) = false := by simp
    obtain ⟨x, hx⟩ : ∃ x, x = at' P i := ⟨_, rfl⟩
    rw [← hx] at HT ⊢
    clear h TL ho hl hi hn hx
    go_enter Try.func24, Try.ntmps24
    go_wp2_with fail
    refine HL.out.mono ?_
    rintro e w0 ⟨rfl, hw⟩
    subst hw
    go_wp2_with fail
    refine HT.out.mono ?_
    rintro e w2 ⟨v', Q, rfl, h1, h2, h3, h4, h5⟩
    have HH := Lib.hid (show HRemoved w b c0 c2 (.slice A (i + 1) c) P x (.returned (ep x.1)) w2 from ⟨v', Q, rfl, h1, h2, h3, h4, h5⟩)
    clear h1 h2 h3 h4 h5
    go_wp2_with fail
    go_ret
    exact HH.out
  · have hnl : n < P.length := by omega
    have HS := Lib.hid (swap_any h hi hnl hin hl)
    have hswl := sw_len P i n
    have HD := Lib.hid (fun (w1 : World) (hp1 : PP w1 b c0 c2 (.slice A P.length c) (sw P i n)) => down_any hp1 (i0 := i) (n := n) (by omega) (by rw [hswl]; omega) (by rw [hswl]; exact hl) (by rw [sw_at hi hnl]; exact turned ho (by omega) (by omega) (fun m hm hne => by unfold swf; rw [if_neg (by omega), if_neg hne])))
    have HU := Lib.hid (fun (w1 : World) (hp1 : PP w1 b c0 c2 (.slice A P.length c) (sw P i n)) (hu : UpO (at' (sw P i n)) n i) => up_any hp1 (j := i) (n := n) (by omega) (by rw [hswl]; omega) (by rw [hswl]; exact hl) hu)
    have HE := Lib.hid (show at' (sw P i n) n = at' P i by rw [sw_at hi hnl]; unfold swf; rw [if_pos rfl])
    have HPM := Lib.hid (sw_perm hi hnl)
    have m2 := meth_Swap h.c1
    -- from the swapped row to the whole
    have HG := Lib.hid (fun (w1 w2 : World) (R : List E) (hs : PP w1 b c0 c2 (.slice A P.length c) (sw P i n)) (hf : Fr (Foot (.slice A P.length c) P) w w1) (hr : Perm1 w1 w2 b c0 c2 (.slice A P.length c) (sw P i n) R n) (ho : Ok (at' R) n) =>
      TL.out w2 R ⟨hr.pp, hr.perm.trans HPM.out, fun m hm => (by
        have l1 : R.length = P.length := (hr.perm.trans HPM.out).length_eq
        unfold at' List.getD; rw [List.getElem?_eq_none (by omega), List.getElem?_eq_none (by omega)]), hf.trans hr.fr (fun x hx _ => (foot_sw HPM.out).1 hx)⟩ ((hr.tail n (Nat.le_refl _)).trans HE.out) ho)
    have hne : ((n : Int) != (i : Int)) = true := by simp; omega
    obtain ⟨x, hx⟩ : ∃ x, x = at' P i := ⟨_, rfl⟩
    rw [← hx] at HG ⊢
    rw [← hn] at m1 m2 HL HS HD HU HG
    rw [← hn]
    clear h TL ho hl hi hswl hx hn hnl
    go_enter Try.func24, Try.ntmps24
    go_wp2_with fail
    refine HL.out.mono ?_
    rintro e w0 ⟨rfl, hw⟩
    subst hw
    go_wp2_with fail
    refine HS.out.mono ?_
    rintro e w1 ⟨rfl, hs, hf⟩
    have HS1 := Lib.hid hs
    have HF1 := Lib.hid hf
    clear hs hf
    go_wp2_with fail
    refine (HD.out _ HS1.out).mono ?_
    rintro e w2 ⟨Q, mv, rfl, hq, h1, h2⟩
    have HQ := Lib.hid hq
    cases mv
    · obtain ⟨rfl, hu⟩ := h2 rfl
      have HU2 := Lib.hid (HU.out _ hq.pp hu)
      clear hq h1 h2 hu
      go_wp2_with fail
      refine HU2.out.mono ?_
      rintro e w3 ⟨R, rfl, hr, ho⟩
      have HT := Lib.hid (HG.out w1 w3 R HS1.out HF1.out (HQ.out.then hr) ho)
      have mP : (method 193 67 (.pointer (some ⟨b, 1, none⟩)) "Pop").run Try.prog w3 = .ok (46, .pointer (some ⟨b, 1, none⟩)) w3 := meth_Pop
      clear hr ho
      go_wp2_with fail
      refine HT.out.mono ?_
      rintro e w4 ⟨v', Q2, rfl, h1, h2, h3, h4, h5⟩
      have HH := Lib.hid (show HRemoved w b c0 c2 (.slice A (n + 1) c) P x (.returned (ep x.1)) w4 from ⟨v', Q2, rfl, h1, h2, h3, h4, h5⟩)
      clear h1 h2 h3 h4 h5
      go_wp2_with fail
      go_ret
      exact HH.out
    · have HT := Lib.hid (HG.out w1 w2 Q HS1.out HF1.out hq (h1 rfl))
      have mP : (method 193 67 (.pointer (some ⟨b, 1, none⟩)) "Pop").run Try.prog w2 = .ok (46, .pointer (some ⟨b, 1, none⟩)) w2 := meth_Pop
      clear hq h1 h2
      go_wp2_with fail
      refine HT.out.mono ?_
      rintro e w4 ⟨v', Q2, rfl, h1, h2, h3, h4, h5⟩
      have HH := Lib.hid (show HRemoved w b c0 c2 (.slice A (n + 1) c) P x (.returned (ep x.1)) w4 from ⟨v', Q2, rfl, h1, h2, h3, h4, h5⟩)
      clear h1 h2 h3 h4 h5
      go_wp2_with fail
      go_ret
      exact HH.out
end
end Tm
end Go.Proofs.Ytkmlmjglipmdcaa
