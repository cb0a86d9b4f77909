/- Who may come in: Enter of the rights and of their reference. -/
import Derived.Test.YtompphakagoaeaaFqP
namespace Go.Proofs.Ytompphakagoaeaa
open Go.RowKit
set_option linter.unusedVariables false
set_option linter.unusedSimpArgs false
namespace Conf
/-- Whether somebody is a user, with this password. -/
def enterR (us : List Usr) (user pass : Str) : Int := match us.find? (fun x => decide (x.1 = user)) with
  | none => 7
  | some x => if x.2 = pass then 0 else 10
theorem enter_at {us : List Usr} {user pass : Str} {k : Nat} (h : k < us.length) (hb : ∀ j (h : j < us.length), j < k → us[j].1 ≠ user) (he : us[k].1 = user) : enterR us user pass = if us[k].2 = pass then 0 else 10 := by
  unfold enterR
  have : us.find? (fun x => decide (x.1 = user)) = some us[k] := by
    rw [List.find?_eq_some_iff_getElem]
    exact ⟨by simpa using he, k, h, rfl, fun j hj => by simpa using hb j (by omega) hj⟩
  rw [this]
theorem enter_none {us : List Usr} {user pass : Str} (hb : ∀ j (h : j < us.length), us[j].1 ≠ user) : enterR us user pass = 7 := by
  unfold enterR
  have : us.find? (fun x => decide (x.1 = user)) = none := by
    rw [List.find?_eq_none]
    intro x hx
    obtain ⟨j, hj, rfl⟩ := List.getElem_of_mem hx
    simpa using hb j hj
  rw [this]
theorem str_t {a b : Str} (h : a = b) : (a == b) = true := beq_iff_eq.2 h
theorem str_f {a b : Str} (h : a ≠ b) : (a == b) = false := beq_eq_false_iff_ne.2 h
/-- A user of a list. -/
theorem usr_at {w W : World} {S : Nat → Prop} {AU : Option Addr} {m kU i : Nat} {us : List Usr} (h : RSl 2 RUsr w S [.slice AU m kU] us) (hf : Fr No w W) (hS : ∀ k, S k → k < w.heap.size) (hi : i < us.length) :
    ∃ ad, AU = some ad ∧ (ad.add (i * 2)).block < w.heap.size ∧ W.cell? (ad.add (i * 2)) = some (.string ⟨us[i].1.toArray⟩) ∧ W.cell? ⟨(ad.add (i * 2)).block, (ad.add (i * 2)).off + 1, none⟩ = some (.string ⟨us[i].2.toArray⟩) := by
  obtain ⟨ad, ecs, rfl, hs, hecs, hcell, hr⟩ := RSl.at_ h hi
  obtain ⟨hl, ⟨h1, -⟩, h2, -⟩ := hr
  have he : ecs = [.string ⟨us[i].1.toArray⟩, .string ⟨us[i].2.toArray⟩] := by rw [← List.take_append_drop 1 ecs, h1, h2]; rfl
  have hb : (ad.add (i * 2)).block < w.heap.size := by rw [block_add]; exact hS _ hs
  have c0 := hcell 0 (by omega)
  have c1 := hcell 1 (by omega)
  rw [add_zero] at c0
  rw [he] at c0 c1
  exact ⟨ad, rfl, hb, (hf.cell hb (fun h => h)).trans c0, (hf.cell (p := ⟨(ad.add (i * 2)).block, (ad.add (i * 2)).off + 1, none⟩) hb (fun h => h)).trans c1⟩
set_option maxHeartbeats 1000000 in
theorem renter_any (c0 : Array Value) (x : C) (user pass : Str) (w : World) (S : Nat → Prop) (hS : ∀ k, S k → k < w.heap.size) (h : RConf w S c0.toList x) :
    Calls Try.prog 15 #[.agg c0, .string ⟨user.toArray⟩, .string ⟨pass.toArray⟩] w fun e w' => e = .returned (.int .i64 (enterR x.2.2.1 user pass)) ∧ Fr No w w' := by
  obtain ⟨vC, vG, vU, vA, bs, hc0, hC, hG, hU, hA, hB⟩ := conf_open h
  obtain ⟨AU, kU, rfl, hU1, hU2⟩ := hU.slice
  obtain ⟨us, hus⟩ : ∃ us, us = x.2.2.1 := ⟨_, rfl⟩
  rw [← hus] at hU hU1 ⊢
  have e2 : c0[2]? = some (.slice AU us.length kU) := by rw [hc0, hus]; rfl
  have HU := Lib.hid hU
  have E2 := Lib.hid e2
  have HS := Lib.hid hS
  unfold maxLen at hU2
  clear hC hG hU hA hB h hc0 e2 hus hS
  go_enter Try.func15, Try.ntmps15
  go_wp2
  have hb := (Blk.new w 28 c0).cell 2
  rw [E2.out] at hb
  have hf := (Fr.refl No w).alloc (.cells c0 28)
  have HF := Lib.hid hf
  generalize w.alloc (.cells c0 28) = W at hb hf HF ⊢
  obtain ⟨bc, hbc⟩ : ∃ bc, w.heap.size = bc := ⟨_, rfl⟩
  rw [hbc] at hb ⊢
  clear hf
  go_loop [7] (fun i => ∃ k : Nat, i = .int .i64 k ∧ k ≤ us.length ∧ Hid (∀ j (h : j < us.length), j < k → us[j].1 ≠ user)) (fun i => us.length - (intOf i).toNat)
  case atStart => exact ⟨0, rfl, by omega, fun j _ h => absurd h (by omega)⟩
  case round =>
    obtain ⟨k, rfl, hk, hd⟩ := hrel
    by_cases hlt : k < us.length
    · obtain ⟨ad, rfl, -, k1, k2⟩ := usr_at HU.out HF.out HS.out hlt
      by_cases he : us[k].1 = user
      · have hr := Lib.hid (enter_at (pass := pass) hlt hd.out he)
        clear hd
        have hs1 := str_t he
        by_cases hp : us[k].2 = pass
        · rw [if_pos hp] at hr
          have hs2 := str_t hp
          clear he hp
          go_wp2
          go_ret
          exact ⟨ret_int hr.out.symm, HF.out⟩
        · rw [if_neg hp] at hr
          have hs2 := str_f hp
          clear he hp
          go_wp2
          go_ret
          exact ⟨ret_int hr.out.symm, HF.out⟩
      · have hs1 := str_f he
        have hn : Hid (∀ j (h : j < us.length), j < k + 1 → us[j].1 ≠ user) := by
          intro j h hj
          by_cases e : j = k
          · subst e; exact he
          · exact hd.out j h (by omega)
        clear hd he
        go_wp2
        go_round
        case rel => exact ⟨k + 1, by go_num, by omega, hn⟩
        case measure => simp [intOf]; omega
    · have hr := Lib.hid (enter_none (pass := pass) fun j h => hd.out j h (by omega))
      clear hd
      go_wp2
      go_ret
      exact ⟨ret_int hr.out.symm, HF.out⟩
set_option maxHeartbeats 1000000 in
theorem same_name (w : World) (B : Nat) (a b user : Str) (hB : w.cell? ⟨B, 0, none⟩ = some (.string ⟨user.toArray⟩)) (hlt : B < w.heap.size) :
    Calls Try.prog 28 #[.agg #[.string ⟨a.toArray⟩, .string ⟨b.toArray⟩], .pointer (some ⟨B, 0, none⟩)] w fun e w' => e = .returned (.bool (decide (a = user))) ∧ Fr No w w' := by
  have hne : B ≠ w.heap.size := by omega
  by_cases h : a = user
  · have hs := str_t h
    rw [decide_eq_true h]
    clear h
    go_enter Try.func28, Try.ntmps28
    go_wp2
    go_ret
    exact ⟨rfl, (Fr.refl _ _).alloc _⟩
  · have hs := str_f h
    rw [decide_eq_false h]
    clear h
    go_enter Try.func28, Try.ntmps28
    go_wp2
    go_ret
    exact ⟨rfl, (Fr.refl _ _).alloc _⟩
/-- Where a user of the name stands. -/
def placeR (us : List Usr) (user : Str) : Int := match us.findIdx? (fun x => decide (x.1 = user)) with
  | none => -1
  | some i => i
theorem place_at {us : List Usr} {user : Str} {k : Nat} (h : k < us.length) (hb : ∀ j (h : j < us.length), j < k → us[j].1 ≠ user) (he : us[k].1 = user) : placeR us user = k := by
  unfold placeR
  have : us.findIdx? (fun x => decide (x.1 = user)) = some k := by
    rw [List.findIdx?_eq_some_iff_getElem]
    exact ⟨h, by simpa using he, fun j hj => by simpa using hb j (by omega) hj⟩
  rw [this]
theorem place_none {us : List Usr} {user : Str} (hb : ∀ j (h : j < us.length), us[j].1 ≠ user) : placeR us user = -1 := by
  unfold placeR
  have : us.findIdx? (fun x => decide (x.1 = user)) = none := by
    rw [List.findIdx?_eq_none_iff]
    intro x hx
    obtain ⟨j, hj, rfl⟩ := List.getElem_of_mem hx
    simpa using hb j hj
  rw [this]
theorem first_of (us : List Usr) (user : Str) : (∀ j (h : j < us.length), us[j].1 ≠ user) ∨ ∃ (k : Nat) (h : k < us.length), us[k].1 = user ∧ ∀ j (h : j < us.length), j < k → us[j].1 ≠ user := by
  cases h : us.findIdx? (fun x => decide (x.1 = user)) with
  | none =>
    refine .inl fun j hj => ?_
    have := List.findIdx?_eq_none_iff.1 h us[j] (List.getElem_mem _)
    simpa using this
  | some k =>
    obtain ⟨h1, h2, h3⟩ := List.findIdx?_eq_some_iff_getElem.1 h
    exact .inr ⟨k, h1, by simpa using h2, fun j hj hjk => by simpa using h3 j hjk⟩
set_option maxHeartbeats 1000000 in
theorem index_any (AU : Option Addr) (kU : Nat) (us : List Usr) (user : Str) (w : World) (S : Nat → Prop) (hS : ∀ k, S k → k < w.heap.size) (h : RSl 2 RUsr w S [.slice AU us.length kU] us) (B : Nat)
    (hB : w.cell? ⟨B, 0, none⟩ = some (.string ⟨user.toArray⟩)) (hlB : B < w.heap.size) :
    Calls Try.prog 27 #[.slice AU us.length kU, .func (.func 28) #[] #[.pointer (some ⟨B, 0, none⟩)]] w fun e w' => e = .returned (.int .i64 (placeR us user)) ∧ Fr No w w' := by
  obtain ⟨hU1, hU2⟩ : us.length ≤ kU ∧ kU ≤ 9223372036854775807 := by
    obtain ⟨A, c, e, h1, h2, -⟩ := h
    injection e with e _
    injection e with _ _ e
    subst e
    exact ⟨h1, h2⟩
  have HU := Lib.hid h
  have HS := Lib.hid hS
  have HB := Lib.hid hB
  clear h hS hB
  go_enter Try.func27, Try.ntmps27
  go_wp2
  go_loopw [8] (fun iv wr => ∃ k : Nat, iv = .int .i64 k ∧ k ≤ us.length ∧ Hid (∀ j (h : j < us.length), j < k → us[j].1 ≠ user) ∧ Hid (Fr No w wr)) (fun i _ => us.length - (intOf i).toNat)
  case atStart => exact ⟨0, rfl, by omega, fun j _ h => absurd h (by omega), Fr.refl _ _⟩
  case round =>
    obtain ⟨k, rfl, hk, Hd, HF⟩ := hrel
    by_cases hlt : k < us.length
    · obtain ⟨ad, rfl, -, k1, k2⟩ := usr_at HU.out HF.out HS.out hlt
      have hcl := fun W (hf : Fr No wr W) => same_name W B us[k].1 us[k].2 user ((HF.out.then_no hf).cell (p := ⟨B, 0, none⟩) hlB (fun h => h) |>.trans HB.out) (Nat.lt_of_lt_of_le hlB (HF.out.then_no hf).size)
      by_cases he : us[k].1 = user
      · have hx := Lib.hid (place_at hlt Hd.out he)
        rw [decide_eq_true he] at hcl
        obtain ⟨a, ha⟩ : ∃ a, a = us[k].1 := ⟨_, rfl⟩
        obtain ⟨b, hb⟩ : ∃ b, b = us[k].2 := ⟨_, rfl⟩
        rw [← ha, ← hb] at hcl
        rw [← ha] at k1
        rw [← hb] at k2
        have Hcl := Lib.hid hcl
        clear hcl he ha hb
        go_wp2_with (go_at_call 28; refine (Hcl.out _ (Fr.refl _ _)).mono ?_; rintro e w2 ⟨rfl, hf⟩; have Hf := Lib.hid hf; clear hf)
        go_ret
        exact ⟨ret_int hx.out.symm, HF.out.then_no Hf.out⟩
      · have hn : Hid (∀ j (h : j < us.length), j < k + 1 → us[j].1 ≠ user) := by
          intro j h hj
          by_cases e : j = k
          · subst e; exact he
          · exact Hd.out j h (by omega)
        rw [decide_eq_false he] at hcl
        obtain ⟨a, ha⟩ : ∃ a, a = us[k].1 := ⟨_, rfl⟩
        obtain ⟨b, hb⟩ : ∃ b, b = us[k].2 := ⟨_, rfl⟩
        rw [← ha, ← hb] at hcl
        rw [← ha] at k1
        rw [← hb] at k2
        have Hcl := Lib.hid hcl
        clear hcl he ha hb
        go_wp2_with (go_at_call 28; refine (Hcl.out _ (Fr.refl _ _)).mono ?_; rintro e w2 ⟨rfl, hf⟩; have Hf := Lib.hid hf; clear hf)
        go_roundw
        case rel => exact ⟨k + 1, by go_num, by omega, hn, HF.out.then_no Hf.out⟩
        case measure => simp [intOf]; omega
    · have hx := Lib.hid (place_none fun j h => Hd.out j h (by omega))
      clear Hd
      go_wp2
      go_ret
      exact ⟨ret_int hx.out.symm, HF.out⟩
set_option maxHeartbeats 1000000 in
theorem enter_any (c0 : Array Value) (x : C) (user pass : Str) (w : World) (S : Nat → Prop) (hS : ∀ k, S k → k < w.heap.size) (h : RConf w S c0.toList x) :
    Calls Try.prog 14 #[.agg c0, .string ⟨user.toArray⟩, .string ⟨pass.toArray⟩] w fun e w' => e = .returned (.int .i64 (enterR x.2.2.1 user pass)) ∧ Fr No w w' := by
  obtain ⟨vC, vG, vU, vA, bs, hc0, hC, hG, hU, hA, hB⟩ := conf_open h
  obtain ⟨AU, kU, rfl, hU1, hU2⟩ := hU.slice
  obtain ⟨us, hus⟩ : ∃ us, us = x.2.2.1 := ⟨_, rfl⟩
  rw [← hus] at hU hU1 ⊢
  have e2 : c0[2]? = some (.slice AU us.length kU) := by rw [hc0, hus]; rfl
  have HU := Lib.hid hU
  have E2 := Lib.hid e2
  have HS := Lib.hid hS
  unfold maxLen at hU2
  have hW2 : Fr No w ((w.alloc (.cells c0 28)).alloc (.cells #[.string ⟨user.toArray⟩] 9)) := ((Fr.refl No w).alloc _).alloc _
  have hix := index_any AU kU us user ((w.alloc (.cells c0 28)).alloc (.cells #[.string ⟨user.toArray⟩] 9)) S (fun k hk => Nat.lt_of_lt_of_le (hS k hk) hW2.size) ((RSl.stable stable_usr).go hU (Kept.of_no hW2 hS) fun b hb => hb) (w.heap.size + 1)
    (by have := (Blk.new (w.alloc (.cells c0 28)) 9 #[.string ⟨user.toArray⟩]).cell 0; rw [size_alloc] at this; exact this) (by simp)
  have hbk := (Blk.new w 28 c0).alloc (.cells #[.string ⟨user.toArray⟩] 9)
  have hb2 := hbk.cell 2
  rw [e2] at hb2
  have HW2 := Lib.hid hW2
  have HB := Lib.hid hbk
  rcases first_of us user with hn | ⟨k, hlt, he, hb⟩
  · rw [place_none hn] at hix
    have hr := Lib.hid (enter_none (pass := pass) hn)
    have Hix := Lib.hid hix
    clear hC hG hU hA hB h hc0 e2 hus hS hix hn hbk hW2
    go_enter Try.func14, Try.ntmps14
    go_wp2_with (go_at_call 27; refine Hix.out.mono ?_; rintro e w2 ⟨rfl, hf⟩; have Hf := Lib.hid hf; clear hf)
    go_ret
    exact ⟨ret_int hr.out.symm, HW2.out.then_no Hf.out⟩
  · rw [place_at hlt hb he] at hix
    have hr := Lib.hid (enter_at (pass := pass) hlt hb he)
    obtain ⟨ad, rfl, -, -, -⟩ := usr_at HU.out HW2.out HS.out hlt
    have hk2 := fun W hf => (usr_at (W := W) HU.out (HW2.out.then_no hf) HS.out hlt)
    have hlc : w.heap.size < ((w.alloc (.cells c0 28)).alloc (.cells #[.string ⟨user.toArray⟩] 9)).heap.size := by simp; omega
    by_cases hp : us[k].2 = pass
    · rw [if_pos hp] at hr
      have hs2 := str_t hp
      obtain ⟨q, hq⟩ : ∃ q, q = us[k].2 := ⟨_, rfl⟩
      have hk3 : ∀ W, Fr No ((w.alloc (.cells c0 28)).alloc (.cells #[.string ⟨user.toArray⟩] 9)) W → W.cell? ⟨(ad.add (k * 2)).block, (ad.add (k * 2)).off + 1, none⟩ = some (.string ⟨q.toArray⟩) := fun W hf => by
        obtain ⟨ad', e, -, -, h⟩ := hk2 W hf
        injection e with e
        subst e
        rw [hq]; exact h
      rw [← hq] at hs2
      have Hk3 := Lib.hid hk3
      have Hix := Lib.hid hix
      have Hb2 := Lib.hid hb2
      clear hC hG hU hA hB h hc0 e2 hus hS hix hbk hW2 hk2 hk3 hb he hp hq hb2
      go_enter Try.func14, Try.ntmps14
      have hb2 := Hb2.out
      go_wp2_with (go_at_call 27; refine Hix.out.mono ?_; rintro e w2 ⟨rfl, hf⟩; have q1 := Hk3.out w2 hf; have q2 := (hf.cell (p := ⟨w.heap.size, 2, none⟩) hlc (fun h => h)).trans Hb2.out; have Hf := Lib.hid hf; clear hf)
      go_ret
      exact ⟨ret_int hr.out.symm, HW2.out.then_no Hf.out⟩
    · rw [if_neg hp] at hr
      have hs2 := str_f hp
      obtain ⟨q, hq⟩ : ∃ q, q = us[k].2 := ⟨_, rfl⟩
      have hk3 : ∀ W, Fr No ((w.alloc (.cells c0 28)).alloc (.cells #[.string ⟨user.toArray⟩] 9)) W → W.cell? ⟨(ad.add (k * 2)).block, (ad.add (k * 2)).off + 1, none⟩ = some (.string ⟨q.toArray⟩) := fun W hf => by
        obtain ⟨ad', e, -, -, h⟩ := hk2 W hf
        injection e with e
        subst e
        rw [hq]; exact h
      rw [← hq] at hs2
      have Hk3 := Lib.hid hk3
      have Hix := Lib.hid hix
      have Hb2 := Lib.hid hb2
      clear hC hG hU hA hB h hc0 e2 hus hS hix hbk hW2 hk2 hk3 hb he hp hq hb2
      go_enter Try.func14, Try.ntmps14
      have hb2 := Hb2.out
      go_wp2_with (go_at_call 27; refine Hix.out.mono ?_; rintro e w2 ⟨rfl, hf⟩; have q1 := Hk3.out w2 hf; have q2 := (hf.cell (p := ⟨w.heap.size, 2, none⟩) hlc (fun h => h)).trans Hb2.out; have Hf := Lib.hid hf; clear hf)
      go_ret
      exact ⟨ret_int hr.out.symm, HW2.out.then_no Hf.out⟩
end Conf
end Go.Proofs.Ytompphakagoaeaa
