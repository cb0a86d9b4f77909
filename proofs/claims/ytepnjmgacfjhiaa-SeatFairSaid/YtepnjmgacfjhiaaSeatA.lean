/- Package seat: acts. Printed by gen_seata.py. -/
import Derived.Test.YtepnjmgacfjhiaaSeatO
namespace Go.Proofs.Ytepnjmgacfjhiaa
open Go.RowKit
set_option linter.unusedVariables false
set_option linter.unusedSimpArgs false
namespace Seat
open Sls
theorem own_news {w : World} {base : Nat} {e : TypeId} {size n m c : Nat} {B : Option Addr} {xs : List Value} (h : w.ownsRow base e size (.slice B m c) n xs) (hs : 0 < size) : ∀ j u, xs[j]? = some u → ∃ ad, B = some ad ∧ w.cell? (ad.add j) = some u := by
  intro j u hu
  rcases h.2 with ⟨h1, h0⟩ | ⟨g, cap, cur, h1, _⟩
  · have := h.1
    rw [h0, Nat.zero_mul] at this
    rw [List.eq_nil_of_length_eq_zero this] at hu
    cases hu
  · injection h1 with a1 a2 a3
    subst a1
    exact ⟨_, rfl, h.cells (g := g) rfl j u hu⟩
theorem next_eq {q : List Int} {x : Int} {t : List Int} (hn : q.Nodup) (hq : q = x :: t) : without q x = t.erase x := by
  subst hq
  have hx : x ∉ t := (List.nodup_cons.1 hn).1
  rw [List.erase_of_not_mem hx]
  unfold without
  rw [List.filter_cons_of_neg (by simp)]
  exact without_not hx
/-- An act behind an act. -/
theorem Tells.after {r : St × Sh × Int} {F F1 : Nat → Prop} {b : Nat} {w w1 w2 : World} {e : Ending} (h : Tells r F1 b w1 e w2) (hs : Step F w F1 w1) : Tells r F b w e w2 := by
  obtain ⟨F', v, he, hr, ha, ht⟩ := h
  exact ⟨F', v, he, ⟨hr.own, fun k hk => ⟨Nat.le_trans hs.1.size (hr.new k hk).1, (hr.new k hk).2⟩, hr.off⟩, ha, hs.trans ht⟩
section
variable {w : World} {F : Nat → Prop} {b : Nat} {s : St}
theorem tells_one {F1 : Nat → Prop} {w1 : World} {s1 : St} (id ro : Int) (h : SAt w1 F1 b s1) (hs : Step F w F1 w1) : Tells (s1, [(id, ro)], 0) F b w (.returned (.tuple #[.slice (some ⟨w1.heap.size, 0, none⟩) 1 1, .int .i64 0])) (w1.alloc (.cells #[.int .i64 id, .int .i64 ro] 79)) :=
  ⟨F1, _, rfl, ShR.one (id, ro) h.lt hs.1.size, h.no ((Fr.refl No w1).alloc _), hs.trans (Step.no ((Fr.refl No w1).alloc _))⟩
theorem tells_of {F1 : Nat → Prop} {w1 w2 : World} {s1 : St} {l : Sh} {v : Value} (hs : Step F w F1 w1) (F' : Nat → Prop) (hr : ShR w1 w2 F' v l) (ha : SAt w2 F' b s1) (ht : Step F1 w1 F' w2) : Tells (s1, l, 0) F b w (.returned (.tuple #[v, .int .i64 0])) w2 :=
  ⟨F', v, rfl, ⟨hr.own, fun k hk => ⟨Nat.le_trans hs.1.size (hr.new k hk).1, (hr.new k hk).2⟩, hr.off⟩, ha, hs.trans ht⟩
set_option maxRecDepth 100000 in
theorem spy_any (h : SAt w F b s) (hi : Inv s) (id level : Int) (hid : (Lit.int .i64 id).wf = true) (hlv : (Lit.int .i64 level).wf = true) :
    Calls Try.prog 26 #[.pointer (some ⟨b, 0, none⟩), .int .i64 id, .int .i64 level] w (Tells (comeR s id level false) F b w) := by
  have HC := Lib.hid (come_any h hi id level hid hlv)
  obtain ⟨c, hc⟩ : ∃ c, comeC s id level = c := ⟨_, rfl⟩
  rw [hc] at HC
  by_cases h0 : c = 0
  · subst h0
    have e : comeR s id level false = (comeS s id level, [(id, 1)], 0) := by unfold comeR; rw [if_neg (by simp [hc]), if_neg (by simp)]
    rw [e]
    rw [if_pos rfl] at HC
    clear h hc e
    go_enter Try.func26, Try.ntmps26
    go_wp2_with fail
    refine HC.out.mono ?_
    rintro e w1 ⟨F1, rfl, ha, hs⟩
    have A1 := Lib.hid ha
    have S1 := Lib.hid hs
    clear ha hs
    go_wp2_with fail
    go_ret2
    exact tells_one id 1 A1.out S1.out
  · have e : comeR s id level false = (s, [], c) := by unfold comeR; rw [if_pos (by rw [hc]; exact h0), hc]
    rw [e]
    rw [if_neg h0] at HC
    have hcn : (c != 0) = true := by simpa using h0
    clear h hc e h0
    go_enter Try.func26, Try.ntmps26
    go_wp2_with fail
    refine HC.out.mono ?_
    rintro e w1 ⟨F1, rfl, ha, hs⟩
    have A1 := Lib.hid ha
    have S1 := Lib.hid hs
    clear ha hs
    go_wp2_with fail
    go_ret2
    exact ⟨F1, _, rfl, ShR.nil _ _ _, A1.out, S1.out⟩
set_option maxRecDepth 100000 in
theorem call_any (h : SAt w F b s) (hi : Inv s) (id level : Int) (hid : (Lit.int .i64 id).wf = true) (hlv : (Lit.int .i64 level).wf = true) :
    Calls Try.prog 25 #[.pointer (some ⟨b, 0, none⟩), .int .i64 id, .int .i64 level] w (Tells (comeR s id level true) F b w) := by
  have HC := Lib.hid (come_any h hi id level hid hlv)
  obtain ⟨c, hc⟩ : ∃ c, comeC s id level = c := ⟨_, rfl⟩
  rw [hc] at HC
  by_cases h0 : c = 0
  · subst h0
    rw [if_pos rfl] at HC
    by_cases hb : s.wr < 0 ∧ 2 ≤ level
    · have e : comeR s id level true = (⟨s.L ++ [(id, level)], s.most, id, s.q⟩, [(id, 2)], 0) := by unfold comeR; rw [if_neg (by simp [hc]), if_pos ⟨rfl, hb⟩]
      rw [e]
      obtain ⟨hw1, hw2⟩ : s.wr = -1 ∧ s.q = [] := by rcases hi.wr_cases with g | g; exact g; omega
      have hl2 : 2 ≤ level := hb.2
      have hhe : (s.wr != -1) = false := by rw [hw1]; rfl
      have HW1 := Lib.hid hw1
      have HW2 := Lib.hid hw2
      have HHE := Lib.hid hhe
      clear h hc e hb hw1 hw2 hhe
      go_enter Try.func25, Try.ntmps25
      go_wp2_with fail
      refine HC.out.mono ?_
      rintro e w1 ⟨F1, rfl, ha, hs⟩
      have S1 := Lib.hid hs
      have HH := Lib.hid (held_any ha)
      have hhe2 : ((comeS s id level).wr != -1) = false := HHE.out
      rw [hhe2] at HH
      have HB := Lib.hid (become_any ha (.inl HW1.out) id)
      clear ha hs hhe2
      go_wp2_with fail
      refine HH.out.mono ?_
      rintro e w2 ⟨rfl, rfl⟩
      go_wp2_with fail
      refine HB.out.mono ?_
      rintro e w3 ⟨F', v', rfl, hr, ha, hs⟩
      rw [show (comeS s id level).wr = -1 from HW1.out, if_neg (by decide)] at hr
      rw [show (comeS s id level).q.erase id = s.q by show s.q.erase id = s.q; rw [HW2.out]; rfl] at ha
      have R3 := Lib.hid hr
      have A3 := Lib.hid ha
      have S3 := Lib.hid hs
      clear hr ha hs
      go_wp2_with fail
      go_ret2
      exact tells_of S1.out F' R3.out A3.out S3.out
    · have e : comeR s id level true = (comeS s id level, [(id, 1)], 0) := by unfold comeR; rw [if_neg (by simp [hc]), if_neg (by rintro ⟨_, g⟩; exact hb g)]
      rw [e]
      have hhb : (s.wr != -1) = true ∨ (s.wr != -1) = false ∧ level < 2 := by
        rw [hi.held]
        by_cases g : 0 ≤ s.wr
        · exact .inl (decide_eq_true g)
        · exact .inr ⟨decide_eq_false g, by omega⟩
      clear h hc e hb
      rcases hhb with hhe | ⟨hhe, hl2⟩
      all_goals
        have HHE := Lib.hid hhe
        clear hhe
        go_enter Try.func25, Try.ntmps25
        go_wp2_with fail
        refine HC.out.mono ?_
        rintro e w1 ⟨F1, rfl, ha, hs⟩
        have S1 := Lib.hid hs
        have A1 := Lib.hid ha
        have HH := Lib.hid (held_any ha)
        have hhe2 := HHE.out
        rw [show (comeS s id level).wr = s.wr from rfl, hhe2] at HH
        clear ha hs hhe2
        go_wp2_with fail
        refine HH.out.mono ?_
        rintro e w2 ⟨rfl, rfl⟩
        go_wp2_with fail
        go_ret2
        exact tells_one id 1 A1.out S1.out
  · have e : comeR s id level true = (s, [], c) := by unfold comeR; rw [if_pos (by rw [hc]; exact h0), hc]
    rw [e]
    rw [if_neg h0] at HC
    have hcn : (c != 0) = true := by simpa using h0
    clear h hc e h0
    go_enter Try.func25, Try.ntmps25
    go_wp2_with fail
    refine HC.out.mono ?_
    rintro e w1 ⟨F1, rfl, ha, hs⟩
    have A1 := Lib.hid ha
    have S1 := Lib.hid hs
    clear ha hs
    go_wp2_with fail
    go_ret2
    exact ⟨F1, _, rfl, ShR.nil _ _ _, A1.out, S1.out⟩
/-- become, as the plain terms say it. -/
theorem become_r (h : SAt w F b s) (hi : Inv s) (id : Int) : Calls Try.prog 53 #[.pointer (some ⟨b, 0, none⟩), .int .i64 id] w (Became (becomeR s id).1 (becomeR s id).2 F b w) := by
  have := become_any h (hi.wr_cases.elim (fun g => .inl g.1) (fun g => .inr g.1)) id
  rw [erase_without hi] at this
  exact this
set_option maxRecDepth 100000 in
set_option maxHeartbeats 2000000 in
theorem force_any (h : SAt w F b s) (hi : Inv s) (id : Int) : Calls Try.prog 48 #[.pointer (some ⟨b, 0, none⟩), .int .i64 id] w (Tells (takeR s id true) F b w) := by
  have HW := Lib.hid (wants_any h id)
  have H := Lib.hid h
  obtain ⟨c, hc⟩ : ∃ c, wantsR s id = c := ⟨_, rfl⟩
  rw [hc] at HW
  by_cases h0 : c = 0
  · subst h0
    rw [if_pos rfl] at HW
    obtain ⟨lv, hlv⟩ : ∃ lv, lv = levelR s.L id := ⟨_, rfl⟩
    rw [← hlv] at HW
    by_cases hb : lv < 3
    · have e : takeR s id true = (s, [], 10) := by unfold takeR; rw [if_neg (by simp [hc]), if_pos (by unfold takeB; rw [if_pos rfl, ← hlv]; exact decide_eq_true hb)]
      rw [e]
      clear h hc e hlv
      go_enter Try.func48, Try.ntmps48
      go_wp2_with fail
      refine HW.out.mono ?_
      rintro e w1 ⟨rfl, hf⟩
      have HF := Lib.hid hf
      clear hf
      go_wp2_with fail
      go_ret2
      exact Tells.no H.out HF.out
    · have e : takeR s id true = ((becomeR s id).1, (becomeR s id).2, 0) := by unfold takeR; rw [if_neg (by simp [hc]), if_neg (by unfold takeB; rw [if_pos rfl, ← hlv]; simpa using hb)]
      rw [e]
      have hl3 : 3 ≤ lv := by omega
      clear h hc e hlv hb
      go_enter Try.func48, Try.ntmps48
      go_wp2_with fail
      refine HW.out.mono ?_
      rintro e w1 ⟨rfl, hf⟩
      have HF := Lib.hid hf
      have HB := Lib.hid (become_r (H.out.no hf) hi id)
      clear hf
      go_wp2_with fail
      refine HB.out.mono ?_
      rintro e w3 ⟨F', v', rfl, hr, ha, hs⟩
      have R3 := Lib.hid hr
      have A3 := Lib.hid ha
      have S3 := Lib.hid hs
      clear hr ha hs
      go_wp2_with fail
      go_ret2
      exact tells_of (Step.no HF.out) F' R3.out A3.out S3.out
  · have e : takeR s id true = (s, [], c) := by unfold takeR; rw [if_pos (by rw [hc]; exact h0), hc]
    rw [e]
    rw [if_neg h0] at HW
    have hcn : (c != 0) = true := by simpa using h0
    clear h hc e h0
    go_enter Try.func48, Try.ntmps48
    go_wp2_with fail
    refine HW.out.mono ?_
    rintro e w1 ⟨rfl, hf⟩
    have HF := Lib.hid hf
    clear hf
    go_wp2_with fail
    go_ret2
    exact Tells.no H.out HF.out
set_option maxRecDepth 100000 in
set_option maxHeartbeats 2000000 in
theorem ask_any (h : SAt w F b s) (hi : Inv s) (id : Int) (hid : (Lit.int .i64 id).wf = true) : Calls Try.prog 27 #[.pointer (some ⟨b, 0, none⟩), .int .i64 id] w (Tells (askR s id) F b w) := by
  have HW := Lib.hid (wants_any h id)
  have H := Lib.hid h
  obtain ⟨c, hc⟩ : ∃ c, wantsR s id = c := ⟨_, rfl⟩
  rw [hc] at HW
  obtain ⟨lv, hlv⟩ : ∃ lv, lv = (if c = 0 then levelR s.L id else 0) := ⟨_, rfl⟩
  rw [← hlv] at HW
  by_cases h0 : c = 0
  · subst h0
    clear hlv
    by_cases hb : s.wr < 0
    · have e : askR s id = ((becomeR s id).1, (becomeR s id).2, 0) := by unfold askR; rw [if_neg (by simp [hc]), if_pos hb]
      rw [e]
      have hhe : (s.wr != -1) = false := by rw [hi.held]; exact decide_eq_false (by omega)
      have HHE := Lib.hid hhe
      clear h hc e hb hhe
      go_enter Try.func27, Try.ntmps27
      go_wp2_with fail
      refine HW.out.mono ?_
      rintro e w1 ⟨rfl, hf⟩
      have HF := Lib.hid hf
      have HH := Lib.hid (held_any (H.out.no hf))
      rw [HHE.out] at HH
      have HB := Lib.hid (become_r (H.out.no hf) hi id)
      clear hf
      go_wp2_with fail
      refine HH.out.mono ?_
      rintro e w2 ⟨rfl, rfl⟩
      go_wp2_with fail
      refine HB.out.mono ?_
      rintro e w3 ⟨F', v', rfl, hr, ha, hs⟩
      have R3 := Lib.hid hr
      have A3 := Lib.hid ha
      have S3 := Lib.hid hs
      clear hr ha hs
      go_wp2_with fail
      go_ret2
      exact tells_of (Step.no HF.out) F' R3.out A3.out S3.out
    · have hhe : (s.wr != -1) = true := by rw [hi.held]; exact decide_eq_true (by omega)
      have HHE := Lib.hid hhe
      obtain ⟨p, hp⟩ : ∃ p, Qint.putR s.q s.most id = p := ⟨_, rfl⟩
      obtain ⟨v, q, G, hq⟩ := h
      have hme := fun W => meth_Put q W
      have HQ := Lib.hid hq
      by_cases hp0 : p.2 = 0
      · have e : askR s id = (⟨s.L, s.most, s.wr, p.1⟩, [(id, 3)], 0) := by unfold askR; rw [if_neg (by simp [hc]), if_neg hb, if_neg (by rw [hp]; simpa using hp0), hp]
        rw [e]
        have HP := Lib.hid hp
        have HP0 := Lib.hid hp0
        clear hc e hb hhe hq hp hp0
        go_enter Try.func27, Try.ntmps27
        go_wp2_with fail
        refine HW.out.mono ?_
        rintro e w1 ⟨rfl, hf⟩
        have HF := Lib.hid hf
        have Q1 := Lib.hid (HQ.out.no hf)
        have HH := Lib.hid (held_any (H.out.no hf))
        rw [HHE.out] at HH
        have c3 := Q1.out.c3
        have HPU := Lib.hid (Qint.put_any id hid Q1.out.sp.que)
        rw [HP.out, HP0.out] at HPU
        clear hf
        go_wp2_with fail
        refine HH.out.mono ?_
        rintro e w2 ⟨rfl, rfl⟩
        go_wp2_with fail
        refine HPU.out.mono ?_
        rintro e w3 ⟨G', rfl, hq3, hs3⟩
        obtain ⟨k1, k2⟩ := Q1.out.queue hq3 hs3
        have A3 := Lib.hid k1.at
        have S3 := Lib.hid ((Step.no (F := F) HF.out).trans k2)
        clear k1 k2 hq3 hs3 c3
        go_wp2_with fail
        go_ret2
        exact tells_one id 3 A3.out S3.out
      · have e : askR s id = (s, [], p.2) := by unfold askR; rw [if_neg (by simp [hc]), if_neg hb, if_pos (by rw [hp]; exact hp0), hp]
        rw [e]
        have hp1 : p.1 = s.q := by
          rw [← hp] at hp0 ⊢
          unfold Qint.putR at hp0 ⊢
          split
          · rfl
          · split
            · rfl
            · rename_i g1 g2
              rw [if_neg g1, if_neg g2] at hp0
              exact absurd rfl hp0
        have HP := Lib.hid hp
        have HP1 := Lib.hid hp1
        obtain ⟨pc, hpc⟩ : ∃ pc, pc = p.2 := ⟨_, rfl⟩
        rw [← hpc] at hp0 ⊢
        have HPC := Lib.hid hpc
        have hcn : (pc != 0) = true := by simpa using hp0
        clear hc e hb hhe hq hp hp0 hp1 hpc
        go_enter Try.func27, Try.ntmps27
        go_wp2_with fail
        refine HW.out.mono ?_
        rintro e w1 ⟨rfl, hf⟩
        have HF := Lib.hid hf
        have Q1 := Lib.hid (HQ.out.no hf)
        have HH := Lib.hid (held_any (H.out.no hf))
        rw [HHE.out] at HH
        have c3 := Q1.out.c3
        have HPU := Lib.hid (Qint.put_any id hid Q1.out.sp.que)
        rw [HP.out, ← HPC.out, HP1.out] at HPU
        clear hf
        go_wp2_with fail
        refine HH.out.mono ?_
        rintro e w2 ⟨rfl, rfl⟩
        go_wp2_with fail
        refine HPU.out.mono ?_
        rintro e w3 ⟨G', rfl, hq3, hs3⟩
        obtain ⟨k1, k2⟩ := Q1.out.queue hq3 hs3
        have A3 := Lib.hid k1.at
        have S3 := Lib.hid ((Step.no (F := F) HF.out).trans k2)
        clear k1 k2 hq3 hs3 c3
        go_wp2_with fail
        go_ret2
        exact ⟨_, _, rfl, ShR.nil _ _ _, A3.out, S3.out⟩
  · have e : askR s id = (s, [], c) := by unfold askR; rw [if_pos (by rw [hc]; exact h0), hc]
    rw [e]
    have hcn : (c != 0) = true := by simpa using h0
    clear h hc e h0 hlv
    go_enter Try.func27, Try.ntmps27
    go_wp2_with fail
    refine HW.out.mono ?_
    rintro e w1 ⟨rfl, hf⟩
    have HF := Lib.hid hf
    clear hf
    go_wp2_with fail
    go_ret2
    exact Tells.no H.out HF.out
end
end Seat
end Go.Proofs.Ytepnjmgacfjhiaa
