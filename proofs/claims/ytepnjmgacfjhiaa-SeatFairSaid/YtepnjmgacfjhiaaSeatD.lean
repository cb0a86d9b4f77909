/- Package seat: the law SeatFair. Printed by gen_seatd.py. -/
import Derived.Test.YtepnjmgacfjhiaaSeatL
import Derived.BigQuiet
import Derived.Deep.CutRange
import Derived.Deep.RegionHeld3
import Derived.Outline
import Derived.BigGuardPart
namespace Go.Proofs.Ytepnjmgacfjhiaa
open Go.RowKit
set_option linter.unusedVariables false
set_option linter.unusedSimpArgs false
namespace Seat
open Sls
/-- 50 writes, all others wait, or look on. -/
structure Fa (k : Nat) (s : St) : Prop where
  wr : s.wr = 50
  most : s.most = 100
  len : s.L.length ≤ k + 1
  lv : ∀ m ∈ s.L, m.2 = 2
  th : thereB s.L 50 = true
  ql : s.q.length ≤ k
theorem level_two {L : Sh} {x : Int} (h : ∀ m ∈ L, m.2 = 2) (ht : thereB L x = true) : levelR L x = 2 := by
  rcases placeM_cases L x with ⟨_, g, _⟩ | ⟨j, hj, _, _, _, g, _⟩
  · rw [ht] at g; cases g
  · rw [g]; exact h _ (List.getElem_mem hj)
/-- Somebody comes, to look on. -/
theorem fa_spy {k : Nat} {s : St} (h : Fa k s) (hk : k ≤ 40) {id : Int} (h0 : 0 ≤ id) : Fa (k + 1) (comeR s id 2 false).1 ∧ (comeR s id 2 false).1.q = s.q ∧ thereB (comeR s id 2 false).1.L id = true := by
  have hl := h.len
  by_cases ht : thereB s.L id = true
  · have e : comeR s id 2 false = (s, [], 8) := by
      have : comeC s id 2 = 8 := by unfold comeC; rw [if_neg (by omega), if_pos ht]
      unfold comeR
      rw [this, if_pos (by decide)]
    rw [e]
    exact ⟨⟨h.wr, h.most, by show s.L.length ≤ k + 1 + 1; omega, h.lv, h.th, by have := h.ql; show s.q.length ≤ k + 1; omega⟩, rfl, ht⟩
  · have e : comeR s id 2 false = (comeS s id 2, [(id, 1)], 0) := by
      have : comeC s id 2 = 0 := by unfold comeC; rw [if_neg (by omega), if_neg ht, if_neg (by omega), if_neg (by rw [h.most]; omega)]
      unfold comeR
      rw [this, if_neg (by simp), if_neg (by simp)]
    rw [e]
    refine ⟨⟨h.wr, h.most, by show (s.L ++ [(id, 2)]).length ≤ _; rw [List.length_append]; show s.L.length + 1 ≤ _; omega, ?_, by show thereB (s.L ++ [(id, 2)]) 50 = true; rw [there_app, h.th]; rfl, by have := h.ql; show s.q.length ≤ _; omega⟩, rfl, by show thereB (s.L ++ [(id, 2)]) id = true; rw [there_app]; simp⟩
    intro m hm
    rcases List.mem_append.1 hm with g | g
    · exact h.lv m g
    · rw [List.mem_singleton.1 g]
/-- And asks. -/
theorem fa_ask {k : Nat} {s : St} (h : Fa k s) (hk : k ≤ 41) (hq : s.q.length < k) {id : Int} (h1 : id < 40) (ht : thereB s.L id = true) :
    (0 ≤ place s.q id ∧ askR s id = (s, [], 8)) ∨ (place s.q id < 0 ∧ Fa k (askR s id).1 ∧ (askR s id).1.q = s.q ++ [id] ∧ (askR s id).2.2 = 0) := by
  have hw : wantsR s id = 0 := by
    unfold wantsR
    rw [if_neg (by rw [ht]; simp), if_neg (by rw [h.wr]; omega), level_two h.lv ht, if_neg (by omega)]
  by_cases hp : 0 ≤ place s.q id
  · left
    refine ⟨hp, ?_⟩
    have e : Qint.putR s.q s.most id = (s.q, 8) := by unfold Qint.putR; rw [if_pos hp]
    unfold askR
    rw [if_neg (by rw [hw]; simp), if_neg (by rw [h.wr]; omega), e, if_pos (by simp)]
  · right
    have e : Qint.putR s.q s.most id = (s.q ++ [id], 0) := by unfold Qint.putR; rw [if_neg hp, if_neg (by rw [h.most]; omega)]
    have e2 : askR s id = (⟨s.L, s.most, s.wr, s.q ++ [id]⟩, [(id, 3)], 0) := by
      unfold askR
      rw [if_neg (by rw [hw]; simp), if_neg (by rw [h.wr]; omega), e, if_neg (by simp)]
    rw [e2]
    exact ⟨by omega, ⟨h.wr, h.most, h.len, h.lv, h.th, by show (s.q ++ [id]).length ≤ k; rw [List.length_append]; show s.q.length + 1 ≤ k; omega⟩, rfl, rfl⟩
/-- Those who write, one behind the other. -/
structure Fb (s : St) (r : List Int) : Prop where
  wr : s.wr = r.headD (-1)
  q : s.q = r.tail
theorem without_head {x : Int} {t : List Int} (h : (x :: t).Nodup) : without (x :: t) x = t := by
  unfold without
  rw [List.nodup_cons] at h
  rw [List.filter_cons_of_neg (by simp)]
  exact without_not h.1
theorem next_fb {s : St} {r : List Int} (h : s.q = r) (hn : r.Nodup) : Fb (nextR s).1 r := by
  cases r with
  | nil =>
    have e : nextR s = (⟨s.L, s.most, -1, []⟩, []) := by unfold nextR; rw [h]
    rw [e]
    exact ⟨rfl, rfl⟩
  | cons x t =>
    have e : nextR s = becomeR ⟨s.L, s.most, -1, x :: t⟩ x := by unfold nextR; rw [h]
    rw [e]
    exact ⟨rfl, without_head hn⟩
theorem leave_fb {k : Nat} {s : St} (h : Fa k s) (hi : Inv s) : Fb (leaveR s 50).1 s.q := by
  unfold leaveR
  rw [if_neg (by rw [h.th]; simp), if_neg (by rw [h.wr]; simp)]
  refine next_fb ?_ hi.qnodup
  show without s.q 50 = s.q
  exact without_not (by have := hi.wr_not; rw [h.wr] at this; exact this)
theorem yield_fb {s : St} {asked : List Int} {k : Nat} (h : Fb s (asked.drop k)) (hi : Inv s) (hk : k < asked.length) (hn : asked.Nodup) (hp : ∀ y ∈ asked, 0 ≤ y) : s.wr = asked[k] ∧ 0 ≤ s.wr ∧ Fb (yieldR s asked[k]).1 (asked.drop (k + 1)) := by
  have hd : asked.drop k = asked[k] :: asked.drop (k + 1) := List.drop_eq_getElem_cons hk
  rw [hd] at h
  have hw : s.wr = asked[k] := h.wr
  have hq : s.q = asked.drop (k + 1) := h.q
  have hwt : thereB s.L s.wr = true ∧ 0 ≤ s.wr := by
    rcases hi.wr with ⟨g1, g2⟩ | ⟨g1, _⟩
    · exfalso
      have := hp _ (List.getElem_mem hk)
      omega
    · exact ⟨g1, hi.pos_of g1⟩
  refine ⟨hw, hwt.2, ?_⟩
  unfold yieldR
  rw [← hw, if_neg (by rw [hwt.1]; simp), if_neg (by simp)]
  exact next_fb hq (hn.sublist (List.drop_sublist _ _))
/-- Those who asked, in memory. -/
structure ARow (w wr : World) (F : Nat → Prop) (v : Value) (l : List Int) : Prop where
  own : wr.ownsRow 0 3 1 v l.length (l.map Sint.enc)
  off : ∀ k, Of v k → ¬ F k
  new : ∀ k, Of v k → w.heap.size ≤ k
theorem ARow.no {w wr w2 : World} {F : Nat → Prop} {v : Value} {l : List Int} (h : ARow w wr F v l) (hf : Fr No wr w2) : ARow w w2 F v l := ⟨own_fr2 hf h.own, h.off, h.new⟩
theorem ARow.start (w wr : World) (F : Nat → Prop) : ARow w wr F (.slice none 0 0) [] := ⟨World.ownsRow_nil _ _ _ _, fun k hk => (by cases hk), fun k hk => (by cases hk)⟩
theorem ARow.step {w wr w2 : World} {F F' : Nat → Prop} {v : Value} {l : List Int} (h : ARow w wr F v l) (hs : Step F wr F' w2) : ARow w w2 F' v l :=
  ⟨own_fr h.own hs.1 h.off, fun k hk g => (hs.2 k g).elim (h.off k hk) (fun g => by have := own_lt h.own k hk; have := g.1; omega), h.new⟩
theorem ARow.push {w wy wq : World} {F : Nat → Prop} {b n g c : Nat} {v : Value} {s : St} {l : List Int} {x : Int} (h : ARow w wy F v l) (hb : Now w wy F b s) (hn : n = l.length)
    (p1 : wq.ownsRow 0 3 1 (.slice (some ⟨g, 0, none⟩) (n + 1) c) (n + 1) (l.map Sint.enc ++ [.int .i64 x])) (p2 : Fr (Of v) wy wq) (p3 : Of v g ∨ New wy wq g) :
    ARow w wq F (.slice (some ⟨g, 0, none⟩) (n + 1) c) (l ++ [x]) ∧ Now w wq F b s := by
  have hFl : ∀ k, F k → k < wy.heap.size := hb.at'.lt
  subst hn
  refine ⟨⟨by rw [List.length_append, List.map_append]; exact p1, fun k hk => ?_, fun k hk => ?_⟩, ⟨hb.at'.fr p2 (fun k hk g1 => h.off k g1 hk), hb.inv, hb.fr.trans p2 (fun k hk hl => absurd (h.new k hk) (by omega)), hb.new⟩⟩
  · have hk : k = g := by have hk : some g = some k := hk; injection hk with hk; exact hk.symm
    subst hk
    rcases p3 with g1 | g1
    · exact h.off k g1
    · exact fun g2 => by have := hFl k g2; have := g1.1; omega
  · have hk : k = g := by have hk : some g = some k := hk; injection hk with hk; exact hk.symm
    subst hk
    rcases p3 with g1 | g1
    · exact h.new k g1
    · exact Nat.le_trans hb.fr.size g1.1
theorem arow_at {w wr : World} {F : Nat → Prop} {A : Option Addr} {n c i : Nat} {l : List Int} (h : ARow w wr F (.slice A n c) l) (hw : ∀ y ∈ l, (Lit.int .i64 y).wf = true) (hi : i < l.length) : ∃ ad, A = some ad ∧ wr.cell? (ad.add i) = some (.int .i64 l[i]) := by
  obtain ⟨ad, h1, h2, h3⟩ := irow_at ⟨h.own⟩ hw hi
  exact ⟨ad, h1, h3⟩
theorem q_wf' {W w : World} {F : Nat → Prop} {b : Nat} {s : St} (h : Now W w F b s) : ∀ y ∈ s.q, (Lit.int .i64 y).wf = true := fun y hy => h.inv.wf_of (h.inv.qin y hy).1
theorem ex50 : comeR ⟨[], 100, -1, []⟩ 50 2 true = (⟨[(50, 2)], 100, 50, []⟩, [(50, 2)], 0) := by kernel_rfl
theorem fa_start : Fa 0 ⟨[(50, 2)], 100, 50, []⟩ := ⟨rfl, rfl, by simp, by simp, rfl, by simp⟩
theorem byte_at {W wr : World} {A : Option Addr} {n c : Nat} {l : List Int} (h : RSl 1 (RInt .u8) W (Ahead W.heap.size) [.slice A n c] l) (hf : Fr No W wr) {k : Nat} (hk : k < l.length) :
    ∃ ad, A = some ad ∧ wr.cell? (ad.add k) = some (.int .u8 l[k]) ∧ 0 ≤ l[k] ∧ l[k] < 256 := by
  obtain ⟨A', c', hA, -, -, hel⟩ := h.ints
  injection hA with hA _ _
  subst hA
  obtain ⟨ad, hAd, hb, hcl, hwf⟩ := hel k hk
  have hu8 : 0 ≤ l[k] ∧ l[k] ≤ 255 := by simpa [Lit.wf, IntKind.min, IntKind.max, IntKind.signed, IntKind.bits] using hwf
  exact ⟨ad, hAd, (hf.cell (by rw [block_add]; exact hb) (fun h => h)).trans hcl, hu8.1, by omega⟩
theorem small_wf {x : Int} (h0 : 0 ≤ x) (h1 : x < 40) : (Lit.int .i64 x).wf = true := by
  simp [Lit.wf, IntKind.min, IntKind.max, IntKind.signed, IntKind.bits]
  omega
set_option maxRecDepth 100000 in
set_option maxHeartbeats 16000000 in
theorem fair_any (v : Value) (l : List Int) (w : World) (hv : RSl 1 (RInt .u8) w (Ahead w.heap.size) [v] l) : Calls Try.prog 6 #[v] w fun e w' => e = .returned (.bool true) ∧ Fr No w w' := by
  obtain ⟨A, cap, rfl, hc1, hc2⟩ := hv.slice
  unfold maxLen at hc2
  have HV := Lib.hid hv
  clear hv
  by_cases hbig : 40 < l.length
  · go_enter Try.func6, Try.ntmps6
    go_wp2_with (go_at_call 23; refine (works_any _).mono ?_; rintro e w' ⟨rfl, hf⟩; have Hf := Lib.hid hf; clear hf)
    go_ret
    exact ⟨rfl, Hf.out⟩
  · go_enter Try.func6, Try.ntmps6
    go_wp2_with fail
    refine (seat_yes 100 (by decide) (by decide) _).mono ?_
    intro e w0 hm
    obtain ⟨b, rfl, hn⟩ := made_now hm (by decide)
    have H0 := Lib.hid hn
    clear hm hn
    go_wp2_with fail
    refine (call_any H0.out.at' H0.out.inv 50 2 rfl rfl).mono ?_
    intro e w1 ht
    rw [ex50] at ht
    have iv := H0.out.inv.come true (id := 50) (level := 2) rfl rfl
    rw [ex50] at iv
    obtain ⟨F1, v, rfl, hr, hn, hs⟩ := H0.out.acts iv ht
    obtain ⟨Av, cv, rfl⟩ := hr.form
    have H1 := Lib.hid hn
    clear ht iv hr hn hs H0
    go_wp2_with fail
    go_loopw [5, 6] (fun av iv wr => ∃ (k : Nat) (F : Nat → Prop) (s : St) (na ca : Nat) (Al : Option Addr), av = .slice Al na ca ∧ iv = .int .i64 k ∧ k ≤ l.length ∧ Hid (na = s.q.length) ∧ Hid (Now w wr F b s ∧ Fa k s ∧ ARow w wr F av s.q)) (fun _ i _ => l.length - (intOf i).toNat)
    case atStart => exact ⟨0, _, ⟨[(50, 2)], 100, 50, []⟩, 0, 0, none, rfl, rfl, by omega, rfl, H1.out, fa_start, ARow.start _ _ _⟩
    case round =>
      obtain ⟨k, F, s, na, ca, Al, rfl, rfl, hk, HNA, HB⟩ := hrel
      clear H1
      by_cases hlt : k < l.length
      · obtain ⟨ad, rfl, hcl, hb0, hb1⟩ := byte_at HV.out HB.out.1.fr hlt
        have hna40 : na ≤ 40 := by have := HNA.out; have := HB.out.2.1.ql; omega
        obtain ⟨x, hx⟩ : ∃ x, x = l[k] := ⟨_, rfl⟩
        rw [← hx] at hcl hb0 hb1
        clear hx
        obtain ⟨id, hid⟩ : ∃ id, id = x % 40 := ⟨_, rfl⟩
        have hi0 : 0 ≤ x % 40 := by omega
        have hi1 : x % 40 < 40 := by omega
        have HID := Lib.hid hid
        clear hid
        go_upto_region 12 with (fail)
        rw [← HID.out] at hi0 hi1 ⊢
        have HW := Lib.hid (small_wf hi0 hi1)
        have hkl : k ≤ 40 := by omega
        have HSPY := Lib.hid (fa_spy HB.out.2.1 hkl hi0)
        have HN := Lib.hid HB.out.1
        have HAR := Lib.hid HB.out.2.2
        clear hcl
        go_wp2_with fail
        refine (spy_any HN.out.at' HN.out.inv id 2 HW.out rfl).mono ?_
        intro e w3 ht
        obtain ⟨F2, v, rfl, hr, hn, hs⟩ := HN.out.acts (HN.out.inv.come false HW.out rfl) ht
        obtain ⟨Av, cv, rfl⟩ := hr.form
        obtain ⟨cc, hcc⟩ : ∃ c, c = (comeR s id 2 false).2.2 := ⟨_, rfl⟩
        obtain ⟨cn, hcn⟩ : ∃ c, c = (comeR s id 2 false).2.1.length := ⟨_, rfl⟩
        rw [← hcc, ← hcn]
        have H2 := Lib.hid hn
        have HAR2 := Lib.hid (HAR.out.step hs)
        clear ht hr hn hs hcc hcn
        obtain ⟨s1, hs1⟩ : ∃ s1, s1 = (comeR s id 2 false).1 := ⟨_, rfl⟩
        rw [← hs1] at H2 HSPY
        rw [← HSPY.out.2.1] at HAR2 HNA
        clear hs1
        have HASK := Lib.hid (fa_ask HSPY.out.1 (by omega) (by rw [HSPY.out.2.1]; have := HB.out.2.1.ql; omega) hi1 HSPY.out.2.2)
        rcases HASK.out with ⟨hp, he⟩ | ⟨hp, hfa, hqa, hca⟩
        · go_wp2_with fail
          refine (ask_any H2.out.at' H2.out.inv id HW.out).mono ?_
          intro e w4 ht
          have iv := H2.out.inv.ask id
          rw [he] at ht iv
          obtain ⟨F3, v, rfl, hr, hn, hs⟩ := H2.out.acts iv ht
          obtain ⟨Av, cv, rfl⟩ := hr.form
          have HSPY3 := Lib.hid hn
          have HAR3 := Lib.hid (HAR2.out.step hs)
          clear ht iv hr hn hs he
          have HPL := Lib.hid (Ref29.place_any (.slice Al na ca) s1.q id w4 (Of (.slice Al na ca)) (ints_own HAR3.out.own (q_wf' HSPY3.out) (fun _ h => h)))
          obtain ⟨pl, hpl⟩ : ∃ pl, pl = place s1.q id := ⟨_, rfl⟩
          rw [← hpl] at HPL hp
          clear hpl
          go_wp2_with fail
          refine HPL.out.mono ?_
          rintro e wz ⟨rfl, rfl⟩
          go_wp2_with fail
          go_roundw
          case rel => exact ⟨k + 1, _, s1, _, _, _, rfl, by go_num, by omega, HNA.out, HSPY3.out, HSPY.out.1, HAR3.out⟩
          case measure => simp [intOf]; omega
        · go_wp2_with fail
          refine (ask_any H2.out.at' H2.out.inv id HW.out).mono ?_
          intro e w4 ht
          have iv := H2.out.inv.ask id
          obtain ⟨F3, v, rfl, hr, hn, hs⟩ := H2.out.acts iv ht
          obtain ⟨Av, cv, rfl⟩ := hr.form
          obtain ⟨cn2, hcn2⟩ : ∃ c, c = (askR s1 id).2.1.length := ⟨_, rfl⟩
          rw [← hcn2, hca]
          clear hcn2
          have HSPY3 := Lib.hid hn
          have HAR3 := Lib.hid (HAR2.out.step hs)
          have HPL := Lib.hid (Ref29.place_any (.slice Al na ca) s1.q id w4 (Of (.slice Al na ca)) (ints_own HAR3.out.own (q_wf' H2.out) (fun _ h => h)))
          obtain ⟨pl, hpl⟩ : ∃ pl, pl = place s1.q id := ⟨_, rfl⟩
          rw [← hpl] at HPL hp
          have HQA := Lib.hid hqa
          have HFA := Lib.hid hfa
          have OW := Lib.hid (show w4.ownsRow 0 3 1 (.slice Al na ca) na (s1.q.map Sint.enc) from by have := HAR3.out.own; rw [← HNA.out] at this; exact this)
          clear hpl ht iv hr hn hs hca hqa hfa
          go_wp2_with fail
          refine HPL.out.mono ?_
          rintro e wz ⟨rfl, rfl⟩
          go_wp2_with (at_builtin; go_loud (refine wp_push rfl (.tmp 57) (.tmp 59) 30 rfl 3 (.int .i64 0) 1 8 Try.underlying30 Sint.infoE rfl (by decide) (.slice Al na ca) na _ rfl OW.out #[.int .i64 id] rfl rfl (one_lit rfl) (by omega) (by unfold maxLen; omega) ?_; intro g5 cap5 w5 p1 p2 p3; have hpp := ARow.push (x := id) HAR3.out HSPY3.out HNA.out p1 p2 p3; have HP := Lib.hid hpp; clear p1 p2 p3 hpp))
          go_roundw
          case rel => exact ⟨k + 1, _, (askR s1 id).1, _, _, _, rfl, by go_num, by omega, (show na + 1 = _ by rw [HQA.out, List.length_append, HNA.out]; rfl), HP.out.2, HFA.out, by rw [HQA.out]; exact HP.out.1⟩
          case measure => simp [intOf]; omega
      · have HN := Lib.hid HB.out.1
        have HFB := Lib.hid (leave_fb HB.out.2.1 HB.out.1.inv)
        have HAR := Lib.hid HB.out.2.2
        have HND := Lib.hid (show s.q.Nodup from HB.out.1.inv.qnodup)
        have HQW := Lib.hid (q_wf' HB.out.1)
        have HPO := Lib.hid (show ∀ y ∈ s.q, 0 ≤ y from fun y hy => HB.out.1.inv.pos_of (HB.out.1.inv.qin y hy).1)
        have hna40 : na ≤ 40 := by have := HNA.out; have := HB.out.2.1.ql; omega
        go_wp2_with fail
        refine (leave_any HN.out.at' HN.out.inv 50).mono ?_
        intro e w3 ht
        obtain ⟨F2, v, rfl, hr, hn, hs⟩ := HN.out.acts (HN.out.inv.leave 50) ht
        obtain ⟨Av, cv, rfl⟩ := hr.form
        obtain ⟨cc, hcc⟩ : ∃ c, c = (leaveR s 50).2.2 := ⟨_, rfl⟩
        obtain ⟨cn, hcn⟩ : ∃ c, c = (leaveR s 50).2.1.length := ⟨_, rfl⟩
        rw [← hcc, ← hcn]
        have H2 := Lib.hid hn
        have HAR2 := Lib.hid (HAR.out.step hs)
        obtain ⟨asked, hask⟩ : ∃ a, a = s.q := ⟨_, rfl⟩
        rw [← hask] at HAR2 HFB HNA HND HQW HPO
        clear ht hr hn hs hcc hcn hask
        obtain ⟨wo, hwo⟩ : ∃ wo, wo = wr := ⟨_, rfl⟩
        subst hwo
        go_wp2_with fail
        go_loopw [10] (fun iv wr => ∃ (k : Nat) (F : Nat → Prop) (s : St), iv = .int .i64 k ∧ k ≤ na ∧ Hid (Now w wr F b s ∧ Fb s (asked.drop k) ∧ ARow w wr F (.slice Al na ca) asked)) (fun i _ => na - (intOf i).toNat)
        case atStart => exact ⟨0, _, _, rfl, Nat.zero_le _, H2.out, HFB.out, HAR2.out⟩
        case round =>
          obtain ⟨j, F4, s4, rfl, hj, HC⟩ := hrel
          by_cases hltj : j < na
          · have hj2 : j < asked.length := by have := HNA.out; omega
            obtain ⟨ad2, rfl, hcl⟩ := arow_at HC.out.2.2 HQW.out hj2
            have hy := yield_fb HC.out.2.1 HC.out.1.inv hj2 HND.out HPO.out
            obtain ⟨x, hx⟩ : ∃ x, x = asked[j] := ⟨_, rfl⟩
            rw [← hx] at hy hcl
            have wr1 := writer_any HC.out.1.at' HC.out.1.inv
            rw [if_pos hy.2.1, decide_eq_true hy.2.1, hy.1] at wr1
            have WR := Lib.hid wr1
            have HY := Lib.hid hy
            have hxx : (x != x) = false := by simp
            clear hy wr1 hx hj2
            go_wp2_with fail
            refine WR.out.mono ?_
            rintro e wz ⟨rfl, hwz⟩
            subst hwz
            go_wp2_with fail
            refine (yield_any HC.out.1.at' HC.out.1.inv x).mono ?_
            intro e w5 ht
            obtain ⟨F5, v, rfl, hr, hn, hs⟩ := HC.out.1.acts (HC.out.1.inv.yield x) ht
            obtain ⟨Av, cv, rfl⟩ := hr.form
            obtain ⟨cc2, hcc⟩ : ∃ c, c = (yieldR s4 x).2.2 := ⟨_, rfl⟩
            obtain ⟨cn2, hcn⟩ : ∃ c, c = (yieldR s4 x).2.1.length := ⟨_, rfl⟩
            rw [← hcc, ← hcn]
            have H5 := Lib.hid hn
            have HAR5 := Lib.hid (HC.out.2.2.step hs)
            clear ht hr hn hs hcc hcn
            go_wp2_with fail
            go_roundw
            case rel => exact ⟨j + 1, _, _, by go_num, by omega, H5.out, HY.out.2.2, HAR5.out⟩
            case measure => simp [intOf]; omega
          · have wr1 := writer_any HC.out.1.at' HC.out.1.inv
            have hnw : ¬ 0 ≤ s4.wr := by
              rw [HC.out.2.1.wr, List.drop_eq_nil_of_le (by have := HNA.out; omega)]
              decide
            rw [if_neg hnw, decide_eq_false hnw] at wr1
            have WR := Lib.hid wr1
            clear wr1 hnw
            go_wp2_with fail
            refine WR.out.mono ?_
            rintro e wz ⟨rfl, hwz⟩
            subst hwz
            go_wp2_with (go_at_call 23; refine (works_any _).mono ?_; rintro e w' ⟨rfl, hf⟩; have Hf := Lib.hid hf; clear hf)
            go_ret
            exact ⟨rfl, HC.out.1.fr.then_no Hf.out⟩

theorem walk_SeatFair (W : World) (v0 : Value) (x0 : (List Int)) (h0 : (RSl 1 (RInt .u8)) W (Ahead W.heap.size) [v0] x0) : Calls Try.prog 6 #[v0] W fun e w' => e = .returned (.bool true) ∧ Fr No W w' := fair_any _ _ _ h0
end Seat
end Go.Proofs.Ytepnjmgacfjhiaa
