/- Package timer: the law TimerOrder. Printed by gen_tmy.py. -/
import Derived.Test.YtkmlmjglipmdcaaTmX
namespace Go.Proofs.Ytkmlmjglipmdcaa
open Go.RowKit
set_option linter.unusedVariables false
set_option linter.unusedSimpArgs false
namespace Tm
open Sls
def base (l : List Int) (k : Nat) : List A2 := (List.range k).map (fun i : Nat => ((i : Int), l.getD i 0))
theorem base_succ (l : List Int) (k : Nat) : base l (k + 1) = base l k ++ [((k : Int), l.getD k 0)] := by
  unfold base
  rw [List.range_succ, List.map_append]
  rfl
theorem base_len (l : List Int) (k : Nat) : (base l k).length = k := by unfold base; rw [List.length_map, List.length_range]
theorem base_mem {l : List Int} {k : Nat} {x : A2} (h : x ∈ base l k) : ∃ i, i < k ∧ x = ((i : Int), l.getD i 0) := by
  obtain ⟨i, hi, rfl⟩ := List.mem_map.1 h
  exact ⟨i, List.mem_range.1 hi, rfl⟩
theorem getD_eq {l : List Int} {i : Nat} (h : i < l.length) : l.getD i 0 = l[i] := by unfold List.getD; rw [List.getElem?_eq_getElem h]; rfl
def cntR (l : List Int) (now : Int) (k : Nat) : Nat := ((base l k).filter (fun m => decide (m.2 ≤ now))).length
theorem cnt_succ (l : List Int) (now : Int) {k : Nat} (h : k < l.length) : cntR l now (k + 1) = cntR l now k + if l[k] ≤ now then 1 else 0 := by
  unfold cntR
  rw [base_succ, List.filter_append, List.length_append, getD_eq h]
  congr 1
  by_cases e : l[k] ≤ now
  · simp [e]
  · simp [e]
theorem cnt_le (l : List Int) (now : Int) (k : Nat) : cntR l now k ≤ k := by
  unfold cntR
  exact Nat.le_trans (List.length_filter_le _ _) (by rw [base_len]; exact Nat.le_refl _)
theorem srt_due {L : List A2} {now : Int} (h : Srt L) : dueL L now = L.filter (fun m => decide (m.2 ≤ now)) := by
  unfold dueL
  induction L with
  | nil => rfl
  | cons a L ih =>
    have hp := List.pairwise_cons.1 h
    by_cases e : a.2 ≤ now
    · rw [List.takeWhile_cons_of_pos (by simpa using e), List.filter_cons_of_pos (by simpa using e), ih hp.2]
    · rw [List.takeWhile_cons_of_neg (by simpa using e), List.filter_cons_of_neg (by simpa using e)]
      symm
      rw [List.filter_eq_nil_iff]
      intro x hx
      have := lt2_iff.1 (hp.1 x hx)
      simp
      omega
theorem due_rest (L : List A2) (now : Int) : dueL L now ++ restL L now = L := List.takeWhile_append_dropWhile
theorem due_again (L : List A2) (now : Int) : dueL (restL L now) now = [] := by
  cases hr : restL L now with
  | nil => rfl
  | cons y t =>
    have hy := dropWhile_head (p := fun m : A2 => decide (m.2 ≤ now)) hr
    unfold dueL
    exact List.takeWhile_cons_of_neg (by rw [hy]; simp)
/-- The next one is set. -/
theorem base_set {L : List A2} {l : List Int} {k : Nat} (hp : L.Perm (base l k)) (hk : k < l.length) (hk2 : k < 100) (h0 : 0 ≤ l[k]) (h1 : l[k] < 65536) : setR 200 L k l[k] = (ins ((k : Int), l[k]) L, 0) ∧ (ins ((k : Int), l[k]) L).Perm (base l (k + 1)) := by
  have hlen : L.length = k := by rw [hp.length_eq, base_len]
  have hh : hasId L (k : Int) = false := by
    cases hx : hasId L (k : Int)
    · rfl
    · obtain ⟨m, hm, e⟩ := List.mem_map.1 (has_iff.1 hx)
      obtain ⟨i, hi, rfl⟩ := base_mem (hp.mem_iff.1 hm)
      have e : (i : Int) = (k : Int) := e
      omega
  have hwo : wo L (k : Int) = L := wo_none (fun g => by have := has_iff.2 g; rw [hh] at this; cases this)
  refine ⟨?_, ?_⟩
  · unfold setR
    rw [if_neg (by omega), if_neg (by rintro ⟨_, g⟩; omega), hwo]
  · refine (ins_perm _ _).trans ?_
    rw [base_succ, getD_eq hk]
    exact ((hp.cons _)).trans (List.perm_append_singleton _ _).symm
theorem u16_at {W wr : World} {A : Option Addr} {n c : Nat} {l : List Int} (h : RSl 1 (RInt .u16) W (Ahead W.heap.size) [.slice A n c] l) (hf : Fr No W wr) {k : Nat} (hk : k < l.length) :
    ∃ ad, A = some ad ∧ wr.cell? (ad.add k) = some (.int .u16 l[k]) ∧ 0 ≤ l[k] ∧ l[k] < 65536 := by
  obtain ⟨A', c', hA, -, -, hel⟩ := h.ints
  injection hA with hA _ _
  subst hA
  obtain ⟨ad, hAd, hb, hcl, hwf⟩ := hel k hk
  have hu8 : 0 ≤ l[k] ∧ l[k] ≤ 65535 := by simpa [Lit.wf, IntKind.min, IntKind.max, IntKind.signed, IntKind.bits] using hwf
  exact ⟨ad, hAd, (hf.cell (by rw [block_add]; exact hb) (fun h => h)).trans hcl, hu8.1, by omega⟩
/-- Of those told: who, and when. -/
theorem due_at {L : List A2} {l : List Int} {now : Int} (hp : L.Perm (base l l.length)) (hs : Srt L) {i : Nat} (hi : i < (ids (dueL L now)).length) : ∃ m, ∃ hm : m < l.length, (ids (dueL L now))[i] = (m : Int) ∧ l[m] ≤ now ∧ ∃ hi' : i < (dueL L now).length, (dueL L now)[i] = ((m : Int), l[m]) := by
  have hi' : i < (dueL L now).length := by unfold ids at hi; rw [List.length_map] at hi; exact hi
  have hmem : (dueL L now)[i] ∈ dueL L now := List.getElem_mem hi'
  have h1 : (dueL L now)[i] ∈ L.filter (fun m => decide (m.2 ≤ now)) := by rw [← srt_due hs]; exact hmem
  have h2 := List.mem_filter.1 h1
  obtain ⟨m, hm, e⟩ := base_mem (hp.mem_iff.1 h2.1)
  rw [getD_eq hm] at e
  refine ⟨m, hm, ?_, ?_, hi', e⟩
  · have h3 : (ids (dueL L now))[i] = ((dueL L now)[i]).1 := by simp [ids]
    rw [h3, e]
  · have := of_decide_eq_true h2.2
    rw [e] at this
    exact this
theorem due_cell {L : List A2} {l D : List Int} {now : Int} {X : Option Value} (hp : L.Perm (base l l.length)) (hs : Srt L) (hD : D = ids (dueL L now)) {i : Nat} (hi : i < D.length) (hc : X = some (.int .i64 D[i])) : ∃ m, ∃ hm : m < l.length, X = some (.int .i64 (m : Int)) ∧ l[m] ≤ now ∧ ∃ hi' : i < (dueL L now).length, (dueL L now)[i] = ((m : Int), l[m]) := by
  subst hD
  obtain ⟨m, hm, e1, e2, e3⟩ := due_at hp hs hi
  rw [e1] at hc
  exact ⟨m, hm, hc, e2, e3⟩
theorem due_rise {L : List A2} {now : Int} (hs : Srt L) {i : Nat} (hi : i + 1 < (dueL L now).length) : lt2 (dueL L now)[i] (dueL L now)[i + 1] = true := by
  have : Srt (dueL L now) := by rw [srt_due hs]; exact List.Pairwise.filter _ hs
  exact List.pairwise_iff_getElem.1 this i (i + 1) (by omega) hi (by omega)
section
variable {W w w' : World} {F F' : Nat → Prop} {b : Nat} {most : Int} {L L' : List A2}
set_option maxRecDepth 100000 in
set_option maxHeartbeats 16000000 in
theorem order_any (v : Value) (l : List Int) (now : Int) (hnw : 0 ≤ now ∧ now < 65536) (w : World) (hv : RSl 1 (RInt .u16) w (Ahead w.heap.size) [v] l) : Calls Try.prog 3 #[v, .int .u16 now] w fun e w' => e = .returned (.bool true) ∧ Fr No w w' := by
  obtain ⟨A, cap, rfl, hc1, hc2⟩ := hv.slice
  unfold maxLen at hc2
  have HV := Lib.hid hv
  obtain ⟨hnw0, hnw1⟩ := hnw
  clear hv
  by_cases hbig : 100 < l.length
  · go_enter Try.func3, Try.ntmps3
    go_wp2_with (go_at_call 6; refine (works_any _).mono ?_; rintro e w' ⟨rfl, hf⟩; have Hf := Lib.hid hf; clear hf)
    go_ret
    exact ⟨rfl, Hf.out⟩
  · go_enter Try.func3, Try.ntmps3
    go_wp2_with fail
    refine (new_yes 200 (by decide) (by decide) _).mono ?_
    intro e w0 hm
    obtain ⟨b, rfl, hn⟩ := made_now hm
    have H0 := Lib.hid hn
    clear hm hn
    go_wp2_with fail
    go_loopw [7] (fun iv wr => ∃ (k : Nat) (F : Nat → Prop) (L : List A2), iv = .int .i64 k ∧ k ≤ l.length ∧ Hid (Now w wr F b 200 L ∧ L.Perm (base l k))) (fun i _ => l.length - (intOf i).toNat)
    case atStart => exact ⟨0, _, [], rfl, Nat.zero_le _, H0.out, List.Perm.refl _⟩
    case round =>
      obtain ⟨k, F, L, rfl, hk, HB⟩ := hrel
      clear H0
      by_cases hlt : k < l.length
      · obtain ⟨ad, rfl, hcl, hb0, hb1⟩ := u16_at HV.out HB.out.1.fr hlt
        have hst := HB.out.1.set k l[k]
        have hbs := base_set HB.out.2 hlt (by omega) hb0 hb1
        rw [hbs.1] at hst
        have HBS := Lib.hid hbs.2
        obtain ⟨x, hx⟩ : ∃ x, x = l[k] := ⟨_, rfl⟩
        rw [← hx] at hcl hb0 hb1 hst HBS
        have HST := Lib.hid hst
        clear hx hst hbs
        go_wp2_with fail
        refine HST.out.mono ?_
        rintro e w1 ⟨F', rfl, hn, -⟩
        have HN := Lib.hid hn
        clear hn
        go_wp2_with fail
        go_roundw
        case rel => exact ⟨k + 1, F', _, by go_num, by omega, HN.out, HBS.out⟩
        case measure => simp [intOf]; omega
      · have hkl : k = l.length := by omega
        have HP := Lib.hid (show L.Perm (base l l.length) by have := HB.out.2; rw [hkl] at this; exact this)
        have HSR := Lib.hid HB.out.1.at'.srt
        obtain ⟨D, hD⟩ : ∃ D, D = ids (dueL L now) := ⟨_, rfl⟩
        obtain ⟨nd, hnd⟩ : ∃ nd, nd = D.length := ⟨_, rfl⟩
        have HDU := Lib.hid (HB.out.1.due now D nd hD hnd)
        have HDE := Lib.hid hD
        have HND := Lib.hid hnd
        have hcn : nd = cntR l now l.length := by
          rw [hnd, hD]
          unfold ids
          rw [List.length_map, srt_due HSR.out, (HP.out.filter _).length_eq]
          rfl
        have hndl : nd ≤ 100 := by have := cnt_le l now l.length; omega
        have HCN := Lib.hid hcn
        have HRL := Lib.hid (show (restL L now).length + nd = l.length by
          have h1 := congrArg List.length (due_rest L now)
          rw [List.length_append, HP.out.length_eq, base_len] at h1
          rw [hnd, hD]
          unfold ids
          rw [List.length_map]
          omega)
        have HRA := Lib.hid (due_again L now)
        clear hkl hD hnd hcn hk
        obtain ⟨wo', hwo⟩ : ∃ wo', wo' = wr := ⟨_, rfl⟩
        subst hwo
        go_wp2_with fail
        refine HDU.out.mono ?_
        rintro e w2 ⟨F2, A2', c2, rfl, ht, hn, -⟩
        have HT := Lib.hid ht
        have HN := Lib.hid hn
        clear ht hn
        go_wp2_with fail
        go_loopw [9, 10] (fun cv iv wr => ∃ (i : Nat), iv = .int .i64 i ∧ i ≤ l.length ∧ Hid (cv = .int .i64 (cntR l now i : Nat) ∧ w2 = wr)) (fun _ i _ => l.length - (intOf i).toNat)
        case atStart => exact ⟨0, rfl, Nat.zero_le _, rfl, rfl⟩
        case round =>
          obtain ⟨i, rfl, hi, HC⟩ := hrel
          obtain ⟨cn, hcn⟩ : ∃ cn, cn = cntR l now i := ⟨_, rfl⟩
          have hcc := HC.out
          rw [← hcn] at hcc
          obtain ⟨rfl, hw⟩ := hcc
          subst hw
          have hcl := cnt_le l now i
          rw [← hcn] at hcl
          have HCI := Lib.hid hcn
          clear HC hcn
          by_cases hli : i < l.length
          · obtain ⟨ad, rfl, hce, hb0, hb1⟩ := u16_at HV.out HN.out.fr hli
            have HCS := Lib.hid (cnt_succ l now hli)
            obtain ⟨x, hx⟩ : ∃ x, x = l[i] := ⟨_, rfl⟩
            rw [← hx] at hce hb0 hb1 HCS
            clear hx
            by_cases hxn : x ≤ now
            · have HQ := Lib.hid (show cntR l now (i + 1) = cn + 1 by rw [HCS.out, if_pos hxn, HCI.out])
              go_wp2_with fail
              go_roundw
              case rel => exact ⟨i + 1, by go_num, by omega, by rw [HQ.out]; try go_num, by trivial⟩
              case measure => simp [intOf]; omega
            · have HQ := Lib.hid (show cntR l now (i + 1) = cn by rw [HCS.out, if_neg hxn, HCI.out]; rfl)
              go_wp2_with fail
              go_roundw
              case rel => exact ⟨i + 1, by go_num, by omega, by rw [HQ.out]; try go_num, by trivial⟩
              case measure => simp [intOf]; omega
          · have hcnd : cn = nd := by rw [HCI.out, HCN.out, show i = l.length by omega]
            subst hcnd
            obtain ⟨w3, hw3⟩ : ∃ w3, w3 = w2 := ⟨_, rfl⟩
            subst hw3
            go_wp2_with fail
            go_loopw [11] (fun iv wr => ∃ (j : Nat), iv = .int .i64 j ∧ j ≤ cn ∧ Hid (Fr No w3 wr)) (fun i _ => cn - (intOf i).toNat)
            case atStart => exact ⟨0, rfl, Nat.zero_le _, Fr.refl _ _⟩
            case round =>
              obtain ⟨j, rfl, hj, HF⟩ := hrel
              by_cases hlj : j < cn
              · have hjD : j < D.length := by rw [← HND.out]; exact hlj
                obtain ⟨g, rfl, kj⟩ := told_cell (HT.out.no HF.out) hjD
                obtain ⟨m, hm, kj2, e2, hj', e3⟩ := due_cell HP.out HSR.out HDE.out hjD kj
                clear kj
                obtain ⟨ad, rfl, hcm, hm0, hm1⟩ := u16_at HV.out (HN.out.fr.then_no HF.out) hm
                obtain ⟨x, hx⟩ : ∃ x, x = l[m] := ⟨_, rfl⟩
                rw [← hx] at hcm hm0 hm1 e2 e3
                clear hx
                have g2n : decide (l.length ≤ m) = false := decide_eq_false (by omega)
                have hmI : (m : Int) < (l.length : Int) := by omega
                have g1 : decide ((m : Int) < 0) = false := decide_eq_false (by omega)
                have g2 : decide ((l.length : Int) ≤ (m : Int)) = false := decide_eq_false (by omega)
                have g3 : decide (now < x) = false := decide_eq_false (by omega)
                by_cases hj0 : j = 0
                · subst hj0
                  have g4 : decide ((0 : Int) < ((0 : Nat) : Int)) = false := by decide
                  clear e3 hjD
                  go_wp2_with fail
                  go_quiet (fail)
                  all_goals
                    go_wp2_with fail
                    go_roundw
                    case rel => exact ⟨0 + 1, by go_num, by omega, (show Fr No w3 _ from HF.out.then_no (by repeat' (first | with_reducible assumption | with_reducible exact Fr.refl _ _ | with_reducible refine Fr.drew ?_ | with_reducible refine Fr.drewN ?_ _)))⟩
                    case measure => simp [intOf]; omega
                · obtain ⟨i0, hi0⟩ : ∃ i0, j = i0 + 1 := ⟨j - 1, by omega⟩
                  have hi0D : i0 < D.length := by omega
                  obtain ⟨g', eg, ki⟩ := told_cell (HT.out.no HF.out) hi0D
                  injection eg with eg
                  injection eg with eg _
                  subst eg
                  obtain ⟨m2, hm2, ki2, f2, hi0', f3⟩ := due_cell HP.out HSR.out HDE.out hi0D ki
                  clear ki
                  have hri := due_rise HSR.out (i := i0) (now := now) (by omega)
                  have e3' : (dueL L now)[i0 + 1]'(by omega) = ((m : Int), x) := by rw [← e3]; simp only [hi0]
                  rw [f3, e3'] at hri
                  obtain ⟨ad', ea, hcm2, hp0, hp1⟩ := u16_at HV.out (HN.out.fr.then_no HF.out) hm2
                  injection ea with ea
                  subst ea
                  obtain ⟨y, hy⟩ : ∃ y, y = l[m2] := ⟨_, rfl⟩
                  rw [← hy] at hcm2 hp0 hp1 f2 hri
                  rw [lt2_iff] at hri
                  simp only at hri
                  clear hy f3 e3 e3' hi0D hjD hi0' hj'
                  have hji : (j : Int) - 1 = (i0 : Int) := by omega
                  have hm2I : (m2 : Int) < (l.length : Int) := by omega
                  have hi0I : (i0 : Int) < (cn : Int) := by omega
                  have hjI : (j : Int) < (cn : Int) := by omega
                  have hj1n : decide (0 < j) = true := decide_eq_true (by omega)
                  have hj1 : decide ((0 : Int) < (j : Int)) = true := decide_eq_true (by omega)
                  clear hi0 hj0
                  by_cases hyx : y = x
                  · subst hyx
                    have hmm : m2 < m := by omega
                    have hgt : decide (y < y) = false := by simp
                    have hyy : (y == y) = true := by simp
                    have hgen : decide (m ≤ m2) = false := decide_eq_false (by omega)
                    have hge : decide ((m : Int) ≤ (m2 : Int)) = false := decide_eq_false (by omega)
                    clear hri
                    go_wp2_with fail
                    go_quiet (fail)
                    all_goals
                      go_wp2_with fail
                      go_roundw
                      case rel => exact ⟨j + 1, by go_num, by omega, (show Fr No w3 _ from HF.out.then_no (by repeat' (first | with_reducible assumption | with_reducible exact Fr.refl _ _ | with_reducible refine Fr.drew ?_ | with_reducible refine Fr.drewN ?_ _)))⟩
                      case measure => simp [intOf]; omega
                  · have hlt2 : y < x := by omega
                    have hgt : decide (x < y) = false := decide_eq_false (by omega)
                    have hne : (y == x) = false := by simpa using hyx
                    clear hri hyx
                    go_wp2_with fail
                    go_quiet (fail)
                    all_goals
                      go_wp2_with fail
                      go_roundw
                      case rel => exact ⟨j + 1, by go_num, by omega, (show Fr No w3 _ from HF.out.then_no (by repeat' (first | with_reducible assumption | with_reducible exact Fr.refl _ _ | with_reducible refine Fr.drew ?_ | with_reducible refine Fr.drewN ?_ _)))⟩
                      case measure => simp [intOf]; omega
              · have HN2 := Lib.hid (HN.out.no HF.out)
                have HL := Lib.hid (len_all HN2.out.at')
                obtain ⟨rl, hrl⟩ : ∃ rl, rl = (restL L now).length := ⟨_, rfl⟩
                rw [← hrl] at HL
                have hrs : (l.length : Int) - (cn : Int) = (rl : Int) := by have := HRL.out; omega
                have HD2 := Lib.hid (HN2.out.due now [] 0 (by rw [HRA.out]; rfl) rfl)
                clear hrl
                go_wp2_with fail
                refine HL.out.mono ?_
                rintro e w5 ⟨rfl, hw⟩
                subst hw
                go_wp2_with fail
                refine HD2.out.mono ?_
                rintro e w6 ⟨F6, A6, c6, rfl, -, hn, -⟩
                have H6 := Lib.hid hn
                clear hn
                go_wp2_with (go_at_call 6; refine (works_any _).mono ?_; rintro e w' ⟨rfl, hf⟩; have Hf := Lib.hid hf; clear hf)
                go_ret
                exact ⟨rfl, H6.out.fr.then_no Hf.out⟩
end
theorem walk_TimerOrder (W : World) (v0 : Value) (x0 : (List Int)) (h0 : (RSl 1 (RInt .u16)) W (Ahead W.heap.size) [v0] x0) (v1 : Value) (x1 : Int) (h1 : (RInt .u16) W (Ahead W.heap.size) [v1] x1) : Calls Try.prog 3 #[v0, v1] W fun e w' => e = .returned (.bool true) ∧ Fr No W w' := by
  obtain ⟨h1, hw⟩ := h1
  injection h1 with h1
  subst h1
  have hu : 0 ≤ x1 ∧ x1 ≤ 65535 := by simpa [Lit.wf, IntKind.min, IntKind.max, IntKind.signed, IntKind.bits] using hw
  exact order_any _ _ _ ⟨hu.1, by omega⟩ _ h0
end Tm
end Go.Proofs.Ytkmlmjglipmdcaa
