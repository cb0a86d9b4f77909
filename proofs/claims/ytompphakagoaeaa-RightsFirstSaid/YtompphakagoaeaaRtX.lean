/- Rights: Pick. Printed by gen_rtx.py. -/
import Derived.Test.YtompphakagoaeaaRtW
import Derived.Test.YtompphakagoaeaaCuts
namespace Go.Proofs.Ytompphakagoaeaa
open Go.RowKit
set_option linter.unusedVariables false
set_option linter.unusedSimpArgs false
namespace Conf
open Word
/-- Does a text begin with another one, that is not empty? -/
def begP (s name : Str) : Bool := decide (name ≠ [] ∧ name.length ≤ s.length ∧ s.take name.length = name)
def nameAt (x : C) (n : Int) : Str := match x.1[n.toNat]? with
  | some c => c.1
  | none => []
theorem nameAt_eq {x : C} {i : Nat} (h : i < x.1.length) : nameAt x (i : Int) = x.1[i].1 := by
  unfold nameAt
  rw [show ((i : Int)).toNat = i by omega, List.getElem?_eq_getElem h]
/-- Those that may be seen, and begin so. -/
def pickL (x : C) (user name : Str) : List Int := (seesR x user).filter fun n => begP (nameAt x n) name
/-- Which one somebody means. -/
def pickR (x : C) (user name : Str) : Int × Int := if 0 ≤ findR x.1 name ∧ seesP x user name = true then (findR x.1 name, 0) else
  match pickL x user name with
  | [] => (-1, if 0 ≤ findR x.1 name then 10 else 7)
  | [n] => (n, 0)
  | _ => (-1, 8)
theorem sees_lt {x : C} {user : Str} {n : Int} (h : n ∈ seesR x user) : ∃ (i : Nat) (h : i < x.1.length), n = (i : Int) ∧ seesP x user x.1[i].1 = true := (places_mem n).1 h
theorem sees_len (x : C) (user : Str) : (seesR x user).length ≤ x.1.length := places_len _ _
theorem find_at {x : C} {name : Str} (h : 0 ≤ findR x.1 name) : ∃ (i : Nat) (h : i < x.1.length), findR x.1 name = (i : Int) ∧ x.1[i].1 = name := by
  rcases idx_cases (fun c : Con => decide (c.1 = name)) x.1 with hn | ⟨k, hlt, he, hb⟩
  · have : findR x.1 name = -1 := idx_none hn
    omega
  · exact ⟨k, hlt, idx_at hlt hb he, of_decide_eq_true he⟩
theorem find_lt {l : List Con} {name : Str} : -1 ≤ findR l name ∧ findR l name < l.length := by
  rcases idx_cases (fun c : Con => decide (c.1 = name)) l with hn | ⟨k, hlt, he, hb⟩
  · have : findR l name = -1 := idx_none hn
    omega
  · have : findR l name = k := idx_at hlt hb he
    omega
theorem filter_step {p : Int → Bool} {l : List Int} {j : Nat} (h : j < l.length) : (l.take (j + 1)).filter p = (l.take j).filter p ++ (if p l[j] = true then [l[j]] else []) := by
  rw [List.take_succ_eq_append_getElem h, List.filter_append]
  congr 1
  cases hp : p l[j] <;> simp [hp]
set_option maxRecDepth 100000 in
theorem begins_any (s name : Str) (hs : s.length ≤ 40) (hn : name.length ≤ 40) (w : World) : Calls Try.prog 38 #[.string ⟨s.toArray⟩, .string ⟨name.toArray⟩] w fun e w' => e = .returned (.bool (begP s name)) ∧ w = w' := by
  by_cases h0 : name = []
  · have hr : begP s name = false := decide_eq_false (fun h => h.1 h0)
    rw [hr]
    subst h0
    go_enter Try.func38, Try.ntmps38
    go_wp2_with fail
    go_ret
    exact ⟨rfl, rfl⟩
  · have e0 : (name == []) = false := beq_eq_false_iff_ne.2 h0
    have e1 : (name != []) = true := by rw [bne, e0]; rfl
    by_cases hl : name.length ≤ s.length
    · have hsl := fun W : World => slice_upto (P := Try.prog) W 9 Try.underlying9 s name.length name.length rfl hl
      by_cases ht : s.take name.length = name
      · have hr : begP s name = true := decide_eq_true ⟨h0, hl, ht⟩
        rw [hr]
        have e2 := str_t ht
        obtain ⟨t, htt⟩ : ∃ t, s.take name.length = t := ⟨_, rfl⟩
        rw [htt] at hsl e2
        clear h0 ht htt hr
        go_enter Try.func38, Try.ntmps38
        go_wp2_with fail
        go_ret
        exact ⟨rfl, rfl⟩
      · have hr : begP s name = false := decide_eq_false (fun h => ht h.2.2)
        rw [hr]
        have e2 := str_f ht
        obtain ⟨t, htt⟩ : ∃ t, s.take name.length = t := ⟨_, rfl⟩
        rw [htt] at hsl e2
        clear h0 ht htt hr
        go_enter Try.func38, Try.ntmps38
        go_wp2_with fail
        go_ret
        exact ⟨rfl, rfl⟩
    · have hr : begP s name = false := decide_eq_false (fun h => hl h.2.1)
      rw [hr]
      clear h0 hr
      go_enter Try.func38, Try.ntmps38
      go_wp2_with fail
      go_ret
      exact ⟨rfl, rfl⟩
set_option maxHeartbeats 4000000 in
theorem pick_any (c0 : Array Value) (x : C) (user name : Str) (w : World) (S : Nat → Prop) (hS : ∀ k, S k → k < w.heap.size) (h : QConf w S c0.toList x) (hu : user.length ≤ 40) (hn : name.length ≤ 40) :
    Calls Try.prog 19 #[.agg c0, .string ⟨user.toArray⟩, .string ⟨name.toArray⟩] w fun e w' => e = .returned (.tuple #[.int .i64 (pickR x user name).1, .int .i64 (pickR x user name).2]) ∧ Fr No w w' := by
  have hW : Fr No w (w.alloc (.cells c0 28)) := (Fr.refl No w).alloc _
  have HS := Lib.hid hS
  have hbk := Blk.new w 28 c0
  have hst := fun W (hf : Fr No w W) => (show (∀ k, S k → k < W.heap.size) ∧ QConf W S c0.toList x from ⟨fun k hk => Nat.lt_of_lt_of_le (hS k hk) hf.size, stable_q.go h (Kept.of_no hf hS) (fun b hb => hb)⟩)
  have HFI := Lib.hid (fun W (hf : Fr No w W) => find_any c0 x name W S (hst W hf).1 (hst W hf).2)
  have HMA := Lib.hid (fun W (hf : Fr No w W) => may_any c0 x user name 1 W S (hst W hf).1 (hst W hf).2 hn hu)
  have HSE := Lib.hid (fun W (hf : Fr No w W) => sees_any c0 x user W S (hst W hf).1 (hst W hf).2 hu)
  have HP := Lib.hid (show seesP x user name = decide (1 ≤ levelR x.2.2.2.1 user name) from rfl)
  rw [← HP.out] at HMA
  obtain ⟨AC, kC, AG, kG, AU, kU, AA, kA, s0, s1, s2, s3, s4, s5, s6, s7, s8, s9, rfl, hC, -, -, -⟩ := q_lit h
  obtain ⟨hA1, hA2⟩ : x.1.length ≤ kC ∧ kC ≤ 9223372036854775807 := by
    obtain ⟨A', c, e, h1, h2, -⟩ := hC.1
    injection e with e _
    injection e with _ _ e
    subst e
    exact ⟨h1, h2⟩
  have hl12 := hC.2
  have HC := Lib.hid hC
  have hfl := find_lt (l := x.1) (name := name)
  clear h hS hst hC HP
  generalize x.2.2.2.1.length = nA at HFI HMA HSE hbk hW ⊢
  generalize x.2.2.1.length = nU at HFI HMA HSE hbk hW ⊢
  generalize x.2.1.length = nG at HFI HMA HSE hbk hW ⊢
  go_enter Try.func19, Try.ntmps19
  have y0 := hbk.cell 0
  have y1 := hbk.cell 1
  have y2 := hbk.cell 2
  have y3 := hbk.cell 3
  have y4 := hbk.cell 4
  have y5 := hbk.cell 5
  have y6 := hbk.cell 6
  have y7 := hbk.cell 7
  have y8 := hbk.cell 8
  have y9 := hbk.cell 9
  have y10 := hbk.cell 10
  have y11 := hbk.cell 11
  have y12 := hbk.cell 12
  have y13 := hbk.cell 13
  simp only [List.getElem?_toArray, List.getElem?_cons_zero, List.getElem?_cons_succ] at y0 y1 y2 y3 y4 y5 y6 y7 y8 y9 y10 y11 y12 y13
  go_wp2_with fail
  refine (HFI.out _ hW).mono ?_
  rintro e w1 ⟨rfl, hf⟩
  have HB1 := Lib.hid (hbk.fr hf (fun h => h))
  have F1 := Lib.hid (hW.then_no hf)
  obtain ⟨bc, hbc⟩ : ∃ bc, w.heap.size = bc := ⟨_, rfl⟩
  rw [hbc] at HB1 ⊢
  clear y0 y1 y2 y3 y4 y5 y6 y7 y8 y9 y10 y11 y12 y13
  clear hbc hf hbk hW
  obtain ⟨fi, hfi⟩ : ∃ fi, findR x.1 name = fi := ⟨_, rfl⟩
  have HFD := Lib.hid hfi
  rw [hfi] at hfl ⊢
  clear hfi
  by_cases hneg : fi < 0
  case' pos =>
    have HD : Hid (¬ (0 ≤ findR x.1 name ∧ seesP x user name = true)) := Lib.hid (by rw [HFD.out]; omega)
    have y0 := HB1.out.cell 0
    have y1 := HB1.out.cell 1
    have y2 := HB1.out.cell 2
    have y3 := HB1.out.cell 3
    have y4 := HB1.out.cell 4
    have y5 := HB1.out.cell 5
    have y6 := HB1.out.cell 6
    have y7 := HB1.out.cell 7
    have y8 := HB1.out.cell 8
    have y9 := HB1.out.cell 9
    have y10 := HB1.out.cell 10
    have y11 := HB1.out.cell 11
    have y12 := HB1.out.cell 12
    have y13 := HB1.out.cell 13
    simp only [List.getElem?_toArray, List.getElem?_cons_zero, List.getElem?_cons_succ] at y0 y1 y2 y3 y4 y5 y6 y7 y8 y9 y10 y11 y12 y13
    go_wp2_with fail
    refine (HSE.out _ F1.out).mono ?_
    rintro e w2 ⟨v2, rfl, ho, hs⟩
    have F2 := Lib.hid (F1.out.then_no hs.1)
    have HB2 := Lib.hid (HB1.out.fr hs.1 (fun h => h))
    have HO := Lib.hid ho
    clear y0 y1 y2 y3 y4 y5 y6 y7 y8 y9 y10 y11 y12 y13
    clear ho hs
    obtain ⟨WW, e1⟩ : ∃ WW, WW = w2 := ⟨_, rfl⟩
    subst e1
  case' neg =>
    cases hsp : seesP x user name
    case' true =>
      have HR := Lib.hid (show pickR x user name = (fi, 0) from by unfold pickR; rw [if_pos ⟨by rw [HFD.out]; omega, hsp⟩, HFD.out])
      rw [hsp] at HMA
      clear hsp
      have y0 := HB1.out.cell 0
      have y1 := HB1.out.cell 1
      have y2 := HB1.out.cell 2
      have y3 := HB1.out.cell 3
      have y4 := HB1.out.cell 4
      have y5 := HB1.out.cell 5
      have y6 := HB1.out.cell 6
      have y7 := HB1.out.cell 7
      have y8 := HB1.out.cell 8
      have y9 := HB1.out.cell 9
      have y10 := HB1.out.cell 10
      have y11 := HB1.out.cell 11
      have y12 := HB1.out.cell 12
      have y13 := HB1.out.cell 13
      simp only [List.getElem?_toArray, List.getElem?_cons_zero, List.getElem?_cons_succ] at y0 y1 y2 y3 y4 y5 y6 y7 y8 y9 y10 y11 y12 y13
      go_wp2_with fail
      refine (HMA.out _ F1.out).mono ?_
      rintro e w2 ⟨rfl, hf⟩
      have F2 := Lib.hid (F1.out.then_no hf)
      clear hf
      go_wp2_with fail
      go_ret2
      exact ⟨by rw [HR.out]; rfl, F2.out⟩
    case' false =>
      have HD : Hid (¬ (0 ≤ findR x.1 name ∧ seesP x user name = true)) := Lib.hid (by rw [hsp]; rintro ⟨_, h⟩; cases h)
      rw [hsp] at HMA
      clear hsp
      have y0 := HB1.out.cell 0
      have y1 := HB1.out.cell 1
      have y2 := HB1.out.cell 2
      have y3 := HB1.out.cell 3
      have y4 := HB1.out.cell 4
      have y5 := HB1.out.cell 5
      have y6 := HB1.out.cell 6
      have y7 := HB1.out.cell 7
      have y8 := HB1.out.cell 8
      have y9 := HB1.out.cell 9
      have y10 := HB1.out.cell 10
      have y11 := HB1.out.cell 11
      have y12 := HB1.out.cell 12
      have y13 := HB1.out.cell 13
      simp only [List.getElem?_toArray, List.getElem?_cons_zero, List.getElem?_cons_succ] at y0 y1 y2 y3 y4 y5 y6 y7 y8 y9 y10 y11 y12 y13
      go_wp2_with fail
      refine (HMA.out _ F1.out).mono ?_
      rintro e w2 ⟨rfl, hf⟩
      have F1b := Lib.hid (F1.out.then_no hf)
      have HB1b := Lib.hid (HB1.out.fr hf (fun h => h))
      clear y0 y1 y2 y3 y4 y5 y6 y7 y8 y9 y10 y11 y12 y13
      clear hf F1 HB1
      have F1 := F1b
      have HB1 := HB1b
      have y0 := HB1.out.cell 0
      have y1 := HB1.out.cell 1
      have y2 := HB1.out.cell 2
      have y3 := HB1.out.cell 3
      have y4 := HB1.out.cell 4
      have y5 := HB1.out.cell 5
      have y6 := HB1.out.cell 6
      have y7 := HB1.out.cell 7
      have y8 := HB1.out.cell 8
      have y9 := HB1.out.cell 9
      have y10 := HB1.out.cell 10
      have y11 := HB1.out.cell 11
      have y12 := HB1.out.cell 12
      have y13 := HB1.out.cell 13
      simp only [List.getElem?_toArray, List.getElem?_cons_zero, List.getElem?_cons_succ] at y0 y1 y2 y3 y4 y5 y6 y7 y8 y9 y10 y11 y12 y13
      go_wp2_with fail
      refine (HSE.out _ F1.out).mono ?_
      rintro e w3 ⟨v2, rfl, ho, hs⟩
      have F2 := Lib.hid (F1.out.then_no hs.1)
      have HB2 := Lib.hid (HB1.out.fr hs.1 (fun h => h))
      have HO := Lib.hid ho
      clear y0 y1 y2 y3 y4 y5 y6 y7 y8 y9 y10 y11 y12 y13
      clear ho hs
      obtain ⟨WW, e1⟩ : ∃ WW, WW = w3 := ⟨_, rfl⟩
      subst e1
  all_goals
    have HLM := Lib.hid (fun n (hn : n ∈ seesR x user) => sees_lt hn)
    have hLl := sees_len x user
    have HPK := Lib.hid (show pickR x user name = (match (seesR x user).filter (fun n => begP (nameAt x n) name) with | [] => (-1, if 0 ≤ findR x.1 name then 10 else 7) | [n] => (n, 0) | _ => (-1, 8)) from by unfold pickR; rw [if_neg HD.out]; rfl)
    rw [HFD.out] at HPK
    obtain ⟨L, hL⟩ : ∃ L, seesR x user = L := ⟨_, rfl⟩
    rw [hL] at HLM hLl HPK HO
    clear hL
    obtain ⟨A2, c2, hu2⟩ := own_form HO.out
    subst hu2
    have hlo := own_len HO.out
    have hlcb := HB2.out.lt
    go_wp2_with fail
    go_loopw [9, 29] (fun o jv wr => ∃ (j m : Nat) (out : List Int), jv = .int .i64 j ∧ j ≤ L.length ∧ m ≤ j ∧ Hid (out.length = m ∧ (L.take j).filter (fun n => begP (nameAt x n) name) = out) ∧ Hid (wr.ownsRow 0 3 1 o m (out.map encI) ∧ Step No WW (Of o) wr)) (fun _ j _ => L.length - (intOf j).toNat)
    case atStart => exact ⟨0, 0, [], rfl, by omega, by omega, Lib.hid ⟨rfl, rfl⟩, Lib.hid ⟨World.ownsRow_nil _ _ _ _, Fr.refl _ _, fun k hk => by cases hk⟩⟩
    case round =>
      obtain ⟨j, m, out, rfl, hj, hm, Hd, HP⟩ := hrel
      obtain ⟨A3, c3, hu3⟩ := own_form HP.out.1
      subst hu3
      have y0 := (HP.out.2.1.cell (p := ⟨bc, 0, none⟩) hlcb (fun h => h)).trans (HB2.out.cell 0)
      simp only [List.getElem?_toArray, List.getElem?_cons_zero] at y0
      by_cases hjl : j < L.length
      · have hfs := Lib.hid (filter_step (p := fun n => begP (nameAt x n) name) hjl)
        obtain ⟨i, hi, hni, -⟩ := HLM.out L[j] (List.getElem_mem hjl)
        obtain ⟨ad2, rfl, z0⟩ := own_news HO.out j (encI L[j]) (by rw [List.getElem?_map, List.getElem?_eq_getElem hjl]; rfl)
        have hb2 := (HO.out.lt ad2.block (by
          rcases HO.out.2 with ⟨h0, _⟩ | ⟨g, cap', cur, h0, _⟩
          · cases h0
          · injection h0 with h0 _
            injection h0 with h0
            subst h0
            rfl)).2
        have z1 := (HP.out.2.1.cell (p := ad2.add j) (by rw [block_add]; exact hb2) (fun h => h)).trans z0
        change wr.cell? (ad2.add j) = some (.int .i64 L[j]) at z1
        rw [hni] at z1
        have hna := nameAt_eq hi
        rw [← hni] at hna
        obtain ⟨ad, n1, n2, n3, n4, n5, n6, n7, n8, b, rfl, hla, k0, -, -, -, -, -, -, -, -, -, b1⟩ := con_at HC.out (F2.out.then_no HP.out.2.1) HS.out hi
        have Hni := Lib.hid hni
        obtain ⟨a, ha⟩ : ∃ a, a = x.1[i].1 := ⟨_, rfl⟩
        rw [← ha] at k0 b1 hna
        have hba : Hid ((L.take (j + 1)).filter (fun n => begP (nameAt x n) name) = out ++ (if begP a name = true then [(i : Int)] else [])) := Lib.hid (by rw [hfs.out, Hd.out.2, hna, Hni.out])
        have hlw : (ad.add (i * 10)).block < wr.heap.size := by have := F2.out.size; have := HP.out.2.1.size; omega
        clear z0 hni hna ha hfs
        by_cases h0 : name = []
        · have hbf : Hid (begP a name = false) := Lib.hid (decide_eq_false (fun h => h.1 h0))
          have e0 : (name == []) = true := beq_iff_eq.2 h0
          have e1 : (name != []) = false := by rw [bne, e0]; rfl
          clear h0
          go_wp2_with fail
          go_roundw
          case rel => exact ⟨j + 1, m, out, by go_num, by omega, by omega, Lib.hid ⟨Hd.out.1, by rw [hba.out, hbf.out]; simp⟩, HP⟩
          case measure => simp [intOf]; omega
        · have e0 : (name == []) = false := beq_eq_false_iff_ne.2 h0
          have e1 : (name != []) = true := by rw [bne, e0]; rfl
          by_cases hle : name.length ≤ a.length
          · have hsl := fun W : World => slice_upto (P := Try.prog) W 9 Try.underlying9 a name.length name.length rfl hle
            by_cases ht : a.take name.length = name
            · have hbt : Hid (begP a name = true) := Lib.hid (decide_eq_true ⟨h0, hle, ht⟩)
              have e2 := str_t ht
              obtain ⟨t, htt⟩ : ∃ t, a.take name.length = t := ⟨_, rfl⟩
              rw [htt] at hsl e2
              clear h0 ht htt
              go_wp2_with (at_builtin; go_loud (refine wp_push rfl (.tmp 56) (.tmp 58) 34 rfl 3 (.int .i64 0) 1 8 Try.underlying34 infoI rfl (by decide) (.slice A3 m c3) m _ rfl HP.out.1 #[.int .i64 i] rfl rfl (one_lit rfl) (by omega) (by unfold maxLen; omega) ?_; intro g4 c4 w4 h1 h2 h3; have P4 := Lib.hid h1; have F4 := Lib.hid (HP.out.2.trans (Step.of (n := m + 1) (c := c4) h2 h3)); clear h1 h2 h3))
              go_roundw
              case rel => exact ⟨j + 1, m + 1, out ++ [(i : Int)], by go_num, by omega, by omega, Lib.hid ⟨by rw [List.length_append, Hd.out.1]; rfl, by rw [hba.out, hbt.out]; simp⟩, Lib.hid ⟨by rw [List.map_append]; exact P4.out, F4.out⟩⟩
              case measure => simp [intOf]; omega
            · have hbf : Hid (begP a name = false) := Lib.hid (decide_eq_false (fun h => ht h.2.2))
              have e2 := str_f ht
              obtain ⟨t, htt⟩ : ∃ t, a.take name.length = t := ⟨_, rfl⟩
              rw [htt] at hsl e2
              clear h0 ht htt
              go_wp2_with fail
              go_roundw
              case rel => exact ⟨j + 1, m, out, by go_num, by omega, by omega, Lib.hid ⟨Hd.out.1, by rw [hba.out, hbf.out]; simp⟩, HP⟩
              case measure => simp [intOf]; omega
          · have hbf : Hid (begP a name = false) := Lib.hid (decide_eq_false (fun h => hle h.2.1))
            clear h0
            go_wp2_with fail
            go_roundw
            case rel => exact ⟨j + 1, m, out, by go_num, by omega, by omega, Lib.hid ⟨Hd.out.1, by rw [hba.out, hbf.out]; simp⟩, HP⟩
            case measure => simp [intOf]; omega
      · have hout : Hid (L.filter (fun n => begP (nameAt x n) name) = out ∧ out.length = m) := Lib.hid ⟨by have := Hd.out.2; rw [List.take_of_length_le (by omega)] at this; exact this, Hd.out.1⟩
        have HF := Lib.hid (F2.out.then_no HP.out.2.1)
        clear y0
        by_cases hm0 : m = 0
        · have ho0 : out = [] := List.eq_nil_of_length_eq_zero (by have := hout.out.2; omega)
          subst hm0
          by_cases h0 : 0 ≤ fi
          · have HR := Lib.hid (show pickR x user name = (-1, 10) from by rw [HPK.out, hout.out.1, ho0]; simp [h0])
            first
            | (exfalso; omega)
            | (go_wp2_with fail
               go_ret2
               exact ⟨by rw [HR.out]; rfl, HF.out⟩)
          · have HR := Lib.hid (show pickR x user name = (-1, 7) from by rw [HPK.out, hout.out.1, ho0]; simp [h0])
            first
            | (exfalso; omega)
            | (go_wp2_with fail
               go_ret2
               exact ⟨by rw [HR.out]; rfl, HF.out⟩)
        by_cases hm1 : m = 1
        · obtain ⟨n, hn1⟩ : ∃ n, out = [n] := List.length_eq_one_iff.1 (by have := hout.out.2; omega)
          subst hm1
          have HR := Lib.hid (show pickR x user name = (n, 0) from by rw [HPK.out, hout.out.1, hn1])
          obtain ⟨ad3, rfl, z0⟩ := own_news HP.out.1 0 (encI n) (by rw [hn1]; rfl)
          change wr.cell? (ad3.add 0) = some (.int .i64 n) at z0
          have z1 := z0
          rw [add_zero] at z1
          clear hn1
          go_wp2_with fail
          go_ret2
          exact ⟨by rw [HR.out]; rfl, HF.out⟩
        · have HR := Lib.hid (show pickR x user name = (-1, 8) from by
            rw [HPK.out, hout.out.1]
            have h2 := hout.out.2
            match out, h2 with
            | [], h => exact absurd h.symm hm0
            | [_], h => exact absurd h.symm hm1
            | _ :: _ :: _, _ => rfl)
          go_wp2_with fail
          go_ret2
          exact ⟨by rw [HR.out]; rfl, HF.out⟩
end Conf
end Go.Proofs.Ytompphakagoaeaa
