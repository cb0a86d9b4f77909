/- The example of the gate's laws. Printed by gen_gatew.py. -/
import Derived.Test.YtllnaflknnkgiaaGateS
namespace Go.Proofs.Ytllnaflknnkgiaa
open Go.RowKit
set_option linter.unusedVariables false
set_option linter.unusedSimpArgs false
namespace Gate
open Conf
theorem NewPost.yes {t wt now : Int} {w w' : World} {e : Ending} (h : NewPost t wt now w e w') (h0 : newR t wt now = 0) : ∃ g, e = .returned (.tuple #[.pointer (some ⟨g, 0, none⟩), .int .i64 0]) ∧ GAt w' g t wt 0 [] 0 (now + wt) ∧ Fr No w w' ∧ New w w' g := by
  rcases h with ⟨_, h⟩ | ⟨h, _⟩
  · exact h
  · exact absurd h0 h
theorem NewPost.no {t wt now : Int} {w w' : World} {e : Ending} (h : NewPost t wt now w e w') (h0 : newR t wt now ≠ 0) : e = .returned (.tuple #[.pointer none, .int .i64 (newR t wt now)]) ∧ Fr No w w' := by
  rcases h with ⟨h, _⟩ | ⟨_, h⟩
  · exact absurd h h0
  · exact h
theorem nil_sl {α : Type} {R : Rd α} {n : Nat} {w : World} {S : Nat → Prop} : RSl n R w S [nil] [] := ⟨none, 0, rfl, Nat.le_refl _, Nat.zero_le _, fun _ => rfl, fun i hi => by simp at hi⟩
/-- The example's configuration: one user. -/
theorem one_conf {W : World} {bu : Nat} (h : Blk W bu 87 #[.string ⟨#[97, 110, 110]⟩, .string ⟨#[120]⟩]) : RConf W (fun k => k = bu) (#[nil, nil, .slice (some ⟨bu, 0, none⟩) 1 1, nil, zs, zs, zs, zs, zs, zs, zs, zs, zs, zs] : Array Value).toList ([], ([], ([([97, 110, 110], [120])], ([], [[], [], [], [], [], [], [], [], [], []])))) := by
  refine conf_mk (vC := nil) (vG := nil) (vU := .slice (some ⟨bu, 0, none⟩) 1 1) (vA := nil) (bs := [zs, zs, zs, zs, zs, zs, zs, zs, zs, zs]) nil_sl nil_sl ?_ nil_sl ?_
  · refine ⟨some ⟨bu, 0, none⟩, 1, rfl, Nat.le_refl _, by unfold maxLen; decide, (fun h => by cases h), fun i hi => ?_⟩
    obtain rfl : i = 0 := by simpa using hi
    refine ⟨⟨bu, 0, none⟩, [.string ⟨#[97, 110, 110]⟩, .string ⟨#[120]⟩], rfl, rfl, rfl, fun j hj => ?_, by simp, ⟨rfl, by unfold maxLen; show 3 ≤ _; decide⟩, rfl, by unfold maxLen; show 1 ≤ _; decide⟩
    obtain rfl | rfl : j = 0 ∨ j = 1 := by omega
    · have := h.cell 0
      simpa [Addr.add] using this
    · have := h.cell 1
      simpa [Addr.add] using this
  · refine ⟨rfl, by decide, fun i hi => ?_⟩
    have hi : i < 10 := hi
    obtain rfl | rfl | rfl | rfl | rfl | rfl | rfl | rfl | rfl | rfl : i = 0 ∨ i = 1 ∨ i = 2 ∨ i = 3 ∨ i = 4 ∨ i = 5 ∨ i = 6 ∨ i = 7 ∨ i = 8 ∨ i = 9 := by omega
    all_goals exact ⟨rfl, Nat.zero_le _⟩
set_option maxRecDepth 100000 in
set_option maxHeartbeats 4000000 in
theorem works_any (w : World) : Calls Try.prog 13 #[] w fun e w' => e = .returned (.bool true) ∧ Fr No w w' := by
  obtain ⟨bu, hbu⟩ : ∃ bu, w.heap.size = bu := ⟨_, rfl⟩
  obtain ⟨bc, hbc⟩ : ∃ bc, bu + 1 = bc := ⟨_, rfl⟩
  have hu := (Blk.new w 87 #[.string ⟨#[97, 110, 110]⟩, .string ⟨#[120]⟩]).alloc (.cells #[nil, nil, .slice (some ⟨bu, 0, none⟩) 1 1, nil, zs, zs, zs, zs, zs, zs, zs, zs, zs, zs] 28)
  have hc := Blk.new (w.alloc (.cells #[.string ⟨#[97, 110, 110]⟩, .string ⟨#[120]⟩] 87)) 28 #[nil, nil, .slice (some ⟨bu, 0, none⟩) 1 1, nil, zs, zs, zs, zs, zs, zs, zs, zs, zs, zs]
  rw [size_alloc] at hc
  have hf := ((Fr.refl No w).alloc (.cells #[.string ⟨#[97, 110, 110]⟩, .string ⟨#[120]⟩] 87)).alloc (.cells #[nil, nil, .slice (some ⟨bu, 0, none⟩) 1 1, nil, zs, zs, zs, zs, zs, zs, zs, zs, zs, zs] 28)
  rw [hbu] at hu hc
  rw [hbc] at hc
  have CU := Lib.hid hu
  have CC := Lib.hid hc
  have FW := Lib.hid hf
  have HB := Lib.hid hbu
  have HC := Lib.hid hbc
  clear hu hc hf
  go_enter Try.func13, Try.ntmps13
  go_wp2_with fail
  generalize ((w.alloc (.cells #[.string ⟨#[97, 110, 110]⟩, .string ⟨#[120]⟩] 87)).alloc (.cells #[nil, nil, .slice (some ⟨bu, 0, none⟩) 1 1, nil, zs, zs, zs, zs, zs, zs, zs, zs, zs, zs] 28)) = w1 at CU CC FW ⊢
  have hblt : bu < bc := by omega
  clear hbu hbc
  refine (new_any 2 10 5 _ (by decide)).mono ?_
  intro e w2 hp
  obtain ⟨g, rfl, h1, h2, h3⟩ := hp.yes (by decide)
  have hlg := CC.out.lt
  have hgng : bc < g := by have := h3.1; omega
  have CU := Lib.hid (CU.out.fr h2 (fun h => h))
  have CC := Lib.hid (CC.out.fr h2 (fun h => h))
  have FW := Lib.hid (FW.out.then_no h2)
  have Gg := Lib.hid h1
  clear h1 h2 h3 hp
  go_wp2_with fail
  refine (new_any 0 10 5 _ (by decide)).mono ?_
  intro e w3 hp
  obtain ⟨rfl, h2⟩ := hp.no (by decide)
  rw [show newR 0 10 5 = 2 by decide]
  have CU := Lib.hid (CU.out.fr h2 (fun h => h))
  have CC := Lib.hid (CC.out.fr h2 (fun h => h))
  have Gg := Lib.hid (Gg.out.fr h2 (fun h => h))
  have FW := Lib.hid (FW.out.then_no h2)
  clear h2 hp
  have hcc := CC.out
  have hlc := CC.out.lt
  have c0 := hcc.cell 0
  have c1 := hcc.cell 1
  have c2 := hcc.cell 2
  have c3 := hcc.cell 3
  have c4 := hcc.cell 4
  have c5 := hcc.cell 5
  have c6 := hcc.cell 6
  have c7 := hcc.cell 7
  have c8 := hcc.cell 8
  have c9 := hcc.cell 9
  have c10 := hcc.cell 10
  have c11 := hcc.cell 11
  have c12 := hcc.cell 12
  have c13 := hcc.cell 13
  simp only [List.getElem?_toArray, List.getElem?_cons_zero, List.getElem?_cons_succ] at c0 c1 c2 c3 c4 c5 c6 c7 c8 c9 c10 c11 c12 c13
  clear hcc
  go_wp2_with fail
  refine (login_any #[nil, nil, .slice (some ⟨bu, 0, none⟩) 1 1, nil, zs, zs, zs, zs, zs, zs, zs, zs, zs, zs] ([], ([], ([([97, 110, 110], [120])], ([], [[], [], [], [], [], [], [], [], [], []])))) [97, 110, 110] [121] w3 (fun k => k = bu) (fun k hk => by have hk : k = bu := hk; have := CU.out.lt; omega) (one_conf CU.out) g 2 10 0 [] 0 15 Gg.out (by decide) (by decide) (by decide) (by decide)).mono ?_
  intro e w4 hp
  rw [show loginR 2 0 [] 0 (decide (enterR [([97, 110, 110], [120])] [97, 110, 110] [121] = 0)) [97, 110, 110] = ((0, [], 1), (430, noSuch)) from rfl] at hp
  obtain ⟨ba', rfl, h1, h2, h3, h4⟩ := hp
  have CU := Lib.hid (CU.out.fr h3 (fun e => by have : bu = g := e; omega))
  have CC := Lib.hid (CC.out.fr h3 (fun e => by have : bc = g := e; omega))
  have FW := Lib.hid (FW.out.trans h3 fun k hk hl => by have hk : k = g := hk; have := HB.out; omega)
  have Gg := Lib.hid h4
  clear h1 h2 h3 h4
  clear hlc c0 c1 c2 c3 c4 c5 c6 c7 c8 c9 c10 c11 c12 c13
  go_wp2_with fail
  obtain ⟨ba, hba⟩ : ∃ ba, w4.heap.size = ba := ⟨_, rfl⟩
  have Rba := Lib.hid (Blk.new w4 47 #[.int .i64 430, .slice (some ⟨ba', 0, none⟩) 1 1])
  have fr1 := (Fr.refl No w4).alloc (.cells #[.int .i64 430, .slice (some ⟨ba', 0, none⟩) 1 1] 47)
  have hnrgba : ba ≠ g := by have := Gg.out.lt; omega
  have CU := Lib.hid (CU.out.fr fr1 (fun h => h))
  have CC := Lib.hid (CC.out.fr fr1 (fun h => h))
  have Gg := Lib.hid (Gg.out.fr fr1 (fun h => h))
  have FW := Lib.hid (FW.out.then_no fr1)
  rw [hba] at Rba ⊢
  clear hba fr1
  generalize w4.alloc (.cells #[.int .i64 430, .slice (some ⟨ba', 0, none⟩) 1 1] 47) = w5 at * 
  refine (show Calls _ _ _ _ (fun e w' => e = .returned (.tuple #[.int .i64 15, .bool true]) ∧ w5 = w') from until_any Gg.out (by decide)).mono ?_
  rintro e w' ⟨rfl, rfl⟩
  have hcc := CC.out
  have hlc := CC.out.lt
  have c0 := hcc.cell 0
  have c1 := hcc.cell 1
  have c2 := hcc.cell 2
  have c3 := hcc.cell 3
  have c4 := hcc.cell 4
  have c5 := hcc.cell 5
  have c6 := hcc.cell 6
  have c7 := hcc.cell 7
  have c8 := hcc.cell 8
  have c9 := hcc.cell 9
  have c10 := hcc.cell 10
  have c11 := hcc.cell 11
  have c12 := hcc.cell 12
  have c13 := hcc.cell 13
  simp only [List.getElem?_toArray, List.getElem?_cons_zero, List.getElem?_cons_succ] at c0 c1 c2 c3 c4 c5 c6 c7 c8 c9 c10 c11 c12 c13
  clear hcc
  go_wp2_with fail
  refine (login_any #[nil, nil, .slice (some ⟨bu, 0, none⟩) 1 1, nil, zs, zs, zs, zs, zs, zs, zs, zs, zs, zs] ([], ([], ([([97, 110, 110], [120])], ([], [[], [], [], [], [], [], [], [], [], []])))) [97, 110, 110] [120] w5 (fun k => k = bu) (fun k hk => by have hk : k = bu := hk; have := CU.out.lt; omega) (one_conf CU.out) g 2 10 0 [] 1 15 Gg.out (by decide) (by decide) (by decide) (by decide)).mono ?_
  intro e w6 hp
  rw [show loginR 2 0 [] 1 (decide (enterR [([97, 110, 110], [120])] [97, 110, 110] [120] = 0)) [97, 110, 110] = ((1, [97, 110, 110], 1), (230, welcome [97, 110, 110])) from rfl] at hp
  obtain ⟨bb', rfl, h1, h2, h3, h4⟩ := hp
  have CU := Lib.hid (CU.out.fr h3 (fun e => by have : bu = g := e; omega))
  have CC := Lib.hid (CC.out.fr h3 (fun e => by have : bc = g := e; omega))
  have Rba := Lib.hid (Rba.out.fr h3 (fun e => by have : ba = g := e; omega))
  have FW := Lib.hid (FW.out.trans h3 fun k hk hl => by have hk : k = g := hk; have := HB.out; omega)
  have Gg := Lib.hid h4
  clear h1 h2 h3 h4
  clear hlc c0 c1 c2 c3 c4 c5 c6 c7 c8 c9 c10 c11 c12 c13
  have hcc := CC.out
  have hlc := CC.out.lt
  have c0 := hcc.cell 0
  have c1 := hcc.cell 1
  have c2 := hcc.cell 2
  have c3 := hcc.cell 3
  have c4 := hcc.cell 4
  have c5 := hcc.cell 5
  have c6 := hcc.cell 6
  have c7 := hcc.cell 7
  have c8 := hcc.cell 8
  have c9 := hcc.cell 9
  have c10 := hcc.cell 10
  have c11 := hcc.cell 11
  have c12 := hcc.cell 12
  have c13 := hcc.cell 13
  simp only [List.getElem?_toArray, List.getElem?_cons_zero, List.getElem?_cons_succ] at c0 c1 c2 c3 c4 c5 c6 c7 c8 c9 c10 c11 c12 c13
  clear hcc
  go_wp2_with fail
  obtain ⟨bb, hbb⟩ : ∃ bb, w6.heap.size = bb := ⟨_, rfl⟩
  have Rbb := Lib.hid (Blk.new w6 47 #[.int .i64 230, .slice (some ⟨bb', 0, none⟩) 1 1])
  have fr1 := (Fr.refl No w6).alloc (.cells #[.int .i64 230, .slice (some ⟨bb', 0, none⟩) 1 1] 47)
  have hnrgbb : bb ≠ g := by have := Gg.out.lt; omega
  have CU := Lib.hid (CU.out.fr fr1 (fun h => h))
  have CC := Lib.hid (CC.out.fr fr1 (fun h => h))
  have Rba := Lib.hid (Rba.out.fr fr1 (fun h => h))
  have Gg := Lib.hid (Gg.out.fr fr1 (fun h => h))
  have FW := Lib.hid (FW.out.then_no fr1)
  rw [hbb] at Rbb ⊢
  clear hbb fr1
  generalize w6.alloc (.cells #[.int .i64 230, .slice (some ⟨bb', 0, none⟩) 1 1] 47) = w7 at * 
  refine (login_any #[nil, nil, .slice (some ⟨bu, 0, none⟩) 1 1, nil, zs, zs, zs, zs, zs, zs, zs, zs, zs, zs] ([], ([], ([([97, 110, 110], [120])], ([], [[], [], [], [], [], [], [], [], [], []])))) [97, 110, 110] [120] w7 (fun k => k = bu) (fun k hk => by have hk : k = bu := hk; have := CU.out.lt; omega) (one_conf CU.out) g 2 10 1 [97, 110, 110] 1 15 Gg.out (by decide) (by decide) (by decide) (by decide)).mono ?_
  intro e w8 hp
  rw [show loginR 2 1 [97, 110, 110] 1 (decide (enterR [([97, 110, 110], [120])] [97, 110, 110] [120] = 0)) [97, 110, 110] = ((1, [97, 110, 110], 1), (503, youAre [97, 110, 110])) from rfl] at hp
  obtain ⟨bd', rfl, h1, h2, h3, h4⟩ := hp
  have CU := Lib.hid (CU.out.fr h3 (fun e => by have : bu = g := e; omega))
  have CC := Lib.hid (CC.out.fr h3 (fun e => by have : bc = g := e; omega))
  have Rba := Lib.hid (Rba.out.fr h3 (fun e => by have : ba = g := e; omega))
  have Rbb := Lib.hid (Rbb.out.fr h3 (fun e => by have : bb = g := e; omega))
  have FW := Lib.hid (FW.out.trans h3 fun k hk hl => by have hk : k = g := hk; have := HB.out; omega)
  have Gg := Lib.hid h4
  clear h1 h2 h3 h4
  clear hlc c0 c1 c2 c3 c4 c5 c6 c7 c8 c9 c10 c11 c12 c13
  go_wp2_with fail
  obtain ⟨bd, hbd⟩ : ∃ bd, w8.heap.size = bd := ⟨_, rfl⟩
  have Rbd := Lib.hid (Blk.new w8 47 #[.int .i64 503, .slice (some ⟨bd', 0, none⟩) 1 1])
  have fr1 := (Fr.refl No w8).alloc (.cells #[.int .i64 503, .slice (some ⟨bd', 0, none⟩) 1 1] 47)
  have hnrgbd : bd ≠ g := by have := Gg.out.lt; omega
  have CU := Lib.hid (CU.out.fr fr1 (fun h => h))
  have CC := Lib.hid (CC.out.fr fr1 (fun h => h))
  have Rba := Lib.hid (Rba.out.fr fr1 (fun h => h))
  have Rbb := Lib.hid (Rbb.out.fr fr1 (fun h => h))
  have Gg := Lib.hid (Gg.out.fr fr1 (fun h => h))
  have FW := Lib.hid (FW.out.then_no fr1)
  rw [hbd] at Rbd ⊢
  clear hbd fr1
  generalize w8.alloc (.cells #[.int .i64 503, .slice (some ⟨bd', 0, none⟩) 1 1] 47) = w9 at * 
  refine (late_any Gg.out (by decide) 100).mono ?_
  rintro e w10 ⟨rfl, h1, h2⟩
  rw [show lateS 1 15 100 = false from rfl]
  rw [show lateT 1 15 100 = 1 from rfl] at h1
  have CU := Lib.hid (CU.out.fr h2 (fun e => by have : bu = g := e; omega))
  have CC := Lib.hid (CC.out.fr h2 (fun e => by have : bc = g := e; omega))
  have Rba := Lib.hid (Rba.out.fr h2 (fun e => by have : ba = g := e; omega))
  have Rbb := Lib.hid (Rbb.out.fr h2 (fun e => by have : bb = g := e; omega))
  have Rbd := Lib.hid (Rbd.out.fr h2 (fun e => by have : bd = g := e; omega))
  have FW := Lib.hid (FW.out.trans h2 fun k hk hl => by have hk : k = g := hk; have := HB.out; omega)
  have Gg := Lib.hid h1
  clear h1 h2
  go_wp2_with fail
  refine (new_any 1 10 5 _ (by decide)).mono ?_
  intro e w11 hp
  obtain ⟨h, rfl, h1, h2, h3⟩ := hp.yes (by decide)
  have hlh := CC.out.lt
  have hgnh : bc < h := by have := h3.1; omega
  have hneh : g ≠ h := by have := h3.1; have := Gg.out.lt; omega
  have hne2h : h ≠ g := by omega
  have hnrhba : ba ≠ h := by have := h3.1; have := Rba.out.lt; omega
  have hnrhbb : bb ≠ h := by have := h3.1; have := Rbb.out.lt; omega
  have hnrhbd : bd ≠ h := by have := h3.1; have := Rbd.out.lt; omega
  have CU := Lib.hid (CU.out.fr h2 (fun h => h))
  have CC := Lib.hid (CC.out.fr h2 (fun h => h))
  have Rba := Lib.hid (Rba.out.fr h2 (fun h => h))
  have Rbb := Lib.hid (Rbb.out.fr h2 (fun h => h))
  have Rbd := Lib.hid (Rbd.out.fr h2 (fun h => h))
  have Gg := Lib.hid (Gg.out.fr h2 (fun h => h))
  have FW := Lib.hid (FW.out.then_no h2)
  have Gh := Lib.hid h1
  clear h1 h2 h3 hp
  have hcc := CC.out
  have hlc := CC.out.lt
  have c0 := hcc.cell 0
  have c1 := hcc.cell 1
  have c2 := hcc.cell 2
  have c3 := hcc.cell 3
  have c4 := hcc.cell 4
  have c5 := hcc.cell 5
  have c6 := hcc.cell 6
  have c7 := hcc.cell 7
  have c8 := hcc.cell 8
  have c9 := hcc.cell 9
  have c10 := hcc.cell 10
  have c11 := hcc.cell 11
  have c12 := hcc.cell 12
  have c13 := hcc.cell 13
  simp only [List.getElem?_toArray, List.getElem?_cons_zero, List.getElem?_cons_succ] at c0 c1 c2 c3 c4 c5 c6 c7 c8 c9 c10 c11 c12 c13
  clear hcc
  go_wp2_with fail
  refine (login_any #[nil, nil, .slice (some ⟨bu, 0, none⟩) 1 1, nil, zs, zs, zs, zs, zs, zs, zs, zs, zs, zs] ([], ([], ([([97, 110, 110], [120])], ([], [[], [], [], [], [], [], [], [], [], []])))) [98, 111, 98] [120] w11 (fun k => k = bu) (fun k hk => by have hk : k = bu := hk; have := CU.out.lt; omega) (one_conf CU.out) h 1 10 0 [] 0 15 Gh.out (by decide) (by decide) (by decide) (by decide)).mono ?_
  intro e w12 hp
  rw [show loginR 1 0 [] 0 (decide (enterR [([97, 110, 110], [120])] [98, 111, 98] [120] = 0)) [98, 111, 98] = ((2, [], 1), (421, tooMany)) from rfl] at hp
  obtain ⟨bi', rfl, h1, h2, h3, h4⟩ := hp
  have CU := Lib.hid (CU.out.fr h3 (fun e => by have : bu = h := e; omega))
  have CC := Lib.hid (CC.out.fr h3 (fun e => by have : bc = h := e; omega))
  have Rba := Lib.hid (Rba.out.fr h3 (fun e => by have : ba = h := e; omega))
  have Rbb := Lib.hid (Rbb.out.fr h3 (fun e => by have : bb = h := e; omega))
  have Rbd := Lib.hid (Rbd.out.fr h3 (fun e => by have : bd = h := e; omega))
  have Gg := Lib.hid (Gg.out.fr h3 (fun e => by have : g = h := e; omega))
  have FW := Lib.hid (FW.out.trans h3 fun k hk hl => by have hk : k = h := hk; have := HB.out; omega)
  have Gh := Lib.hid h4
  clear h1 h2 h3 h4
  clear hlc c0 c1 c2 c3 c4 c5 c6 c7 c8 c9 c10 c11 c12 c13
  have kRba := Rba.out.cell 0
  simp at kRba
  have lRba := Rba.out.lt
  have kRbb := Rbb.out.cell 0
  simp at kRbb
  have lRbb := Rbb.out.lt
  have kRbd := Rbd.out.cell 0
  simp at kRbd
  have lRbd := Rbd.out.lt
  go_wp2_with fail
  obtain ⟨bi, hbi⟩ : ∃ bi, w12.heap.size = bi := ⟨_, rfl⟩
  have Rbi := Lib.hid (Blk.new w12 47 #[.int .i64 421, .slice (some ⟨bi', 0, none⟩) 1 1])
  have fr1 := (Fr.refl No w12).alloc (.cells #[.int .i64 421, .slice (some ⟨bi', 0, none⟩) 1 1] 47)
  have hnrgbi : bi ≠ g := by have := Gg.out.lt; omega
  have hnrhbi : bi ≠ h := by have := Gh.out.lt; omega
  have CU := Lib.hid (CU.out.fr fr1 (fun h => h))
  have CC := Lib.hid (CC.out.fr fr1 (fun h => h))
  have Rba := Lib.hid (Rba.out.fr fr1 (fun h => h))
  have Rbb := Lib.hid (Rbb.out.fr fr1 (fun h => h))
  have Rbd := Lib.hid (Rbd.out.fr fr1 (fun h => h))
  have Gg := Lib.hid (Gg.out.fr fr1 (fun h => h))
  have Gh := Lib.hid (Gh.out.fr fr1 (fun h => h))
  have FW := Lib.hid (FW.out.then_no fr1)
  rw [hbi] at Rbi ⊢
  clear hbi fr1
  generalize w12.alloc (.cells #[.int .i64 421, .slice (some ⟨bi', 0, none⟩) 1 1] 47) = w13 at * 
  have kRbi := Rbi.out.cell 0
  simp at kRbi
  refine (show Calls _ _ _ _ (fun e w' => e = .returned (.string ⟨#[97, 110, 110]⟩) ∧ w13 = w') from user_any Gg.out (by decide)).mono ?_
  rintro e w' ⟨rfl, rfl⟩
  go_wp2_with fail
  refine (show Calls _ _ _ _ (fun e w' => e = .returned (.int .i64 1) ∧ w13 = w') from state_any Gg.out (by decide)).mono ?_
  rintro e w' ⟨rfl, rfl⟩
  go_wp2_with fail
  refine (show Calls _ _ _ _ (fun e w' => e = .returned (.int .i64 1) ∧ w13 = w') from fails_any Gg.out (by decide)).mono ?_
  rintro e w' ⟨rfl, rfl⟩
  go_wp2_with fail
  refine (show Calls _ _ _ _ (fun e w' => e = .returned (.int .i64 2) ∧ w13 = w') from state_any Gh.out (by decide)).mono ?_
  rintro e w' ⟨rfl, rfl⟩
  go_wp2_with fail
  refine (show Calls _ _ _ _ (fun e w' => e = .returned (.string ⟨#[]⟩) ∧ w13 = w') from user_any Gh.out (by decide)).mono ?_
  rintro e w' ⟨rfl, rfl⟩
  go_wp2_with fail
  go_ret
  exact ⟨rfl, FW.out⟩
end Gate
end Go.Proofs.Ytllnaflknnkgiaa
