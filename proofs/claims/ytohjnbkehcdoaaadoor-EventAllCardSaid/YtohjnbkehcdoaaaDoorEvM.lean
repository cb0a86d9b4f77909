/- Package event: Text. -/
import Derived.Test.YtohjnbkehcdoaaaDoorEvJ
import Derived.Test.YtohjnbkehcdoaaaDoorBrow
import Derived.Deep.CutRange
namespace Go.Proofs.YtohjnbkehcdoaaaDoor
open Go.RowKit
set_option linter.unusedVariables false
set_option linter.unusedSimpArgs false
namespace Ev
open Digit Sls
theorem infoBy : (Tryd.prog.info? 5).map (fun i => (i.zero, i.size, i.bytes)) = some (some (.int .u8 0), 1, 1) := by kernel_rfl
def textG (acc : Str) : List E → Str × Int
  | [] => (acc, 0)
  | e :: t => if (putE e).2 = 0 then textG (acc ++ (putE e).1 ++ [10]) t else ([], (putE e).2)
def textE (l : List E) : Str × Int := textG [] l
theorem put_len (e : E) : (putE e).1.length ≤ 4 * e.s.length + 60 := by
  unfold putE
  cases hr : byK e.k with
  | none => exact Nat.zero_le _
  | some r =>
    simp only
    by_cases h0 : checkE e = 0
    · rw [if_pos h0]
      obtain ⟨r', hr', i1, i2, -⟩ := check_row h0
      have hwl : r.word.length ≤ 6 := by
        have : ∀ r ∈ rowsP, r.word.length ≤ 6 := by decide
        exact this r (byK_mem hr).1
      have l1 := putR_len i1
      have l2 := putR_len i2
      have l3 := show_len e.s
      have l4 : (yn e.ok).length ≤ 3 := by cases e.ok <;> decide
      unfold lineR
      cases r.w <;> cases r.y <;> cases r.n <;> cases r.s <;> simp <;> omega
    · rw [if_neg h0]; exact Nat.zero_le _
def TextIs (q : Str × Int) (w : World) (x : Ending) (w' : World) : Prop := x = .returned (.tuple #[.string ⟨q.1.toArray⟩, .int .i64 q.2]) ∧ Fr No w w'
set_option maxRecDepth 100000 in
set_option maxHeartbeats 8000000 in
theorem text_any (v : Value) (l : List E) (w : World) (S : Nat → Prop) (hv : RSl 5 REv w S [v] l) (hS : ∀ b, S b → b < w.heap.size) (hn : l.length ≤ 30) (hsl : ∀ e ∈ l, e.s.length ≤ 10000) :
    Calls Tryd.prog 18 #[v] w (TextIs (textE l) w) := by
  obtain ⟨A, cap, rfl, hc1, hc2, hel⟩ := ev_cells hv
  unfold maxLen at hc2
  have Hel := Lib.hid hel
  have HS := Lib.hid hS
  have HSL := Lib.hid hsl
  clear hv hel hS hsl
  go_enter Tryd.func18, Tryd.ntmps18
  go_wp2_with fail
  go_loopw [4, 11] (fun u i wr => ∃ (k : Nat) (acc : Str) (j : Nat), i = .int .i64 k ∧ k ≤ l.length ∧ acc.length ≤ k * 50000 ∧ Hid (j = acc.length) ∧ Hid (textE l = textG acc (l.drop k)) ∧ Hid (BRow w wr 5 u acc)) (fun _ i _ => l.length - (intOf i).toNat)
  case atStart => exact ⟨0, [], 0, rfl, by omega, by simp, rfl, rfl, BRow.start _ _⟩
  case round =>
    obtain ⟨k, acc, j, rfl, hk, hacc, HJ, HQ, G⟩ := hrel
    obtain ⟨B, d, hu⟩ := G.out.form
    rw [← HJ.out] at hu
    subst hu
    by_cases hlt : k < l.length
    · have hd : l.drop k = l[k] :: l.drop (k + 1) := List.drop_eq_getElem_cons hlt
      have hq := HQ.out
      rw [hd, textG] at hq
      have HQ2 := Lib.hid hq
      have hel := Hel.out k hlt
      have hs1 := HSL.out l[k] (List.getElem_mem _)
      have hpl := put_len l[k]
      clear hd hq HQ
      obtain ⟨e, he⟩ : ∃ e, e = l[k] := ⟨_, rfl⟩
      rw [← he] at hel HQ2 hs1 hpl
      clear he
      obtain ⟨ad, rfl, hin, c0, c1, c2, c3, c4, -⟩ := hel
      have hlt0 := HS.out _ hin
      have F0 := G.out.fr
      have k0 : wr.cell? (ad.add (k * 5)) = _ := (F0.cell (p := ad.add (k * 5)) (by rw [block_add]; exact hlt0) (fun h => h)).trans c0
      have k1 : wr.cell? ⟨(ad.add (k * 5)).block, (ad.add (k * 5)).off + 1, none⟩ = _ := (F0.cell (p := ⟨(ad.add (k * 5)).block, (ad.add (k * 5)).off + 1, none⟩) (by show (ad.add (k * 5)).block < _; rw [block_add]; exact hlt0) (fun h => h)).trans c1
      have k2 : wr.cell? ⟨(ad.add (k * 5)).block, (ad.add (k * 5)).off + 2, none⟩ = _ := (F0.cell (p := ⟨(ad.add (k * 5)).block, (ad.add (k * 5)).off + 2, none⟩) (by show (ad.add (k * 5)).block < _; rw [block_add]; exact hlt0) (fun h => h)).trans c2
      have k3 : wr.cell? ⟨(ad.add (k * 5)).block, (ad.add (k * 5)).off + 3, none⟩ = _ := (F0.cell (p := ⟨(ad.add (k * 5)).block, (ad.add (k * 5)).off + 3, none⟩) (by show (ad.add (k * 5)).block < _; rw [block_add]; exact hlt0) (fun h => h)).trans c3
      have k4 : wr.cell? ⟨(ad.add (k * 5)).block, (ad.add (k * 5)).off + 4, none⟩ = _ := (F0.cell (p := ⟨(ad.add (k * 5)).block, (ad.add (k * 5)).off + 4, none⟩) (by show (ad.add (k * 5)).block < _; rw [block_add]; exact hlt0) (fun h => h)).trans c4
      clear c0 c1 c2 c3 c4 hlt0 F0 hin
      have HPT := Lib.hid (fun W => put_any e W hs1)
      obtain ⟨⟨t, c⟩, hpe⟩ : ∃ p, p = putE e := ⟨_, rfl⟩
      rw [← hpe] at HPT hpl HQ2
      simp only at hpl
      have HQ3 := Lib.hid (show textE l = if c = 0 then textG (acc ++ t ++ [10]) (l.drop (k + 1)) else ([], c) from HQ2.out)
      clear HQ2 hpe
      have B1 := Lib.hid (G.out.no ((Fr.refl No wr).alloc (.cells (cE e) 23)))
      have X1 := Lib.hid (Blk.new wr 23 (cE e))
      obtain ⟨b6, hb6⟩ : ∃ b, wr.heap.size = b := ⟨_, rfl⟩
      rw [hb6] at X1
      obtain ⟨ek, ew, en, eo, es⟩ := e
      simp only at k0 k1 k2 k3 k4
      go_upto_region 5 with (fail)
      try rw [hb6]
      clear hb6 k0 k1 k2 k3 k4
      rw [show (#[Value.int .i64 ek, .int .i64 ew, .int .i64 en, .bool eo, .string ⟨es.toArray⟩] : Array Value) = cE ⟨ek, ew, en, eo, es⟩ from rfl]
      generalize wr.alloc (.cells (cE ⟨ek, ew, en, eo, es⟩) 23) = w9 at B1 X1 ⊢
      have n0 := X1.out.cell 0
      have n1 := X1.out.cell 1
      have n2 := X1.out.cell 2
      have n3 := X1.out.cell 3
      have n4 := X1.out.cell 4
      simp only [cE, List.getElem?_toArray, List.getElem?_cons_zero, List.getElem?_cons_succ] at n0 n1 n2 n3 n4
      go_wp2_with fail
      refine (HPT.out _).mono ?_
      unfold PutIs
      rintro x w1 ⟨rfl, hf⟩
      have B2 := Lib.hid (B1.out.no hf)
      clear hf B1 X1 n0 n1 n2 n3 n4 HPT
      simp only
      by_cases hc : c = 0
      · subst hc
        have HQ4 := Lib.hid (show textE l = textG (acc ++ t ++ [10]) (l.drop (k + 1)) from by rw [HQ3.out, if_pos rfl])
        clear HQ3
        go_wp2_with (at_builtin; first
          | (refine wp_bstr (w := w) rfl (.tmp 23) (.tmp 24) 75 9 rfl 5 Tryd.underlying75 Tryd.underlying9 infoBy (.slice B j d) acc rfl B2.out t rfl (by omega) ?_; intro v2 w2 p1; have P1 := Lib.hid p1; clear p1)
          | (refine wp_bpush (w := w) rfl (.tmp 26) (.tmp 27) 75 rfl 5 Tryd.underlying75 infoBy _ (acc ++ t) rfl P1.out 10 10 rfl rfl (by simp only [List.length_append]; omega) ?_; intro v3 w3 p2; have P2 := Lib.hid p2; clear p2))
        go_roundw
        case rel => exact ⟨k + 1, (acc ++ t ++ [10] : Str), List.length (acc ++ t ++ [10] : Str), by go_num, by omega, (by simp only [List.length_append, List.length_singleton]; omega), Lib.hid (show List.length (acc ++ t ++ [10] : Str) = List.length (acc ++ t ++ [10] : Str) from rfl), HQ4.out, P2.out⟩
        case measure => simp [intOf] <;> omega
      · have hcb : (c != 0) = true := by rw [bne_iff_ne]; exact hc
        have hcb2 : (c == 0) = false := by rw [beq_eq_false_iff_ne]; exact hc
        have HQ4 := Lib.hid (show textE l = ([], c) from by rw [HQ3.out, if_neg hc])
        clear HQ3
        go_wp2_with fail
        refine bodyPost_ret (v := .tuple #[.string ⟨#[]⟩, .int .i64 c]) ?_ rfl ⟨by rw [HQ4.out], B2.out.fr⟩
        simp [results, Tryd.f18, go_sem]
    · have HQ2 := Lib.hid (show textE l = (acc, 0) from by rw [HQ.out, List.drop_of_length_le (by omega), textG])
      have hconv := G.out.conv Tryd.underlying75 Tryd.underlying5 Tryd.underlying9
      clear HQ
      go_wp2_with fail
      refine bodyPost_ret (v := .tuple #[.string ⟨acc.toArray⟩, .int .i64 0]) ?_ rfl ⟨by rw [HQ2.out], G.out.fr⟩
      simp [results, Tryd.f18, go_sem]
end Ev
end Go.Proofs.YtohjnbkehcdoaaaDoor
