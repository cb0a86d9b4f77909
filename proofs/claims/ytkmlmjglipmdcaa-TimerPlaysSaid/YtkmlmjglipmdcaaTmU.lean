/- Package timer: Cancel and Set. -/
import Derived.Test.YtkmlmjglipmdcaaTmT
import Derived.Test.YtkmlmjglipmdcaaCalc
import Derived.Deep.RegionWith
namespace Go.Proofs.Ytkmlmjglipmdcaa
open Go.RowKit
set_option linter.unusedVariables false
set_option linter.unusedSimpArgs false
namespace Tm
open Sls
section
variable {P : Program} {ops : Array Oper} {rest : List Oper} {o : Oper} {a : Act} {Q : Exit → Act → World → Prop} {w : World} {mp : Nat} {M : List (Int × Nat)}
/-- A key is struck. -/
theorem wp_mdel (hg : o.guard = none) (m x : Operand) (hop : o.op = Op.call { callee := Callee.builtin Builtin.delete, args := #[m, x], argTypes := #[57, 3] }) (hm : a.eval m = .map (some mp)) {j : Nat} (h : MAt w mp M) (hn : (M.map (·.1)).Nodup) (hj : j < M.length) (hx : a.eval x = .int .i64 M[j].1)
    (hK : ∀ w', MAt w' mp (M.eraseIdx j) → Fr (fun k => k = mp) w w' → wpList Try.prog ops Q rest (a.put o.dst (.tuple #[])) w') : wpList Try.prog ops Q (o :: rest) a w := by
  refine wpList_plain hg fun K' hK' => ?_
  obtain ⟨w', hrun, r1, r2⟩ := del_run (ty := o.type) h hn hj
  unfold Oper.wp
  simp [execOp, hop, resolve, invoke, builtin, hm, hx, hrun, Result.andThen]
  exact hK' _ _ (hK w' r1 r2)
end
section
variable {w w' : World} {F : Nat → Prop} {b mp : Nat} {most : Int} {P : List E} {M : List (Int × Nat)} {v : Value} {L : List A2}
/-- What an act leaves. -/
def TActs (L : List A2) (most : Int) (F : Nat → Prop) (b : Nat) (w : World) (r : Value) (e : Ending) (w' : World) : Prop := ∃ F', e = .returned r ∧ TAt w' F' b most L ∧ Step F w F' w'
theorem TActs.no (h : TAt w F b most L) (hf : Fr No w w') {r : Value} : TActs L most F b w r (.returned r) w' := ⟨F, rfl, h.no hf, Step.no hf⟩
theorem HRemoved.from {w X w' : World} {c0 c2 : Value} {x : E} {e : Ending} (h : HRemoved X b c0 c2 v P x e w') (hf : Fr No w X) : HRemoved w b c0 c2 v P x e w' := by
  obtain ⟨v', Q, h0, h1, h2, h3, h4, h5⟩ := h
  exact ⟨v', Q, h0, h1, h2, h3, (hf.no _).trans h4 (fun k hk _ => hk), h5⟩
/-- An entry is taken out of the pile, and its key out of the map. -/
theorem TQ.gone {w1 w2 : World} {Q : List E} {v' : Value} {i j : Nat} (h : TQ w F b most P M v mp) (hp : (P.map (·.2)).Perm L) (hs : Srt L) (hi : i < P.length) (hj : j < M.length) (hM : M[j] = (P[i].2.1, P[i].1))
    (h1 : PP w1 b (.int .i64 most) (.map (some mp)) v' Q) (h2 : (Q ++ [at' P i]).Perm P) (h3 : Ok (at' Q) Q.length) (h4 : Fr (fun k => k = b ∨ Foot v P k) w w1) (h5 : ∀ k, Of v' k → Of v k) (h6 : MAt w2 mp (M.eraseIdx j)) (h7 : Fr (fun k => k = mp) w1 w2) :
    TAt w2 F b most (wo L P[i].2.1) ∧ Step F w F w2 := by
  have hQf : ∀ k, Foot v' Q k → Foot v P k := fun k hk => by
    rcases hk with g | ⟨x, hx, e⟩
    · exact .inl (h5 k g)
    · exact .inr ⟨x, h2.mem_iff.1 (List.mem_append_left _ hx), e⟩
  have hfr : Fr F w w2 := (h4.mono (F' := F) (fun k hk _ => hk.elim (fun e => by rw [e]; exact h.fb) (h.ff k))).trans h7 (fun k hk _ => by have hk : k = mp := hk; rw [hk]; exact h.fm)
  rw [at_get hi] at h2
  have h2' : (P[i] :: Q).Perm P := (List.perm_append_singleton _ _).symm.trans h2
  have hlen := h2'.length_eq
  rw [List.length_cons] at hlen
  refine ⟨⟨Q, M.eraseIdx j, v', mp, ⟨h1.fr h7 (fun e => h.mb (by have e : b = mp := e; exact e.symm)) (fun k hk e => h.mf (by have e : k = mp := e; rw [← e]; exact hQf k hk)), h6, ?_, ?_, h3, h.mb, fun g => h.mf (hQf _ g), h.fb, h.fm, fun k hk => h.ff k (hQf k hk), fun k hk => Nat.lt_of_lt_of_le (h.lt k hk) hfr.size, by have := h.len; omega, h.most⟩, ?_, wo_srt hs _⟩, hfr, fun k hk => .inl hk⟩
  · have e1 := (h2'.map (fun x => (x.2.1, x.1))).trans (h.perm.trans (erase_perm hj).symm)
    rw [List.map_cons, hM] at e1
    exact (List.perm_cons _).1 e1
  · have e1 := (List.Perm.nodup_iff (h2'.map (fun x => x.2.1))).2 h.nodup
    exact (List.nodup_cons.1 e1).2
  · have e1 := h2'.map (fun x => x.2)
    exact filter_perm (x := P[i].2) e1 h.ids hp
set_option maxRecDepth 100000 in
set_option maxHeartbeats 2000000 in
theorem cancel_any (h : TAt w F b most L) (id : Int) : Calls Try.prog 13 #[.pointer (some ⟨b, 0, none⟩), .int .i64 id] w (TActs (wo L id) most F b w (.bool (hasId L id))) := by
  have H := Lib.hid h
  obtain ⟨P, M, v, mp, h, hp, hs⟩ := h
  have HM := Lib.hid (made_any h)
  have c2 := h.c2
  cases hh : hasId L id
  · have hl := look_no h.mat (h.lacks hp hh)
    have e : wo L id = L := wo_none (fun g => by have := has_iff.2 g; rw [hh] at this; cases this)
    rw [e]
    clear h hp hh hs e
    go_enter Try.func13, Try.ntmps13
    go_wp2_with fail
    refine HM.out.mono ?_
    rintro e w0 ⟨rfl, hw⟩
    subst hw
    go_wp2_with fail
    go_ret
    exact TActs.no H.out (Fr.refl _ _)
  · obtain ⟨i, j, hi, hj, h1, h2⟩ := h.found hp hh
    have hl := look_yes h.mat h.keys hj
    rw [h2] at hl
    have a2 := (h.pp.ent i hi).cell 2
    simp only [List.getElem?_toArray, List.getElem?_cons_zero, List.getElem?_cons_succ] at a2
    have HG := Lib.hid (fun (w1 w2 : World) (Q : List E) (v' : Value) => TQ.gone (w1 := w1) (w2 := w2) (Q := Q) (v' := v') h hp hs hi hj (by rw [h2, h1]))
    have hPl : P.length ≤ 4096 := by have := h.len; have := h.most; omega
    have HR := Lib.hid (fun (X : World) (hf : Fr No w X) => (remove_any (h.pp.no hf) hi hPl h.ok).mono (fun e w' g => g.from hf))
    have HMT := Lib.hid h.mat
    have HMB := Lib.hid (And.intro h.mb h.mf)
    have HKY := Lib.hid (And.intro h.keys hj)
    rw [h1] at HG
    obtain ⟨eb, heb⟩ : ∃ x, x = P[i].1 := ⟨_, rfl⟩
    rw [← heb] at a2 hl
    simp only [encB] at hl
    have hae : at' P i = P[i] := at_get hi
    obtain ⟨x, hx⟩ : ∃ x, x = at' P i := ⟨_, rfl⟩
    rw [← hx] at HR
    simp only [← hx] at HG
    have HJ := Lib.hid (show M[j].1 = id by rw [h2])
    have HMP := Lib.hid (show i < 2 ^ 62 by omega)
    clear h hp hs hh h1 h2 heb hx hae hPl
    go_enter Try.func13, Try.ntmps13
    go_wp2_with fail
    refine HM.out.mono ?_
    rintro e w0 ⟨rfl, hw⟩
    subst hw
    go_upto_region 6 with (fail)
    go_region_with (go_at_call 24; refine (HR.out _ (by repeat' (first | with_reducible assumption | with_reducible exact Fr.refl _ _ | with_reducible refine Fr.drew ?_ | with_reducible refine Fr.drewN ?_ _))).mono ?_; rintro e w1 ⟨v', Q, rfl, q1, q2, q3, q4, q5⟩; have Q1 := Lib.hid q1; have Q2 := Lib.hid q2; have Q3 := Lib.hid q3; have Q4 := Lib.hid q4; have Q5 := Lib.hid q5; have d2 := q1.blk.cell 2; simp only [List.getElem?_toArray, List.getElem?_cons_zero, List.getElem?_cons_succ] at d2; clear q1 q2 q3 q4 q5)
    have hmt := HMT.out.fr Q4.out (fun g => g.elim HMB.out.1 HMB.out.2)
    have HMT1 := Lib.hid hmt
    clear hmt
    obtain ⟨w2, hrun, r1, r2⟩ := del_run (ty := 0) HMT1.out HKY.out.1 HKY.out.2
    rw [HJ.out] at hrun
    have R1 := Lib.hid r1
    have R2 := Lib.hid r2
    clear r1 r2
    go_wp2_with fail
    go_ret
    have g := HG.out w1 w2 Q v' Q1.out Q2.out Q3.out Q4.out Q5.out R1.out R2.out
    exact ⟨F, rfl, g.1, g.2⟩
theorem cancel_nil (w : World) (id : Int) : Calls Try.prog 13 #[.pointer none, .int .i64 id] w fun e w' => e = .returned (.bool false) ∧ w = w' := by
  have HM := Lib.hid (made_nil w)
  go_enter Try.func13, Try.ntmps13
  go_wp2_with fail
  refine HM.out.mono ?_
  rintro e w0 ⟨rfl, hw⟩
  subst hw
  go_wp2_with fail
  go_ret
  exact ⟨rfl, rfl⟩
/-- An entry has another time. -/
theorem PP.timed {c0 c2 : Value} {i : Nat} (h : PP w b c0 c2 v P) (hi : i < P.length) (t : Int) : PP (w.setCell ⟨P[i].1, 1, none⟩ (.int .i64 t)) b c0 c2 v (P.set i (P[i].1, P[i].2.1, t)) := by
  have hfr : Fr (fun k => k = P[i].1) w (w.setCell ⟨P[i].1, 1, none⟩ (.int .i64 t)) := (Fr.refl (fun k => k = P[i].1) w).setCell (p := ⟨P[i].1, 1, none⟩) (.inl rfl) _
  have ho := h.off _ (List.getElem_mem hi)
  have hmap : (P.set i (P[i].1, P[i].2.1, t)).map (·.1) = P.map (·.1) := by
    rw [List.map_set]
    apply List.ext_getElem
    · simp
    · intro n h1 h2
      rw [List.getElem_set]
      split
      · rename_i e; subst e; simp
      · rfl
  have hmem : ∀ x ∈ P.set i (P[i].1, P[i].2.1, t), ∃ y ∈ P, y.1 = x.1 := fun x hx => by
    rcases List.mem_or_eq_of_mem_set hx with g | g
    · exact ⟨x, g, rfl⟩
    · exact ⟨P[i], List.getElem_mem hi, by rw [g]⟩
  refine ⟨h.blk.fr hfr (fun e => ho.1 (by have e : b = P[i].1 := e; exact e.symm)), ?_, fun m hm => ?_, by rw [hmap]; exact h.nodup, fun x hx => ?_, h.vb⟩
  · have h1 := own_fr h.row hfr (fun k hk e => ho.2 (by have e : k = P[i].1 := e; rw [← e]; exact hk))
    have e2 : (P.set i (P[i].1, P[i].2.1, t)).map encP = P.map encP := by
      have : encP = fun x => Value.pointer (Option.some ⟨x.1, 0, Option.none⟩) := rfl
      rw [List.map_set]
      apply List.ext_getElem
      · simp
      · intro n h1 h2
        rw [List.getElem_set]
        split
        · rename_i e; subst e; simp [encP]
        · rfl
    rw [List.length_set, e2]
    exact h1
  · have hm' : m < P.length := by rw [List.length_set] at hm; exact hm
    rw [List.getElem_set]
    split
    · rename_i e
      subst e
      have := Blk.put (h.ent i hi) 1 (.int .i64 t)
      simpa using this
    · rename_i e
      exact (h.ent m hm').fr hfr (fun e2 => h.block_ne hm' hi (fun e3 => e e3.symm) e2)
  · obtain ⟨y, hy, e⟩ := hmem x hx
    rw [← e]
    exact h.off y hy
theorem set_at {P : List E} {i m : Nat} {x : E} (hi : i < P.length) : at' (P.set i x) m = if m = i then x else at' P m := by
  unfold at' List.getD
  rw [List.getElem?_set]
  by_cases e : i = m
  · rw [if_pos e, if_pos e.symm, if_pos hi]; rfl
  · rw [if_neg e, if_neg (fun g => e g.symm)]
theorem set_perm {P : List E} {i : Nat} {x : E} (hi : i < P.length) : (P.set i x).Perm (x :: P.eraseIdx i) := by
  have h1 : i < (P.set i x).length := by rw [List.length_set]; exact hi
  have := erase_perm h1
  rw [List.getElem_set_self, List.eraseIdx_set_eq] at this
  exact this.symm
/-- Somebody is moved. -/
theorem TQ.moved {w1 w2 : World} {Q : List E} {i : Nat} {t : Int} (h : TQ w F b most P M v mp) (hp : (P.map (·.2)).Perm L) (hs : Srt L) (hi : i < P.length) (e1 : w1 = w.setCell ⟨P[i].1, 1, none⟩ (.int .i64 t))
    (hq : Perm1 w1 w2 b (.int .i64 most) (.map (some mp)) v (P.set i (P[i].1, P[i].2.1, t)) Q P.length) (ho : Ok (at' Q) P.length) : TAt w2 F b most (ins (P[i].2.1, t) (wo L P[i].2.1)) ∧ Step F w F w2 := by
  have hql : Q.length = P.length := by rw [hq.perm.length_eq, List.length_set]
  have hft : ∀ k, Foot v Q k → Foot v P k := fun k hk => by
    have := (foot_sw hq.perm).1 hk
    rcases this with g | ⟨x, hx, e⟩
    · exact .inl g
    · rcases List.mem_or_eq_of_mem_set hx with g | g
      · exact .inr ⟨x, g, e⟩
      · exact .inr ⟨P[i], List.getElem_mem hi, by rw [← e, g]⟩
  have hft2 : ∀ k, Foot v (P.set i (P[i].1, P[i].2.1, t)) k → Foot v P k := fun k hk => hft k ((foot_sw hq.perm).2 hk)
  have f1 : Fr F w w1 := by
    rw [e1]
    exact (Fr.refl F w).setCell (p := ⟨P[i].1, 1, none⟩) (.inl (h.ff _ (.inr ⟨_, List.getElem_mem hi, rfl⟩))) _
  have hfr : Fr F w w2 := f1.trans hq.fr (fun k hk _ => h.ff k (hft2 k hk))
  have hmat : MAt w2 mp M := by
    have g1 : MAt w1 mp M := by
      rw [e1]
      exact h.mat.fr ((Fr.refl (fun k => k = P[i].1) w).setCell (p := ⟨P[i].1, 1, none⟩) (.inl rfl) _) (fun e => h.mf (.inr ⟨P[i], List.getElem_mem hi, (by have e : mp = P[i].1 := e; exact e.symm)⟩))
    exact g1.fr hq.fr (fun g => h.mf (hft2 _ g))
  have hset := set_perm (x := (P[i].1, P[i].2.1, t)) hi
  have hpe := (erase_perm hi)
  have hQ := hq.perm.trans hset
  refine ⟨⟨Q, M, v, mp, ⟨hq.pp, hmat, ?_, ?_, by rw [hql]; exact ho, h.mb, fun g => h.mf (hft _ g), h.fb, h.fm, fun k hk => h.ff k (hft k hk), fun k hk => Nat.lt_of_lt_of_le (h.lt k hk) hfr.size, by rw [hql]; exact h.len, h.most⟩, ?_, ?_⟩, hfr, fun k hk => .inl hk⟩
  · have a1 := hQ.map (fun x => (x.2.1, x.1))
    rw [List.map_cons] at a1
    have a2 := hpe.map (fun x => (x.2.1, x.1))
    rw [List.map_cons] at a2
    exact (a1.trans a2).trans h.perm
  · have a1 := hQ.map (fun x => x.2.1)
    rw [List.map_cons] at a1
    have a2 := hpe.map (fun x => x.2.1)
    rw [List.map_cons] at a2
    exact (List.Perm.nodup_iff (a1.trans a2)).2 h.nodup
  · have a1 := hQ.map (fun x => x.2)
    rw [List.map_cons] at a1
    have a2 := hpe.map (fun x => x.2)
    rw [List.map_cons] at a2
    have a3 := filter_perm (x := P[i].2) a2 h.ids hp
    exact (a1.trans (a3.cons _)).trans (ins_perm _ _).symm
  · exact ins_srt (wo_srt hs _) (wo_not _ _)
/-- Somebody new. -/
theorem TQ.come {w1 w2 w3 : World} {Q : List E} {v' : Value} {x : E} (h : TQ w F b most P M v mp) (hp : (P.map (·.2)).Perm L) (hs : Srt L) (hh : hasId L x.2.1 = false) (hm : (P.length : Int) < most) (he : x.1 = w.heap.size) (f1 : Fr No w w1) (hx1 : x.1 < w1.heap.size) (f2 : Fr (fun k => k = mp) w1 w2) (m2 : MAt w2 mp (M ++ [(x.2.1, x.1)]))
    (h1 : PP w3 b (.int .i64 most) (.map (some mp)) v' Q) (h2 : Q.Perm (P ++ [x])) (h3 : Ok (at' Q) Q.length) (h4 : Fr (fun k => k = b ∨ Foot v P k ∨ k = x.1) w2 w3) (h5 : ∀ k, Of v' k → Of v k ∨ New w2 w3 k) :
    TAt w3 (fun k => F k ∨ New w w3 k) b most (ins x.2 (wo L x.2.1)) ∧ Step F w (fun k => F k ∨ New w w3 k) w3 := by
  have z1 := f1.size
  have z2 := f2.size
  have z4 := h4.size
  have hmpl := h.lt _ h.fm
  have hfr : Fr F w w3 := ((f1.no F).trans f2 (fun k hk _ => by have hk : k = mp := hk; rw [hk]; exact h.fm)).trans h4 (fun k hk hl => by
    rcases hk with e | e | e
    · rw [e]; exact h.fb
    · exact h.ff k e
    · omega)
  have hlen : Q.length = P.length + 1 := by rw [h2.length_eq, List.length_append]; rfl
  have hwo : wo L x.2.1 = L := wo_none (fun g => by have := has_iff.2 g; rw [hh] at this; cases this)
  have hff : ∀ k, Foot v' Q k → F k ∨ New w w3 k := fun k hk => by
    rcases hk with g | ⟨y, hy, e⟩
    · rcases h5 k g with g1 | g1
      · exact .inl (h.ff k (.inl g1))
      · exact .inr ⟨by have := g1.1; omega, g1.2⟩
    · rcases List.mem_append.1 (h2.mem_iff.1 hy) with g1 | g1
      · exact .inl (h.ff k (.inr ⟨y, g1, e⟩))
      · rw [List.mem_singleton.1 g1] at e
        exact .inr ⟨by omega, by omega⟩
  have hmf : ¬ Foot v' Q mp := fun hk => by
    rcases hk with g | ⟨y, hy, e⟩
    · rcases h5 _ g with g1 | g1
      · exact h.mf (.inl g1)
      · have := g1.1; omega
    · rcases List.mem_append.1 (h2.mem_iff.1 hy) with g1 | g1
      · exact h.mf (.inr ⟨y, g1, e⟩)
      · rw [List.mem_singleton.1 g1] at e
        omega
  refine ⟨⟨Q, M ++ [(x.2.1, x.1)], v', mp, ⟨h1, m2.fr h4 (fun g => ?_), ?_, ?_, h3, h.mb, hmf, .inl h.fb, .inl h.fm, hff, fun k hk => hk.elim (fun g => Nat.lt_of_lt_of_le (h.lt k g) hfr.size) (fun g => g.2), by rw [hlen]; push_cast; omega, h.most⟩, ?_, ?_⟩, hfr, fun k hk => hk⟩
  · rcases g with e | e | e
    · exact h.mb e
    · exact h.mf e
    · omega
  · have a1 := h2.map (fun x => (x.2.1, x.1))
    rw [List.map_append] at a1
    exact a1.trans (h.perm.append_right _)
  · have a1 := h2.map (fun x => x.2.1)
    rw [List.map_append] at a1
    refine (List.Perm.nodup_iff a1).2 ?_
    rw [List.nodup_append]
    refine ⟨h.nodup, by simp, fun a ha c hc e => ?_⟩
    simp at hc
    obtain ⟨y, hy, rfl⟩ := List.mem_map.1 ha
    have : hasId L x.2.1 = true := has_iff.2 (List.mem_map.2 ⟨y.2, hp.mem_iff.1 (List.mem_map.2 ⟨y, hy, rfl⟩), by rw [e, hc]⟩)
    rw [hh] at this
    cases this
  · have a1 := h2.map (fun x => x.2)
    rw [List.map_append] at a1
    rw [hwo]
    exact (a1.trans (List.perm_append_singleton _ _)).trans ((hp.cons _).trans (ins_perm _ _).symm)
  · exact ins_srt (wo_srt hs _) (wo_not _ _)
end
end Tm
end Go.Proofs.Ytkmlmjglipmdcaa
