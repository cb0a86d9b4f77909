/- From a walk to a given statement: how arguments that can be read as data are opened, and how a law's end is shut. Plain lemmas over any program. -/
import Derived.Test.YtohjnbkehcdoaaaDoorMem
import Derived.JoinedCond
namespace Go.Proofs.YtohjnbkehcdoaaaDoor
open Go.ChangeShapes Go.WideShapes Go.ChangeAt Go.RowKit
set_option linter.unusedVariables false

/-- Whatever can be read as data at type t reads as R says. -/
def Opn (P : Program) (t : TypeId) {α : Type} (R : Rd α) : Prop :=
  ∀ {H : Type} {enc : TypeId × Value → H} {W : World} {S : Nat → Prop} {fuel : Nat} {cs : List Value} {d : DataW H} {ps : List MemPlace},
    DataW.trod enc P W 0 (fun _ => true) true fuel t cs = some (d, ps) → (∀ p ∈ ps, S p.block) → ∃ a, R W S cs a
def OpnF (P : Program) (off tot : Nat) (fs : List Field) {α : Type} (R : Rd α) : Prop :=
  ∀ {H : Type} {enc : TypeId × Value → H} {W : World} {S : Nat → Prop} {n : Nat} {cs : List Value} (xs : List (DataW H × List MemPlace)),
    (∀ (i : Nat) (f : Field), fs[i]? = some f → DataW.trod enc P W 0 (fun _ => true) true n f.type ((cs.drop f.offset).take (P.cellsOf f.type)) = xs[i]?) → cs.length = tot → xs.length = fs.length →
    (∀ x ∈ xs, ∀ p ∈ x.2, S p.block) → ∃ a, R W S (cs.drop off) a
section
variable {P : Program} {t e : TypeId}
theorem opn_int {k : IntKind} (ht : P.underlying t = some (.int k)) : Opn P t (RInt k) := by
  intro H enc W S fuel cs d ps h _
  obtain ⟨n, h1, hx, h2⟩ := DataW.trod_int ht h
  exact ⟨n, h1, h2⟩
theorem opn_bool (ht : P.underlying t = some .bool) : Opn P t RBool := by
  intro H enc W S fuel cs d ps h _
  obtain ⟨n, h1, hx⟩ := DataW.trod_bool ht h
  exact ⟨n, h1⟩
theorem opn_str (ht : P.underlying t = some .string) : Opn P t RStr := by
  intro H enc W S fuel cs d ps h _
  obtain ⟨⟨⟨l⟩⟩, h1, hx, h2⟩ := DataW.trod_string ht h
  exact ⟨l, h1, by simpa [ByteArray.size] using h2⟩
end
section
variable {P : Program} {t e : TypeId} {α β : Type}
theorem list_of_pos {γ : Type} {p : Nat → γ → Prop} : ∀ (n : Nat), (∀ i, i < n → ∃ a, p i a) → ∃ l : List γ, l.length = n ∧ ∀ i (h : i < l.length), p i l[i]
  | 0, _ => ⟨[], rfl, fun i h => by simp at h⟩
  | n + 1, h => by
    obtain ⟨l, hl, hp⟩ := list_of_pos n fun i hi => h i (by omega)
    obtain ⟨a, ha⟩ := h n (by omega)
    refine ⟨l ++ [a], by simp [hl], fun i hi => ?_⟩
    by_cases hlt : i < l.length
    · rw [List.getElem_append_left hlt]; exact hp i hlt
    · have : i = n := by simp at hi; omega
      subst this
      rw [List.getElem_append_right (by omega)]
      simpa [hl] using ha
theorem mem_row {a : Addr} {n : Nat} (h : 0 < n) : MemPlace.cell a.block a.off ∈ MemPlace.row a n := by
  unfold MemPlace.row; exact List.mem_map.2 ⟨0, by simpa using h, rfl⟩
theorem opn_sl {R : Rd α} {n : Nat} (hn : 0 < n) (ht : P.underlying t = some (.slice e)) (hc : P.cellsOf e = n) (hR : Opn P e R) : Opn P t (RSl n R) := by
  intro H enc W S fuel cs d ps h hS
  rcases DataW.trod_slice ht h with ⟨rfl, _⟩ | ⟨a, len, cap, elems, rest, m, _, rfl, hx, hb, hl, hm, hlen, hel, _, _⟩
  · exact ⟨[], none, 0, rfl, Nat.le_refl _, Nat.zero_le _, fun _ => rfl, fun i hi => by simp at hi⟩
  · simp only [Prod.mk.injEq] at hx
    have hblk : 0 < len → S a.block := fun h0 => hS (.cell a.block a.off) (by
      rw [hx.2, List.mem_append]; left
      apply mem_row; rw [hlen, hc]; exact Nat.mul_pos (by omega) hn)
    have each : ∀ i, i < len → ∃ x : α, ∃ ecs : List Value, ecs.length = n ∧ (∀ j, j < n → W.cell? (a.add (i * n + j)) = ecs[j]?) ∧ R W S ecs x := by
      intro i hi
      have h1 := hel i hi
      rw [List.getElem?_eq_getElem (by omega)] at h1
      obtain ⟨ecs, h2, h3⟩ := Option.bind_eq_some_iff.1 h1
      obtain ⟨_, h4, h5⟩ := World.cells?_some h2
      rw [hc] at h4 h5
      obtain ⟨x, hx'⟩ := hR (d := (elems[i]'(by omega)).1) (ps := (elems[i]'(by omega)).2) (S := S) h3 (fun p hp => hS p (by
        rw [hx.2, List.mem_append]; right
        exact List.mem_flatMap.2 ⟨elems[i]'(by omega), List.mem_append_left _ (List.getElem_mem _), hp⟩))
      refine ⟨x, ecs, h4, fun j hj => ?_, hx'⟩
      rw [← add_add]
      exact h5 j hj
    obtain ⟨l, hll, hp⟩ := list_of_pos len each
    subst hll
    refine ⟨l, some a, cap, rfl, hl, hm, fun h => (by cases h), fun i hi => ?_⟩
    obtain ⟨ecs, g1, g2, g3⟩ := hp i hi
    exact ⟨a, ecs, rfl, hblk (by omega), g1, g2, g3⟩
theorem opnF_last {off tot n : Nat} {f : Field} {R : Rd α} (ho : f.offset = off) (hc : P.cellsOf f.type = n) (hn : tot = off + n) (hR : Opn P f.type R) : OpnF P off tot [f] R := by
  intro H enc W S m cs xs hx hl hlx hS
  have h1 := hx 0 f rfl
  simp at hlx
  rw [List.getElem?_eq_getElem (by omega), ho, hc, List.take_of_length_le (by simp; omega)] at h1
  exact hR (d := xs[0].1) (ps := xs[0].2) h1 (hS _ (List.getElem_mem _))
theorem opnF_cons {off tot n : Nat} {f : Field} {fs : List Field} {R : Rd α} {R' : Rd β} (ho : f.offset = off) (hc : P.cellsOf f.type = n) (hle : off + n ≤ tot) (hR : Opn P f.type R) (hF : OpnF P (off + n) tot fs R') : OpnF P off tot (f :: fs) (RTwo n R R') := by
  intro H enc W S m cs xs hx hl hlx hS
  have h1 := hx 0 f rfl
  simp at hlx
  rw [List.getElem?_eq_getElem (by omega), ho, hc] at h1
  obtain ⟨a, ha⟩ := hR (d := xs[0].1) (ps := xs[0].2) h1 (hS _ (List.getElem_mem _))
  obtain ⟨b, hb⟩ := hF (xs := xs.drop 1) (n := m) (cs := cs) (fun i g hg => by rw [hx (i + 1) g (by simpa using hg)]; simp) hl (by simp; omega) (fun x hxm => hS x (List.mem_of_mem_drop hxm))
  refine ⟨(a, b), by simp; omega, ha, ?_⟩
  rw [List.drop_drop]
  exact hb
theorem opn_struct {fs : Array Field} {tot : Nat} {R : Rd α} (ht : P.underlying t = some (.struct fs)) (hc : P.cellsOf t = tot) (hF : OpnF P 0 tot fs.toList R) : Opn P t R := by
  intro H enc W S fuel cs d ps h hS
  obtain ⟨xs, n, _, hx, hl, hlen, hf⟩ := DataW.trod_struct ht h
  simp only [Prod.mk.injEq] at hx
  obtain ⟨a, ha⟩ := hF (cs := cs) xs (fun i f hi => hf i f (by simpa using hi)) (by omega) (by simpa using hlen) (fun x hxm p hp => hS p (by rw [hx.2]; exact List.mem_flatMap.2 ⟨x, hxm, hp⟩))
  exact ⟨a, by simpa using ha⟩
/-- An argument of one cell. -/
def OneV (P : Program) (t : TypeId) : Prop := ∀ {W : World} {r : Reach} {b : Nat} {v : Value}, Value.okWide P W r b t v → v.cells.toList = [v]
theorem one_int {k : IntKind} (ht : P.underlying t = some (.int k)) : OneV P t := fun h => by obtain ⟨n, rfl⟩ := okWide_int ht h; rfl
theorem one_bool (ht : P.underlying t = some .bool) : OneV P t := fun h => by obtain ⟨n, rfl⟩ := okWide_bool ht h; rfl
theorem one_str (ht : P.underlying t = some .string) : OneV P t := fun h => by obtain ⟨n, rfl⟩ := okWide_string ht h; rfl
theorem one_sl (ht : P.underlying t = some (.slice e)) : OneV P t := fun h => by obtain ⟨a, l, c, rfl⟩ := okWide_slice ht h; rfl
theorem arg_one {W : World} {r : Reach} {b : Nat} {H : Type} {enc : TypeId × Value → H} {v : Value} {d : DataW H} {p : List MemPlace} {R : Rd α} (h1 : OneV P t) (hR : Opn P t R)
    (hok : Value.okWide P W r b t v) (h : DataW.Trod enc P W 0 (fun _ => true) true t v d p) (hp : ∀ x ∈ p, x.block < W.heap.size) : ∃ a, R W (Ahead W.heap.size) [v] a := by
  obtain ⟨fuel, hf⟩ := h
  rw [h1 hok] at hf
  exact hR (S := Ahead W.heap.size) hf hp
theorem arg_agg {fs : Array Field} {W : World} {r : Reach} {b : Nat} {H : Type} {enc : TypeId × Value → H} {v : Value} {d : DataW H} {p : List MemPlace} {R : Rd α} (ht : P.underlying t = some (.struct fs)) (hR : Opn P t R)
    (hok : Value.okWide P W r b t v) (h : DataW.Trod enc P W 0 (fun _ => true) true t v d p) (hp : ∀ x ∈ p, x.block < W.heap.size) : ∃ cs a, v = .agg cs ∧ R W (Ahead W.heap.size) cs.toList a := by
  obtain ⟨fuel, hf⟩ := h
  obtain ⟨cs, rfl, _⟩ := okWide_struct ht hok
  obtain ⟨a, ha⟩ := hR (S := Ahead W.heap.size) hf hp
  exact ⟨cs, a, rfl, ha⟩
end

section
variable {P : Program} {H : Type} {enc : TypeId × Value → H}
theorem trodAll_stays (hl : laidOutB P = true) {W W' : World} {sp' : Nat → Bool} : ∀ (ts : List TypeId) (vs : List Value) (ds : List (DataW H)) (p : List MemPlace),
    (ts.all fun t => P.readableRec t && decide (t < P.types.size)) = true → DataW.TrodAll enc P W 0 (fun _ => true) true ts vs ds p → (∀ x ∈ p, W.sameAt W' x) → (∀ x ∈ p, sp' x.block = true) →
    DataW.TrodAll enc P W' 0 sp' true ts vs ds p
  | [], [], [], p, _, h, _, _ => h
  | t :: ts, v :: vs, d :: ds, p, ha, h, hs, hp => by
    obtain ⟨p1, q1, h1, h2, rfl⟩ := h
    simp only [List.all_cons, Bool.and_eq_true, decide_eq_true_eq] at ha
    exact ⟨p1, q1, WideElems.Trod_stays hl ha.1.1 ha.1.2 h1 (fun x hx => hs x (List.mem_append_left _ hx)) (fun x hx => hp x (List.mem_append_left _ hx)),
      trodAll_stays hl ts vs ds q1 ha.2 h2 (fun x hx => hs x (List.mem_append_right _ hx)) (fun x hx => hp x (List.mem_append_right _ hx)), rfl⟩
  | [], [], _ :: _, _, _, h, _, _ => h.elim
  | [], _ :: _, _, _, _, h, _, _ => h.elim
  | _ :: _, [], _, _, _, h, _, _ => h.elim
  | _ :: _, _ :: _, [], _, _, h, _, _ => h.elim
/-- A law's end: it returned true, and of old memory nothing has turned. -/
theorem law_post {f : Func} {s : ChangeSpec} {W W' : World} {args : Array Value} {ds gs : List (DataW H)} {before : List MemPlace} {tb : TypeId}
    (hW : DataW.Whole enc P f.params.toList s.vars false W args.toList ds gs before) (hv : s.vars = [])
    (hfn : s.fn H ds = { results := [.lit (.bool true)], args := ds }) (hl : laidOutB P = true) (hts : (f.params.toList.all fun t => P.readableRec t && decide (t < P.types.size)) = true)
    (hres : f.resultTypes = #[tb]) (hu : P.underlying tb = some .bool) (hb : Fr No W W') :
    s.post enc P f false true false false W args (.bool true) W' := by
  have hW' := hW
  have hb' := hb.below
  obtain ⟨p, q, hA, hV, rfl, hz, _⟩ := hW
  rw [hv] at hV
  obtain ⟨rfl, rfl⟩ := trodVars_none hV
  have hlt : ∀ x ∈ p, x.block < W.heap.size := fun x hx => hW'.lt x (by simpa using hx)
  have hargs : ∀ sp : Nat → Bool, (∀ x ∈ p ++ [], sp x.block = true) → DataW.TrodAll enc P W' 0 sp true f.params.toList args.toList (s.fn H (ds ++ [])).args p := by
    intro sp hsp
    rw [List.append_nil, hfn]
    exact trodAll_stays hl _ _ _ _ hts hA (fun x hx => hb'.same (hlt x hx)) (fun x hx => hsp x (by simpa using hx))
  have hrs : ∀ (b : Nat) (sp : Nat → Bool) (hd : Bool), DataW.TrodAll enc P W' b sp hd f.resultTypes.toList ((Value.bool true).resultList f.resultTypes.size) (s.fn H (ds ++ [])).results [] := by
    intro b sp hd
    rw [List.append_nil, hfn, hres]
    exact ⟨[], [], shut_bool hu true, rfl, rfl⟩
  have hvars : ∀ sp : Nat → Bool, (∀ x ∈ p ++ [], sp x.block = true) → DataW.TrodVars enc P W' sp s.vars (s.fn H (ds ++ [])).vars [] := by
    intro sp _
    rw [List.append_nil, hfn, hv]
    exact rfl
  have hok : ∀ (j : Nat) (t : TypeId) (r : Value), f.resultTypes[j]? = some t → ((Value.bool true).resultList f.resultTypes.size)[j]? = some r → Value.okWide P W' .any 0 t r :=
    ok_one hres rfl (okWide_bool_mk hu _)
  have hold : ∀ x ∈ p ++ [], (fun b => decide (b < W.heap.size)) x.block = true := fun x hx => by simpa using hlt x (by simpa using hx)
  refine ⟨ds, [], p ++ [], [], p, [], hW', hrs _ _ _, hargs _ hold, hvars _ hold, World.keptBut_mono (fun x hx => ⟨hx, .inr (by simpa using hx)⟩) (hb'.frame (· ∈ p ++ [])), fun _ => ?_⟩
  refine ⟨hok, _, _, ([] ++ p) ++ [], ⟨[] ++ p, [], trodAll_append (hargs _ (fun _ _ => rfl)) (hrs _ _ _), hvars _ (fun _ _ => rfl), rfl, ?_, fun h => by cases h⟩, ?_⟩
  · intro b off hp
    have hin : MemPlace.cell b off ∈ p ++ [] := by simpa using hp
    rw [hb'.frozen (p := ⟨b, off, none⟩) (show b < W.heap.size from hlt (.cell b off) (by simpa using hin))]
    exact hz b off hin
  · intro x hx _
    simpa using hx
end
end Go.Proofs.YtohjnbkehcdoaaaDoor
