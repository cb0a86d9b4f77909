/- Few of the rights' laws, plain: how far its loops are, and parts of its code. -/
import Derived.Test.YtompphakagoaeaaConf
namespace Go.Proofs.Ytompphakagoaeaa
open Go.RowKit
set_option linter.unusedVariables false
set_option linter.unusedSimpArgs false
namespace Conf
abbrev zs : Value := .string ⟨#[]⟩
abbrev nil : Value := .slice none 0 0
theorem usr_open {w : World} {S : Nat → Prop} {cs : List Value} {x : Usr} (h : RUsr w S cs x) : ∃ a b : Str, a.length ≤ maxLen ∧ b.length ≤ maxLen ∧ cs = [.string ⟨a.toArray⟩, .string ⟨b.toArray⟩] := by
  obtain ⟨hl, ⟨h1, b1⟩, h2, b2⟩ := h
  exact ⟨x.1, x.2, b1, b2, by rw [← List.take_append_drop 1 cs, h1, h2]; rfl⟩
theorem acc_open {w : World} {S : Nat → Prop} {cs : List Value} {x : Acc} (h : RAcc w S cs x) : ∃ (a b : Str) (n : Int), a.length ≤ maxLen ∧ b.length ≤ maxLen ∧ (Lit.int .i64 n).wf = true ∧ cs = [.string ⟨a.toArray⟩, .string ⟨b.toArray⟩, .int .i64 n] := by
  obtain ⟨hl, ⟨h1, b1⟩, l2, ⟨h2, b2⟩, h3, b3⟩ := h
  exact ⟨x.1, x.2.1, x.2.2, b1, b2, b3, by rw [← List.take_append_drop 1 cs, h1, ← List.take_append_drop 1 (cs.drop 1), h2, h3]; rfl⟩
theorem grp_open {w : World} {S : Nat → Prop} {cs : List Value} {x : Grp} (h : RGrp w S cs x) : ∃ (a : Str) (v : Value), a.length ≤ maxLen ∧ RSl 1 RStr w S [v] x.2 ∧ cs = [.string ⟨a.toArray⟩, v] := by
  obtain ⟨hl, ⟨h1, b1⟩, h2⟩ := h
  obtain ⟨A, cap, h3, _⟩ := id h2
  exact ⟨x.1, _, b1, h3 ▸ h2, by rw [← List.take_append_drop 1 cs, h1, h3]; rfl⟩
theorem cutS_len {s : Str} (h : s.length ≤ maxLen) : (cutS s).length ≤ maxLen := by unfold cutS; rw [List.length_take]; omega
/-- Nothing but the block b. -/
def Just (b : Nat) : Nat → Prop := fun k => k = b
theorem RSl.at_ {α : Type} {n m c i : Nat} {R : Rd α} {w : World} {S : Nat → Prop} {A : Option Addr} {l : List α} (h : RSl n R w S [.slice A m c] l) (hi : i < l.length) :
    ∃ ad ecs, A = some ad ∧ S ad.block ∧ ecs.length = n ∧ (∀ j, j < n → w.cell? ((ad.add (i * n)).add j) = ecs[j]?) ∧ R w S ecs l[i] := by
  obtain ⟨A', cap, h1, h2, h3, h4, h5⟩ := h
  injection h1 with h1 _
  injection h1 with h1 h6 h7
  subst h1
  obtain ⟨ad, ecs, g1, g2, g3, g4, g5⟩ := h5 i hi
  exact ⟨ad, ecs, g1, g2, g3, fun j hj => by rw [add_add]; exact g4 j hj, g5⟩
/-- A text of forty bytes at most. -/
def RS40 : Rd Str := fun _ _ cs s => cs = [.string ⟨s.toArray⟩] ∧ s.length ≤ 40
theorem RS40.stable : Rd.Stable RS40 := ⟨fun h _ _ => h⟩
theorem cut40_le (s : Str) : (cutS s).length ≤ 40 := by unfold cutS; rw [List.length_take]; omega
/-- A row of twelve at most. -/
def RSq {α : Type} (n : Nat) (R : Rd α) : Rd (List α) := fun w S cs l => RSl n R w S cs l ∧ l.length ≤ 12
theorem RSq.stable {α : Type} {n : Nat} {R : Rd α} (h : R.Stable) : Rd.Stable (RSq n R) := ⟨fun ⟨h1, h2⟩ hk hs => ⟨(RSl.stable h).go h1 hk hs, h2⟩⟩
abbrev QCon : Rd Con := RTwo 1 RS40 (RTwo 1 RI (RTwo 1 RI (RTwo 1 RI (RTwo 1 RI (RTwo 1 RI (RTwo 1 RI (RTwo 1 RI (RTwo 1 RI RStr))))))))
abbrev QGrp : Rd Grp := RTwo 1 RS40 (RSl 1 RS40)
abbrev QUsr : Rd Usr := RTwo 1 RS40 RS40
abbrev QAcc : Rd Acc := RTwo 1 RS40 (RTwo 1 RS40 RI)
abbrev QConf : Rd C := RTwo 1 (RSq 10 QCon) (RTwo 1 (RSq 2 QGrp) (RTwo 1 (RSq 2 QUsr) (RTwo 1 (RSq 3 QAcc) (RArr 10 1 RStr))))
theorem stable_qcon : QCon.Stable := RTwo.stable RS40.stable (RTwo.stable (RInt.stable _) (RTwo.stable (RInt.stable _) (RTwo.stable (RInt.stable _) (RTwo.stable (RInt.stable _) (RTwo.stable (RInt.stable _) (RTwo.stable (RInt.stable _) (RTwo.stable (RInt.stable _) (RTwo.stable (RInt.stable _) RStr.stable))))))))
theorem stable_qgrp : QGrp.Stable := RTwo.stable RS40.stable (RSl.stable RS40.stable)
theorem stable_qusr : QUsr.Stable := RTwo.stable RS40.stable RS40.stable
theorem stable_qacc : QAcc.Stable := RTwo.stable RS40.stable (RTwo.stable RS40.stable (RInt.stable _))
theorem stable_q : QConf.Stable := RTwo.stable (RSq.stable stable_qcon) (RTwo.stable (RSq.stable stable_qgrp) (RTwo.stable (RSq.stable stable_qusr) (RTwo.stable (RSq.stable stable_qacc) (RArr.stable RStr.stable))))
theorem str_list {a b : Str} (h : ([.string ⟨a.toArray⟩] : List Value) = [.string ⟨b.toArray⟩]) : a = b := by
  injection h with h _
  injection h with h
  have := congrArg (fun x : ByteArray => x.data.toList) h
  simpa using this
theorem qcon_of {w : World} {S : Nat → Prop} {a b : Str} {n1 n2 n3 n4 n5 n6 n7 n8 : Int} {x : Con} (h : RCon w S [.string ⟨a.toArray⟩, .int .i64 n1, .int .i64 n2, .int .i64 n3, .int .i64 n4, .int .i64 n5, .int .i64 n6, .int .i64 n7, .int .i64 n8, .string ⟨b.toArray⟩] x) (hl : a.length ≤ 40) :
    QCon w S [.string ⟨a.toArray⟩, .int .i64 n1, .int .i64 n2, .int .i64 n3, .int .i64 n4, .int .i64 n5, .int .i64 n6, .int .i64 n7, .int .i64 n8, .string ⟨b.toArray⟩] x := by
  obtain ⟨h1, ⟨h2, h3⟩, h4⟩ := h
  refine ⟨h1, ⟨h2, ?_⟩, h4⟩
  rw [← str_list h2]; exact hl
theorem q_mk {w : World} {S : Nat → Prop} {vC vG vU vA : Value} {bs : List Value} {x : C} (h1 : RSq 10 QCon w S [vC] x.1) (h2 : RSq 2 QGrp w S [vG] x.2.1) (h3 : RSq 2 QUsr w S [vU] x.2.2.1) (h4 : RSq 3 QAcc w S [vA] x.2.2.2.1) (h5 : RArr 10 1 RStr w S bs x.2.2.2.2) :
    QConf w S (vC :: vG :: vU :: vA :: bs) x := ⟨by simp, h1, by simp, h2, by simp, h3, by simp, h4, h5⟩
/-- A field of the result grows: where a loop that fills it is. -/
structure LoopAt {α : Type} (W3 wr : World) (bo : Nat) (e : TypeId) (k : Nat) (R : Rd α) (v : Value) (l : List (List Value)) : Prop where
  own : wr.ownsRow 0 e k v l.length l.flatten
  els : ∃ S : Nat → Prop, (∀ b, S b → New W3 wr b ∧ ¬ Of v b) ∧ ∀ x ∈ l, x.length = k ∧ ∃ a, R wr S x a
  fr : Fr (Just bo) W3 wr
  new : ∀ b, Of v b → New W3 wr b
theorem LoopAt.start {α : Type} {R : Rd α} (W3 : World) (bo : Nat) (e : TypeId) (k : Nat) : LoopAt W3 W3 bo e k R nil [] :=
  ⟨World.ownsRow_nil _ _ _ _, ⟨No, fun _ h => h.elim, fun x hx => by cases hx⟩, Fr.refl _ _, fun b h => by cases h⟩
theorem LoopAt.push {α : Type} {W3 w1 w2 w3 w4 : World} {bo : Nat} {e : TypeId} {k : Nat} {R : Rd α} {v v' : Value} {l : List (List Value)} {x : List Value} (h : LoopAt W3 w1 bo e k R v l) (hR : R.Stable) (hbo : bo < W3.heap.size)
    (h12 : Fr No w1 w2) {S2 : Nat → Prop} (hS2 : ∀ b, S2 b → New w1 w2 b) (hx : x.length = k) (hr : ∃ a, R w2 S2 x a) (ho : w3.ownsRow 0 e k v' (l.length + 1) (l.flatten ++ x)) (h23 : Fr (Of v) w2 w3)
    (hn : ∀ g, Of v' g → Of v g ∨ New w2 w3 g) (h34 : Fr (Just bo) w3 w4) : LoopAt W3 w4 bo e k R v' (l ++ [x]) := by
  obtain ⟨S, hS, hl⟩ := h.els
  have hbn : ∀ b w, New W3 w b → b ≠ bo := fun b w hb e => by have := hb.1; omega
  have s1 := h.fr.size
  have s2 := h12.size
  have s3 := h23.size
  have s4 := h34.size
  have hv' : ∀ g, Of v' g → New W3 w3 g := fun g hg => by
    rcases hn g hg with h1 | h1
    · have := h.new g h1; exact ⟨this.1, by have := this.2; omega⟩
    · exact ⟨by have := h1.1; omega, h1.2⟩
  refine ⟨?_, ⟨fun b => S b ∨ S2 b, ?_, ?_⟩, ?_, ?_⟩
  · have e : (l ++ [x]).flatten = l.flatten ++ x := by simp
    rw [e, List.length_append, List.length_singleton]
    exact own_fr ho h34 fun g hg e => hbn g w3 (hv' g hg) e
  · intro b hb
    have hb1 : New W3 w2 b ∧ ¬ Of v b := by
      rcases hb with hb | hb
      · have := hS b hb; exact ⟨⟨this.1.1, by have := this.1.2; omega⟩, this.2⟩
      · have h1 := hS2 b hb
        exact ⟨⟨by have := h1.1; omega, h1.2⟩, fun hv => by have := (h.new b hv).2; have := h1.1; omega⟩
    refine ⟨⟨hb1.1.1, by have := hb1.1.2; omega⟩, fun hv => ?_⟩
    rcases hn b hv with h1 | h1
    · exact hb1.2 h1
    · have := h1.1; have := hb1.1.2; omega
  · have keep : ∀ T : Nat → Prop, (∀ b, T b → New W3 w2 b ∧ ¬ Of v b) → Kept T w2 w4 := fun T hT p hp => by
      obtain ⟨h1, h2⟩ := hT _ hp
      rw [h34.cell (by have := h1.2; omega) (hbn _ w2 h1), h23.cell h1.2 h2]
    intro y hy
    rcases List.mem_append.1 hy with hy | hy
    · obtain ⟨h1, a, ha⟩ := hl y hy
      refine ⟨h1, a, hR.go (hR.go ha (Kept.of_no h12 fun b hb => (hS b hb).1.2) fun b hb => hb) (keep S fun b hb => ⟨⟨(hS b hb).1.1, by have := (hS b hb).1.2; omega⟩, (hS b hb).2⟩) fun b hb => .inl hb⟩
    · rw [List.mem_singleton.1 hy]
      obtain ⟨a, ha⟩ := hr
      exact ⟨hx, a, hR.go ha (keep S2 fun b hb => ⟨⟨by have := (hS2 b hb).1; omega, (hS2 b hb).2⟩, fun hv => by have := (h.new b hv).2; have := (hS2 b hb).1; omega⟩) fun b hb => .inr hb⟩
  · refine ((h.fr.then_no h12).trans h23 fun b hb hl => ?_).trans h34 fun b hb _ => hb
    exact absurd (h.new b hb).1 (by omega)
  · intro b hb
    have := hv' b hb
    exact ⟨this.1, by have := this.2; omega⟩
theorem LoopAt.read {α : Type} {W3 w1 : World} {bo : Nat} {e : TypeId} {k : Nat} {R : Rd α} {v : Value} {l : List (List Value)} (h : LoopAt W3 w1 bo e k R v l) (hR : R.Stable) : ∃ xs : List α, RSl k R w1 (New W3 w1) [v] xs := by
  obtain ⟨S, hS, hl⟩ := h.els
  obtain ⟨xs, _, h1⟩ := own_slK h.own (fun x hx => (hl x hx).1) (S := New W3 w1) (fun x hx => by
    obtain ⟨_, a, ha⟩ := hl x hx
    exact ⟨a, hR.go ha (Kept.refl _ _) fun b hb => (hS b hb).1⟩) h.new
  exact ⟨xs, h1⟩
/-- What Few has laid when it begins. -/
theorem few_start (w : World) (t : TypeId) (a z z' : Array Value) : Blk (((w.alloc (.cells a t)).alloc (.cells z t)).alloc (.cells z' t)) w.heap.size t a ∧ Blk (((w.alloc (.cells a t)).alloc (.cells z t)).alloc (.cells z' t)) (w.heap.size + 1) t z ∧
    Blk (((w.alloc (.cells a t)).alloc (.cells z t)).alloc (.cells z' t)) (w.heap.size + 1 + 1) t z' ∧ Fr No w (((w.alloc (.cells a t)).alloc (.cells z t)).alloc (.cells z' t)) ∧ (((w.alloc (.cells a t)).alloc (.cells z t)).alloc (.cells z' t)).heap.size = w.heap.size + 1 + 1 + 1 := by
  have h1 := Blk.new w t a
  have h2 := Blk.new (w.alloc (.cells a t)) t z
  have h3 := Blk.new ((w.alloc (.cells a t)).alloc (.cells z t)) t z'
  simp only [size_alloc] at h2 h3
  exact ⟨(h1.alloc _).alloc _, h2.alloc _, h3, (((Fr.refl _ _).alloc _).alloc _).alloc _, by simp⟩
/-- The blocks behind that of the result. -/
def Sf (bo : Nat) (W : World) : Nat → Prop := fun b => bo < b ∧ b < W.heap.size
/-- The blocks of Few: what it was given, its result, what it fills. -/
structure FewSt (w W : World) (bc br bo : Nat) (c0 o : Array Value) : Prop where
  c : Blk W bc 28 c0
  r : Blk W br 28 #[nil, nil, nil, nil, zs, zs, zs, zs, zs, zs, zs, zs, zs, zs]
  o : Blk W bo 28 o
  fr : Fr No w W
  hc : w.heap.size = bc
  hr : bc + 1 = br
  ho : br + 1 = bo
theorem FewSt.next {w W wr : World} {bc br bo : Nat} {c0 o o' : Array Value} (h : FewSt w W bc br bo c0 o) (hf : Fr (Just bo) W wr) (ho : Blk wr bo 28 o') : FewSt w wr bc br bo c0 o' :=
  have h1 := h.hc
  have h2 := h.hr
  have h3 := h.ho
  ⟨h.c.fr hf (fun e => by have : bc = bo := e; omega), h.r.fr hf (fun e => by have : br = bo := e; omega), ho, h.fr.trans hf fun b hb hl => by have : b = bo := hb; omega, h.hc, h.hr, h.ho⟩
theorem FewSt.lt {w W : World} {bc br bo : Nat} {c0 o : Array Value} (h : FewSt w W bc br bo c0 o) : bo < W.heap.size := h.o.lt
theorem kept_sf {W wr : World} {bo : Nat} {α : Type} {k : Nat} {R : Rd α} {v : Value} {l : List α} (hR : R.Stable) (h : RSq k R W (Sf bo W) [v] l) (hf : Fr (Just bo) W wr) : RSq k R wr (Sf bo wr) [v] l :=
  (RSq.stable hR).go h (Kept.of_fr hf fun b hb => ⟨hb.2, fun e => by have : b = bo := e; have := hb.1; omega⟩) fun b hb => ⟨hb.1, Nat.lt_of_lt_of_le hb.2 hf.size⟩
theorem LoopAt.read_sf {α : Type} {W3 w1 : World} {bo : Nat} {e : TypeId} {k : Nat} {R : Rd α} {v : Value} {l : List (List Value)} (h : LoopAt W3 w1 bo e k R v l) (hR : R.Stable) (hbo : bo < W3.heap.size) (hl12 : l.length ≤ 12) : ∃ xs : List α, RSq k R w1 (Sf bo w1) [v] xs := by
  obtain ⟨S, hS, hl⟩ := h.els
  obtain ⟨xs, hx, h1⟩ := own_slK h.own (fun x hx => (hl x hx).1) (S := New W3 w1) (fun x hx => by
    obtain ⟨_, a, ha⟩ := hl x hx
    exact ⟨a, hR.go ha (Kept.refl _ _) fun b hb => (hS b hb).1⟩) h.new
  exact ⟨xs, (RSl.stable hR).go h1 (Kept.refl _ _) (fun b hb => ⟨Nat.lt_of_lt_of_le hbo hb.1, hb.2⟩), by omega⟩
/-- The result while its last field is filled: ten texts. -/
structure BrkAt (v1 v2 v3 v4 : Value) (o : Array Value) : Prop where
  form : ∃ bs : List Value, o = (v1 :: v2 :: v3 :: v4 :: bs).toArray ∧ bs.length = 10 ∧ ∀ i, i < 10 → ∃ s : Str, bs[i]? = some (.string ⟨s.toArray⟩) ∧ s.length ≤ maxLen
theorem BrkAt.start {v1 v2 v3 v4 : Value} : BrkAt v1 v2 v3 v4 #[v1, v2, v3, v4, zs, zs, zs, zs, zs, zs, zs, zs, zs, zs] :=
  ⟨[zs, zs, zs, zs, zs, zs, zs, zs, zs, zs], rfl, rfl, fun i hi => ⟨[], by
    match i, hi with
    | 0, _ | 1, _ | 2, _ | 3, _ | 4, _ | 5, _ | 6, _ | 7, _ | 8, _ | 9, _ => rfl
    | i + 10, h => omega, by simp [maxLen]⟩⟩
theorem BrkAt.get {v1 v2 v3 v4 : Value} {o : Array Value} (h : BrkAt v1 v2 v3 v4 o) {i : Nat} (hi : i < 10) : ∃ s : Str, o[4 + i]? = some (.string ⟨s.toArray⟩) := by
  obtain ⟨bs, rfl, h1, h2⟩ := h.form
  obtain ⟨s, h3, _⟩ := h2 i hi
  exact ⟨s, by rw [← h3]; simp [Nat.add_comm 4 i]⟩
theorem BrkAt.put {v1 v2 v3 v4 : Value} {o : Array Value} (h : BrkAt v1 v2 v3 v4 o) {i : Nat} (hi : i < 10) {s : Str} (hs : s.length ≤ maxLen) : BrkAt v1 v2 v3 v4 (o.setIfInBounds (4 + i) (.string ⟨s.toArray⟩)) := by
  obtain ⟨bs, rfl, h1, h2⟩ := h.form
  refine ⟨bs.set i (.string ⟨s.toArray⟩), ?_, by simpa using h1, fun j hj => ?_⟩
  · simp [Nat.add_comm 4 i]
  · by_cases e : i = j
    · subst e; exact ⟨s, by rw [List.getElem?_set_self (by omega)], hs⟩
    · rw [List.getElem?_set_ne e]; exact h2 j hj
theorem list10 {α : Type} : ∀ {l : List α}, l.length = 10 → ∃ a b c d e f g h i j, l = [a, b, c, d, e, f, g, h, i, j]
  | [a, b, c, d, e, f, g, h, i, j], _ => ⟨a, b, c, d, e, f, g, h, i, j, rfl⟩
/-- The second of two pieces of code. -/
def sB : Code → Code
  | .seq _ b => b
  | c => c
def bodyOf (f : Func) : Code := f.body.getD .skip
/-- What Few answers. -/
def FewPost (w : World) (e : Ending) (w' : World) : Prop := ∃ cs y, e = .returned (.agg cs) ∧ QConf w' (New w w') cs.toList y ∧ Fr No w w'
end Conf
end Go.Proofs.Ytompphakagoaeaa
