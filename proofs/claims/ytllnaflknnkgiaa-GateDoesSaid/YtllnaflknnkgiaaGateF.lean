/- The gate's laws: what the walks share. Printed by gen_gated.py. -/
import Derived.Test.YtllnaflknnkgiaaGateE
import Derived.Deep.CutRange
import Derived.Deep.RegionHeld3
namespace Go.Proofs.Ytllnaflknnkgiaa
open Go.RowKit
set_option linter.unusedVariables false
set_option linter.unusedSimpArgs false
namespace Gate
open Conf
abbrev Tr := Str × (Str × (Bool × Int))
abbrev RTr : Rd Tr := RTwo 1 RStr (RTwo 1 RStr (RTwo 1 RBool (RInt .i64)))
theorem try_open {w : World} {S : Nat → Prop} {cs : List Value} {x : Tr} (h : RTr w S cs x) : cs = [.string ⟨x.1.toArray⟩, .string ⟨x.2.1.toArray⟩, .bool x.2.2.1, .int .i64 x.2.2.2] ∧ x.1.length ≤ maxLen ∧ x.2.1.length ≤ maxLen ∧ (Lit.int .i64 x.2.2.2).wf = true := by
  obtain ⟨-, ⟨h1, b1⟩, -, ⟨h2, b2⟩, -, h3, h4, b4⟩ := h
  refine ⟨?_, b1, b2, b4⟩
  rw [← List.take_append_drop 1 cs, h1, ← List.take_append_drop 1 (cs.drop 1), h2, ← List.take_append_drop 1 ((cs.drop 1).drop 1), h3, h4]
  rfl
/-- A try of a list. -/
theorem try_at {w W : World} {S : Nat → Prop} {A : Option Addr} {m c i : Nat} {l : List Tr} (h : RSl 4 RTr w S [.slice A m c] l) (hf : Fr No w W) (hS : ∀ k, S k → k < w.heap.size) (hi : i < l.length) :
    ∃ ad, A = some ad ∧ (ad.add (i * 4)).block < w.heap.size ∧ W.cell? (ad.add (i * 4)) = some (.string ⟨l[i].1.toArray⟩) ∧ W.cell? ⟨(ad.add (i * 4)).block, (ad.add (i * 4)).off + 1, none⟩ = some (.string ⟨l[i].2.1.toArray⟩) ∧
      W.cell? ⟨(ad.add (i * 4)).block, (ad.add (i * 4)).off + 2, none⟩ = some (.bool l[i].2.2.1) ∧ W.cell? ⟨(ad.add (i * 4)).block, (ad.add (i * 4)).off + 3, none⟩ = some (.int .i64 l[i].2.2.2) ∧ (Lit.int .i64 l[i].2.2.2).wf = true := by
  obtain ⟨ad, ecs, rfl, hs, hecs, hcell, hr⟩ := RSl.at_ h hi
  obtain ⟨he, -, -, hw⟩ := try_open hr
  have hb : (ad.add (i * 4)).block < w.heap.size := by rw [block_add]; exact hS _ hs
  have c0 := hcell 0 (by omega)
  have c1 := hcell 1 (by omega)
  have c2 := hcell 2 (by omega)
  have c3 := hcell 3 (by omega)
  rw [add_zero] at c0
  rw [he] at c0 c1 c2 c3
  exact ⟨ad, rfl, hb, (hf.cell hb (fun h => h)).trans c0, (hf.cell (p := ⟨(ad.add (i * 4)).block, (ad.add (i * 4)).off + 1, none⟩) hb (fun h => h)).trans c1,
    (hf.cell (p := ⟨(ad.add (i * 4)).block, (ad.add (i * 4)).off + 2, none⟩) hb (fun h => h)).trans c2, (hf.cell (p := ⟨(ad.add (i * 4)).block, (ad.add (i * 4)).off + 3, none⟩) hb (fun h => h)).trans c3, hw⟩
theorem wf64 {n : Int} (h : (Lit.int .i64 n).wf = true) : -9223372036854775808 ≤ n ∧ n ≤ 9223372036854775807 := by
  simpa [Lit.wf, IntKind.min, IntKind.max, IntKind.signed, IntKind.bits] using h
/-- The blocks from lo to hi. -/
def Btw (lo hi : Nat) : Nat → Prop := fun b => lo ≤ b ∧ b < hi
theorem RNew.yes {t wt now : Int} {w w' : World} {e : Ending} (h : RNew t wt now w e w') (h0 : newR t wt now = 0) : e = .returned (.tuple #[rg t 0 [] 0 (now + wt), .int .i64 0]) ∧ Fr No w w' := by
  obtain ⟨hf, ⟨_, h⟩ | ⟨h, _⟩⟩ := h
  · exact ⟨h, hf⟩
  · exact absurd h0 h
theorem RNew.no {t wt now : Int} {w w' : World} {e : Ending} (h : RNew t wt now w e w') (h0 : newR t wt now ≠ 0) : e = .returned (.tuple #[rg 0 0 [] 0 0, .int .i64 (newR t wt now)]) ∧ Fr No w w' := by
  obtain ⟨hf, ⟨h, _⟩ | ⟨_, h⟩⟩ := h
  · exact absurd h h0
  · exact ⟨h, hf⟩
theorem login_bnd (t st : Int) (u : Str) (f : Int) (ok : Bool) (user : Str) : (f ≤ (loginR t st u f ok user).1.2.2 ∧ (loginR t st u f ok user).1.2.2 ≤ f + 1) ∧ ((loginR t st u f ok user).1.2.1.length = u.length ∨ (loginR t st u f ok user).1.2.1.length = user.length) := by
  unfold loginR
  split
  · exact ⟨⟨by simp, by simp; omega⟩, .inl rfl⟩
  · split
    · exact ⟨⟨by simp, by simp; omega⟩, .inl rfl⟩
    · split
      · exact ⟨⟨by simp, by simp; omega⟩, .inr rfl⟩
      · split
        · exact ⟨⟨by simp; omega, by simp⟩, .inl rfl⟩
        · exact ⟨⟨by simp; omega, by simp⟩, .inl rfl⟩
/-- Where the walk's loop is. -/
structure GInv (W wr : World) (g r bc hi : Nat) (t wt st : Int) (u : Str) (f un : Int) (cs : Array Value) (y : C) : Prop where
  g : GAt wr g t wt st u f un
  r : Blk wr r 37 #[.int .i64 t, .int .i64 st, .string ⟨u.toArray⟩, .int .i64 f, .int .i64 un]
  c : Blk wr bc 28 cs
  y : RConf wr (Btw (bc + 1) hi) cs.toList y
  fr : Fr No W wr
theorem GInv.next {W wr w' : World} {g r bc hi : Nat} {t wt st st' : Int} {u u' : Str} {f f' un : Int} {cs : Array Value} {y : C} {F : Nat → Prop} (h : GInv W wr g r bc hi t wt st u f un cs y) (hf : Fr F wr w') (hF : ∀ b, b < hi → ¬ F b) (h1 : W.heap.size = bc) (h2 : bc < hi)
    (hh : hi ≤ g) (hF2 : ∀ b, F b → hi ≤ b)
    (hg : GAt w' g t wt st' u' f' un) (hr : Blk w' r 37 #[.int .i64 t, .int .i64 st', .string ⟨u'.toArray⟩, .int .i64 f', .int .i64 un]) : GInv W w' g r bc hi t wt st' u' f' un cs y :=
  ⟨hg, hr, h.c.fr hf (hF bc h2), Conf.stable.go h.y (Kept.of_fr hf fun b hb => ⟨by have := hb.2; have := h.g.lt; omega, hF b hb.2⟩) (fun b hb => hb), h.fr.trans hf fun b hb hl => by have := hF2 b hb; omega⟩
theorem GInv.no {W wr w' : World} {g r bc hi : Nat} {t wt st : Int} {u : Str} {f un : Int} {cs : Array Value} {y : C} (h : GInv W wr g r bc hi t wt st u f un cs y) (hf : Fr No wr w') (h1 : W.heap.size = bc) (h2 : bc < hi) (hh : hi ≤ g) : GInv W w' g r bc hi t wt st u f un cs y :=
  h.next hf (fun _ _ h => h) h1 h2 hh (fun _ h => h.elim) (h.g.fr hf (fun h => h)) (h.r.fr hf (fun h => h))
/-- The same without the second gate. -/
structure KInv (W wr : World) (g bc hi : Nat) (t wt st : Int) (u : Str) (f un : Int) (cs : Array Value) (y : C) : Prop where
  g : GAt wr g t wt st u f un
  c : Blk wr bc 28 cs
  y : RConf wr (Btw (bc + 1) hi) cs.toList y
  fr : Fr No W wr
theorem KInv.next {W wr w' : World} {g bc hi : Nat} {t wt st st' : Int} {u u' : Str} {f f' un : Int} {cs : Array Value} {y : C} (h : KInv W wr g bc hi t wt st u f un cs y) (hf : Fr (Just g) wr w') (h1 : W.heap.size = bc) (h2 : bc < hi)
    (hh : hi ≤ g) (hg : GAt w' g t wt st' u' f' un) : KInv W w' g bc hi t wt st' u' f' un cs y :=
  ⟨hg, h.c.fr hf (fun e => by have e : bc = g := e; omega), Conf.stable.go h.y (Kept.of_fr hf fun b hb => ⟨by have := hb.2; have := h.g.lt; omega, fun e => by have e : b = g := e; have := hb.2; omega⟩) (fun b hb => hb), h.fr.trans hf fun b hb hl => by have e : b = g := hb; omega⟩
end Gate
end Go.Proofs.Ytllnaflknnkgiaa
