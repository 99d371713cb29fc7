/- The reference's renamed. -/
import Derived.Test.YtacefdkfbpgedaaGreatCH6
import Derived.Test.YtacefdkfbpgedaaGreatCH1
import Derived.Deep.DeepCutAuto
import Derived.Test.YtacefdkfbpgedaaGreatCH5
import Derived.Test.YtacefdkfbpgedaaGreatCH10
import Derived.Test.YtacefdkfbpgedaaGreatCH8
import Derived.Test.YtacefdkfbpgedaaGreatCH9
import Derived.Test.YtacefdkfbpgedaaGreatCH4
import Derived.Test.YtacefdkfbpgedaaGreatCH7
namespace Go.Proofs.YtacefdkfbpgedaaGreat.Mine
open Go.Proofs.YtacefdkfbpgedaaGreat.PProgSmall
open Go.RowKit Go.Shelf Go.Proofs.YtacefdkfbpgedaaGreatW.PrintWords Go.Proofs.YtacefdkfbpgedaaGreatW.PrintLast Go.Proofs.YtacefdkfbpgedaaGreatW.PrintMore
set_option linter.unusedVariables false
set_option linter.unusedSimpArgs false
set_option maxRecDepth 100000
def nmR (s t : ByteArray) (k : Int) (n : ByteArray) : ByteArray := if k = 3 ∧ n = s then t else n
mutual
def renE (s t : ByteArray) : Ex → Ex
 | ⟨k, n, l⟩ => ⟨k, nmR s t k n, renL s t l⟩
def renL (s t : ByteArray) : List Ex → List Ex
 | [] => []
 | x :: xs => renE s t x :: renL s t xs
end
theorem renE_eq (s t : ByteArray) (e : Ex) : renE s t e = ⟨e.f0, nmR s t e.f0 e.f1, renL s t e.f2⟩ := by cases e; rw [renE]
theorem renL_map (s t : ByteArray) : ∀ l : List Ex, renL s t l = l.map (renE s t)
 | [] => by rw [renL]; rfl
 | x :: xs => by rw [renL, renL_map s t xs]; rfl
theorem renL_length (s t : ByteArray) (l : List Ex) : (renL s t l).length = l.length := by rw [renL_map, List.length_map]
abbrev RnS (B3 B7 : Nat) (v0 v1 : Value) (p : Addr) (u0 u1 u2 : Value) (W : World) : Prop := W.cell? ⟨B3, 2, none⟩ = some v0 ∧ W.cell? ⟨B7, 2, none⟩ = some v1 ∧ W.cell? p = some u0 ∧ W.cell? ⟨p.block, p.off + 1, none⟩ = some u1 ∧ W.cell? ⟨p.block, p.off + 2, none⟩ = some u2
theorem RnS.keep {n B3 B7 : Nat} {v0 v1 : Value} {p : Addr} {u0 u1 u2 : Value} {W W' : World} (h : RnS B3 B7 v0 v1 p u0 u1 u2 W) (hb : Below n W W') (h3 : B3 < n) (h7 : B7 < n) (hp : p.block < n) : RnS B3 B7 v0 v1 p u0 u1 u2 W' :=
 ⟨(hb.cell (p := ⟨B3, 2, none⟩) h3).trans h.1, (hb.cell (p := ⟨B7, 2, none⟩) h7).trans h.2.1, (hb.cell hp).trans h.2.2.1, (hb.cell (p := ⟨p.block, p.off + 1, none⟩) hp).trans h.2.2.2.1, (hb.cell (p := ⟨p.block, p.off + 2, none⟩) hp).trans h.2.2.2.2⟩
end Go.Proofs.YtacefdkfbpgedaaGreat.Mine
namespace Go.Proofs.YtacefdkfbpgedaaGreat.Mine
open Go.Proofs.YtacefdkfbpgedaaGreat.PProgSmall
open Go.RowKit Go.Shelf Go.Proofs.YtacefdkfbpgedaaGreatW.PrintWords Go.Proofs.YtacefdkfbpgedaaGreatW.PrintLast Go.Proofs.YtacefdkfbpgedaaGreatW.PrintMore
set_option linter.unusedVariables false
set_option linter.unusedSimpArgs false
def renC (s t : ByteArray) (c : Ca) : Ca := ⟨c.f0, c.f1, renE s t c.f2⟩
theorem nmR_idem (s t : ByteArray) (k : Int) (n : ByteArray) : nmR s t k (nmR s t k n) = nmR s t k n := by
 unfold nmR
 by_cases h : k = 3 ∧ n = s
 ·rw [if_pos h]
  by_cases h2 : k = 3 ∧ t = s
  ·rw [if_pos h2]
  ·rw [if_neg h2]
 ·rw [if_neg h, if_neg h]
theorem renL_idem (s t : ByteArray) (m : Nat) : ∀ l : List Ex, szL l ≤ m → renL s t (renL s t l) = renL s t l := by
 induction m with
 | zero =>
  intro l h
  cases l with
  | nil => simp [renL]
  | cons x xs => rw [szL] at h; have := szE_pos x; omega
 | succ m ih =>
  intro l
  induction l with
  | nil => intro _; simp [renL]
  | cons x xs ihx =>
   intro h
   rw [szL] at h
   have hx := szE_eq x
   have hp := szE_pos x
   rw [renL, renL, ihx (by omega), renE_eq s t x, renE_eq s t ⟨_, _, _⟩]
   simp only
   rw [nmR_idem, ih x.f2 (by omega)]
end Go.Proofs.YtacefdkfbpgedaaGreat.Mine
namespace Go.Proofs.YtacefdkfbpgedaaGreat.Mine
open Go.Proofs.YtacefdkfbpgedaaGreat.PProgSmall
open Go.RowKit Go.Shelf Go.Proofs.YtacefdkfbpgedaaGreatW.PrintWords Go.Proofs.YtacefdkfbpgedaaGreatW.PrintLast Go.Proofs.YtacefdkfbpgedaaGreatW.PrintMore
set_option linter.unusedVariables false
set_option linter.unusedSimpArgs false
set_option maxRecDepth 100000
abbrev CcS (B10 B11 : Nat) (v0 v1 : Value) (p : Addr) (u0 u1 u2 u3 u4 : Value) (W : World) : Prop := W.cell? ⟨B10, 2, none⟩ = some v0 ∧ W.cell? ⟨B11, 2, none⟩ = some v1 ∧ W.cell? p = some u0 ∧ W.cell? ⟨p.block, p.off + 1, none⟩ = some u1 ∧ W.cell? ⟨p.block, p.off + 2, none⟩ = some u2 ∧ W.cell? ⟨p.block, p.off + 3, none⟩ = some u3 ∧ W.cell? ⟨p.block, p.off + 4, none⟩ = some u4
theorem CcS.keep {n B10 B11 : Nat} {v0 v1 : Value} {p : Addr} {u0 u1 u2 u3 u4 : Value} {W W' : World} (h : CcS B10 B11 v0 v1 p u0 u1 u2 u3 u4 W) (hb : Below n W W') (h3 : B10 < n) (h7 : B11 < n) (hp : p.block < n) : CcS B10 B11 v0 v1 p u0 u1 u2 u3 u4 W' :=
 ⟨(hb.cell (p := ⟨B10, 2, none⟩) h3).trans h.1, (hb.cell (p := ⟨B11, 2, none⟩) h7).trans h.2.1, (hb.cell hp).trans h.2.2.1, (hb.cell (p := ⟨p.block, p.off + 1, none⟩) hp).trans h.2.2.2.1, (hb.cell (p := ⟨p.block, p.off + 2, none⟩) hp).trans h.2.2.2.2.1, (hb.cell (p := ⟨p.block, p.off + 3, none⟩) hp).trans h.2.2.2.2.2.1, (hb.cell (p := ⟨p.block, p.off + 4, none⟩) hp).trans h.2.2.2.2.2.2⟩
end Go.Proofs.YtacefdkfbpgedaaGreat.Mine
namespace Go.Proofs.YtacefdkfbpgedaaGreat.Mine
open Go.Proofs.YtacefdkfbpgedaaGreat.PProgSmall
open Go.RowKit Go.Shelf Go.Proofs.YtacefdkfbpgedaaGreatW.PrintWords Go.Proofs.YtacefdkfbpgedaaGreatW.PrintLast Go.Proofs.YtacefdkfbpgedaaGreatW.PrintMore
set_option linter.unusedVariables false
set_option linter.unusedSimpArgs false
set_option maxRecDepth 100000
end Go.Proofs.YtacefdkfbpgedaaGreat.Mine
namespace Go.Proofs.YtacefdkfbpgedaaGreat.Mine
open Go.Proofs.YtacefdkfbpgedaaGreat.PProgSmall
open Go.RowKit Go.Shelf Go.Proofs.YtacefdkfbpgedaaGreatW.PrintWords Go.Proofs.YtacefdkfbpgedaaGreatW.PrintLast Go.Proofs.YtacefdkfbpgedaaGreatW.PrintMore
set_option linter.unusedVariables false
set_option linter.unusedSimpArgs false
set_option maxRecDepth 100000
end Go.Proofs.YtacefdkfbpgedaaGreat.Mine
namespace Go.Proofs.YtacefdkfbpgedaaGreat.Mine
open Go.Proofs.YtacefdkfbpgedaaGreat.PProgSmall
open Go.RowKit Go.Shelf Go.Proofs.YtacefdkfbpgedaaGreatW.PrintWords Go.Proofs.YtacefdkfbpgedaaGreatW.PrintLast Go.Proofs.YtacefdkfbpgedaaGreatW.PrintMore
set_option linter.unusedVariables false
set_option linter.unusedSimpArgs false
def RowE (W : World) (b : Nat) (ok : Nat → Prop) (v : Value) (l : List Ex) : Prop :=
 (v = .slice none 0 0 ∧ l = []) ∨ ∃ g cap cur, v = .slice (some ⟨g, 0, none⟩) l.length cap ∧ b ≤ g ∧ ok g ∧ W.heap[g]? = some (.cells cur 57 (0, 0)) ∧ l.length ≤ cap ∧ cap ≤ maxLen ∧ cur.size = cap * 3 ∧
  ∀ j x, l[j]? = some x → ∃ u, cur[j * 3]? = some (.int .i64 x.f0) ∧ cur[j * 3 + 1]? = some (.string x.f1) ∧ cur[j * 3 + 2]? = some u ∧ Kd.R k57 57 W b (fun k => ok k ∧ some k ≠ v.ownBlock) u x.f2
theorem RowE.of {W : World} {b : Nat} {ok : Nat → Prop} {v : Value} {l : List Ex} (h : Kd.R k57 57 W b ok v l) : RowE W b ok v l := by
 obtain ⟨h0, inner, ho, hr⟩ := h
 rcases ho.2 with ⟨h1, h2⟩ | ⟨g, cap, cur, h1, hb, hg, hcap, hmax, hsz, htake⟩
 ·exact .inl ⟨h1, List.length_eq_zero_iff.1 h2⟩
 ·refine .inr ⟨g, cap, cur, h1, hb, h0 g (by rw [h1]; rfl), hg, hcap, hmax, hsz, fun j x hj => ?_⟩
  have hM := hr.2 j x hj
  obtain ⟨u, hc, hRu⟩ := k57_openM hM
  have hjl := (List.getElem?_eq_some_iff.1 hj).1
  have key : ∀ i z, [Value.int .i64 x.f0, .string x.f1, u][i]? = some z → cur[j * 3 + i]? = some z := by
   intro i z hz
   rw [← hc, ← htake, List.getElem?_take] at hz
   split at hz
   ·rw [List.getElem?_drop, List.getElem?_take] at hz
    split at hz
    ·rw [Array.getElem?_toList] at hz; exact hz
    ·cases hz
   ·cases hz
  exact ⟨u, key 0 _ rfl, key 1 _ rfl, key 2 _ rfl, hRu⟩
theorem RowE.to {W : World} {b : Nat} {ok : Nat → Prop} {v : Value} {l : List Ex} (h : RowE W b ok v l) : Kd.R k57 57 W b ok v l := by
 rcases h with ⟨rfl, rfl⟩ | ⟨g, cap, cur, rfl, hb, hok, hg, hcap, hmax, hsz, hel⟩
 ·exact Kd.R_nil _ _ _ _ _
 ·have hL : (cur.toList.take (l.length * 3)).length = l.length * 3 := by rw [List.length_take, Array.length_toList (xs := cur), hsz]; exact Nat.min_eq_left (Nat.mul_le_mul_right 3 hcap)
  refine ⟨fun k hk => ?_, cur.toList.take (l.length * 3), ⟨hL, .inr ⟨g, cap, cur, rfl, hb, hg, hcap, hmax, hsz, rfl⟩⟩, ⟨hL, fun j x hj => ?_⟩⟩
  ·have : g = k := by simpa [Value.ownBlock] using hk
   rw [← this]; exact hok
  ·obtain ⟨u, h0, h1, h2, h3⟩ := hel j x hj
   have hjl := (List.getElem?_eq_some_iff.1 hj).1
   have hM := k57_mkM W b _ x h3
   have : ((cur.toList.take (l.length * 3)).drop (j * 3)).take 3 = [.int .i64 x.f0, .string x.f1, u] := by
    apply List.ext_getElem?
    intro i
    rw [List.getElem?_take]
    split
    ·next hi =>
     rw [List.getElem?_drop, List.getElem?_take, if_pos (by omega), Array.getElem?_toList]
     match i, hi with
     | 0, _ => simpa using h0
     | 1, _ => simpa using h1
     | 2, _ => simpa using h2
    ·next hi => exact (List.getElem?_eq_none (by simp only [List.length_cons, List.length_nil]; omega)).symm
   rw [show k57.sz = 3 from rfl, this]
   exact hM
theorem row_det : ∀ (m : Nat) {W : World} {b b' : Nat} {ok ok' : Nat → Prop} {v : Value} {l l' : List Ex}, szL l ≤ m → Kd.R k57 57 W b ok v l → Kd.R k57 57 W b' ok' v l' → l = l' := by
 intro m
 induction m with
 | zero =>
  intro W b b' ok ok' v l l' hm h h'
  cases l with
  | cons x xs => rw [szL] at hm; have := szE_pos x; omega
  | nil =>
   rcases RowE.of h with ⟨rfl, _⟩ | ⟨g, cap, cur, rfl, _⟩
   ·rcases RowE.of h' with ⟨_, rfl⟩ | ⟨g', cap', cur', he, _⟩
    ·rfl
    ·cases he
   ·rcases RowE.of h' with ⟨he, _⟩ | ⟨g', cap', cur', he, _⟩
    ·cases he
    ·injection he with _ h2
     exact (List.length_eq_zero_iff.1 h2.symm).symm
 | succ m ih =>
  intro W b b' ok ok' v l l' hm h h'
  rcases RowE.of h with ⟨rfl, rfl⟩ | ⟨g, cap, cur, rfl, _, _, hg, _, _, _, hel⟩
  ·rcases RowE.of h' with ⟨_, rfl⟩ | ⟨g', cap', cur', he, _⟩
   ·rfl
   ·cases he
  ·rcases RowE.of h' with ⟨he, _⟩ | ⟨g', cap', cur', he, _, _, hg', _, _, _, hel'⟩
   ·cases he
   ·injection he with h1 h2 _
    injection h1 with h1
    injection h1 with h1
    subst h1
    rw [hg] at hg'
    injection hg' with hg'
    injection hg' with hg'
    subst hg'
    apply List.ext_getElem h2
    intro j hj hj'
    obtain ⟨u, a0, a1, a2, a3⟩ := hel j _ (List.getElem?_eq_getElem hj)
    obtain ⟨u', b0, b1, b2, b3⟩ := hel' j _ (List.getElem?_eq_getElem hj')
    rw [a0] at b0
    rw [a1] at b1
    rw [a2] at b2
    injection b0 with b0
    injection b0 with _ b0
    injection b1 with b1
    injection b1 with b1
    injection b2 with b2
    subst b2
    have hx := szL_mem (List.getElem_mem hj)
    have hs := szE_eq l[j]
    have h4 := ih (by omega) a3 b3
    exact ex_ext b0 b1 h4
def Rcell (s t : ByteArray) (cur cur' : Array Value) : Prop :=
 cur'.size = cur.size ∧ ∀ i u, cur[i]? = some u → cur'[i]? = some u ∨ ∃ j k n, i = j * 3 + 1 ∧ cur[j * 3]? = some (.int .i64 k) ∧ u = .string n ∧ cur'[i]? = some (.string (nmR s t k n))
theorem Rcell.refl (s t : ByteArray) (cur : Array Value) : Rcell s t cur cur := ⟨rfl, fun i u h => .inl h⟩
theorem Rcell.three {s t : ByteArray} {cur cur' : Array Value} (h : Rcell s t cur cur') (j : Nat) : cur'[j * 3]? = cur[j * 3]? ∧ cur'[j * 3 + 2]? = cur[j * 3 + 2]? := by
 constructor
 ·cases hu : cur[j * 3]? with
  | none => rw [Array.getElem?_eq_none_iff] at hu ⊢; have := h.1; omega
  | some u =>
   rcases h.2 _ u hu with h1 | ⟨j2, _, _, h1, _⟩
   ·exact h1
   ·omega
 ·cases hu : cur[j * 3 + 2]? with
  | none => rw [Array.getElem?_eq_none_iff] at hu ⊢; have := h.1; omega
  | some u =>
   rcases h.2 _ u hu with h1 | ⟨j2, _, _, h1, _⟩
   ·exact h1
   ·omega
theorem Rcell.trans {s t : ByteArray} {cur cur' cur2 : Array Value} (h : Rcell s t cur cur') (k : Rcell s t cur' cur2) : Rcell s t cur cur2 := by
 refine ⟨k.1.trans h.1, fun i u hu => ?_⟩
 rcases h.2 i u hu with h1 | ⟨j, kk, n, rfl, h1, rfl, h2⟩
 ·rcases k.2 i u h1 with h3 | ⟨j, kk, n, rfl, h3, rfl, h4⟩
  ·exact .inl h3
  ·exact .inr ⟨j, kk, n, rfl, (h.three j).1.symm.trans h3, rfl, h4⟩
 ·rcases k.2 _ _ h2 with h3 | ⟨j2, k2, n2, h3, h4, h5, h6⟩
  ·exact .inr ⟨j, kk, n, rfl, h1, rfl, h3⟩
  ·obtain rfl : j2 = j := by omega
   rw [(h.three j2).1, h1] at h4
   injection h4 with h4
   injection h4 with _ h4
   injection h5 with h5
   subst h4 h5
   rw [nmR_idem] at h6
   exact .inr ⟨j2, kk, n, rfl, h1, rfl, h6⟩
def Rn (s t : ByteArray) (base top : Nat) (W W' : World) : Prop := Below base W W' ∧ (∀ k, top ≤ k → k < W.heap.size → W'.heap[k]? = W.heap[k]?) ∧
 ∀ (g : Nat) (cur : Array Value) (ty : Nat), W.heap[g]? = some (.cells cur ty (0, 0)) → ∃ cur', W'.heap[g]? = some (.cells cur' ty (0, 0)) ∧ (ty ≠ 57 → cur' = cur) ∧ Rcell s t cur cur'
theorem Rn.refl (s t : ByteArray) (base top : Nat) (W : World) : Rn s t base top W W := ⟨Below.refl _ _, fun _ _ _ => rfl, fun g cur ty h => ⟨cur, h, fun _ => rfl, Rcell.refl _ _ _⟩⟩
theorem Rn.trans {s t : ByteArray} {base top : Nat} {W W' W2 : World} (h : Rn s t base top W W') (k : Rn s t base top W' W2) : Rn s t base top W W2 := by
 refine ⟨h.1.trans k.1, fun i hi hl => (k.2.1 i hi (Nat.lt_of_lt_of_le hl h.1.size)).trans (h.2.1 i hi hl), fun g cur ty hg => ?_⟩
 obtain ⟨c1, a1, a2, a3⟩ := h.2.2 g cur ty hg
 obtain ⟨c2, b1, b2, b3⟩ := k.2.2 g c1 ty a1
 exact ⟨c2, b1, fun hne => (b2 hne).trans (a2 hne), a3.trans b3⟩
theorem Rn.below {s t : ByteArray} {base top : Nat} {W W' : World} (hb : Below W.heap.size W W') (hbase : base ≤ W.heap.size) : Rn s t base top W W' :=
 ⟨hb.mono hbase, fun k _ hk => hb.block k hk, fun g cur ty hg => ⟨cur, blk_below hg hb, fun _ => rfl, Rcell.refl _ _ _⟩⟩
theorem Rn.put {s t : ByteArray} {base top : Nat} {W W' : World} {g : Nat} {cur cur' : Array Value} (h0 : W.heap[g]? = some (.cells cur 57 (0, 0))) (hg : base ≤ g ∧ g < top) (hb : Below base W W') (ho : ∀ k, k ≠ g → W'.heap[k]? = W.heap[k]?)
  (h' : W'.heap[g]? = some (.cells cur' 57 (0, 0))) (hc : Rcell s t cur cur') : Rn s t base top W W' := by
 refine ⟨hb, fun k hk _ => ho k (by omega), fun g1 c1 ty h1 => ?_⟩
 by_cases hgg : g1 = g
 ·subst hgg
  rw [h0] at h1
  injection h1 with h1
  injection h1 with e1 e2
  subst e1 e2
  exact ⟨cur', h', fun hne => absurd rfl hne, hc⟩
 ·exact ⟨c1, (ho g1 hgg).trans h1, fun _ => rfl, Rcell.refl _ _ _⟩
theorem list_of {α : Type} (n : Nat) (p : Nat → α → Prop) (h : ∀ j, j < n → ∃ x, p j x) : ∃ l : List α, l.length = n ∧ ∀ j x, l[j]? = some x → p j x := by
 induction n with
 | zero => exact ⟨[], rfl, fun j x h => by simp at h⟩
 | succ n ih =>
  obtain ⟨l, h1, h2⟩ := ih (fun j hj => h j (by omega))
  obtain ⟨x, hx⟩ := h n (by omega)
  refine ⟨l ++ [x], by simp [h1], fun j y hy => ?_⟩
  by_cases hj : j < l.length
  ·rw [List.getElem?_append_left hj] at hy; exact h2 j y hy
  ·have hj2 := (List.getElem?_eq_some_iff.1 hy).1
   rw [List.length_append, List.length_singleton] at hj2
   obtain rfl : j = l.length := by omega
   rw [List.getElem?_append_right (Nat.le_refl _)] at hy
   simp at hy
   subst hy
   rw [h1]; exact hx
def LikeE (s t : ByteArray) (x x' : Ex) : Prop := renE s t x' = renE s t x ∧ (renE s t x = x → x' = x)
def LikeL (s t : ByteArray) (l l' : List Ex) : Prop := l'.length = l.length ∧ ∀ (j : Nat) (x x' : Ex), l[j]? = some x → l'[j]? = some x' → LikeE s t x x'
theorem LikeL.ren {s t : ByteArray} {l l' : List Ex} (h : LikeL s t l l') : renL s t l' = renL s t l := by
 apply List.ext_getElem (by rw [renL_length, renL_length, h.1])
 intro j h1 h2
 rw [renL_length] at h1 h2
 simp only [renL_map, List.getElem_map]
 exact (h.2 j _ _ (List.getElem?_eq_getElem h2) (List.getElem?_eq_getElem h1)).1
theorem LikeL.fix {s t : ByteArray} {l l' : List Ex} (h : LikeL s t l l') (hf : renL s t l = l) : l' = l := by
 apply List.ext_getElem h.1
 intro j h1 h2
 refine (h.2 j _ _ (List.getElem?_eq_getElem h2) (List.getElem?_eq_getElem h1)).2 ?_
 have h3 := congrArg (fun q : List Ex => q[j]?) hf
 simp only [renL_map, List.getElem?_map, List.getElem?_eq_getElem h2, Option.map_some] at h3
 exact Option.some.inj h3
theorem LikeE.mk {s t : ByteArray} {x : Ex} {n : ByteArray} {l : List Ex} (hn : n = x.f1 ∨ n = nmR s t x.f0 x.f1) (hl : LikeL s t x.f2 l) : LikeE s t x ⟨x.f0, n, l⟩ := by
 constructor
 ·rw [renE_eq, renE_eq s t x]
  simp only
  rw [hl.ren]
  rcases hn with rfl | rfl
  ·rfl
  ·rw [nmR_idem]
 ·intro hf
  rw [renE_eq] at hf
  have h1 : nmR s t x.f0 x.f1 = x.f1 := congrArg S57.f1 hf
  have h2 : renL s t x.f2 = x.f2 := congrArg S57.f2 hf
  rw [hl.fix h2]
  have : n = x.f1 := by rcases hn with h | h; exact h; exact h.trans h1
  exact ex_ext rfl this rfl
theorem Rn.row {s t : ByteArray} : ∀ (m : Nat) {base top : Nat} {W W' : World} {b : Nat} {ok : Nat → Prop} {v : Value} {l : List Ex}, Rn s t base top W W' → szL l ≤ m → Kd.R k57 57 W b ok v l →
  ∃ l', Kd.R k57 57 W' b ok v l' ∧ LikeL s t l l' := by
 intro m
 induction m with
 | zero =>
  intro base top W W' b ok v l hR hm h
  cases l with
  | cons x xs => rw [szL] at hm; have := szE_pos x; omega
  | nil =>
   refine ⟨[], ?_, rfl, fun j x x' hx => by simp at hx⟩
   rcases RowE.of h with ⟨rfl, _⟩ | ⟨g, cap, cur, rfl, hb, hok, hg, hcap, hmax, hsz, hel⟩
   ·exact Kd.R_nil _ _ _ _ _
   ·obtain ⟨cur', hg', _, hc⟩ := hR.2.2 g cur _ hg
    exact RowE.to (.inr ⟨g, cap, cur', rfl, hb, hok, hg', hcap, hmax, hc.1.trans hsz, fun j x hx => by simp at hx⟩)
 | succ m ih =>
  intro base top W W' b ok v l hR hm h
  rcases RowE.of h with ⟨rfl, rfl⟩ | ⟨g, cap, cur, rfl, hb, hok, hg, hcap, hmax, hsz, hel⟩
  ·exact ⟨[], Kd.R_nil _ _ _ _ _, rfl, fun j x x' hx => by simp at hx⟩
  ·obtain ⟨cur', hg', _, hc⟩ := hR.2.2 g cur _ hg
   obtain ⟨l', h1, h2⟩ := list_of l.length (fun j x' => ∃ x, l[j]? = some x ∧ LikeE s t x x' ∧ ∃ u, cur'[j * 3]? = some (.int .i64 x'.f0) ∧ cur'[j * 3 + 1]? = some (.string x'.f1) ∧ cur'[j * 3 + 2]? = some u ∧ Kd.R k57 57 W' b (fun k => ok k ∧ some k ≠ (Value.slice (some ⟨g, 0, none⟩) l.length cap).ownBlock) u x'.f2) (fun j hj => by
    obtain ⟨u, a0, a1, a2, a3⟩ := hel j _ (List.getElem?_eq_getElem hj)
    have hx := szL_mem (List.getElem_mem hj)
    have hs := szE_eq l[j]
    obtain ⟨l2, b1, b2⟩ := ih hR (by omega) a3
    have c0 := (hc.three j).1.trans a0
    have c2 := (hc.three j).2.trans a2
    rcases hc.2 _ _ a1 with h3 | ⟨j2, k2, n2, h3, h4, h5, h6⟩
    ·exact ⟨⟨l[j].f0, l[j].f1, l2⟩, l[j], List.getElem?_eq_getElem hj, LikeE.mk (.inl rfl) b2, u, c0, h3, c2, b1⟩
    ·obtain rfl : j2 = j := by omega
     rw [a0] at h4
     injection h4 with h4
     injection h4 with _ h4
     injection h5 with h5
     subst h4 h5
     exact ⟨⟨l[j2].f0, nmR s t l[j2].f0 l[j2].f1, l2⟩, l[j2], List.getElem?_eq_getElem hj, LikeE.mk (.inr rfl) b2, u, c0, h6, c2, b1⟩)
   refine ⟨l', RowE.to (.inr ⟨g, cap, cur', by rw [h1], hb, hok, hg', by rw [h1]; exact hcap, hmax, hc.1.trans hsz, fun j x' hx' => ?_⟩), h1, fun j x x' hx hx' => ?_⟩
   ·obtain ⟨x, _, _, h3⟩ := h2 j x' hx'
    exact h3
   ·obtain ⟨y, hy, h3, _⟩ := h2 j x' hx'
    rw [hx] at hy
    injection hy with hy
    rw [hy]; exact h3
end Go.Proofs.YtacefdkfbpgedaaGreat.Mine
namespace Go.Proofs.YtacefdkfbpgedaaGreat.Mine
open Go.Proofs.YtacefdkfbpgedaaGreat.PProgSmall
open Go.RowKit Go.Shelf Go.Proofs.YtacefdkfbpgedaaGreatW.PrintWords Go.Proofs.YtacefdkfbpgedaaGreatW.PrintLast Go.Proofs.YtacefdkfbpgedaaGreatW.PrintMore
set_option linter.unusedVariables false
set_option linter.unusedSimpArgs false
theorem LikeE.refl (s t : ByteArray) (x : Ex) : LikeE s t x x := ⟨rfl, fun _ => rfl⟩
theorem LikeL.refl (s t : ByteArray) (l : List Ex) : LikeL s t l l := ⟨rfl, fun j x x' h h' => by rw [h] at h'; injection h' with h'; subst h'; exact LikeE.refl _ _ _⟩
theorem LikeE.trans {s t : ByteArray} {x y z : Ex} (h : LikeE s t x y) (k : LikeE s t y z) : LikeE s t x z :=
 ⟨k.1.trans h.1, fun hx => by have h1 := h.2 hx; subst h1; exact k.2 hx⟩
theorem LikeL.trans {s t : ByteArray} {l l' l2 : List Ex} (h : LikeL s t l l') (k : LikeL s t l' l2) : LikeL s t l l2 := by
 refine ⟨k.1.trans h.1, fun j x z hx hz => ?_⟩
 have hj : j < l'.length := by have := (List.getElem?_eq_some_iff.1 hz).1; have := k.1; omega
 exact (h.2 j x _ hx (List.getElem?_eq_getElem hj)).trans (k.2 j _ z (List.getElem?_eq_getElem hj) hz)
def wrE (W : World) (g i : Nat) (u0 u1 u2 : Value) : World := ((W.setCell ⟨g, i, none⟩ u0).setCell ⟨g, i + 1, none⟩ u1).setCell ⟨g, i + 2, none⟩ u2
theorem wrE_ne {W : World} {g i k : Nat} {u0 u1 u2 : Value} (hne : k ≠ g) : (wrE W g i u0 u1 u2).heap[k]? = W.heap[k]? := by
 unfold wrE
 rw [Below.heap_setCell _ _ _ _ (by simp only; omega), Below.heap_setCell _ _ _ _ (by simp only; omega), Below.heap_setCell _ _ _ _ (by simp only; omega)]
theorem wrE_below {base : Nat} {W : World} {g i : Nat} {u0 u1 u2 : Value} (hg : base ≤ g) : Below base W (wrE W g i u0 u1 u2) := (((Below.refl base W).setCell hg _).setCell hg _).setCell hg _
theorem wrE_at {W : World} {g i : Nat} {cur : Array Value} {ty : Nat} {u0 u1 u2 : Value} (h : W.heap[g]? = some (.cells cur ty (0, 0))) : (wrE W g i u0 u1 u2).heap[g]? = some (.cells (((cur.setIfInBounds i u0).setIfInBounds (i + 1) u1).setIfInBounds (i + 2) u2) ty (0, 0)) :=
 blk_put (blk_put (blk_put h i _ rfl) (i + 1) _ rfl) (i + 2) _ rfl
theorem Rn.step {s t : ByteArray} {base top : Nat} {W W5 : World} {b b' : Nat} {ok ok' : Nat → Prop} {l : List Ex} {g n cap kk : Nat} {cur : Array Value} {x : Ex} {u : Value}
  (hR : Kd.R k57 57 W b ok (.slice (some ⟨g, 0, none⟩) n cap) l) (hx : l[kk]? = some x) (hg : W.heap[g]? = some (.cells cur 57 (0, 0))) (k0 : cur[kk * 3]? = some (.int .i64 x.f0)) (k1 : cur[kk * 3 + 1]? = some (.string x.f1)) (k2 : cur[kk * 3 + 2]? = some u)
  (hRn : Rn s t base top W W5) (hu : Kd.R k57 57 W5 b' ok' u (renL s t x.f2)) (hgb : base ≤ g ∧ g < top) :
  Rn s t base top W5 (wrE W5 g (kk * 3) (.int .i64 x.f0) (.string (nmR s t x.f0 x.f1)) u) ∧ ∃ l6, Kd.R k57 57 (wrE W5 g (kk * 3) (.int .i64 x.f0) (.string (nmR s t x.f0 x.f1)) u) b ok (.slice (some ⟨g, 0, none⟩) n cap) l6 ∧ LikeL s t l l6 ∧ l6[kk]? = some (renE s t x) := by
 obtain ⟨cur5, hg5, _, hc⟩ := hRn.2.2 g cur _ hg
 have c0 := (hc.three kk).1.trans k0
 have c2 := (hc.three kk).2.trans k2
 obtain ⟨n5, c1, hn5⟩ : ∃ n5, cur5[kk * 3 + 1]? = some (.string n5) ∧ nmR s t x.f0 n5 = nmR s t x.f0 x.f1 := by
  rcases hc.2 _ _ k1 with h3 | ⟨j2, kz, n2, h3, h4, h5, h6⟩
  ·exact ⟨_, h3, rfl⟩
  ·obtain rfl : j2 = kk := by omega
   rw [k0] at h4
   injection h4 with h4
   injection h4 with _ h4
   injection h5 with h5
   subst h4 h5
   exact ⟨_, h6, nmR_idem _ _ _ _⟩
 have l0 := (Array.getElem?_eq_some_iff.1 c0).1
 have l1 := (Array.getElem?_eq_some_iff.1 c1).1
 have l2 := (Array.getElem?_eq_some_iff.1 c2).1
 obtain ⟨cur6, hcur6⟩ : ∃ cur6, ((cur5.setIfInBounds (kk * 3) (.int .i64 x.f0)).setIfInBounds (kk * 3 + 1) (.string (nmR s t x.f0 x.f1))).setIfInBounds (kk * 3 + 2) u = cur6 := ⟨_, rfl⟩
 have d0 : cur6[kk * 3]? = some (.int .i64 x.f0) := by rw [← hcur6]; simp [Array.getElem?_setIfInBounds, l0]
 have d1 : cur6[kk * 3 + 1]? = some (.string (nmR s t x.f0 x.f1)) := by rw [← hcur6]; simp [Array.getElem?_setIfInBounds, l1]
 have d2 : cur6[kk * 3 + 2]? = some u := by rw [← hcur6]; simp [Array.getElem?_setIfInBounds, l2]
 have hrc : Rcell s t cur5 cur6 := by
  refine ⟨by rw [← hcur6]; simp, fun i z hz => ?_⟩
  by_cases h0 : i = kk * 3
  ·subst h0; rw [c0] at hz; injection hz with hz; subst hz; exact .inl d0
  ·by_cases h1 : i = kk * 3 + 1
   ·subst h1; rw [c1] at hz; injection hz with hz; subst hz; exact .inr ⟨kk, x.f0, n5, rfl, c0, rfl, by rw [hn5]; exact d1⟩
   ·by_cases h2 : i = kk * 3 + 2
    ·subst h2; rw [c2] at hz; injection hz with hz; subst hz; exact .inl d2
    ·left
     rw [← hcur6, Array.getElem?_setIfInBounds_ne (by omega), Array.getElem?_setIfInBounds_ne (by omega), Array.getElem?_setIfInBounds_ne (by omega)]
     exact hz
 have hg6 := wrE_at (i := kk * 3) (u0 := .int .i64 x.f0) (u1 := .string (nmR s t x.f0 x.f1)) (u2 := u) hg5
 rw [hcur6] at hg6
 have hput : Rn s t base top W5 (wrE W5 g (kk * 3) (.int .i64 x.f0) (.string (nmR s t x.f0 x.f1)) u) := Rn.put hg5 hgb (wrE_below hgb.1) (fun k hk => wrE_ne hk) hg6 hrc
 refine ⟨hput, ?_⟩
 obtain ⟨l6, h6, hL6⟩ := Rn.row _ (hRn.trans hput) (Nat.le_refl _) hR
 refine ⟨l6, h6, hL6, ?_⟩
 obtain ⟨l7, h7, hL7⟩ := Rn.row _ hput (Nat.le_refl _) hu
 have h8 := hL7.fix (renL_idem s t _ x.f2 (Nat.le_refl _))
 subst h8
 have hkl : kk < l6.length := by rw [hL6.1]; exact (List.getElem?_eq_some_iff.1 hx).1
 rcases RowE.of h6 with ⟨he, _⟩ | ⟨g', cap', cur', he, _, _, hg', _, _, _, hel'⟩
 ·cases he
 ·injection he with h1 _ _
  injection h1 with h1
  injection h1 with h1
  subst h1
  rw [hg6] at hg'
  injection hg' with hg'
  injection hg' with hg'
  subst hg'
  obtain ⟨u', b0, b1, b2, b3⟩ := hel' kk _ (List.getElem?_eq_getElem hkl)
  rw [d0] at b0
  rw [d1] at b1
  rw [d2] at b2
  injection b0 with b0
  injection b0 with _ b0
  injection b1 with b1
  injection b1 with b1
  injection b2 with b2
  subst b2
  have h9 := row_det _ (Nat.le_refl _) b3 h7
  rw [List.getElem?_eq_getElem hkl]
  exact congrArg some (by rw [renE_eq]; exact ex_ext b0.symm b1.symm h9)
end Go.Proofs.YtacefdkfbpgedaaGreat.Mine
namespace Go.Proofs.YtacefdkfbpgedaaGreat.Mine
open Go.Proofs.YtacefdkfbpgedaaGreat.PProgSmall
open Go.RowKit Go.Shelf Go.Proofs.YtacefdkfbpgedaaGreatW.PrintWords Go.Proofs.YtacefdkfbpgedaaGreatW.PrintLast Go.Proofs.YtacefdkfbpgedaaGreatW.PrintMore
set_option linter.unusedVariables false
set_option linter.unusedSimpArgs false
end Go.Proofs.YtacefdkfbpgedaaGreat.Mine
namespace Go.Proofs.YtacefdkfbpgedaaGreat.Mine
open Go.Proofs.YtacefdkfbpgedaaGreat.PProgSmall
open Go.RowKit Go.Shelf Go.Proofs.YtacefdkfbpgedaaGreatW.PrintWords Go.Proofs.YtacefdkfbpgedaaGreatW.PrintLast Go.Proofs.YtacefdkfbpgedaaGreatW.PrintMore
set_option linter.unusedVariables false
set_option linter.unusedSimpArgs false
def RowC (W : World) (b : Nat) (ok : Nat → Prop) (v : Value) (l : List Ca) : Prop :=
 (v = .slice none 0 0 ∧ l = []) ∨ ∃ g cap cur, v = .slice (some ⟨g, 0, none⟩) l.length cap ∧ b ≤ g ∧ ok g ∧ W.heap[g]? = some (.cells cur 62 (0, 0)) ∧ l.length ≤ cap ∧ cap ≤ maxLen ∧ cur.size = cap * 5 ∧
  ∀ j x, l[j]? = some x → ∃ u1 u4, cur[j * 5]? = some (.string x.f0) ∧ cur[j * 5 + 1]? = some u1 ∧ cur[j * 5 + 2]? = some (.int .i64 x.f2.f0) ∧ cur[j * 5 + 3]? = some (.string x.f2.f1) ∧ cur[j * 5 + 4]? = some u4 ∧
   Kd.R Kd.string 9 W b (fun k => ok k ∧ some k ≠ v.ownBlock) u1 x.f1 ∧ Kd.R k57 57 W b (fun k => ok k ∧ some k ≠ v.ownBlock) u4 x.f2.f2
theorem RowC.of {W : World} {b : Nat} {ok : Nat → Prop} {v : Value} {l : List Ca} (h : Kd.R k62 62 W b ok v l) : RowC W b ok v l := by
 obtain ⟨h0, inner, ho, hr⟩ := h
 rcases ho.2 with ⟨h1, h2⟩ | ⟨g, cap, cur, h1, hb, hg, hcap, hmax, hsz, htake⟩
 ·exact .inl ⟨h1, List.length_eq_zero_iff.1 h2⟩
 ·refine .inr ⟨g, cap, cur, h1, hb, h0 g (by rw [h1]; rfl), hg, hcap, hmax, hsz, fun j x hj => ?_⟩
  have hM := hr.2 j x hj
  obtain ⟨u1, u4, hc, hR1, hR4⟩ := k62_openM hM
  have hjl := (List.getElem?_eq_some_iff.1 hj).1
  have key : ∀ i z, [Value.string x.f0, u1, .int .i64 x.f2.f0, .string x.f2.f1, u4][i]? = some z → cur[j * 5 + i]? = some z := by
   intro i z hz
   rw [← hc, ← htake, List.getElem?_take] at hz
   split at hz
   ·rw [List.getElem?_drop, List.getElem?_take] at hz
    split at hz
    ·rw [Array.getElem?_toList] at hz; exact hz
    ·cases hz
   ·cases hz
  exact ⟨u1, u4, key 0 _ rfl, key 1 _ rfl, key 2 _ rfl, key 3 _ rfl, key 4 _ rfl, hR1, hR4⟩
theorem RowC.to {W : World} {b : Nat} {ok : Nat → Prop} {v : Value} {l : List Ca} (h : RowC W b ok v l) : Kd.R k62 62 W b ok v l := by
 rcases h with ⟨rfl, rfl⟩ | ⟨g, cap, cur, rfl, hb, hok, hg, hcap, hmax, hsz, hel⟩
 ·exact Kd.R_nil _ _ _ _ _
 ·have hL : (cur.toList.take (l.length * 5)).length = l.length * 5 := by rw [List.length_take, Array.length_toList (xs := cur), hsz]; exact Nat.min_eq_left (Nat.mul_le_mul_right 5 hcap)
  refine ⟨fun k hk => ?_, cur.toList.take (l.length * 5), ⟨hL, .inr ⟨g, cap, cur, rfl, hb, hg, hcap, hmax, hsz, rfl⟩⟩, ⟨hL, fun j x hj => ?_⟩⟩
  ·have : g = k := by simpa [Value.ownBlock] using hk
   rw [← this]; exact hok
  ·obtain ⟨u1, u4, h0, h1, h2, h3, h4, h5, h6⟩ := hel j x hj
   have hjl := (List.getElem?_eq_some_iff.1 hj).1
   have hM := k62_mkM W b _ x h5 h6
   have : ((cur.toList.take (l.length * 5)).drop (j * 5)).take 5 = [.string x.f0, u1, .int .i64 x.f2.f0, .string x.f2.f1, u4] := by
    apply List.ext_getElem?
    intro i
    rw [List.getElem?_take]
    split
    ·next hi =>
     rw [List.getElem?_drop, List.getElem?_take, if_pos (by omega), Array.getElem?_toList]
     match i, hi with
     | 0, _ => simpa using h0
     | 1, _ => simpa using h1
     | 2, _ => simpa using h2
     | 3, _ => simpa using h3
     | 4, _ => simpa using h4
    ·next hi => exact (List.getElem?_eq_none (by simp only [List.length_cons, List.length_nil]; omega)).symm
   rw [show k62.sz = 5 from rfl, this]
   exact hM
def LikeC (s t : ByteArray) (x x' : Ca) : Prop := x'.f0 = x.f0 ∧ x'.f1 = x.f1 ∧ x'.f2.f0 = x.f2.f0 ∧ x'.f2.f1 = x.f2.f1 ∧ LikeL s t x.f2.f2 x'.f2.f2
end Go.Proofs.YtacefdkfbpgedaaGreat.Mine
namespace Go.Proofs.YtacefdkfbpgedaaGreat.Mine
open Go.Proofs.YtacefdkfbpgedaaGreat.PProgSmall
open Go.RowKit Go.Shelf Go.Proofs.YtacefdkfbpgedaaGreatW.PrintWords Go.Proofs.YtacefdkfbpgedaaGreatW.PrintLast Go.Proofs.YtacefdkfbpgedaaGreatW.PrintMore
set_option linter.unusedVariables false
set_option linter.unusedSimpArgs false
end Go.Proofs.YtacefdkfbpgedaaGreat.Mine
namespace Go.Proofs.YtacefdkfbpgedaaGreat.Mine
open Go.Proofs.YtacefdkfbpgedaaGreat.PProgSmall
open Go.RowKit Go.Shelf Go.Proofs.YtacefdkfbpgedaaGreatW.PrintWords Go.Proofs.YtacefdkfbpgedaaGreatW.PrintLast Go.Proofs.YtacefdkfbpgedaaGreatW.PrintMore
set_option linter.unusedVariables false
set_option linter.unusedSimpArgs false
theorem ca_ext {x y : Ca} (h0 : x.f0 = y.f0) (h1 : x.f1 = y.f1) (h2 : x.f2 = y.f2) : x = y := by cases x; cases y; cases h0; cases h1; cases h2; rfl
theorem LikeC.ren {s t : ByteArray} {x x' : Ca} (h : LikeC s t x x') : renC s t x' = renC s t x := by
 obtain ⟨h0, h1, h2, h3, h4⟩ := h
 unfold renC
 rw [h0, h1, renE_eq s t x'.f2, renE_eq s t x.f2, h2, h3, h4.ren]
theorem LikeC.trans {s t : ByteArray} {x y z : Ca} (h : LikeC s t x y) (k : LikeC s t y z) : LikeC s t x z :=
 ⟨k.1.trans h.1, k.2.1.trans h.2.1, k.2.2.1.trans h.2.2.1, k.2.2.2.1.trans h.2.2.2.1, h.2.2.2.2.trans k.2.2.2.2⟩
theorem LikeC.fix {s t : ByteArray} {x y : Ca} (h : LikeC s t (renC s t x) y) : y = renC s t x := by
 obtain ⟨h0, h1, h2, h3, h4⟩ := h
 refine ca_ext h0 h1 (ex_ext h2 h3 ?_)
 refine h4.fix ?_
 simp only [renC, renE_eq]
 exact renL_idem s t _ _ (Nat.le_refl _)
end Go.Proofs.YtacefdkfbpgedaaGreat.Mine
namespace Go.Proofs.YtacefdkfbpgedaaGreat.Mine
open Go.Proofs.YtacefdkfbpgedaaGreat.PProgSmall
open Go.RowKit Go.Shelf Go.Proofs.YtacefdkfbpgedaaGreatW.PrintWords Go.Proofs.YtacefdkfbpgedaaGreatW.PrintLast Go.Proofs.YtacefdkfbpgedaaGreatW.PrintMore
set_option linter.unusedVariables false
set_option linter.unusedSimpArgs false
end Go.Proofs.YtacefdkfbpgedaaGreat.Mine
namespace Go.Proofs.YtacefdkfbpgedaaGreat.Mine
open Go.Proofs.YtacefdkfbpgedaaGreat.PProgSmall
open Go.RowKit Go.Shelf Go.Proofs.YtacefdkfbpgedaaGreatW.PrintWords Go.Proofs.YtacefdkfbpgedaaGreatW.PrintLast Go.Proofs.YtacefdkfbpgedaaGreatW.PrintMore
set_option linter.unusedVariables false
set_option linter.unusedSimpArgs false
set_option maxRecDepth 100000
end Go.Proofs.YtacefdkfbpgedaaGreat.Mine
namespace Go.Proofs.YtacefdkfbpgedaaGreat.Mine
open Go.Proofs.YtacefdkfbpgedaaGreat.PProgSmall
open Go.RowKit Go.Shelf Go.Proofs.YtacefdkfbpgedaaGreatW.PrintWords Go.Proofs.YtacefdkfbpgedaaGreatW.PrintLast Go.Proofs.YtacefdkfbpgedaaGreatW.PrintMore
set_option linter.unusedVariables false
set_option linter.unusedSimpArgs false
theorem nameN_nameB : ∀ n : Fin 6, nameB (nameN n) = true := of_decide_eq_true (by kernel_rfl)
theorem nameN_inj : ∀ n m : Fin 6, nameN n = nameN m → n = m := of_decide_eq_true (by kernel_rfl)
theorem scope_nodup : ∀ a k : Fin 3, (paramsN a ++ varsN k).Nodup := of_decide_eq_true (by kernel_rfl)
theorem scope_nameB : ∀ a k : Fin 3, (paramsN a ++ varsN k).all nameB = true := of_decide_eq_true (by kernel_rfl)
theorem six_nodup : six.Nodup := of_decide_eq_true (by kernel_rfl)
theorem six_nameB : (six.all fun h => nameB h.1 && decide (h.1.size ≤ 4) && decide (h.2 ≤ 2)) = true := by kernel_rfl
theorem paramsN_length (a : Nat) : (paramsN a).length = a := by simp [paramsN]
theorem headOk_nameB {s : ByteArray} {n : Nat} (h : headOk s n) : nameB s = true ∧ n ≤ 2 := by
 unfold headOk at h
 rcases h with ⟨rfl, rfl | rfl⟩ | ⟨rfl, rfl | rfl⟩ | ⟨rfl, rfl | rfl⟩
 all_goals exact ⟨by kernel_rfl, by omega⟩
theorem gen_pl {vs : List ByteArray} {ars : List Nat} {nested : Bool} (m : Nat) : ∀ (within : Bool) (e : Ex), szE e ≤ m → GenE vs ars nested within e → ∀ x ∈ plE e, ∃ w, GenE vs ars nested w x := by
 induction m with
 | zero => intro within e h; exact absurd h (by have := szE_pos e; omega)
 | succ m ih =>
  intro within e hm h
  have hL : ∀ (w : Bool) (l : List Ex), szL l ≤ m → GenL vs ars nested w l → ∀ x ∈ plL l, ∃ w, GenE vs ars nested w x := by
   intro w l
   induction l with
   | nil => intro _ _ x hx; simp [plL] at hx
   | cons y ys ihl =>
    intro h1 h2 x hx
    rw [szL] at h1
    rw [GenL] at h2
    rw [plL] at hx
    rcases List.mem_append.1 hx with hx | hx
    ·exact ih w y (by omega) h2.1 x hx
    ·exact ihl (by omega) h2.2 x hx
  intro x hx
  rw [plE_eq] at hx
  rcases List.mem_cons.1 hx with rfl | hx
  ·exact ⟨within, h⟩
  ·have hs := szE_eq e
   rw [genE_eq] at h
   rcases h with ⟨h1, h2, h3⟩ | ⟨h1, _, h3⟩ | ⟨h1, _, _, h3⟩
   ·rw [h2] at hx; simp [plL] at hx
   ·exact hL _ _ (by omega) h3 x hx
   ·exact hL _ _ (by omega) h3 x hx
theorem gen_right {vs : List ByteArray} {ars : List Nat} {nested w : Bool} {x : Ex} (ha : ∀ a ∈ ars, a ≤ 2) (hn : ars.length ≤ 6) (hv : vs.all nameB = true) (h : GenE vs ars nested w x) :
  fewB x = true ∧ kindB x = true ∧ nameB x.f1 = true := by
 rw [genE_eq] at h
 rcases h with ⟨h1, h2, h3⟩ | ⟨h1, h2, h3⟩ | ⟨h1, _, ⟨n, h2, h3⟩, _⟩
 ·refine ⟨by simp [fewB, h1], by simp [kindB, h1, h2], List.all_eq_true.1 hv _ h3⟩
 ·obtain ⟨h4, h5⟩ := headOk_nameB h2
  refine ⟨?_, by simp [kindB, h1], h4⟩
  rw [fewB, decide_eq_true (show (x.f2.length : Int) ≤ 4 by omega)]
  simp
 ·have h4 := ha _ (List.mem_of_getElem? h2)
  have h5 : n < 6 := by have := (List.getElem?_eq_some_iff.1 h2).1; omega
  refine ⟨?_, by simp [kindB, h1], by rw [h3]; exact nameN_nameB ⟨n, h5⟩⟩
  rw [fewB, decide_eq_true (show (x.f2.length : Int) ≤ 4 by omega)]
  simp
theorem gen_okV {vs sc : List ByteArray} {ars : List Nat} {nested w : Bool} {x : Ex} (hs : ∀ s ∈ vs, s ∈ sc) (h : GenE vs ars nested w x) : okV sc x = true := by
 rw [genE_eq] at h
 rcases h with ⟨h1, h2, h3⟩ | ⟨h1, h2, h3⟩ | ⟨h1, _, _⟩
 ·have := memB_iff.2 (hs _ h3)
  simp [okV, this]
 ·simp [okV, h1]
 ·simp [okV, h1]
theorem DefOk.bodies {ars : List Nat} {nested : Bool} {i : Nat} {d : De} (h : DefOk ars nested i d) : ∀ (k : Nat) (b : Ex), (bodiesD d)[k]? = some b → GenE (scopeI d k) ars nested false b ∧ szE b ≤ 7 := by
 intro k b hb
 rcases h.body with ⟨h1, h2, h3⟩ | ⟨h1, h2, h3, h4⟩
 ·rw [bodiesD, if_pos (by rw [h1]; rfl)] at hb
  rcases k with _ | k
  ·obtain rfl : d.f3 = b := by simpa using hb
   refine ⟨?_, h3⟩
   rw [scopeI, h1]
   simpa using h2
  ·simp at hb
 ·rw [bodiesD, if_neg (by intro h; exact h1 (List.length_eq_zero_iff.1 h)), List.getElem?_map] at hb
  cases hc : d.f2[k]? with
  | none => rw [hc] at hb; cases hb
  | some c =>
   rw [hc] at hb
   obtain rfl : c.f2 = b := by simpa using hb
   have := h4.all c (List.mem_of_getElem? hc)
   refine ⟨?_, this.sz⟩
   rw [scopeI, hc]
   exact this.body
theorem DefOk.scope {ars : List Nat} {nested : Bool} {i : Nat} {d : De} (h : DefOk ars nested i d) (ha : ∀ a ∈ ars, a ≤ 2) (k : Nat) : ∃ a v : Fin 3, d.f1 = paramsN a ∧ scopeI d k = paramsN a ++ varsN v := by
 obtain ⟨a, h1, h2⟩ := h.ar
 have h3 := ha _ (List.mem_of_getElem? h1)
 rcases hc : d.f2[k]? with _ | c
 ·exact ⟨⟨a, by omega⟩, 0, h2, by rw [scopeI, hc, h2]; rfl⟩
 ·rcases h.body with ⟨h4, _⟩ | ⟨_, _, _, h4⟩
  ·rw [h4] at hc; simp at hc
  ·have h5 := h4.all c (List.mem_of_getElem? hc)
   exact ⟨⟨a, by omega⟩, ⟨c.f1.length, by have := h5.kl; omega⟩, h2, by rw [scopeI, hc]; show d.f1 ++ c.f1 = paramsN a ++ varsN c.f1.length; rw [← h5.vs, h2]⟩
theorem mem_plL {l : List Ex} {x : Ex} : x ∈ plL l → ∃ (k : Nat) (b : Ex), l[k]? = some b ∧ x ∈ plE b := by
 induction l with
 | nil => intro h; simp [plL] at h
 | cons y ys ih =>
  intro h
  rw [plL] at h
  rcases List.mem_append.1 h with h | h
  ·exact ⟨0, y, rfl, h⟩
  ·obtain ⟨k, b, h1, h2⟩ := ih h
   exact ⟨k + 1, b, by simpa using h1, h2⟩
theorem DefOk.each {ars : List Nat} {nested : Bool} {i : Nat} {d : De} (h : DefOk ars nested i d) (ha : ∀ a ∈ ars, a ≤ 2) : ∀ x ∈ eachD d, ∃ (a v : Fin 3) (w : Bool), GenE (paramsN a ++ varsN v) ars nested w x := by
 intro x hx
 obtain ⟨k, b, h1, h2⟩ := mem_plL hx
 obtain ⟨h3, h4⟩ := h.bodies k b h1
 obtain ⟨w, h5⟩ := gen_pl _ _ b (Nat.le_refl _) h3 x h2
 obtain ⟨a, v, _, h6⟩ := h.scope ha k
 exact ⟨a, v, w, by rw [← h6]; exact h5⟩
theorem CasesOk.heads {ars : List Nat} {nested : Bool} {ps : List ByteArray} {l : List (S62)} (h : CasesOk ars nested ps 6 l) : (l.map headC).Nodup ∧ (∀ c ∈ l, nameB c.f0 = true ∧ c.f0.size ≤ 4) ∧ l.length ≤ 6 := by
 have h6 : six.take 6 = six := by kernel_rfl
 have hs := h.sub
 rw [h6] at hs
 have hn := List.Sublist.nodup hs six_nodup
 refine ⟨?_, fun c hc => ?_, h.len⟩
 ·have e : l.map headC = (l.map fun c => (c.f0, c.f1.length)).map (fun p : ByteArray × Nat => (p.1, (p.2 : Int))) := by rw [List.map_map]; rfl
  rw [e]
  refine List.Pairwise.map _ (fun a b hab he => hab ?_) hn
  obtain ⟨a1, a2⟩ := a
  obtain ⟨b1, b2⟩ := b
  simp only [Prod.mk.injEq] at he ⊢
  exact ⟨he.1, by omega⟩
 ·have hm := hs.subset (List.mem_map.2 ⟨c, hc, rfl⟩)
  have := List.all_eq_true.1 six_nameB _ hm
  simp only [Bool.and_eq_true, decide_eq_true_eq] at this
  exact ⟨this.1.1, this.1.2⟩
theorem DefOk.few {ars : List Nat} {nested : Bool} {i : Nat} {d : De} (h : DefOk ars nested i d) : d.f2.length ≤ 6 := by
 rcases h.body with ⟨h1, _⟩ | ⟨_, _, _, h1⟩
 ·rw [h1]; simp
 ·exact h1.len
theorem DefOk.params {ars : List Nat} {nested : Bool} {i : Nat} {d : De} (h : DefOk ars nested i d) (ha : ∀ a ∈ ars, a ≤ 2) : ars[i]? = some d.f1.length ∧ d.f1.length ≤ 2 := by
 obtain ⟨a, h1, h2⟩ := h.ar
 rw [h2, paramsN_length]
 exact ⟨h1, ha _ (List.mem_of_getElem? h1)⟩
theorem DefOk.right {ars : List Nat} {nested : Bool} {i : Nat} {d : De} (h : DefOk ars nested i d) (ha : ∀ a ∈ ars, a ≤ 2) (hn : ars.length ≤ 6) : rightE d = 0 := by
 have hi : i < 6 := by have := (List.getElem?_eq_some_iff.1 (h.params ha).1).1; omega
 have e1 : decide ((4 : Int) < (d.f1.length : Int)) = false := decide_eq_false (by have := (h.params ha).2; omega)
 have e2 : decide ((6 : Int) < (d.f2.length : Int)) = false := decide_eq_false (by have := h.few; omega)
 have hcases : ∀ c ∈ d.f2, c.f1.length ≤ 2 ∧ nameB c.f0 = true ∧ c.f1 = varsN c.f1.length := by
  intro c hc
  rcases h.body with ⟨h1, _⟩ | ⟨_, _, _, h1⟩
  ·rw [h1] at hc; simp at hc
  ·have := h1.all c hc
   exact ⟨this.kl, (h1.heads.2.1 c hc).1, this.vs⟩
 have e3 : (d.f2.all fun c => decide (c.f1.length ≤ 4)) = true := List.all_eq_true.2 fun c hc => decide_eq_true (by have := (hcases c hc).1; omega)
 have e4 : ((bodiesD d).all fun b => decide (szE b ≤ 24)) = true := List.all_eq_true.2 fun b hb => decide_eq_true (by
  obtain ⟨k, hk⟩ := List.getElem?_of_mem hb
  have := (h.bodies k b hk).2; omega)
 have hE : ∀ x ∈ eachD d, fewB x = true ∧ kindB x = true ∧ nameB x.f1 = true := by
  intro x hx
  obtain ⟨a, v, w, hg⟩ := h.each ha x hx
  exact gen_right ha hn (scope_nameB a v) hg
 have e5 : (eachD d).all fewB = true := List.all_eq_true.2 fun x hx => (hE x hx).1
 have e6 : (eachD d).all kindB = true := List.all_eq_true.2 fun x hx => (hE x hx).2.1
 have e7 : nameB d.f0 = true := by rw [h.name]; exact nameN_nameB ⟨i, hi⟩
 obtain ⟨a, v, hp, hsc⟩ := h.scope ha 0
 have hpv := scope_nameB a 0
 have hpn := scope_nodup a 0
 have v0 : varsN (0 : Fin 3) = [] := rfl
 rw [v0, List.append_nil, ← hp] at hpv hpn
 have e8 : d.f1.all nameB = true := hpv
 have e9 : (d.f2.all fun c => nameB c.f0) = true := List.all_eq_true.2 fun c hc => (hcases c hc).2.1
 have hvs : ∀ c ∈ d.f2, (d.f1 ++ c.f1).Nodup ∧ c.f1.all nameB = true := by
  intro c hc
  obtain ⟨h1, _, h3⟩ := hcases c hc
  have n1 := scope_nodup a ⟨c.f1.length, by omega⟩
  have n2 := scope_nameB a ⟨c.f1.length, by omega⟩
  rw [← hp] at n1 n2
  simp only at n1 n2
  rw [← h3] at n1 n2
  rw [List.all_append, Bool.and_eq_true] at n2
  exact ⟨n1, n2.2⟩
 have e10 : (d.f2.all fun c => c.f1.all nameB) = true := List.all_eq_true.2 fun c hc => (hvs c hc).2
 have e11 : ((eachD d).all fun e => nameB e.f1) = true := List.all_eq_true.2 fun x hx => (hE x hx).2.2
 have e12 : twB d.f1 = false := by rw [twB, decide_eq_true hpn]; rfl
 have e13 : (d.f2.all fun c => !twB (d.f1 ++ c.f1)) = true := List.all_eq_true.2 fun c hc => by rw [twB, decide_eq_true (hvs c hc).1]; rfl
 have e14 : twB (d.f2.map headC) = false := by
  rw [twB, decide_eq_true]; rfl
  rcases h.body with ⟨h1, _⟩ | ⟨_, _, _, h1⟩
  ·rw [h1]; simp
  ·exact h1.heads.1
 have e15 : clashB d = false := by
  rw [clashB]
  rcases h.body with ⟨h1, _⟩ | ⟨_, h1, h2, _⟩
  ·rw [h1]; rfl
  ·rw [h2]
   have : d.f1.length ≠ 0 := fun h => h1 (List.length_eq_zero_iff.1 h)
   have : ((d.f1.length : Int) == 0) = false := by simp; omega
   rw [this]; simp
 have e16 : scopedD d = true := scopedD_yes fun k b hk hb => List.all_eq_true.2 fun x hx => by
  obtain ⟨h3, h4⟩ := h.bodies k b hb
  obtain ⟨w, h5⟩ := gen_pl _ _ b (Nat.le_refl _) h3 x hx
  exact gen_okV (fun s hs => hs) h5
 rw [rightE, rightD, e1, e2, e3, e4, e5, e6, e7, e8, e9, e10, e11, e12, e13, e14, e15, e16]
 rfl
theorem MadeOk.names {ars : List Nat} {nested : Bool} {ps : List De} (h : MadeOk ars nested ps) : ∀ (i : Nat) (d : De), ps[i]? = some d → d.f0 = nameN i ∧ i < 6 := fun i d hi =>
 ⟨(h.defs i d hi).name, by have := (List.getElem?_eq_some_iff.1 hi).1; have := h.len; have := h.n6; omega⟩
theorem MadeOk.nodup {ars : List Nat} {nested : Bool} {ps : List De} (h : MadeOk ars nested ps) : (ps.map (·.f0)).Nodup := by
 refine List.pairwise_iff_getElem.2 fun i j hi hj hij he => ?_
 rw [List.length_map] at hi hj
 rw [List.getElem_map, List.getElem_map] at he
 obtain ⟨h1, h2⟩ := h.names i _ (List.getElem?_eq_getElem hi)
 obtain ⟨h3, h4⟩ := h.names j _ (List.getElem?_eq_getElem hj)
 rw [h1, h3] at he
 have := nameN_inj ⟨i, h2⟩ ⟨j, h4⟩ he
 simp at this
 omega
theorem MadeOk.num {ars : List Nat} {nested : Bool} {ps : List De} (h : MadeOk ars nested ps) {i : Nat} (hi : i < ps.length) : numD ps (nameN i) = (i : Int) := by
 refine idxB_some (List.getElem?_eq_getElem hi) (decide_eq_true (h.names i _ (List.getElem?_eq_getElem hi)).1) fun j y hj hy => decide_eq_false fun he => ?_
 obtain ⟨h1, h2⟩ := h.names j y hy
 have h3 := (h.names i _ (List.getElem?_eq_getElem hi)).2
 rw [h1] at he
 have := nameN_inj ⟨j, h2⟩ ⟨i, h3⟩ he
 simp at this
 omega
theorem MadeOk.call {ars : List Nat} {nested : Bool} {ps : List De} (h : MadeOk ars nested ps) {vs : List ByteArray} {w : Bool} {x : Ex} (hg : GenE vs ars nested w x) : callErr ps x = 0 := by
 rw [genE_eq] at hg
 rcases hg with ⟨h1, h2, h3⟩ | ⟨h1, h2, h3⟩ | ⟨h1, _, ⟨n, h2, h3⟩, _⟩
 ·rw [callErr, if_neg (by omega)]
 ·rw [callErr, if_neg (by omega)]
 ·have hn : n < ps.length := by rw [h.len]; exact (List.getElem?_eq_some_iff.1 h2).1
  have hp := ((h.defs n _ (List.getElem?_eq_getElem hn)).params h.a2).1
  rw [h2] at hp
  have hp := Option.some.inj hp
  rw [callErr, if_pos h1, h3, h.num hn, if_neg (by omega), Int.toNat_natCast, List.getElem?_eq_getElem hn]
  simp only
  rw [if_pos (by omega)]
theorem MadeOk.check {ars : List Nat} {nested : Bool} {ps : List De} (h : MadeOk ars nested ps) : checkP ps = 0 := by
 have e1 : decide ((ps.length : Int) < 1) = false := decide_eq_false (by have := h.len; have := h.n0; omega)
 have e2 : decide ((12 : Int) < (ps.length : Int)) = false := decide_eq_false (by have := h.len; have := h.n6; omega)
 have e3 : firstErr rightE ps = 0 := firstErr_zero fun d hd => by
  obtain ⟨i, hi⟩ := List.getElem?_of_mem hd
  exact (h.defs i d hi).right h.a2 h.n6
 have e4 : twB (ps.map (·.f0)) = false := by rw [twB, decide_eq_true h.nodup]; rfl
 have e5 : firstErr (callsD ps) ps = 0 := firstErr_zero fun d hd => by
  obtain ⟨i, hi⟩ := List.getElem?_of_mem hd
  exact firstErr_zero fun x hx => by
   obtain ⟨a, v, w, hg⟩ := (h.defs i d hi).each h.a2 x hx
   exact h.call hg
 rw [checkP, e1, e2, if_pos e3, e4, e5]
 rfl
end Go.Proofs.YtacefdkfbpgedaaGreat.Mine
namespace Go.Proofs.YtacefdkfbpgedaaGreat.Mine
open Go.Proofs.YtacefdkfbpgedaaGreat.PProgSmall
open Go.RowKit Go.Shelf Go.Proofs.YtacefdkfbpgedaaGreatW.PrintWords Go.Proofs.YtacefdkfbpgedaaGreatW.PrintLast Go.Proofs.YtacefdkfbpgedaaGreatW.PrintMore
set_option linter.unusedVariables false
set_option linter.unusedSimpArgs false
theorem leftE_small (m : Nat) : ∀ (e : Ex) (n : Int), szE e ≤ m → (∀ x ∈ plE e, x.f1.size < 40) → (szE e : Int) ≤ n → leftE e n = n - szE e := by
 induction m with
 | zero => intro e n h; exact absurd h (by have := szE_pos e; omega)
 | succ m ih =>
  intro e n hm hs hn
  have key : ∀ (l : List Ex) (n : Int), szL l ≤ m → (∀ x ∈ plL l, x.f1.size < 40) → (szL l : Int) ≤ n → leftL l n = n - szL l := by
   intro l
   induction l with
   | nil => intro n _ _ _; simp [leftL, szL]
   | cons x xs ihl =>
    intro n h1 h2 h3
    rw [szL] at h1 h3 ⊢
    rw [plL] at h2
    have hx := ih x n (by omega) (fun y hy => h2 y (List.mem_append_left _ hy)) (by omega)
    rw [leftL, if_pos (by omega), hx, ihl _ (by omega) (fun y hy => h2 y (List.mem_append_right _ hy)) (by omega)]
    omega
  have hsz := szE_eq e
  have h0 := hs e (by rw [plE_eq]; exact List.mem_cons_self)
  rw [leftE_eq, key e.f2 _ (by omega) (fun x hx => hs x (by rw [plE_eq]; exact List.mem_cons_of_mem _ hx)) (by omega)]
  omega
theorem nameB_size {s : ByteArray} (h : nameB s = true) : s.size ≤ 8 := by
 unfold nameB at h
 simp only [Bool.and_eq_true, decide_eq_true_eq] at h
 exact h.1.2
theorem bigE_gen {vs : List ByteArray} {ars : List Nat} {nested : Bool} {e : Ex} (ha : ∀ a ∈ ars, a ≤ 2) (hn : ars.length ≤ 6) (hv : vs.all nameB = true) (h : GenE vs ars nested false e) (hs : szE e ≤ 7) : bigE e = false := by
 rw [bigE, leftE_small _ e 60 (Nat.le_refl _) (fun x hx => by
  obtain ⟨w, hg⟩ := gen_pl _ _ e (Nat.le_refl _) h x hx
  have := nameB_size (gen_right ha hn hv hg).2.2
  omega) (by omega)]
 exact decide_eq_false (by omega)
theorem DefOk.big {ars : List Nat} {nested : Bool} {i : Nat} {d : De} (h : DefOk ars nested i d) (ha : ∀ a ∈ ars, a ≤ 2) (hn : ars.length ≤ 6) : bigD d = false := by
 have hN : d.f0.size = 2 := by rw [h.name]; rfl
 have hlong : ∀ (l : List ByteArray), l.length ≤ 2 → (∀ s ∈ l, nameB s = true) → longS l = false := by
  intro l h1 h2
  rw [longS, decide_eq_false (by omega), Bool.false_or]
  exact List.any_eq_false.2 fun s hs => by have := nameB_size (h2 s hs); simp; omega
 have hsc : ∀ k, (scopeI d k).all nameB = true := fun k => by
  obtain ⟨a, v, _, h1⟩ := h.scope ha k
  rw [h1]; exact scope_nameB a v
 have hp : ∀ s ∈ d.f1, nameB s = true := fun s hs => List.all_eq_true.1 (hsc 0) s (by rw [scopeI]; exact List.mem_append_left _ hs)
 have hbd : ∀ (k : Nat) (b : Ex), (bodiesD d)[k]? = some b → bigE b = false := fun k b hb => by
  obtain ⟨h1, h2⟩ := h.bodies k b hb
  exact bigE_gen ha hn (hsc k) h1 h2
 have e1 : bigE d.f3 = false := by
  rcases h.body with ⟨h1, h2, h3⟩ | ⟨h1, h2, h3, h4⟩
  ·exact hbd 0 d.f3 (by rw [bodiesD, if_pos (by rw [h1]; rfl)]; rfl)
  ·rw [h3]; rfl
 have e2 : d.f2.any bigC = false := List.any_eq_false.2 fun c hc => by
  rcases h.body with ⟨h1, _⟩ | ⟨h1, h2, h3, h4⟩
  ·rw [h1] at hc; simp at hc
  ·have h5 := h4.all c hc
   have h6 := (h4.heads.2.1 c hc).2
   obtain ⟨k, hk⟩ := List.getElem?_of_mem hc
   have h7 : (bodiesD d)[k]? = some c.f2 := by rw [bodiesD, if_neg (by intro h; exact h1 (List.length_eq_zero_iff.1 h)), List.getElem?_map, hk]; rfl
   have h8 := hlong c.f1 h5.kl (fun s hs => List.all_eq_true.1 (hsc k) s (by rw [scopeI, hk]; exact List.mem_append_right _ hs))
   rw [bigC, h8, hbd k _ h7, decide_eq_false (by omega)]
   simp
 rw [bigD, hlong d.f1 (h.params ha).2 hp, e1, e2, decide_eq_false (by omega), decide_eq_false (by have := h.few; omega)]
 rfl
theorem MadeOk.big {ars : List Nat} {nested : Bool} {ps : List De} (h : MadeOk ars nested ps) : ∀ d ∈ ps, bigD d = false := fun d hd => by
 obtain ⟨i, hi⟩ := List.getElem?_of_mem hd
 exact (h.defs i d hi).big h.a2 h.n6
theorem numD_append {ps : List De} {t : List De} {s : ByteArray} (h : 0 ≤ numD ps s) : numD (ps ++ t) s = numD ps s := by
 unfold numD idxB at h ⊢
 split at h
 ·next ha =>
  rw [if_pos ha, if_pos (by rw [List.any_append, ha]; rfl), List.findIdx_append]
  obtain ⟨d, hd, e⟩ := List.any_eq_true.1 ha
  rw [if_pos (List.findIdx_lt_length_of_exists ⟨d, hd, e⟩)]
 ·omega
theorem callErr_append {ps t : List De} {x : Ex} (h : callErr ps x = 0) : callErr (ps ++ t) x = 0 := by
 unfold callErr at h ⊢
 by_cases h3 : x.f0 = 3
 ·rw [if_pos h3] at h ⊢
  by_cases hn : numD ps x.f1 < 0
  ·rw [if_pos hn] at h; simp at h
  ·rw [if_neg hn] at h
   rw [numD_append (by omega), if_neg hn]
   obtain ⟨i, h1, h2, _⟩ := numD_at (show 0 ≤ numD ps x.f1 by omega)
   rw [h1, Int.toNat_natCast] at h ⊢
   rw [List.getElem?_append_left h2]
   exact h
 ·rw [if_neg h3]
theorem MadeOk.calls {ars : List Nat} {nested : Bool} {ps : List De} (h : MadeOk ars nested ps) (t : List De) : firstErr (callsD (ps ++ t)) ps = 0 := firstErr_zero fun d hd => by
 obtain ⟨i, hi⟩ := List.getElem?_of_mem hd
 exact firstErr_zero fun x hx => by
  obtain ⟨a, v, w, hg⟩ := (h.defs i d hi).each h.a2 x hx
  exact callErr_append (h.call hg)
section
variable {ars : List Nat} {nested : Bool} {ps : List De} (h : MadeOk ars nested ps) (k : Fin 5)
include h
end
theorem known_step {ps : List De} (hc : checkP ps = 0) {out : List ByteArray} (hk : Known ps out) (s : ByteArray) : Known ps (addL out (callsOf ps s)) := fun x hx => by
 rcases addL_mem.1 hx with hx | hx
 ·exact hk x hx
 ·exact callsOf_known hc s x hx
end Go.Proofs.YtacefdkfbpgedaaGreat.Mine
namespace Go.Proofs.YtacefdkfbpgedaaGreat.Mine
open Go.Proofs.YtacefdkfbpgedaaGreat.PProgSmall
open Go.RowKit Go.Shelf Go.Proofs.YtacefdkfbpgedaaGreatW.PrintWords Go.Proofs.YtacefdkfbpgedaaGreatW.PrintLast Go.Proofs.YtacefdkfbpgedaaGreatW.PrintMore
set_option linter.unusedVariables false
set_option linter.unusedSimpArgs false
section
variable {ars : List Nat} {nested : Bool} {ps : List De} (h : MadeOk ars nested ps) {d : De} (hd : d ∈ ps)
include h
end
end Go.Proofs.YtacefdkfbpgedaaGreat.Mine
namespace Go.Proofs.YtacefdkfbpgedaaGreat.Mine
open Go.Proofs.YtacefdkfbpgedaaGreat.PProgSmall
open Go.RowKit Go.Shelf Go.Proofs.YtacefdkfbpgedaaGreatW.PrintWords Go.Proofs.YtacefdkfbpgedaaGreatW.PrintLast Go.Proofs.YtacefdkfbpgedaaGreatW.PrintMore
set_option linter.unusedVariables false
set_option linter.unusedSimpArgs false
end Go.Proofs.YtacefdkfbpgedaaGreat.Mine
namespace Go.Proofs.YtacefdkfbpgedaaGreat.Mine
open Go.Proofs.YtacefdkfbpgedaaGreat.PProgSmall
open Go.RowKit Go.Shelf Go.Proofs.YtacefdkfbpgedaaGreatW.PrintWords Go.Proofs.YtacefdkfbpgedaaGreatW.PrintLast Go.Proofs.YtacefdkfbpgedaaGreatW.PrintMore
set_option linter.unusedVariables false
set_option linter.unusedSimpArgs false
theorem addL_pre {l : List ByteArray} : ∀ {out : List ByteArray}, ∃ t, addL out l = out ++ t ∧ ∀ x ∈ t, x ∈ l := by
 induction l with
 | nil => intro out; exact ⟨[], by simp [addL], by simp⟩
 | cons y ys ih =>
  intro out
  obtain ⟨t, h1, h2⟩ := ih (out := onceL out y)
  have h3 : addL out (y :: ys) = onceL out y ++ t := h1
  unfold onceL at h3
  split at h3
  ·exact ⟨t, h3, fun x hx => List.mem_cons_of_mem _ (h2 x hx)⟩
  ·refine ⟨y :: t, by rw [h3]; simp, fun x hx => ?_⟩
   rcases List.mem_cons.1 hx with rfl | hx
   ·exact List.mem_cons_self
   ·exact List.mem_cons_of_mem _ (h2 x hx)
structure RInv (ps : List De) (s0 : ByteArray) (i : Nat) (out : List ByteArray) : Prop where
 known : Known ps out
 nodup : out.Nodup
 first : out[0]? = some s0
 closed : ∀ (j : Nat) (s : ByteArray), j < i → out[j]? = some s → ∀ y ∈ callsOf ps s, y ∈ out
 least : ∀ (k : Nat) (y : ByteArray), 0 < k → out[k]? = some y → ∃ (j : Nat) (s : ByteArray), j < k ∧ out[j]? = some s ∧ y ∈ callsOf ps s
theorem RInv.step {ps : List De} (hc : checkP ps = 0) {s0 : ByteArray} {i : Nat} {out : List ByteArray} (h : RInv ps s0 i out) {s : ByteArray} (hs : out[i]? = some s) : RInv ps s0 (i + 1) (addL out (callsOf ps s)) := by
 obtain ⟨t, ht, htm⟩ := addL_pre (l := callsOf ps s) (out := out)
 have hil := (List.getElem?_eq_some_iff.1 hs).1
 have old : ∀ {j : Nat}, j < out.length → (addL out (callsOf ps s))[j]? = out[j]? := fun hj => by rw [ht, List.getElem?_append_left hj]
 refine ⟨known_step hc h.known s, addL_nodup h.nodup, ?_, ?_, ?_⟩
 ·rw [old (by omega)]; exact h.first
 ·intro j s' hj he y hy
  rw [old (by omega)] at he
  rcases Nat.lt_or_ge j i with h1 | h1
  ·exact addL_mem.2 (.inl (h.closed j s' h1 he y hy))
  ·have : j = i := by omega
   subst this
   rw [he] at hs
   obtain rfl := Option.some.inj hs
   exact addL_mem.2 (.inr hy)
 ·intro k y hk he
  rcases Nat.lt_or_ge k out.length with h1 | h1
  ·rw [old h1] at he
   obtain ⟨j, s', h2, h3, h4⟩ := h.least k y hk he
   exact ⟨j, s', h2, by rw [old (by omega)]; exact h3, h4⟩
  ·rw [ht, List.getElem?_append_right h1] at he
   exact ⟨i, s, by omega, by rw [old hil]; exact hs, htm y (List.mem_of_getElem? he)⟩
theorem RInv.all {ps : List De} {s0 : ByteArray} {out : List ByteArray} (h : RInv ps s0 out.length out) {s : ByteArray} (hs : s ∈ out) : ∀ y ∈ callsOf ps s, y ∈ out := by
 obtain ⟨j, hj⟩ := List.getElem?_of_mem hs
 exact h.closed j s (List.getElem?_eq_some_iff.1 hj).1 hj
section
variable {ps : List De} (hc : checkP ps = 0) (hn : (ps.map (·.f0)).Nodup) (hr : ∀ d ∈ ps, rightE d = 0) (h12 : ps.length ≤ 12) {s0 : ByteArray} (h0 : 0 ≤ numD ps s0)
include hn in
include hc h0 in
include hc hn h0 in
include hc h0 in
include hc h0 in
include hn in
include hc hn hr h12 h0 in
include hc hn h0 in
include hc hn hr h12 h0 in
include hc hn hr h12 h0 in
include hc hn hr h12 h0 in
end
end Go.Proofs.YtacefdkfbpgedaaGreat.Mine
namespace Go.Proofs.YtacefdkfbpgedaaGreat.Mine
open Go.Proofs.YtacefdkfbpgedaaGreat.PProgSmall
open Go.RowKit Go.Shelf Go.Proofs.YtacefdkfbpgedaaGreatW.PrintWords Go.Proofs.YtacefdkfbpgedaaGreatW.PrintLast Go.Proofs.YtacefdkfbpgedaaGreatW.PrintMore
set_option linter.unusedVariables false
set_option linter.unusedSimpArgs false
def mkTo (s : ByteArray) (n : Int) (x : Ex) : Bool := (x.f0 == 2) && (decide (x.f1 = s) && ((x.f2.length : Int) == n))
def hasH (s : ByteArray) (n : Int) (d : De) : Bool := d.f2.any (isHead s n) || (bodiesD d).any (anyE (mkTo s n))
theorem mkTo_eq {s : ByteArray} {n : Int} {x : Ex} : mkTo s n x = true ↔ x.f0 = 2 ∧ x.f1 = s ∧ (x.f2.length : Int) = n := by simp [mkTo]
theorem isHead_iff {s : ByteArray} {n : Int} {c : Ca} : isHead s n c = true ↔ c.f0 = s ∧ (c.f1.length : Int) = n := by simp [isHead]
theorem eqH_iff {x y : He} : eqH x y = true ↔ y = x := by
 rw [eqH, Bool.and_eq_true]
 refine ⟨fun ⟨h1, h2⟩ => ?_, fun h => by subst h; simp⟩
 obtain ⟨a, b⟩ := x; obtain ⟨c, d⟩ := y
 simp at h1 h2
 rw [h1, h2]
theorem onceHL_mem {l : List He} {x y : He} : y ∈ onceHL l x ↔ y ∈ l ∨ y = x := by
 unfold onceHL
 split
 ·next h =>
  obtain ⟨z, hz, he⟩ := List.any_eq_true.1 h
  rw [eqH_iff] at he
  refine ⟨.inl, fun h => ?_⟩
  rcases h with h | h
  ·exact h
  ·rw [h, ← he]; exact hz
 ·simp
theorem onceHL_nodup {l : List He} {x : He} (h : l.Nodup) : (onceHL l x).Nodup := by
 unfold onceHL
 split
 ·exact h
 ·next hn =>
  rw [List.nodup_append]
  refine ⟨h, by simp, fun a ha b hb he => hn ?_⟩
  rw [List.mem_singleton.1 hb] at he
  exact List.any_eq_true.2 ⟨a, ha, eqH_iff.2 he⟩
theorem headB_mem {l : List He} {e : Ex} {y : He} : y ∈ headB l e ↔ y ∈ l ∨ mkTo y.f0 y.f1 e = true := by
 unfold headB
 rw [mkTo_eq]
 split
 ·next h =>
  rw [onceHL_mem]
  obtain ⟨a, b⟩ := y
  refine or_congr_right ⟨fun h1 => ?_, fun ⟨_, h2, h3⟩ => ?_⟩
  ·injection h1 with h2 h3
   exact ⟨h, h2.symm, h3.symm⟩
  ·have h2 : e.f1 = a := h2
   have h3 : (e.f2.length : Int) = b := h3
   rw [h2, h3]
 ·next h => exact ⟨.inl, fun h1 => h1.elim id fun h2 => absurd h2.1 h⟩
theorem headB_nodup {l : List He} {e : Ex} (h : l.Nodup) : (headB l e).Nodup := by
 unfold headB
 split
 ·exact onceHL_nodup h
 ·exact h
theorem headCa_mem {d : De} {i : Nat} {l : List He} {y : He} : y ∈ headCa d i l ↔ y ∈ l ∨ ∃ c, d.f2[i]? = some c ∧ isHead y.f0 y.f1 c = true := by
 unfold headCa
 split
 ·next c hc =>
  rw [onceHL_mem]
  obtain ⟨a, b⟩ := y
  refine or_congr_right ⟨fun h1 => ?_, fun ⟨c', hc', h2⟩ => ?_⟩
  ·injection h1 with h2 h3
   exact ⟨c, hc, isHead_iff.2 ⟨h2.symm, h3.symm⟩⟩
  ·rw [hc] at hc'
   obtain rfl := Option.some.inj hc'
   obtain ⟨h3, h4⟩ := isHead_iff.1 h2
   have h3 : c.f0 = a := h3
   have h4 : (c.f1.length : Int) = b := h4
   rw [h3, h4]
 ·next hn => exact ⟨.inl, fun h1 => h1.elim id fun ⟨c, hc, _⟩ => absurd hc (by rw [hn]; simp)⟩
theorem foldl_mem {α : Type} {f : List He → α → List He} {P : α → He → Prop} (hf : ∀ l x y, y ∈ f l x ↔ y ∈ l ∨ P x y) : ∀ (xs : List α) (l : List He) (y : He), y ∈ xs.foldl f l ↔ y ∈ l ∨ ∃ x ∈ xs, P x y
 | [], l, y => by simp
 | x :: xs, l, y => by
  rw [List.foldl_cons, foldl_mem hf xs, hf, or_assoc]
  simp only [List.mem_cons, exists_eq_or_imp]
theorem foldl_nodup {α : Type} {f : List He → α → List He} (hf : ∀ l x, l.Nodup → (f l x).Nodup) : ∀ (xs : List α) (l : List He), l.Nodup → (xs.foldl f l).Nodup
 | [], l, h => h
 | x :: xs, l, h => foldl_nodup hf xs _ (hf l x h)
theorem headI_nodup {d : De} {l : List He} {i : Nat} (h : l.Nodup) : (headI d l i).Nodup := by
 unfold headI
 split
 ·refine foldl_nodup (fun l x h => headB_nodup h) _ _ ?_
  unfold headCa
  split
  ·exact onceHL_nodup h
  ·exact h
 ·exact h
theorem headI_mem {d : De} {l : List He} {i : Nat} {y : He} : y ∈ headI d l i ↔ y ∈ l ∨ ∃ b, (bodiesD d)[i]? = some b ∧ (anyE (mkTo y.f0 y.f1) b = true ∨ ∃ c, d.f2[i]? = some c ∧ isHead y.f0 y.f1 c = true) := by
 unfold headI
 split
 ·next b hb =>
  rw [foldl_mem (P := fun e y => mkTo y.f0 y.f1 e = true) (fun l x y => headB_mem), headCa_mem, or_assoc]
  refine or_congr_right ⟨fun h => ⟨b, hb, ?_⟩, fun ⟨b', hb', h⟩ => ?_⟩
  ·rcases h with h | h
   ·exact .inr h
   ·exact .inl (List.any_eq_true.2 h)
  ·rw [hb] at hb'
   obtain rfl := Option.some.inj hb'
   rcases h with h | h
   ·exact .inr (List.any_eq_true.1 h)
   ·exact .inl h
 ·next hn => exact ⟨.inl, fun h1 => h1.elim id fun ⟨b, hb, _⟩ => absurd hb (by rw [hn]; simp)⟩
theorem headD_mem {d : De} {l : List He} {y : He} : y ∈ headD l d ↔ y ∈ l ∨ hasH y.f0 y.f1 d = true := by
 rw [headD, headK, foldl_mem (P := fun i y => ∃ b, (bodiesD d)[i]? = some b ∧ (anyE (mkTo y.f0 y.f1) b = true ∨ ∃ c, d.f2[i]? = some c ∧ isHead y.f0 y.f1 c = true)) (fun l i y => headI_mem), hasH, Bool.or_eq_true, List.any_eq_true, List.any_eq_true]
 refine or_congr_right ⟨fun ⟨i, hi, b, hb, h⟩ => ?_, fun h => ?_⟩
 ·rcases h with h | ⟨c, hc, h⟩
  ·exact .inr ⟨b, List.mem_of_getElem? hb, h⟩
  ·exact .inl ⟨c, List.mem_of_getElem? hc, h⟩
 ·rcases h with ⟨c, hc, h⟩ | ⟨b, hb, h⟩
  ·obtain ⟨i, hi⟩ := List.getElem?_of_mem hc
   have hl := (List.getElem?_eq_some_iff.1 hi).1
   have hb : (bodiesD d)[i]? = some c.f2 := by rw [bodiesD, if_neg (by omega), List.getElem?_map, hi]; rfl
   exact ⟨i, List.mem_range.2 (List.getElem?_eq_some_iff.1 hb).1, c.f2, hb, .inr ⟨c, hi, h⟩⟩
  ·obtain ⟨i, hi⟩ := List.getElem?_of_mem hb
   exact ⟨i, List.mem_range.2 (List.getElem?_eq_some_iff.1 hi).1, b, hi, .inl h⟩
theorem heads_mem {ps : List De} {y : He} : y ∈ headsP ps ↔ ps.any (hasH y.f0 y.f1) = true := by
 rw [headsP, foldl_mem (P := fun d y => hasH y.f0 y.f1 d = true) (fun l d y => headD_mem), List.any_eq_true]
 simp
theorem heads_nodup (ps : List De) : (headsP ps).Nodup :=
 foldl_nodup (fun l d h => foldl_nodup (fun l i h => headI_nodup h) _ _ h) _ _ (by simp)
theorem heads_two {ps : List De} {i k : Nat} {x y : He} (hx : (headsP ps)[i]? = some x) (hy : (headsP ps)[k]? = some y) (hk : k < i) : (decide (y.f0 = x.f0) && (y.f1 == x.f1)) = false := by
 rw [Bool.and_eq_false_imp]
 intro h1
 rw [beq_eq_false_iff_ne]
 intro h2
 have h1 := of_decide_eq_true h1
 have e : x = y := by obtain ⟨a, b⟩ := x; obtain ⟨c, d⟩ := y; simp at h1 h2; rw [h1, h2]
 subst e
 have := (List.getElem?_inj (List.getElem?_eq_some_iff.1 hx).1 (heads_nodup ps)).1 (hx.trans hy.symm)
 omega
def isCall (x : Ex) : Bool := x.f0 == 3
def outE (e : Ex) : Bool := (e.f0 == 3) && e.f2.any (anyE isCall)
def withinD (d : De) : Bool := (bodiesD d).any (anyE outE)
theorem kdOf3 (k : Int) : (kdOf k == 3) = (k == 3) := by
 unfold kdOf
 by_cases h : k = 3
 ·subst h; rfl
 ·rw [show (k == 3) = false by simpa using h]
  rw [beq_eq_false_iff_ne]
  split <;> omega
theorem callIn_any (e : Ex) : callIn e = anyE isCall e := by
 rw [callIn, anyE]
 unfold cntK
 cases h : (plE e).any isCall with
 | true =>
  obtain ⟨x, hx, h3⟩ := List.any_eq_true.1 h
  have : 0 < ((plE e).filter (fun x => kdOf x.f0 == 3)).length := List.length_pos_of_mem (a := x) (List.mem_filter.2 ⟨hx, by rw [kdOf3]; exact h3⟩)
  rw [decide_eq_true]
  omega
 | false =>
  have : (plE e).filter (fun x => kdOf x.f0 == 3) = [] := List.filter_eq_nil_iff.2 fun x hx => by
   rw [kdOf3]
   have := List.any_eq_false.1 h x hx
   exact this
  rw [this]; rfl
theorem outer_eq (e : Ex) : outerB e = !outE e := by
 rw [outerB, outE, Bool.not_and, show e.f2.any callIn = e.f2.any (anyE isCall) from by congr 1; funext x; exact callIn_any x]
 rfl
theorem simpleD_eq (d : De) : simpleD d = !withinD d := by
 rw [simpleD, withinD, ← any_plL, show (plL (bodiesD d)) = eachD d from rfl, List.not_any_eq_all_not]
 congr 1; funext e; exact outer_eq e
theorem simple_eq {ps : List De} (hc : checkP ps = 0) : simpleP ps = !ps.any withinD := by
 rw [simpleP, if_pos hc, List.not_any_eq_all_not]
 congr 1; funext d; exact simpleD_eq d
theorem gen_within {vs : List ByteArray} {ars : List Nat} (m : Nat) : ∀ (e : Ex), szE e ≤ m → GenE vs ars false true e → anyE isCall e = false := by
 induction m with
 | zero => intro e h; exact absurd h (by have := szE_pos e; omega)
 | succ m ih =>
  intro e hm h
  have hs := szE_eq e
  rw [genE_eq] at h
  rw [anyE_eq, Bool.or_eq_false_iff]
  rcases h with ⟨h1, h2, _⟩ | ⟨h1, _, h3⟩ | ⟨_, h2, _⟩
  ·exact ⟨by rw [isCall, h1]; rfl, by rw [h2]; rfl⟩
  ·exact ⟨by rw [isCall, h1]; rfl, List.any_eq_false.2 fun x hx => by rw [Bool.not_eq_true]; exact ih x (by have := szE_mem hx; omega) (genL_iff.1 h3 x hx)⟩
  ·rcases h2 with h2 | h2 <;> cases h2
theorem gen_simple {vs : List ByteArray} {ars : List Nat} (m : Nat) : ∀ (w : Bool) (e : Ex), szE e ≤ m → GenE vs ars false w e → anyE outE e = false := by
 induction m with
 | zero => intro w e h; exact absurd h (by have := szE_pos e; omega)
 | succ m ih =>
  intro w e hm h
  have hs := szE_eq e
  rw [genE_eq] at h
  rw [anyE_eq, Bool.or_eq_false_iff]
  rcases h with ⟨h1, h2, _⟩ | ⟨h1, _, h3⟩ | ⟨h1, _, _, h3⟩
  ·exact ⟨by rw [outE, h1]; rfl, by rw [h2]; rfl⟩
  ·exact ⟨by rw [outE, h1]; rfl, List.any_eq_false.2 fun x hx => by rw [Bool.not_eq_true]; exact ih w x (by have := szE_mem hx; omega) (genL_iff.1 h3 x hx)⟩
  ·refine ⟨?_, List.any_eq_false.2 fun x hx => by rw [Bool.not_eq_true]; exact ih true x (by have := szE_mem hx; omega) (genL_iff.1 h3 x hx)⟩
   rw [outE, show e.f2.any (anyE isCall) = false from List.any_eq_false.2 fun x hx => by rw [Bool.not_eq_true]; exact gen_within m x (by have := szE_mem hx; omega) (genL_iff.1 h3 x hx), Bool.and_false]
theorem made_simple {ars : List Nat} {ps : List De} (h : MadeOk ars false ps) : simpleP ps = true := by
 rw [simple_eq h.check, Bool.not_eq_true', List.any_eq_false]
 intro d hd
 rw [Bool.not_eq_true, withinD, List.any_eq_false]
 intro b hb
 obtain ⟨i, hi⟩ := List.getElem?_of_mem hd
 obtain ⟨k, hk⟩ := List.getElem?_of_mem hb
 rw [Bool.not_eq_true]
 exact gen_simple _ false b (Nat.le_refl _) ((h.defs i d hi).bodies k b hk).1
theorem pick_case {ars : List Nat} {nested : Bool} {i : Nat} {d : De} (h : DefOk ars nested i d) {k : Nat} {c : Ca} (hk : d.f2[k]? = some c) : pickP d c.f0 (c.f1.length : Int) = ((k : Int), 0) := by
 have hn : (d.f2.map headC).Nodup := by
  rcases h.body with ⟨h1, _⟩ | ⟨_, _, _, h1⟩
  ·rw [h1]; simp
  ·exact h1.heads.1
 have : idxB (isHead c.f0 (c.f1.length : Int)) d.f2 = (k : Int) := by
  refine idxB_some hk (isHead_iff.2 ⟨rfl, rfl⟩) fun j y hj hy => ?_
  cases hb : isHead c.f0 (c.f1.length : Int) y with
  | false => rfl
  | true =>
   obtain ⟨h1, h2⟩ := isHead_iff.1 hb
   have e1 : (d.f2.map headC)[j]? = some (headC c) := by rw [List.getElem?_map, hy]; show some (headC y) = _; rw [headC, headC, h1, h2]
   have e2 : (d.f2.map headC)[k]? = some (headC c) := by rw [List.getElem?_map, hk]; rfl
   have := (List.getElem?_inj (by rw [List.length_map]; exact (List.getElem?_eq_some_iff.1 hy).1) hn).1 (e1.trans e2.symm)
   omega
 rw [pickP, this, if_neg (by omega)]
end Go.Proofs.YtacefdkfbpgedaaGreat.Mine
namespace Go.Proofs.YtacefdkfbpgedaaGreat.Mine
open Go.Proofs.YtacefdkfbpgedaaGreat.PProgSmall
open Go.RowKit Go.Shelf Go.Proofs.YtacefdkfbpgedaaGreatW.PrintWords Go.Proofs.YtacefdkfbpgedaaGreatW.PrintLast Go.Proofs.YtacefdkfbpgedaaGreatW.PrintMore
set_option linter.unusedVariables false
set_option linter.unusedSimpArgs false
set_option maxRecDepth 100000
set_option maxHeartbeats 2000000 in
theorem c_Hd1121 (x : Ex) (cs : List Value) (Bs Bn : Nat) (s : ByteArray) (n : Int) (w : World) (hK : k57.K w x cs) (h1 : w.heap[Bs]? = some (.cells #[.string s] 9 (0, 0))) (h2 : w.heap[Bn]? = some (.cells #[.int .i64 n] 3 (0, 0))) :
  Calls Tryz.prog 36 #[.agg cs.toArray, .pointer (some ⟨Bs, 0, none⟩), .pointer (some ⟨Bn, 0, none⟩)] w fun en w' => en = .returned (.bool (mkTo s n x)) ∧ Below w.heap.size w w' := by
 obtain ⟨A2, a2, rfl, hl2, hc2⟩ := k57_open hK
 have e1 := cell_of_one h1
 have e2 := cell_of_one h2
 have hl1 := lt_of_block h1
 have hl3 := lt_of_block h2
 have hn1 : ¬ (Bs = w.heap.size) := by omega
 have hn2 : ¬ (Bn = w.heap.size) := by omega
 have hm := hc2.2.1
 clear hK hc2 h1 h2
 have he := sEq x.f1 s
 cases h3 : (x.f0 == 2) with
 | true =>
  cases h4 : decide (x.f1 = s) with
  | true =>
   rw [h4] at he
   have HX := Lib.hid (show mkTo s n x = ((x.f2.length : Int) == n) by rw [mkTo, h3, h4, Bool.true_and, Bool.true_and])
   go_enter Tryz.func36, Tryz.ntmps36
   go_wp2
   go_ret
   exact ⟨retb HX.out.symm, below_alloc1 _ _⟩
  | false =>
   rw [h4] at he
   have HX := Lib.hid (show mkTo s n x = false by rw [mkTo, h3, h4, Bool.true_and, Bool.false_and])
   go_enter Tryz.func36, Tryz.ntmps36
   go_wp2
   go_ret
   exact ⟨retb HX.out.symm, below_alloc1 _ _⟩
 | false =>
  have HX := Lib.hid (show mkTo s n x = false by rw [mkTo, h3, Bool.false_and])
  go_enter Tryz.func36, Tryz.ntmps36
  go_wp2
  go_ret
  exact ⟨retb HX.out.symm, below_alloc1 _ _⟩
set_option maxHeartbeats 2000000 in
theorem c_Hd112 (x : Ex) (cs : List Value) (Bs Bn : Nat) (s : ByteArray) (n : Int) (w : World) (hK : k57.K w x cs) (h1 : w.heap[Bs]? = some (.cells #[.string s] 9 (0, 0))) (h2 : w.heap[Bn]? = some (.cells #[.int .i64 n] 3 (0, 0))) :
  Calls Tryz.prog 34 #[.agg cs.toArray, .pointer (some ⟨Bs, 0, none⟩), .pointer (some ⟨Bn, 0, none⟩)] w fun en w' => en = .returned (.bool (anyE (mkTo s n) x)) ∧ Below w.heap.size w w' := by
 obtain ⟨A2, a2, rfl, hl2, hc2⟩ := k57_open hK
 have q := below_alloc1 w (.cells #[.int .i64 x.f0, .string x.f1, .slice A2 x.f2.length a2] 57)
 have HC := Lib.hid (c_lin (w.alloc (.cells #[.int .i64 x.f0, .string x.f1, .slice A2 x.f2.length a2] 57)) 36 #[.pointer (some ⟨Bs, 0, none⟩), .pointer (some ⟨Bn, 0, none⟩)] (enters_of Tryz.func36 (by kernel_rfl) rfl) (mkTo s n) (fun y cy W hb hKy => c_Hd1121 y cy Bs Bn s n W hKy (blk_below (blk_below h1 q) hb) (blk_below (blk_below h2 q) hb)) _ x _ _ (Nat.le_refl _) (Below.refl _ _) (k57_mk _ x hl2 (Kd.C_below hc2 q)))
 have HQ := Lib.hid q
 clear hK hc2 h1 h2 q
 go_enter Tryz.func34, Tryz.ntmps34
 go_wp2_with fail
 refine HC.out.mono ?_
 rintro en w' ⟨rfl, hb⟩
 go_wp2
 go_ret
 exact ⟨rfl, HQ.out.trans (hb.mono HQ.out.size)⟩
set_option maxHeartbeats 2000000 in
theorem c_Hd111 (x : Ca) (cs : List Value) (Bs Bn : Nat) (s : ByteArray) (n : Int) (w : World) (hK : k62.K w x cs) (h1 : w.heap[Bs]? = some (.cells #[.string s] 9 (0, 0))) (h2 : w.heap[Bn]? = some (.cells #[.int .i64 n] 3 (0, 0))) :
  Calls Tryz.prog 31 #[.agg cs.toArray, .pointer (some ⟨Bs, 0, none⟩), .pointer (some ⟨Bn, 0, none⟩)] w fun en w' => en = .returned (.bool (isHead s n x)) ∧ Below w.heap.size w w' := by
 obtain ⟨X1, x1, X4, x4, rfl, m1, G1, m4, G4⟩ := k62_open hK
 have hm1 := G1.2.1
 have e1 := cell_of_one h1
 have e2 := cell_of_one h2
 have hl1 := lt_of_block h1
 have hl3 := lt_of_block h2
 have hn1 : ¬ (Bs = w.heap.size) := by omega
 have hn2 : ¬ (Bn = w.heap.size) := by omega
 clear hK h1 h2 G1 G4 m1 m4
 have he := sEq x.f0 s
 cases h4 : decide (x.f0 = s) with
 | true =>
  rw [h4] at he
  have HX := Lib.hid (show isHead s n x = ((x.f1.length : Int) == n) by rw [isHead, h4, Bool.true_and])
  go_enter Tryz.func31, Tryz.ntmps31
  go_wp2
  go_ret
  exact ⟨retb HX.out.symm, below_alloc1 _ _⟩
 | false =>
  rw [h4] at he
  have HX := Lib.hid (show isHead s n x = false by rw [isHead, h4, Bool.false_and])
  go_enter Tryz.func31, Tryz.ntmps31
  go_wp2
  go_ret
  exact ⟨retb HX.out.symm, below_alloc1 _ _⟩
set_option maxHeartbeats 4000000 in
theorem c_Hd11 (d : De) (cs : List Value) (Bs Bn : Nat) (s : ByteArray) (n : Int) (w : World) (hK : k59.K w d cs) (hl : d.f2.length ≤ 1000000) (h1 : w.heap[Bs]? = some (.cells #[.string s] 9 (0, 0))) (h2 : w.heap[Bn]? = some (.cells #[.int .i64 n] 3 (0, 0))) :
  Calls Tryz.prog 29 #[.agg cs.toArray, .pointer (some ⟨Bs, 0, none⟩), .pointer (some ⟨Bn, 0, none⟩)] w fun en w' => en = .returned (.bool (hasH s n d)) ∧ Below w.heap.size w w' := by
 have hFd := K_FK k59_heap hK
 obtain ⟨A1, c1, A2, c2, A5, c5, rfl, l1, F1, l2, F2, l5, F5⟩ := k59_open hK
 obtain ⟨W1, hW1⟩ : ∃ W1, w.alloc (.cells #[.string d.f0, .slice A1 d.f1.length c1, .slice A2 d.f2.length c2, .int .i64 d.f3.f0, .string d.f3.f1, .slice A5 d.f3.f2.length c5] 59) = W1 := ⟨_, rfl⟩
 have q1 : Below w.heap.size w W1 := by rw [← hW1]; exact below_alloc1 _ _
 have bD : W1.heap[w.heap.size]? = some (.cells #[.string d.f0, .slice A1 d.f1.length c1, .slice A2 d.f2.length c2, .int .i64 d.f3.f0, .string d.f3.f1, .slice A5 d.f3.f2.length c5] 59 (0, 0)) := by rw [← hW1]; exact alloc_at _ _
 have BD := Aside0.mk bD
 have HQ := Aside0.mk q1
 have B1 := Aside0.mk (blk_below h1 q1)
 have B2 := Aside0.mk (blk_below h2 q1)
 have HFD := Lib.hid (Kd.FK_mono (Kd.FK_below hFd q1) (ok' := fun k => k < W1.heap.size) (fun k hk => by have := q1.size; omega))
 have HC := Lib.hid (hasC_p A2 c2 d.f2 W1 l2 (Kd.C_below F2 q1) 31 #[.pointer (some ⟨Bs, 0, none⟩), .pointer (some ⟨Bn, 0, none⟩)] (enters_of Tryz.func31 (by kernel_rfl) rfl) (isHead s n) (fun x cx W _ hKx hb => c_Hd111 x cx Bs Bn s n W hKx (blk_below B1.out hb) (blk_below B2.out hb)))
 have k2 := (blk_cell bD 2).trans rfl
 have HW1 := Lib.hid hW1
 clear hK hFd F1 F2 F5 q1 bD h1 h2 hW1
 obtain ⟨b, hb0⟩ : ∃ b, d.f2.any (isHead s n) = b := ⟨_, rfl⟩
 rw [hb0] at HC
 have HB0 := Lib.hid hb0
 clear hb0
 go_enter Tryz.func29, Tryz.ntmps29
 go_upto_region 1 with fail
 rw [HW1.out]
 clear HW1
 go_wp2_with fail
 refine HC.out.mono ?_
 rintro en w2 ⟨rfl, hb⟩
 have HQ2 := Aside0.mk (HQ.out.trans (hb.mono HQ.out.size))
 have BD2 := Aside0.mk (blk_below BD.out hb)
 have B12 := Aside0.mk (blk_below B1.out hb)
 have B22 := Aside0.mk (blk_below B2.out hb)
 have HFD2 := Lib.hid (Kd.FK_mono (Kd.FK_below HFD.out hb) (ok' := fun k => k < w2.heap.size) (fun k hk => by have := hb.size; omega))
 clear hb k2 HC HFD B1 B2 BD
 cases b with
 | true =>
  go_wp2_with fail
  go_ret
  exact ⟨retb (show true = hasH s n d by rw [hasH, HB0.out, Bool.true_or]), HQ2.out⟩
 | false =>
  have HBo := Lib.hid (c_lbodies d _ (fun k => k < w2.heap.size) w2 HFD2.out hl)
  have d0 := (blk_cell BD2.out 0).trans rfl
  have d1 := (blk_cell BD2.out 1).trans rfl
  have d2 := (blk_cell BD2.out 2).trans rfl
  have d3 := (blk_cell BD2.out 3).trans rfl
  have d4 := (blk_cell BD2.out 4).trans rfl
  have d5 := (blk_cell BD2.out 5).trans rfl
  go_wp2_with fail
  refine HBo.out.mono ?_
  rintro en w3 ⟨v, rfl, hN, hb⟩
  obtain ⟨Ae, ce, rfl, hce, hCe⟩ := RowN.reads hN (fun k hk hlt => hb.block k hlt)
  have HHa := Lib.hid (hasE_p Ae ce (bodiesD d) w3 hce hCe 34 #[.pointer (some ⟨Bs, 0, none⟩), .pointer (some ⟨Bn, 0, none⟩)] (enters_of Tryz.func34 (by kernel_rfl) rfl) (anyE (mkTo s n)) (fun y cy W2 hy hKy hb2 => c_Hd112 y cy Bs Bn s n W2 hKy (blk_below (blk_below B12.out hb) hb2) (blk_below (blk_below B22.out hb) hb2)))
  have HQ3 := Aside0.mk (HQ2.out.trans (hb.mono HQ2.out.size))
  clear hb hN hCe HBo d0 d1 d2 d3 d4 d5
  go_wp2_with fail
  refine HHa.out.mono ?_
  rintro en w4 ⟨rfl, hb⟩
  go_wp2_with fail
  go_ret
  exact ⟨retb (show (bodiesD d).any (anyE (mkTo s n)) = hasH s n d by rw [hasH, HB0.out, Bool.false_or]), HQ3.out.trans (hb.mono HQ3.out.size)⟩
set_option maxHeartbeats 4000000 in
theorem c_Hd1 (ps : List De) (A : Option Addr) (c : Nat) (Bp : Nat) (s : ByteArray) (n : Int) (w : World) (hr : Kd.C k59 w A ps.length ps) (hc : ps.length ≤ c) (hl : ∀ d ∈ ps, d.f2.length ≤ 1000000) (hp : w.heap[Bp]? = some (.cells #[.slice A ps.length c] 24 (0, 0))) :
  Calls Tryz.prog 27 #[.string s, .int .i64 n, .pointer (some ⟨Bp, 0, none⟩)] w fun en w' => en = .returned (.bool (ps.any (hasH s n))) ∧ Below w.heap.size w w' := by
 obtain ⟨W2, hW2⟩ : ∃ W2, (w.alloc (.cells #[.string s] 9)).alloc (.cells #[.int .i64 n] 3) = W2 := ⟨_, rfl⟩
 have q2 : Below w.heap.size w W2 := by rw [← hW2]; exact below_alloc2 _ _ _
 have bS : W2.heap[w.heap.size]? = some (.cells #[.string s] 9 (0, 0)) := by rw [← hW2]; exact blk_alloc (alloc_at _ _) _
 have bN : W2.heap[w.heap.size + 1]? = some (.cells #[.int .i64 n] 3 (0, 0)) := by rw [← hW2]; have := alloc_at (w.alloc (.cells #[.string s] 9)) (.cells #[.int .i64 n] 3); rw [World.size_alloc] at this; exact this
 have HC := Lib.hid (hasD_p A c ps W2 hc (Kd.C_below hr q2) 29 #[.pointer (some ⟨w.heap.size, 0, none⟩), .pointer (some ⟨w.heap.size + 1, 0, none⟩)] (enters_of Tryz.func29 (by kernel_rfl) rfl) (hasH s n) (fun x cx W hx hKx hb => c_Hd11 x cx _ _ s n W hKx (hl x hx) (blk_below bS hb) (blk_below bN hb)))
 have kP := (blk_cell (blk_below hp q2) 0).trans rfl
 have HQ := Lib.hid q2
 have HW2 := Lib.hid hW2
 clear hr hp q2 bS bN hW2
 go_enter Tryz.func27, Tryz.ntmps27
 go_upto_region 1 with fail
 rw [HW2.out]
 clear HW2
 go_wp2_with fail
 refine HC.out.mono ?_
 rintro en w' ⟨rfl, hb⟩
 go_wp2_with fail
 go_ret
 exact ⟨rfl, HQ.out.trans (hb.mono HQ.out.size)⟩
theorem c_Hd2111 (x : Ex) (cs : List Value) (w : World) (hK : k57.K w x cs) :
  Calls Tryz.prog 41 #[.agg cs.toArray] w fun en w' => en = .returned (.bool (isCall x)) ∧ Below w.heap.size w w' := by
 obtain ⟨A2, a2, rfl, hl2, hc2⟩ := k57_open hK
 clear hK hc2
 go_enter Tryz.func41, Tryz.ntmps41
 go_wp2
 go_ret
 exact ⟨rfl, below_alloc1 _ _⟩
set_option maxHeartbeats 2000000 in
theorem c_Hd211 (x : Ex) (cs : List Value) (w : World) (hK : k57.K w x cs) :
  Calls Tryz.prog 40 #[.agg cs.toArray] w fun en w' => en = .returned (.bool (anyE isCall x)) ∧ Below w.heap.size w w' := by
 obtain ⟨A2, a2, rfl, hl2, hc2⟩ := k57_open hK
 have q := below_alloc1 w (.cells #[.int .i64 x.f0, .string x.f1, .slice A2 x.f2.length a2] 57)
 have HC := Lib.hid (c_lin (w.alloc (.cells #[.int .i64 x.f0, .string x.f1, .slice A2 x.f2.length a2] 57)) 41 #[] (enters_of Tryz.func41 (by kernel_rfl) rfl) isCall (fun y cy W hb hKy => c_Hd2111 y cy W hKy) _ x _ _ (Nat.le_refl _) (Below.refl _ _) (k57_mk _ x hl2 (Kd.C_below hc2 q)))
 have HQ := Lib.hid q
 clear hK hc2 q
 go_enter Tryz.func40, Tryz.ntmps40
 go_wp2_with fail
 refine HC.out.mono ?_
 rintro en w' ⟨rfl, hb⟩
 go_wp2
 go_ret
 exact ⟨rfl, HQ.out.trans (hb.mono HQ.out.size)⟩
set_option maxHeartbeats 2000000 in
theorem c_Hd21 (x : Ex) (cs : List Value) (w : World) (hK : k57.K w x cs) :
  Calls Tryz.prog 39 #[.agg cs.toArray] w fun en w' => en = .returned (.bool (outE x)) ∧ Below w.heap.size w w' := by
 obtain ⟨A2, a2, rfl, hl2, hc2⟩ := k57_open hK
 have q := below_alloc1 w (.cells #[.int .i64 x.f0, .string x.f1, .slice A2 x.f2.length a2] 57)
 have HC := Lib.hid (hasE_p A2 a2 x.f2 _ hl2 (Kd.C_below hc2 q) 40 #[] (enters_of Tryz.func40 (by kernel_rfl) rfl) (anyE isCall) (fun y cy W _ hKy _ => c_Hd211 y cy W hKy))
 have HQ := Lib.hid q
 clear hK hc2 q
 cases h3 : (x.f0 == 3) with
 | true =>
  have HX := Lib.hid (show outE x = x.f2.any (anyE isCall) by rw [outE, h3, Bool.true_and])
  go_enter Tryz.func39, Tryz.ntmps39
  go_wp2_with fail
  refine HC.out.mono ?_
  rintro en w' ⟨rfl, hb⟩
  go_wp2
  go_ret
  exact ⟨retb HX.out.symm, HQ.out.trans (hb.mono HQ.out.size)⟩
 | false =>
  have HX := Lib.hid (show outE x = false by rw [outE, h3, Bool.false_and])
  clear HC
  go_enter Tryz.func39, Tryz.ntmps39
  go_wp2
  go_ret
  exact ⟨retb HX.out.symm, HQ.out⟩
set_option maxHeartbeats 2000000 in
theorem c_Hd2 (x : Ex) (cs : List Value) (w : World) (hK : k57.K w x cs) :
  Calls Tryz.prog 38 #[.agg cs.toArray] w fun en w' => en = .returned (.bool (anyE outE x)) ∧ Below w.heap.size w w' := by
 obtain ⟨A2, a2, rfl, hl2, hc2⟩ := k57_open hK
 have q := below_alloc1 w (.cells #[.int .i64 x.f0, .string x.f1, .slice A2 x.f2.length a2] 57)
 have HC := Lib.hid (c_lin (w.alloc (.cells #[.int .i64 x.f0, .string x.f1, .slice A2 x.f2.length a2] 57)) 39 #[] (enters_of Tryz.func39 (by kernel_rfl) rfl) outE (fun y cy W hb hKy => c_Hd21 y cy W hKy) _ x _ _ (Nat.le_refl _) (Below.refl _ _) (k57_mk _ x hl2 (Kd.C_below hc2 q)))
 have HQ := Lib.hid q
 clear hK hc2 q
 go_enter Tryz.func38, Tryz.ntmps38
 go_wp2_with fail
 refine HC.out.mono ?_
 rintro en w' ⟨rfl, hb⟩
 go_wp2
 go_ret
 exact ⟨rfl, HQ.out.trans (hb.mono HQ.out.size)⟩
end Go.Proofs.YtacefdkfbpgedaaGreat.Mine
namespace Go.Proofs.YtacefdkfbpgedaaGreat.Mine
open Go.Proofs.YtacefdkfbpgedaaGreat.PProgSmall
open Go.RowKit Go.Shelf Go.Proofs.YtacefdkfbpgedaaGreatW.PrintWords Go.Proofs.YtacefdkfbpgedaaGreatW.PrintLast Go.Proofs.YtacefdkfbpgedaaGreatW.PrintMore
set_option linter.unusedVariables false
set_option linter.unusedSimpArgs false
end Go.Proofs.YtacefdkfbpgedaaGreat.Mine
namespace Go.Proofs.YtacefdkfbpgedaaGreat.Mine
open Go.Proofs.YtacefdkfbpgedaaGreat.PProgSmall
open Go.RowKit Go.Shelf Go.Proofs.YtacefdkfbpgedaaGreatW.PrintWords Go.Proofs.YtacefdkfbpgedaaGreatW.PrintLast Go.Proofs.YtacefdkfbpgedaaGreatW.PrintMore
set_option linter.unusedVariables false
set_option linter.unusedSimpArgs false
end Go.Proofs.YtacefdkfbpgedaaGreat.Mine
