/- What the law clears: rows of texts, expressions, cases and definitions, closed under clearing. -/
import Derived.Test.YtacefdkfbpgedaaCD10
import Derived.Laws.CopyRow
import Derived.Test.YtacefdkfbpgedaaCD8
import Derived.Deep.DeepCutAuto
import Derived.Test.YtacefdkfbpgedaaCD1
import Derived.Test.YtacefdkfbpgedaaCD3
import Derived.Test.YtacefdkfbpgedaaCD7
namespace Go.Proofs.Ytacefdkfbpgedaa.Mine
open Go.Proofs.Ytacefdkfbpgedaa.PProgExprs
open Go.RowKit Go.Shelf Go.Proofs.YtacefdkfbpgedaaW.PrintWords Go.Proofs.YtacefdkfbpgedaaW.PrintLast Go.Proofs.YtacefdkfbpgedaaW.PrintMore
set_option linter.unusedVariables false
set_option linter.unusedSimpArgs false
inductive Tg where
  | t | e | c | d
inductive Fl where
  | s | i | l (τ : Tg)
def Tg.ty : Tg → Nat
  | .t => 9
  | .e => 24
  | .c => 99
  | .d => 58
def Tg.fl : Tg → List Fl
  | .t => [.s]
  | .e => [.i, .s, .l .e]
  | .c => [.s, .l .t, .i, .s, .l .e]
  | .d => [.s, .l .t, .l .c, .i, .s, .l .e]
def Fl.zero : Fl → Value
  | .s => .string ⟨#[]⟩
  | .i => .int .i64 0
  | .l _ => .slice none 0 0
def Fl.good (p : Tg → Value → Prop) : Fl → Value → Prop
  | .s, u => ∃ s, u = .string s
  | .i, u => ∃ k, u = .int .i64 k
  | .l τ, u => p τ u
theorem Tg.pos (τ : Tg) : 0 < τ.fl.length := by cases τ <;> decide
def Vg (W : World) (base top : Nat) : Nat → Tg → Value → Prop
  | 0, _, v => v = .slice none 0 0
  | m + 1, τ, v => v = .slice none 0 0 ∨ ∃ g n cap cur, v = .slice (some ⟨g, 0, none⟩) n cap ∧ n ≤ 9223372036854775807 ∧ (base ≤ g ∧ g < top) ∧ W.heap[g]? = some (.cells cur τ.ty (0, 0)) ∧
      ∀ j i f, j < n → τ.fl[i]? = some f → ∃ u, cur[j * τ.fl.length + i]? = some u ∧ Fl.good (Vg W base top m) f u
theorem Vg.nil {W : World} {base top : Nat} {τ : Tg} : ∀ {m : Nat}, Vg W base top m τ (.slice none 0 0)
  | 0 => by simp [Vg]
  | m + 1 => by simp [Vg]
theorem Vg.slice {W : World} {base top : Nat} {m : Nat} {τ : Tg} {v : Value} (h : Vg W base top m τ v) : ∃ A n c, v = .slice A n c := by
  cases m with
  | zero => rw [Vg] at h; exact ⟨_, _, _, h⟩
  | succ m =>
    rw [Vg] at h
    rcases h with h | ⟨g, n, cap, cur, h, _⟩
    · exact ⟨_, _, _, h⟩
    · exact ⟨_, _, _, h⟩
theorem Fl.good_mono {p q : Tg → Value → Prop} (h : ∀ τ v, p τ v → q τ v) : ∀ {f : Fl} {u : Value}, Fl.good p f u → Fl.good q f u
  | .s, _, k => k
  | .i, _, k => k
  | .l τ, u, k => h τ u k
theorem Vg.succ {W : World} {base top : Nat} : ∀ {m : Nat} {τ : Tg} {v : Value}, Vg W base top m τ v → Vg W base top (m + 1) τ v
  | 0, τ, v, h => by rw [Vg] at h; subst h; exact Vg.nil
  | m + 1, τ, v, h => by
    rw [Vg] at h ⊢
    rcases h with h | ⟨g, n, cap, cur, h1, h2, h3, h4, h5⟩
    · exact .inl h
    · refine .inr ⟨g, n, cap, cur, h1, h2, h3, h4, fun j i f hj hf => ?_⟩
      obtain ⟨u, a, b⟩ := h5 j i f hj hf
      exact ⟨u, a, Fl.good_mono (fun _ _ h => Vg.succ h) b⟩
theorem Vg.mono {W : World} {base top m k : Nat} {τ : Tg} {v : Value} (h : Vg W base top m τ v) (hk : m ≤ k) : Vg W base top k τ v := by
  obtain ⟨d, rfl⟩ : ∃ d, k = m + d := ⟨k - m, by omega⟩
  clear hk
  induction d with
  | zero => exact h
  | succ d ih => exact ih.succ
def Spd (base top : Nat) (W W' : World) : Prop := Below base W W' ∧ (∀ k, top ≤ k → k < W.heap.size → W'.heap[k]? = W.heap[k]?) ∧ ∀ m τ v, Vg W base top m τ v → Vg W' base top m τ v
theorem Spd.refl (base top : Nat) (W : World) : Spd base top W W := ⟨Below.refl _ _, fun _ _ _ => rfl, fun _ _ _ h => h⟩
theorem Spd.trans {base top : Nat} {W W' W2 : World} (h : Spd base top W W') (k : Spd base top W' W2) : Spd base top W W2 := ⟨h.1.trans k.1, fun i hi hl => (k.2.1 i hi (Nat.lt_of_lt_of_le hl h.1.size)).trans (h.2.1 i hi hl), fun m τ v hv => k.2.2 m τ v (h.2.2 m τ v hv)⟩
theorem Spd.below {base top : Nat} {W W' : World} (hb : Below W.heap.size W W') (hbase : base ≤ W.heap.size) : Spd base top W W' := by
  refine ⟨hb.mono hbase, fun k _ hk => hb.block k hk, fun m => ?_⟩
  induction m with
  | zero => intro τ v h; rw [Vg] at h ⊢; exact h
  | succ m ih =>
    intro τ v h
    rw [Vg] at h ⊢
    rcases h with h | ⟨g, n, cap, cur, h1, h2, h3, h4, h5⟩
    · exact .inl h
    · refine .inr ⟨g, n, cap, cur, h1, h2, h3, blk_below h4 hb, fun j i f hj hf => ?_⟩
      obtain ⟨u, a, b⟩ := h5 j i f hj hf
      exact ⟨u, a, Fl.good_mono ih b⟩
theorem Vg.ofR {α : Type} {d : Kd α} {τ : Tg} {W : World} {base m : Nat} {ok : Nat → Prop} {v : Value} {xs : List α} (hsz : d.sz = τ.fl.length) (hR : d.R τ.ty W base ok v xs)
    (hel : ∀ x ∈ xs, ∀ (ok : Nat → Prop) (cs : List Value), d.M W base ok x cs → ∀ (i : Nat) (f : Fl), τ.fl[i]? = some f → ∃ u, (cs : List Value)[i]? = some u ∧ Fl.good (Vg W base W.heap.size m) f u) : Vg W base W.heap.size (m + 1) τ v := by
  obtain ⟨_, inner, ho, hr⟩ := hR
  rw [Vg]
  rcases ho.2 with ⟨h1, h2⟩ | ⟨g, cap, cur, h1, hb, hg, hcap, hmax, hsz', htake⟩
  · exact .inl h1
  · refine .inr ⟨g, xs.length, cap, cur, h1, by have : maxLen ≤ 9223372036854775807 := (by decide); omega, ⟨hb, blk_lt hg⟩, hg, fun j i f hj hf => ?_⟩
    have hM := hr.2 j _ (List.getElem?_eq_getElem hj)
    obtain ⟨u, hc, hgd⟩ := hel _ (List.getElem_mem hj) _ _ hM i f hf
    refine ⟨u, ?_, hgd⟩
    rw [hsz] at hc
    rw [← htake, List.getElem?_take] at hc
    split at hc
    · rw [List.getElem?_drop, List.getElem?_take] at hc
      split at hc
      · rw [Array.getElem?_toList] at hc; exact hc
      · cases hc
    · cases hc
theorem OwnE.vg {W : World} {base : Nat} : ∀ (m : Nat) {ok : Nat → Prop} {v : Value} {l : List Ex}, szL l ≤ m → Kd.R k24 24 W base ok v l → Vg W base W.heap.size (m + 1) .e v := by
  intro m
  induction m with
  | zero =>
    intro ok v l h hR
    cases l with
    | nil => exact Vg.ofR (τ := .e) rfl hR (fun x hx => by cases hx)
    | cons x xs => rw [szL] at h; have := szE_pos x; omega
  | succ m ih =>
    intro ok v l h hR
    refine Vg.ofR (τ := .e) rfl hR (fun x hx ok cs hM i f hf => ?_)
    obtain ⟨u, rfl, hRu⟩ := k24_openM hM
    have hxs := szL_mem hx
    have hs := szE_eq x
    have hi : i < 3 := (List.getElem?_eq_some_iff.1 hf).1
    obtain rfl | rfl | rfl : i = 0 ∨ i = 1 ∨ i = 2 := by omega
    · simp [Tg.fl] at hf; subst hf; exact ⟨_, rfl, _, rfl⟩
    · simp [Tg.fl] at hf; subst hf; exact ⟨_, rfl, _, rfl⟩
    · simp [Tg.fl] at hf; subst hf; exact ⟨_, rfl, ih (by omega) hRu⟩
end Go.Proofs.Ytacefdkfbpgedaa.Mine
namespace Go.Proofs.Ytacefdkfbpgedaa.Mine
open Go.Proofs.Ytacefdkfbpgedaa.PProgExprs
open Go.RowKit Go.Shelf Go.Proofs.YtacefdkfbpgedaaW.PrintWords Go.Proofs.YtacefdkfbpgedaaW.PrintLast Go.Proofs.YtacefdkfbpgedaaW.PrintMore
set_option linter.unusedVariables false
set_option linter.unusedSimpArgs false
theorem Vg.bound {W : World} {base top m : Nat} {τ : Tg} {v : Value} (h : Vg W base top m τ v) : ∃ A n c, v = .slice A n c ∧ n ≤ 9223372036854775807 := by
  cases m with
  | zero => rw [Vg] at h; exact ⟨_, _, _, h, by omega⟩
  | succ m =>
    rw [Vg] at h
    rcases h with h | ⟨g, n, cap, cur, h, hn, _⟩
    · exact ⟨_, _, _, h, by omega⟩
    · exact ⟨_, _, _, h, hn⟩
theorem Vg.at {W : World} {base top m : Nat} {τ : Tg} {A : Option Addr} {n c : Nat} (h : Vg W base top (m + 1) τ (.slice A n c)) {j : Nat} (hj : j < n) :
    ∃ g cur, A = some ⟨g, 0, none⟩ ∧ (base ≤ g ∧ g < top) ∧ W.heap[g]? = some (.cells cur τ.ty (0, 0)) ∧ ∀ i f, τ.fl[i]? = some f → ∃ u, cur[j * τ.fl.length + i]? = some u ∧ Fl.good (Vg W base top m) f u := by
  rw [Vg] at h
  rcases h with h | ⟨g, n1, cap, cur, h, hn, hg, hb, hel⟩
  · cases h; omega
  · cases h
    exact ⟨g, cur, rfl, hg, hb, fun i f hf => hel j i f hj hf⟩
end Go.Proofs.Ytacefdkfbpgedaa.Mine
namespace Go.Proofs.Ytacefdkfbpgedaa.Mine
open Go.Proofs.Ytacefdkfbpgedaa.PProgExprs
open Go.RowKit Go.Shelf Go.Proofs.YtacefdkfbpgedaaW.PrintWords Go.Proofs.YtacefdkfbpgedaaW.PrintLast Go.Proofs.YtacefdkfbpgedaaW.PrintMore
set_option linter.unusedVariables false
set_option linter.unusedSimpArgs false
set_option maxRecDepth 100000
abbrev LrS (W0 : World) (b0 : Nat) (A : Option Addr) (n c : Nat) (W : World) : Prop := Below W0.heap.size W0 W ∧ W.cell? ⟨b0, 0, none⟩ = some (.slice A n c)
theorem LrS.step {W0 : World} {b0 : Nat} {A : Option Addr} {n c : Nat} {W W' : World} (h : LrS W0 b0 A n c W) (hb : Below W.heap.size W W') : LrS W0 b0 A n c W' := ⟨h.1.trans (hb.mono h.1.size), pw_cell_below hb h.2⟩
theorem eqL_refl {α : Type} {p : α → α → Bool} (h : ∀ x, p x x = true) (xs : List α) : eqL p xs xs = true := eqL_true rfl (fun j x y _ hx hy => by rw [hx] at hy; cases hy; exact h x)
theorem sameD_refl (d : De) : sameD d d = true := by
  simp only [sameD, decide_true, Bool.true_and, Bool.and_eq_true]
  exact ⟨sameE_iff.2 rfl, eqL_refl (fun c => by simp [sameC, sameE_iff]) _⟩
theorem sameP_refl (l : List De) : eqL sameD l l = true := eqL_refl sameD_refl l
end Go.Proofs.Ytacefdkfbpgedaa.Mine
namespace Go.Proofs.Ytacefdkfbpgedaa.Mine
open Go.Proofs.Ytacefdkfbpgedaa.PProgExprs
open Go.RowKit Go.Shelf Go.Proofs.YtacefdkfbpgedaaW.PrintWords Go.Proofs.YtacefdkfbpgedaaW.PrintLast Go.Proofs.YtacefdkfbpgedaaW.PrintMore
set_option linter.unusedVariables false
set_option linter.unusedSimpArgs false
set_option maxRecDepth 100000
theorem DefN.new (X : World) (base : Nat) (ok : Nat → Prop) (hb : base ≤ X.heap.size) (hok : ok X.heap.size) : Kd.N k58 58 (X.alloc (.cells #[] 58)) base ok (.slice (some ⟨X.heap.size, 0, none⟩) 0 0) [] := by
  have h : Kd.R k58 58 (X.alloc (.cells #[] 58)) X.heap.size ok (.slice (some ⟨X.heap.size, 0, none⟩) 0 0) [] :=
    ⟨fun k hk => by cases hk; exact hok, [], World.ownsRow_lit (base := X.heap.size) (e := 58) (size := 6) X #[] 0 (Nat.le_refl _) (by simp [maxLen]) (by simp), Reps.none _ _⟩
  exact Kd.R_N (Kd.R_lower h hb)
abbrev ChS (a b : Nat) (A : Option Addr) (n c : Nat) (v0 v1 v2 v3 v4 v5 : Value) (W : World) : Prop := W.cell? ⟨a, 0, none⟩ = some (.slice A n c) ∧ W.cell? ⟨b, 0, none⟩ = some v0 ∧ W.cell? ⟨b, 1, none⟩ = some v1 ∧ W.cell? ⟨b, 2, none⟩ = some v2 ∧ W.cell? ⟨b, 3, none⟩ = some v3 ∧ W.cell? ⟨b, 4, none⟩ = some v4 ∧ W.cell? ⟨b, 5, none⟩ = some v5
theorem ChS.of {a b : Nat} {A : Option Addr} {n c : Nat} {v0 v1 v2 v3 v4 v5 : Value} {W : World} (h : W.heap[a]? = some (.cells #[.slice A n c] 53 (0, 0))) (k : W.heap[b]? = some (.cells #[v0, v1, v2, v3, v4, v5] 58 (0, 0))) : ChS a b A n c v0 v1 v2 v3 v4 v5 W :=
  ⟨(blk_cell h 0).trans rfl, (blk_cell k 0).trans rfl, (blk_cell k 1).trans rfl, (blk_cell k 2).trans rfl, (blk_cell k 3).trans rfl, (blk_cell k 4).trans rfl, (blk_cell k 5).trans rfl⟩
theorem okP_of {l : List De} (hl : l.length ≤ 100000) (h : ∀ d ∈ l, bigD d = false) : OkP l := by
  have hn : 40 ≤ nmLim := by decide
  refine ⟨hl, fun d hd => bigD_okD (h d hd), fun d hd => ?_, fun d hd => ?_⟩
  · have := (bigD_ok (h d hd)).1; omega
  · have hb := bodies_ok (h d hd)
    have := szL_le hb.2
    have : (bodiesD d).length * 60 ≤ 10 * 60 := Nat.mul_le_mul_right _ hb.1
    omega
end Go.Proofs.Ytacefdkfbpgedaa.Mine
namespace Go.Proofs.Ytacefdkfbpgedaa.Mine
open Go.Proofs.Ytacefdkfbpgedaa.PProgExprs
open Go.RowKit Go.Shelf Go.Proofs.YtacefdkfbpgedaaW.PrintWords Go.Proofs.YtacefdkfbpgedaaW.PrintLast Go.Proofs.YtacefdkfbpgedaaW.PrintMore
set_option linter.unusedVariables false
set_option linter.unusedSimpArgs false
set_option maxRecDepth 100000
end Go.Proofs.Ytacefdkfbpgedaa.Mine
namespace Go.Proofs.Ytacefdkfbpgedaa.Mine
open Go.Proofs.Ytacefdkfbpgedaa.PProgExprs
open Go.RowKit Go.Shelf Go.Proofs.YtacefdkfbpgedaaW.PrintWords Go.Proofs.YtacefdkfbpgedaaW.PrintLast Go.Proofs.YtacefdkfbpgedaaW.PrintMore
set_option linter.unusedVariables false
set_option linter.unusedSimpArgs false
set_option maxRecDepth 100000
end Go.Proofs.Ytacefdkfbpgedaa.Mine
namespace Go.Proofs.Ytacefdkfbpgedaa.Mine
open Go.Proofs.Ytacefdkfbpgedaa.PProgExprs
open Go.RowKit Go.Shelf Go.Proofs.YtacefdkfbpgedaaW.PrintWords Go.Proofs.YtacefdkfbpgedaaW.PrintLast Go.Proofs.YtacefdkfbpgedaaW.PrintMore
set_option linter.unusedVariables false
set_option linter.unusedSimpArgs false
set_option maxRecDepth 100000
def nmR (s t : ByteArray) (k : Int) (n : ByteArray) : ByteArray := if k = 3 ∧ n = s then t else n
mutual
def renE (s t : ByteArray) : Ex → Ex
  | ⟨k, n, l⟩ => ⟨k, nmR s t k n, renL s t l⟩
def renL (s t : ByteArray) : List Ex → List Ex
  | [] => []
  | x :: xs => renE s t x :: renL s t xs
end
theorem renE_eq (s t : ByteArray) (e : Ex) : renE s t e = ⟨e.f0, nmR s t e.f0 e.f1, renL s t e.f2⟩ := by cases e; rw [renE]
theorem renL_map (s t : ByteArray) : ∀ l : List Ex, renL s t l = l.map (renE s t)
  | [] => by rw [renL]; rfl
  | x :: xs => by rw [renL, renL_map s t xs]; rfl
theorem renL_length (s t : ByteArray) (l : List Ex) : (renL s t l).length = l.length := by rw [renL_map, List.length_map]
abbrev RnS (B3 B7 : Nat) (v0 v1 : Value) (p : Addr) (u0 u1 u2 : Value) (W : World) : Prop := W.cell? ⟨B3, 2, none⟩ = some v0 ∧ W.cell? ⟨B7, 2, none⟩ = some v1 ∧ W.cell? p = some u0 ∧ W.cell? ⟨p.block, p.off + 1, none⟩ = some u1 ∧ W.cell? ⟨p.block, p.off + 2, none⟩ = some u2
theorem RnS.keep {n B3 B7 : Nat} {v0 v1 : Value} {p : Addr} {u0 u1 u2 : Value} {W W' : World} (h : RnS B3 B7 v0 v1 p u0 u1 u2 W) (hb : Below n W W') (h3 : B3 < n) (h7 : B7 < n) (hp : p.block < n) : RnS B3 B7 v0 v1 p u0 u1 u2 W' :=
  ⟨(hb.cell (p := ⟨B3, 2, none⟩) h3).trans h.1, (hb.cell (p := ⟨B7, 2, none⟩) h7).trans h.2.1, (hb.cell hp).trans h.2.2.1, (hb.cell (p := ⟨p.block, p.off + 1, none⟩) hp).trans h.2.2.2.1, (hb.cell (p := ⟨p.block, p.off + 2, none⟩) hp).trans h.2.2.2.2⟩
end Go.Proofs.Ytacefdkfbpgedaa.Mine
namespace Go.Proofs.Ytacefdkfbpgedaa.Mine
open Go.Proofs.Ytacefdkfbpgedaa.PProgExprs
open Go.RowKit Go.Shelf Go.Proofs.YtacefdkfbpgedaaW.PrintWords Go.Proofs.YtacefdkfbpgedaaW.PrintLast Go.Proofs.YtacefdkfbpgedaaW.PrintMore
set_option linter.unusedVariables false
set_option linter.unusedSimpArgs false
def renC (s t : ByteArray) (c : Ca) : Ca := ⟨c.f0, c.f1, renE s t c.f2⟩
theorem nmR_idem (s t : ByteArray) (k : Int) (n : ByteArray) : nmR s t k (nmR s t k n) = nmR s t k n := by
  unfold nmR
  by_cases h : k = 3 ∧ n = s
  · rw [if_pos h]
    by_cases h2 : k = 3 ∧ t = s
    · rw [if_pos h2]
    · rw [if_neg h2]
  · rw [if_neg h, if_neg h]
theorem renL_idem (s t : ByteArray) (m : Nat) : ∀ l : List Ex, szL l ≤ m → renL s t (renL s t l) = renL s t l := by
  induction m with
  | zero =>
    intro l h
    cases l with
    | nil => simp [renL]
    | cons x xs => rw [szL] at h; have := szE_pos x; omega
  | succ m ih =>
    intro l
    induction l with
    | nil => intro _; simp [renL]
    | cons x xs ihx =>
      intro h
      rw [szL] at h
      have hx := szE_eq x
      have hp := szE_pos x
      rw [renL, renL, ihx (by omega), renE_eq s t x, renE_eq s t ⟨_, _, _⟩]
      simp only
      rw [nmR_idem, ih x.f2 (by omega)]
end Go.Proofs.Ytacefdkfbpgedaa.Mine
namespace Go.Proofs.Ytacefdkfbpgedaa.Mine
open Go.Proofs.Ytacefdkfbpgedaa.PProgExprs
open Go.RowKit Go.Shelf Go.Proofs.YtacefdkfbpgedaaW.PrintWords Go.Proofs.YtacefdkfbpgedaaW.PrintLast Go.Proofs.YtacefdkfbpgedaaW.PrintMore
set_option linter.unusedVariables false
set_option linter.unusedSimpArgs false
set_option maxRecDepth 100000
abbrev CcS (B10 B11 : Nat) (v0 v1 : Value) (p : Addr) (u0 u1 u2 u3 u4 : Value) (W : World) : Prop := W.cell? ⟨B10, 2, none⟩ = some v0 ∧ W.cell? ⟨B11, 2, none⟩ = some v1 ∧ W.cell? p = some u0 ∧ W.cell? ⟨p.block, p.off + 1, none⟩ = some u1 ∧ W.cell? ⟨p.block, p.off + 2, none⟩ = some u2 ∧ W.cell? ⟨p.block, p.off + 3, none⟩ = some u3 ∧ W.cell? ⟨p.block, p.off + 4, none⟩ = some u4
theorem CcS.keep {n B10 B11 : Nat} {v0 v1 : Value} {p : Addr} {u0 u1 u2 u3 u4 : Value} {W W' : World} (h : CcS B10 B11 v0 v1 p u0 u1 u2 u3 u4 W) (hb : Below n W W') (h3 : B10 < n) (h7 : B11 < n) (hp : p.block < n) : CcS B10 B11 v0 v1 p u0 u1 u2 u3 u4 W' :=
  ⟨(hb.cell (p := ⟨B10, 2, none⟩) h3).trans h.1, (hb.cell (p := ⟨B11, 2, none⟩) h7).trans h.2.1, (hb.cell hp).trans h.2.2.1, (hb.cell (p := ⟨p.block, p.off + 1, none⟩) hp).trans h.2.2.2.1, (hb.cell (p := ⟨p.block, p.off + 2, none⟩) hp).trans h.2.2.2.2.1, (hb.cell (p := ⟨p.block, p.off + 3, none⟩) hp).trans h.2.2.2.2.2.1, (hb.cell (p := ⟨p.block, p.off + 4, none⟩) hp).trans h.2.2.2.2.2.2⟩
end Go.Proofs.Ytacefdkfbpgedaa.Mine
namespace Go.Proofs.Ytacefdkfbpgedaa.Mine
open Go.Proofs.Ytacefdkfbpgedaa.PProgExprs
open Go.RowKit Go.Shelf Go.Proofs.YtacefdkfbpgedaaW.PrintWords Go.Proofs.YtacefdkfbpgedaaW.PrintLast Go.Proofs.YtacefdkfbpgedaaW.PrintMore
set_option linter.unusedVariables false
set_option linter.unusedSimpArgs false
end Go.Proofs.Ytacefdkfbpgedaa.Mine
namespace Go.Proofs.Ytacefdkfbpgedaa.Mine
open Go.Proofs.Ytacefdkfbpgedaa.PProgExprs
open Go.RowKit Go.Shelf Go.Proofs.YtacefdkfbpgedaaW.PrintWords Go.Proofs.YtacefdkfbpgedaaW.PrintLast Go.Proofs.YtacefdkfbpgedaaW.PrintMore
set_option linter.unusedVariables false
set_option linter.unusedSimpArgs false
end Go.Proofs.Ytacefdkfbpgedaa.Mine
namespace Go.Proofs.Ytacefdkfbpgedaa.Mine
open Go.Proofs.Ytacefdkfbpgedaa.PProgExprs
open Go.RowKit Go.Shelf Go.Proofs.YtacefdkfbpgedaaW.PrintWords Go.Proofs.YtacefdkfbpgedaaW.PrintLast Go.Proofs.YtacefdkfbpgedaaW.PrintMore
set_option linter.unusedVariables false
set_option linter.unusedSimpArgs false
def RowE (W : World) (b : Nat) (ok : Nat → Prop) (v : Value) (l : List Ex) : Prop :=
  (v = .slice none 0 0 ∧ l = []) ∨ ∃ g cap cur, v = .slice (some ⟨g, 0, none⟩) l.length cap ∧ b ≤ g ∧ ok g ∧ W.heap[g]? = some (.cells cur 24 (0, 0)) ∧ l.length ≤ cap ∧ cap ≤ maxLen ∧ cur.size = cap * 3 ∧
    ∀ j x, l[j]? = some x → ∃ u, cur[j * 3]? = some (.int .i64 x.f0) ∧ cur[j * 3 + 1]? = some (.string x.f1) ∧ cur[j * 3 + 2]? = some u ∧ Kd.R k24 24 W b (fun k => ok k ∧ some k ≠ v.ownBlock) u x.f2
theorem RowE.of {W : World} {b : Nat} {ok : Nat → Prop} {v : Value} {l : List Ex} (h : Kd.R k24 24 W b ok v l) : RowE W b ok v l := by
  obtain ⟨h0, inner, ho, hr⟩ := h
  rcases ho.2 with ⟨h1, h2⟩ | ⟨g, cap, cur, h1, hb, hg, hcap, hmax, hsz, htake⟩
  · exact .inl ⟨h1, List.length_eq_zero_iff.1 h2⟩
  · refine .inr ⟨g, cap, cur, h1, hb, h0 g (by rw [h1]; rfl), hg, hcap, hmax, hsz, fun j x hj => ?_⟩
    have hM := hr.2 j x hj
    obtain ⟨u, hc, hRu⟩ := k24_openM hM
    have hjl := (List.getElem?_eq_some_iff.1 hj).1
    have key : ∀ i z, [Value.int .i64 x.f0, .string x.f1, u][i]? = some z → cur[j * 3 + i]? = some z := by
      intro i z hz
      rw [← hc, ← htake, List.getElem?_take] at hz
      split at hz
      · rw [List.getElem?_drop, List.getElem?_take] at hz
        split at hz
        · rw [Array.getElem?_toList] at hz; exact hz
        · cases hz
      · cases hz
    exact ⟨u, key 0 _ rfl, key 1 _ rfl, key 2 _ rfl, hRu⟩
theorem RowE.to {W : World} {b : Nat} {ok : Nat → Prop} {v : Value} {l : List Ex} (h : RowE W b ok v l) : Kd.R k24 24 W b ok v l := by
  rcases h with ⟨rfl, rfl⟩ | ⟨g, cap, cur, rfl, hb, hok, hg, hcap, hmax, hsz, hel⟩
  · exact Kd.R_nil _ _ _ _ _
  · have hL : (cur.toList.take (l.length * 3)).length = l.length * 3 := by rw [List.length_take, Array.length_toList (xs := cur), hsz]; exact Nat.min_eq_left (Nat.mul_le_mul_right 3 hcap)
    refine ⟨fun k hk => ?_, cur.toList.take (l.length * 3), ⟨hL, .inr ⟨g, cap, cur, rfl, hb, hg, hcap, hmax, hsz, rfl⟩⟩, ⟨hL, fun j x hj => ?_⟩⟩
    · have : g = k := by simpa [Value.ownBlock] using hk
      rw [← this]; exact hok
    · obtain ⟨u, h0, h1, h2, h3⟩ := hel j x hj
      have hjl := (List.getElem?_eq_some_iff.1 hj).1
      have hM := k24_mkM W b _ x h3
      have : ((cur.toList.take (l.length * 3)).drop (j * 3)).take 3 = [.int .i64 x.f0, .string x.f1, u] := by
        apply List.ext_getElem?
        intro i
        rw [List.getElem?_take]
        split
        · next hi =>
          rw [List.getElem?_drop, List.getElem?_take, if_pos (by omega), Array.getElem?_toList]
          match i, hi with
          | 0, _ => simpa using h0
          | 1, _ => simpa using h1
          | 2, _ => simpa using h2
        · next hi => exact (List.getElem?_eq_none (by simp only [List.length_cons, List.length_nil]; omega)).symm
      rw [show k24.sz = 3 from rfl, this]
      exact hM
theorem row_det : ∀ (m : Nat) {W : World} {b b' : Nat} {ok ok' : Nat → Prop} {v : Value} {l l' : List Ex}, szL l ≤ m → Kd.R k24 24 W b ok v l → Kd.R k24 24 W b' ok' v l' → l = l' := by
  intro m
  induction m with
  | zero =>
    intro W b b' ok ok' v l l' hm h h'
    cases l with
    | cons x xs => rw [szL] at hm; have := szE_pos x; omega
    | nil =>
      rcases RowE.of h with ⟨rfl, _⟩ | ⟨g, cap, cur, rfl, _⟩
      · rcases RowE.of h' with ⟨_, rfl⟩ | ⟨g', cap', cur', he, _⟩
        · rfl
        · cases he
      · rcases RowE.of h' with ⟨he, _⟩ | ⟨g', cap', cur', he, _⟩
        · cases he
        · injection he with _ h2
          exact (List.length_eq_zero_iff.1 h2.symm).symm
  | succ m ih =>
    intro W b b' ok ok' v l l' hm h h'
    rcases RowE.of h with ⟨rfl, rfl⟩ | ⟨g, cap, cur, rfl, _, _, hg, _, _, _, hel⟩
    · rcases RowE.of h' with ⟨_, rfl⟩ | ⟨g', cap', cur', he, _⟩
      · rfl
      · cases he
    · rcases RowE.of h' with ⟨he, _⟩ | ⟨g', cap', cur', he, _, _, hg', _, _, _, hel'⟩
      · cases he
      · injection he with h1 h2 _
        injection h1 with h1
        injection h1 with h1
        subst h1
        rw [hg] at hg'
        injection hg' with hg'
        injection hg' with hg'
        subst hg'
        apply List.ext_getElem h2
        intro j hj hj'
        obtain ⟨u, a0, a1, a2, a3⟩ := hel j _ (List.getElem?_eq_getElem hj)
        obtain ⟨u', b0, b1, b2, b3⟩ := hel' j _ (List.getElem?_eq_getElem hj')
        rw [a0] at b0
        rw [a1] at b1
        rw [a2] at b2
        injection b0 with b0
        injection b0 with _ b0
        injection b1 with b1
        injection b1 with b1
        injection b2 with b2
        subst b2
        have hx := szL_mem (List.getElem_mem hj)
        have hs := szE_eq l[j]
        have h4 := ih (by omega) a3 b3
        exact ex_ext b0 b1 h4
def Rcell (s t : ByteArray) (cur cur' : Array Value) : Prop :=
  cur'.size = cur.size ∧ ∀ i u, cur[i]? = some u → cur'[i]? = some u ∨ ∃ j k n, i = j * 3 + 1 ∧ cur[j * 3]? = some (.int .i64 k) ∧ u = .string n ∧ cur'[i]? = some (.string (nmR s t k n))
theorem Rcell.refl (s t : ByteArray) (cur : Array Value) : Rcell s t cur cur := ⟨rfl, fun i u h => .inl h⟩
theorem Rcell.three {s t : ByteArray} {cur cur' : Array Value} (h : Rcell s t cur cur') (j : Nat) : cur'[j * 3]? = cur[j * 3]? ∧ cur'[j * 3 + 2]? = cur[j * 3 + 2]? := by
  constructor
  · cases hu : cur[j * 3]? with
    | none => rw [Array.getElem?_eq_none_iff] at hu ⊢; have := h.1; omega
    | some u =>
      rcases h.2 _ u hu with h1 | ⟨j2, _, _, h1, _⟩
      · exact h1
      · omega
  · cases hu : cur[j * 3 + 2]? with
    | none => rw [Array.getElem?_eq_none_iff] at hu ⊢; have := h.1; omega
    | some u =>
      rcases h.2 _ u hu with h1 | ⟨j2, _, _, h1, _⟩
      · exact h1
      · omega
theorem Rcell.trans {s t : ByteArray} {cur cur' cur2 : Array Value} (h : Rcell s t cur cur') (k : Rcell s t cur' cur2) : Rcell s t cur cur2 := by
  refine ⟨k.1.trans h.1, fun i u hu => ?_⟩
  rcases h.2 i u hu with h1 | ⟨j, kk, n, rfl, h1, rfl, h2⟩
  · rcases k.2 i u h1 with h3 | ⟨j, kk, n, rfl, h3, rfl, h4⟩
    · exact .inl h3
    · exact .inr ⟨j, kk, n, rfl, (h.three j).1.symm.trans h3, rfl, h4⟩
  · rcases k.2 _ _ h2 with h3 | ⟨j2, k2, n2, h3, h4, h5, h6⟩
    · exact .inr ⟨j, kk, n, rfl, h1, rfl, h3⟩
    · obtain rfl : j2 = j := by omega
      rw [(h.three j2).1, h1] at h4
      injection h4 with h4
      injection h4 with _ h4
      injection h5 with h5
      subst h4 h5
      rw [nmR_idem] at h6
      exact .inr ⟨j2, kk, n, rfl, h1, rfl, h6⟩
def Rn (s t : ByteArray) (base top : Nat) (W W' : World) : Prop := Below base W W' ∧ (∀ k, top ≤ k → k < W.heap.size → W'.heap[k]? = W.heap[k]?) ∧
  ∀ (g : Nat) (cur : Array Value) (ty : Nat), W.heap[g]? = some (.cells cur ty (0, 0)) → ∃ cur', W'.heap[g]? = some (.cells cur' ty (0, 0)) ∧ (ty ≠ 24 → cur' = cur) ∧ Rcell s t cur cur'
theorem Rn.refl (s t : ByteArray) (base top : Nat) (W : World) : Rn s t base top W W := ⟨Below.refl _ _, fun _ _ _ => rfl, fun g cur ty h => ⟨cur, h, fun _ => rfl, Rcell.refl _ _ _⟩⟩
theorem Rn.trans {s t : ByteArray} {base top : Nat} {W W' W2 : World} (h : Rn s t base top W W') (k : Rn s t base top W' W2) : Rn s t base top W W2 := by
  refine ⟨h.1.trans k.1, fun i hi hl => (k.2.1 i hi (Nat.lt_of_lt_of_le hl h.1.size)).trans (h.2.1 i hi hl), fun g cur ty hg => ?_⟩
  obtain ⟨c1, a1, a2, a3⟩ := h.2.2 g cur ty hg
  obtain ⟨c2, b1, b2, b3⟩ := k.2.2 g c1 ty a1
  exact ⟨c2, b1, fun hne => (b2 hne).trans (a2 hne), a3.trans b3⟩
theorem Rn.below {s t : ByteArray} {base top : Nat} {W W' : World} (hb : Below W.heap.size W W') (hbase : base ≤ W.heap.size) : Rn s t base top W W' :=
  ⟨hb.mono hbase, fun k _ hk => hb.block k hk, fun g cur ty hg => ⟨cur, blk_below hg hb, fun _ => rfl, Rcell.refl _ _ _⟩⟩
theorem Rn.put {s t : ByteArray} {base top : Nat} {W W' : World} {g : Nat} {cur cur' : Array Value} (h0 : W.heap[g]? = some (.cells cur 24 (0, 0))) (hg : base ≤ g ∧ g < top) (hb : Below base W W') (ho : ∀ k, k ≠ g → W'.heap[k]? = W.heap[k]?)
    (h' : W'.heap[g]? = some (.cells cur' 24 (0, 0))) (hc : Rcell s t cur cur') : Rn s t base top W W' := by
  refine ⟨hb, fun k hk _ => ho k (by omega), fun g1 c1 ty h1 => ?_⟩
  by_cases hgg : g1 = g
  · subst hgg
    rw [h0] at h1
    injection h1 with h1
    injection h1 with e1 e2
    subst e1 e2
    exact ⟨cur', h', fun hne => absurd rfl hne, hc⟩
  · exact ⟨c1, (ho g1 hgg).trans h1, fun _ => rfl, Rcell.refl _ _ _⟩
theorem list_of {α : Type} (n : Nat) (p : Nat → α → Prop) (h : ∀ j, j < n → ∃ x, p j x) : ∃ l : List α, l.length = n ∧ ∀ j x, l[j]? = some x → p j x := by
  induction n with
  | zero => exact ⟨[], rfl, fun j x h => by simp at h⟩
  | succ n ih =>
    obtain ⟨l, h1, h2⟩ := ih (fun j hj => h j (by omega))
    obtain ⟨x, hx⟩ := h n (by omega)
    refine ⟨l ++ [x], by simp [h1], fun j y hy => ?_⟩
    by_cases hj : j < l.length
    · rw [List.getElem?_append_left hj] at hy; exact h2 j y hy
    · have hj2 := (List.getElem?_eq_some_iff.1 hy).1
      rw [List.length_append, List.length_singleton] at hj2
      obtain rfl : j = l.length := by omega
      rw [List.getElem?_append_right (Nat.le_refl _)] at hy
      simp at hy
      subst hy
      rw [h1]; exact hx
def LikeE (s t : ByteArray) (x x' : Ex) : Prop := renE s t x' = renE s t x ∧ (renE s t x = x → x' = x)
def LikeL (s t : ByteArray) (l l' : List Ex) : Prop := l'.length = l.length ∧ ∀ (j : Nat) (x x' : Ex), l[j]? = some x → l'[j]? = some x' → LikeE s t x x'
theorem LikeL.ren {s t : ByteArray} {l l' : List Ex} (h : LikeL s t l l') : renL s t l' = renL s t l := by
  apply List.ext_getElem (by rw [renL_length, renL_length, h.1])
  intro j h1 h2
  rw [renL_length] at h1 h2
  simp only [renL_map, List.getElem_map]
  exact (h.2 j _ _ (List.getElem?_eq_getElem h2) (List.getElem?_eq_getElem h1)).1
theorem LikeL.fix {s t : ByteArray} {l l' : List Ex} (h : LikeL s t l l') (hf : renL s t l = l) : l' = l := by
  apply List.ext_getElem h.1
  intro j h1 h2
  refine (h.2 j _ _ (List.getElem?_eq_getElem h2) (List.getElem?_eq_getElem h1)).2 ?_
  have h3 := congrArg (fun q : List Ex => q[j]?) hf
  simp only [renL_map, List.getElem?_map, List.getElem?_eq_getElem h2, Option.map_some] at h3
  exact Option.some.inj h3
theorem LikeE.mk {s t : ByteArray} {x : Ex} {n : ByteArray} {l : List Ex} (hn : n = x.f1 ∨ n = nmR s t x.f0 x.f1) (hl : LikeL s t x.f2 l) : LikeE s t x ⟨x.f0, n, l⟩ := by
  constructor
  · rw [renE_eq, renE_eq s t x]
    simp only
    rw [hl.ren]
    rcases hn with rfl | rfl
    · rfl
    · rw [nmR_idem]
  · intro hf
    rw [renE_eq] at hf
    have h1 : nmR s t x.f0 x.f1 = x.f1 := congrArg S24.f1 hf
    have h2 : renL s t x.f2 = x.f2 := congrArg S24.f2 hf
    rw [hl.fix h2]
    have : n = x.f1 := by rcases hn with h | h; exact h; exact h.trans h1
    exact ex_ext rfl this rfl
theorem Rn.row {s t : ByteArray} : ∀ (m : Nat) {base top : Nat} {W W' : World} {b : Nat} {ok : Nat → Prop} {v : Value} {l : List Ex}, Rn s t base top W W' → szL l ≤ m → Kd.R k24 24 W b ok v l →
    ∃ l', Kd.R k24 24 W' b ok v l' ∧ LikeL s t l l' := by
  intro m
  induction m with
  | zero =>
    intro base top W W' b ok v l hR hm h
    cases l with
    | cons x xs => rw [szL] at hm; have := szE_pos x; omega
    | nil =>
      refine ⟨[], ?_, rfl, fun j x x' hx => by simp at hx⟩
      rcases RowE.of h with ⟨rfl, _⟩ | ⟨g, cap, cur, rfl, hb, hok, hg, hcap, hmax, hsz, hel⟩
      · exact Kd.R_nil _ _ _ _ _
      · obtain ⟨cur', hg', _, hc⟩ := hR.2.2 g cur _ hg
        exact RowE.to (.inr ⟨g, cap, cur', rfl, hb, hok, hg', hcap, hmax, hc.1.trans hsz, fun j x hx => by simp at hx⟩)
  | succ m ih =>
    intro base top W W' b ok v l hR hm h
    rcases RowE.of h with ⟨rfl, rfl⟩ | ⟨g, cap, cur, rfl, hb, hok, hg, hcap, hmax, hsz, hel⟩
    · exact ⟨[], Kd.R_nil _ _ _ _ _, rfl, fun j x x' hx => by simp at hx⟩
    · obtain ⟨cur', hg', _, hc⟩ := hR.2.2 g cur _ hg
      obtain ⟨l', h1, h2⟩ := list_of l.length (fun j x' => ∃ x, l[j]? = some x ∧ LikeE s t x x' ∧ ∃ u, cur'[j * 3]? = some (.int .i64 x'.f0) ∧ cur'[j * 3 + 1]? = some (.string x'.f1) ∧ cur'[j * 3 + 2]? = some u ∧ Kd.R k24 24 W' b (fun k => ok k ∧ some k ≠ (Value.slice (some ⟨g, 0, none⟩) l.length cap).ownBlock) u x'.f2) (fun j hj => by
        obtain ⟨u, a0, a1, a2, a3⟩ := hel j _ (List.getElem?_eq_getElem hj)
        have hx := szL_mem (List.getElem_mem hj)
        have hs := szE_eq l[j]
        obtain ⟨l2, b1, b2⟩ := ih hR (by omega) a3
        have c0 := (hc.three j).1.trans a0
        have c2 := (hc.three j).2.trans a2
        rcases hc.2 _ _ a1 with h3 | ⟨j2, k2, n2, h3, h4, h5, h6⟩
        · exact ⟨⟨l[j].f0, l[j].f1, l2⟩, l[j], List.getElem?_eq_getElem hj, LikeE.mk (.inl rfl) b2, u, c0, h3, c2, b1⟩
        · obtain rfl : j2 = j := by omega
          rw [a0] at h4
          injection h4 with h4
          injection h4 with _ h4
          injection h5 with h5
          subst h4 h5
          exact ⟨⟨l[j2].f0, nmR s t l[j2].f0 l[j2].f1, l2⟩, l[j2], List.getElem?_eq_getElem hj, LikeE.mk (.inr rfl) b2, u, c0, h6, c2, b1⟩)
      refine ⟨l', RowE.to (.inr ⟨g, cap, cur', by rw [h1], hb, hok, hg', by rw [h1]; exact hcap, hmax, hc.1.trans hsz, fun j x' hx' => ?_⟩), h1, fun j x x' hx hx' => ?_⟩
      · obtain ⟨x, _, _, h3⟩ := h2 j x' hx'
        exact h3
      · obtain ⟨y, hy, h3, _⟩ := h2 j x' hx'
        rw [hx] at hy
        injection hy with hy
        rw [hy]; exact h3
end Go.Proofs.Ytacefdkfbpgedaa.Mine
namespace Go.Proofs.Ytacefdkfbpgedaa.Mine
open Go.Proofs.Ytacefdkfbpgedaa.PProgExprs
open Go.RowKit Go.Shelf Go.Proofs.YtacefdkfbpgedaaW.PrintWords Go.Proofs.YtacefdkfbpgedaaW.PrintLast Go.Proofs.YtacefdkfbpgedaaW.PrintMore
set_option linter.unusedVariables false
set_option linter.unusedSimpArgs false
theorem LikeE.refl (s t : ByteArray) (x : Ex) : LikeE s t x x := ⟨rfl, fun _ => rfl⟩
theorem LikeL.refl (s t : ByteArray) (l : List Ex) : LikeL s t l l := ⟨rfl, fun j x x' h h' => by rw [h] at h'; injection h' with h'; subst h'; exact LikeE.refl _ _ _⟩
theorem LikeE.trans {s t : ByteArray} {x y z : Ex} (h : LikeE s t x y) (k : LikeE s t y z) : LikeE s t x z :=
  ⟨k.1.trans h.1, fun hx => by have h1 := h.2 hx; subst h1; exact k.2 hx⟩
theorem LikeL.trans {s t : ByteArray} {l l' l2 : List Ex} (h : LikeL s t l l') (k : LikeL s t l' l2) : LikeL s t l l2 := by
  refine ⟨k.1.trans h.1, fun j x z hx hz => ?_⟩
  have hj : j < l'.length := by have := (List.getElem?_eq_some_iff.1 hz).1; have := k.1; omega
  exact (h.2 j x _ hx (List.getElem?_eq_getElem hj)).trans (k.2 j _ z (List.getElem?_eq_getElem hj) hz)
def wrE (W : World) (g i : Nat) (u0 u1 u2 : Value) : World := ((W.setCell ⟨g, i, none⟩ u0).setCell ⟨g, i + 1, none⟩ u1).setCell ⟨g, i + 2, none⟩ u2
theorem wrE_ne {W : World} {g i k : Nat} {u0 u1 u2 : Value} (hne : k ≠ g) : (wrE W g i u0 u1 u2).heap[k]? = W.heap[k]? := by
  unfold wrE
  rw [Below.heap_setCell _ _ _ _ (by simp only; omega), Below.heap_setCell _ _ _ _ (by simp only; omega), Below.heap_setCell _ _ _ _ (by simp only; omega)]
theorem wrE_below {base : Nat} {W : World} {g i : Nat} {u0 u1 u2 : Value} (hg : base ≤ g) : Below base W (wrE W g i u0 u1 u2) := (((Below.refl base W).setCell hg _).setCell hg _).setCell hg _
theorem wrE_at {W : World} {g i : Nat} {cur : Array Value} {ty : Nat} {u0 u1 u2 : Value} (h : W.heap[g]? = some (.cells cur ty (0, 0))) : (wrE W g i u0 u1 u2).heap[g]? = some (.cells (((cur.setIfInBounds i u0).setIfInBounds (i + 1) u1).setIfInBounds (i + 2) u2) ty (0, 0)) :=
  blk_put (blk_put (blk_put h i _ rfl) (i + 1) _ rfl) (i + 2) _ rfl
theorem Rn.step {s t : ByteArray} {base top : Nat} {W W5 : World} {b b' : Nat} {ok ok' : Nat → Prop} {l : List Ex} {g n cap kk : Nat} {cur : Array Value} {x : Ex} {u : Value}
    (hR : Kd.R k24 24 W b ok (.slice (some ⟨g, 0, none⟩) n cap) l) (hx : l[kk]? = some x) (hg : W.heap[g]? = some (.cells cur 24 (0, 0))) (k0 : cur[kk * 3]? = some (.int .i64 x.f0)) (k1 : cur[kk * 3 + 1]? = some (.string x.f1)) (k2 : cur[kk * 3 + 2]? = some u)
    (hRn : Rn s t base top W W5) (hu : Kd.R k24 24 W5 b' ok' u (renL s t x.f2)) (hgb : base ≤ g ∧ g < top) :
    Rn s t base top W5 (wrE W5 g (kk * 3) (.int .i64 x.f0) (.string (nmR s t x.f0 x.f1)) u) ∧ ∃ l6, Kd.R k24 24 (wrE W5 g (kk * 3) (.int .i64 x.f0) (.string (nmR s t x.f0 x.f1)) u) b ok (.slice (some ⟨g, 0, none⟩) n cap) l6 ∧ LikeL s t l l6 ∧ l6[kk]? = some (renE s t x) := by
  obtain ⟨cur5, hg5, _, hc⟩ := hRn.2.2 g cur _ hg
  have c0 := (hc.three kk).1.trans k0
  have c2 := (hc.three kk).2.trans k2
  obtain ⟨n5, c1, hn5⟩ : ∃ n5, cur5[kk * 3 + 1]? = some (.string n5) ∧ nmR s t x.f0 n5 = nmR s t x.f0 x.f1 := by
    rcases hc.2 _ _ k1 with h3 | ⟨j2, kz, n2, h3, h4, h5, h6⟩
    · exact ⟨_, h3, rfl⟩
    · obtain rfl : j2 = kk := by omega
      rw [k0] at h4
      injection h4 with h4
      injection h4 with _ h4
      injection h5 with h5
      subst h4 h5
      exact ⟨_, h6, nmR_idem _ _ _ _⟩
  have l0 := (Array.getElem?_eq_some_iff.1 c0).1
  have l1 := (Array.getElem?_eq_some_iff.1 c1).1
  have l2 := (Array.getElem?_eq_some_iff.1 c2).1
  obtain ⟨cur6, hcur6⟩ : ∃ cur6, ((cur5.setIfInBounds (kk * 3) (.int .i64 x.f0)).setIfInBounds (kk * 3 + 1) (.string (nmR s t x.f0 x.f1))).setIfInBounds (kk * 3 + 2) u = cur6 := ⟨_, rfl⟩
  have d0 : cur6[kk * 3]? = some (.int .i64 x.f0) := by rw [← hcur6]; simp [Array.getElem?_setIfInBounds, l0]
  have d1 : cur6[kk * 3 + 1]? = some (.string (nmR s t x.f0 x.f1)) := by rw [← hcur6]; simp [Array.getElem?_setIfInBounds, l1]
  have d2 : cur6[kk * 3 + 2]? = some u := by rw [← hcur6]; simp [Array.getElem?_setIfInBounds, l2]
  have hrc : Rcell s t cur5 cur6 := by
    refine ⟨by rw [← hcur6]; simp, fun i z hz => ?_⟩
    by_cases h0 : i = kk * 3
    · subst h0; rw [c0] at hz; injection hz with hz; subst hz; exact .inl d0
    · by_cases h1 : i = kk * 3 + 1
      · subst h1; rw [c1] at hz; injection hz with hz; subst hz; exact .inr ⟨kk, x.f0, n5, rfl, c0, rfl, by rw [hn5]; exact d1⟩
      · by_cases h2 : i = kk * 3 + 2
        · subst h2; rw [c2] at hz; injection hz with hz; subst hz; exact .inl d2
        · left
          rw [← hcur6, Array.getElem?_setIfInBounds_ne (by omega), Array.getElem?_setIfInBounds_ne (by omega), Array.getElem?_setIfInBounds_ne (by omega)]
          exact hz
  have hg6 := wrE_at (i := kk * 3) (u0 := .int .i64 x.f0) (u1 := .string (nmR s t x.f0 x.f1)) (u2 := u) hg5
  rw [hcur6] at hg6
  have hput : Rn s t base top W5 (wrE W5 g (kk * 3) (.int .i64 x.f0) (.string (nmR s t x.f0 x.f1)) u) := Rn.put hg5 hgb (wrE_below hgb.1) (fun k hk => wrE_ne hk) hg6 hrc
  refine ⟨hput, ?_⟩
  obtain ⟨l6, h6, hL6⟩ := Rn.row _ (hRn.trans hput) (Nat.le_refl _) hR
  refine ⟨l6, h6, hL6, ?_⟩
  obtain ⟨l7, h7, hL7⟩ := Rn.row _ hput (Nat.le_refl _) hu
  have h8 := hL7.fix (renL_idem s t _ x.f2 (Nat.le_refl _))
  subst h8
  have hkl : kk < l6.length := by rw [hL6.1]; exact (List.getElem?_eq_some_iff.1 hx).1
  rcases RowE.of h6 with ⟨he, _⟩ | ⟨g', cap', cur', he, _, _, hg', _, _, _, hel'⟩
  · cases he
  · injection he with h1 _ _
    injection h1 with h1
    injection h1 with h1
    subst h1
    rw [hg6] at hg'
    injection hg' with hg'
    injection hg' with hg'
    subst hg'
    obtain ⟨u', b0, b1, b2, b3⟩ := hel' kk _ (List.getElem?_eq_getElem hkl)
    rw [d0] at b0
    rw [d1] at b1
    rw [d2] at b2
    injection b0 with b0
    injection b0 with _ b0
    injection b1 with b1
    injection b1 with b1
    injection b2 with b2
    subst b2
    have h9 := row_det _ (Nat.le_refl _) b3 h7
    rw [List.getElem?_eq_getElem hkl]
    exact congrArg some (by rw [renE_eq]; exact ex_ext b0.symm b1.symm h9)
end Go.Proofs.Ytacefdkfbpgedaa.Mine
namespace Go.Proofs.Ytacefdkfbpgedaa.Mine
open Go.Proofs.Ytacefdkfbpgedaa.PProgExprs
open Go.RowKit Go.Shelf Go.Proofs.YtacefdkfbpgedaaW.PrintWords Go.Proofs.YtacefdkfbpgedaaW.PrintLast Go.Proofs.YtacefdkfbpgedaaW.PrintMore
set_option linter.unusedVariables false
set_option linter.unusedSimpArgs false
end Go.Proofs.Ytacefdkfbpgedaa.Mine
namespace Go.Proofs.Ytacefdkfbpgedaa.Mine
open Go.Proofs.Ytacefdkfbpgedaa.PProgExprs
open Go.RowKit Go.Shelf Go.Proofs.YtacefdkfbpgedaaW.PrintWords Go.Proofs.YtacefdkfbpgedaaW.PrintLast Go.Proofs.YtacefdkfbpgedaaW.PrintMore
set_option linter.unusedVariables false
set_option linter.unusedSimpArgs false
def RowC (W : World) (b : Nat) (ok : Nat → Prop) (v : Value) (l : List Ca) : Prop :=
  (v = .slice none 0 0 ∧ l = []) ∨ ∃ g cap cur, v = .slice (some ⟨g, 0, none⟩) l.length cap ∧ b ≤ g ∧ ok g ∧ W.heap[g]? = some (.cells cur 99 (0, 0)) ∧ l.length ≤ cap ∧ cap ≤ maxLen ∧ cur.size = cap * 5 ∧
    ∀ j x, l[j]? = some x → ∃ u1 u4, cur[j * 5]? = some (.string x.f0) ∧ cur[j * 5 + 1]? = some u1 ∧ cur[j * 5 + 2]? = some (.int .i64 x.f2.f0) ∧ cur[j * 5 + 3]? = some (.string x.f2.f1) ∧ cur[j * 5 + 4]? = some u4 ∧
      Kd.R Kd.string 9 W b (fun k => ok k ∧ some k ≠ v.ownBlock) u1 x.f1 ∧ Kd.R k24 24 W b (fun k => ok k ∧ some k ≠ v.ownBlock) u4 x.f2.f2
theorem RowC.of {W : World} {b : Nat} {ok : Nat → Prop} {v : Value} {l : List Ca} (h : Kd.R k99 99 W b ok v l) : RowC W b ok v l := by
  obtain ⟨h0, inner, ho, hr⟩ := h
  rcases ho.2 with ⟨h1, h2⟩ | ⟨g, cap, cur, h1, hb, hg, hcap, hmax, hsz, htake⟩
  · exact .inl ⟨h1, List.length_eq_zero_iff.1 h2⟩
  · refine .inr ⟨g, cap, cur, h1, hb, h0 g (by rw [h1]; rfl), hg, hcap, hmax, hsz, fun j x hj => ?_⟩
    have hM := hr.2 j x hj
    obtain ⟨u1, u4, hc, hR1, hR4⟩ := k99_openM hM
    have hjl := (List.getElem?_eq_some_iff.1 hj).1
    have key : ∀ i z, [Value.string x.f0, u1, .int .i64 x.f2.f0, .string x.f2.f1, u4][i]? = some z → cur[j * 5 + i]? = some z := by
      intro i z hz
      rw [← hc, ← htake, List.getElem?_take] at hz
      split at hz
      · rw [List.getElem?_drop, List.getElem?_take] at hz
        split at hz
        · rw [Array.getElem?_toList] at hz; exact hz
        · cases hz
      · cases hz
    exact ⟨u1, u4, key 0 _ rfl, key 1 _ rfl, key 2 _ rfl, key 3 _ rfl, key 4 _ rfl, hR1, hR4⟩
theorem RowC.to {W : World} {b : Nat} {ok : Nat → Prop} {v : Value} {l : List Ca} (h : RowC W b ok v l) : Kd.R k99 99 W b ok v l := by
  rcases h with ⟨rfl, rfl⟩ | ⟨g, cap, cur, rfl, hb, hok, hg, hcap, hmax, hsz, hel⟩
  · exact Kd.R_nil _ _ _ _ _
  · have hL : (cur.toList.take (l.length * 5)).length = l.length * 5 := by rw [List.length_take, Array.length_toList (xs := cur), hsz]; exact Nat.min_eq_left (Nat.mul_le_mul_right 5 hcap)
    refine ⟨fun k hk => ?_, cur.toList.take (l.length * 5), ⟨hL, .inr ⟨g, cap, cur, rfl, hb, hg, hcap, hmax, hsz, rfl⟩⟩, ⟨hL, fun j x hj => ?_⟩⟩
    · have : g = k := by simpa [Value.ownBlock] using hk
      rw [← this]; exact hok
    · obtain ⟨u1, u4, h0, h1, h2, h3, h4, h5, h6⟩ := hel j x hj
      have hjl := (List.getElem?_eq_some_iff.1 hj).1
      have hM := k99_mkM W b _ x h5 h6
      have : ((cur.toList.take (l.length * 5)).drop (j * 5)).take 5 = [.string x.f0, u1, .int .i64 x.f2.f0, .string x.f2.f1, u4] := by
        apply List.ext_getElem?
        intro i
        rw [List.getElem?_take]
        split
        · next hi =>
          rw [List.getElem?_drop, List.getElem?_take, if_pos (by omega), Array.getElem?_toList]
          match i, hi with
          | 0, _ => simpa using h0
          | 1, _ => simpa using h1
          | 2, _ => simpa using h2
          | 3, _ => simpa using h3
          | 4, _ => simpa using h4
        · next hi => exact (List.getElem?_eq_none (by simp only [List.length_cons, List.length_nil]; omega)).symm
      rw [show k99.sz = 5 from rfl, this]
      exact hM
def LikeC (s t : ByteArray) (x x' : Ca) : Prop := x'.f0 = x.f0 ∧ x'.f1 = x.f1 ∧ x'.f2.f0 = x.f2.f0 ∧ x'.f2.f1 = x.f2.f1 ∧ LikeL s t x.f2.f2 x'.f2.f2
end Go.Proofs.Ytacefdkfbpgedaa.Mine
namespace Go.Proofs.Ytacefdkfbpgedaa.Mine
open Go.Proofs.Ytacefdkfbpgedaa.PProgExprs
open Go.RowKit Go.Shelf Go.Proofs.YtacefdkfbpgedaaW.PrintWords Go.Proofs.YtacefdkfbpgedaaW.PrintLast Go.Proofs.YtacefdkfbpgedaaW.PrintMore
set_option linter.unusedVariables false
set_option linter.unusedSimpArgs false
end Go.Proofs.Ytacefdkfbpgedaa.Mine
namespace Go.Proofs.Ytacefdkfbpgedaa.Mine
open Go.Proofs.Ytacefdkfbpgedaa.PProgExprs
open Go.RowKit Go.Shelf Go.Proofs.YtacefdkfbpgedaaW.PrintWords Go.Proofs.YtacefdkfbpgedaaW.PrintLast Go.Proofs.YtacefdkfbpgedaaW.PrintMore
set_option linter.unusedVariables false
set_option linter.unusedSimpArgs false
theorem ca_ext {x y : Ca} (h0 : x.f0 = y.f0) (h1 : x.f1 = y.f1) (h2 : x.f2 = y.f2) : x = y := by cases x; cases y; cases h0; cases h1; cases h2; rfl
theorem LikeC.ren {s t : ByteArray} {x x' : Ca} (h : LikeC s t x x') : renC s t x' = renC s t x := by
  obtain ⟨h0, h1, h2, h3, h4⟩ := h
  unfold renC
  rw [h0, h1, renE_eq s t x'.f2, renE_eq s t x.f2, h2, h3, h4.ren]
theorem LikeC.trans {s t : ByteArray} {x y z : Ca} (h : LikeC s t x y) (k : LikeC s t y z) : LikeC s t x z :=
  ⟨k.1.trans h.1, k.2.1.trans h.2.1, k.2.2.1.trans h.2.2.1, k.2.2.2.1.trans h.2.2.2.1, h.2.2.2.2.trans k.2.2.2.2⟩
theorem LikeC.fix {s t : ByteArray} {x y : Ca} (h : LikeC s t (renC s t x) y) : y = renC s t x := by
  obtain ⟨h0, h1, h2, h3, h4⟩ := h
  refine ca_ext h0 h1 (ex_ext h2 h3 ?_)
  refine h4.fix ?_
  simp only [renC, renE_eq]
  exact renL_idem s t _ _ (Nat.le_refl _)
end Go.Proofs.Ytacefdkfbpgedaa.Mine
namespace Go.Proofs.Ytacefdkfbpgedaa.Mine
open Go.Proofs.Ytacefdkfbpgedaa.PProgExprs
open Go.RowKit Go.Shelf Go.Proofs.YtacefdkfbpgedaaW.PrintWords Go.Proofs.YtacefdkfbpgedaaW.PrintLast Go.Proofs.YtacefdkfbpgedaaW.PrintMore
set_option linter.unusedVariables false
set_option linter.unusedSimpArgs false
end Go.Proofs.Ytacefdkfbpgedaa.Mine
namespace Go.Proofs.Ytacefdkfbpgedaa.Mine
open Go.Proofs.Ytacefdkfbpgedaa.PProgExprs
open Go.RowKit Go.Shelf Go.Proofs.YtacefdkfbpgedaaW.PrintWords Go.Proofs.YtacefdkfbpgedaaW.PrintLast Go.Proofs.YtacefdkfbpgedaaW.PrintMore
set_option linter.unusedVariables false
set_option linter.unusedSimpArgs false
set_option maxRecDepth 100000
end Go.Proofs.Ytacefdkfbpgedaa.Mine
