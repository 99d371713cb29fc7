/- What the law clears: rows of texts, expressions, cases and definitions, closed under clearing. -/
import Derived.Test.YtacefdkfbpgedaaCR10
import Derived.Laws.CopyRow
import Derived.Test.YtacefdkfbpgedaaCR8
import Derived.Deep.DeepCutAuto
import Derived.Test.YtacefdkfbpgedaaCR1
import Derived.Test.YtacefdkfbpgedaaCR3
import Derived.Test.YtacefdkfbpgedaaCR7
namespace Go.Proofs.Ytacefdkfbpgedaa.Mine
open Go.Proofs.Ytacefdkfbpgedaa.PProgExprs
open Go.RowKit Go.Shelf Go.Proofs.YtacefdkfbpgedaaW.PrintWords Go.Proofs.YtacefdkfbpgedaaW.PrintLast Go.Proofs.YtacefdkfbpgedaaW.PrintMore
set_option linter.unusedVariables false
set_option linter.unusedSimpArgs false
inductive Tg where
  | t | e | c | d
inductive Fl where
  | s | i | l (τ : Tg)
def Tg.ty : Tg → Nat
  | .t => 9
  | .e => 24
  | .c => 99
  | .d => 58
def Tg.fl : Tg → List Fl
  | .t => [.s]
  | .e => [.i, .s, .l .e]
  | .c => [.s, .l .t, .i, .s, .l .e]
  | .d => [.s, .l .t, .l .c, .i, .s, .l .e]
def Fl.zero : Fl → Value
  | .s => .string ⟨#[]⟩
  | .i => .int .i64 0
  | .l _ => .slice none 0 0
def Fl.good (p : Tg → Value → Prop) : Fl → Value → Prop
  | .s, u => ∃ s, u = .string s
  | .i, u => ∃ k, u = .int .i64 k
  | .l τ, u => p τ u
theorem Tg.pos (τ : Tg) : 0 < τ.fl.length := by cases τ <;> decide
def Vg (W : World) (base top : Nat) : Nat → Tg → Value → Prop
  | 0, _, v => v = .slice none 0 0
  | m + 1, τ, v => v = .slice none 0 0 ∨ ∃ g n cap cur, v = .slice (some ⟨g, 0, none⟩) n cap ∧ n ≤ 9223372036854775807 ∧ (base ≤ g ∧ g < top) ∧ W.heap[g]? = some (.cells cur τ.ty (0, 0)) ∧
      ∀ j i f, j < n → τ.fl[i]? = some f → ∃ u, cur[j * τ.fl.length + i]? = some u ∧ Fl.good (Vg W base top m) f u
theorem Vg.nil {W : World} {base top : Nat} {τ : Tg} : ∀ {m : Nat}, Vg W base top m τ (.slice none 0 0)
  | 0 => by simp [Vg]
  | m + 1 => by simp [Vg]
theorem Vg.slice {W : World} {base top : Nat} {m : Nat} {τ : Tg} {v : Value} (h : Vg W base top m τ v) : ∃ A n c, v = .slice A n c := by
  cases m with
  | zero => rw [Vg] at h; exact ⟨_, _, _, h⟩
  | succ m =>
    rw [Vg] at h
    rcases h with h | ⟨g, n, cap, cur, h, _⟩
    · exact ⟨_, _, _, h⟩
    · exact ⟨_, _, _, h⟩
theorem Fl.good_mono {p q : Tg → Value → Prop} (h : ∀ τ v, p τ v → q τ v) : ∀ {f : Fl} {u : Value}, Fl.good p f u → Fl.good q f u
  | .s, _, k => k
  | .i, _, k => k
  | .l τ, u, k => h τ u k
theorem Vg.succ {W : World} {base top : Nat} : ∀ {m : Nat} {τ : Tg} {v : Value}, Vg W base top m τ v → Vg W base top (m + 1) τ v
  | 0, τ, v, h => by rw [Vg] at h; subst h; exact Vg.nil
  | m + 1, τ, v, h => by
    rw [Vg] at h ⊢
    rcases h with h | ⟨g, n, cap, cur, h1, h2, h3, h4, h5⟩
    · exact .inl h
    · refine .inr ⟨g, n, cap, cur, h1, h2, h3, h4, fun j i f hj hf => ?_⟩
      obtain ⟨u, a, b⟩ := h5 j i f hj hf
      exact ⟨u, a, Fl.good_mono (fun _ _ h => Vg.succ h) b⟩
theorem Vg.mono {W : World} {base top m k : Nat} {τ : Tg} {v : Value} (h : Vg W base top m τ v) (hk : m ≤ k) : Vg W base top k τ v := by
  obtain ⟨d, rfl⟩ : ∃ d, k = m + d := ⟨k - m, by omega⟩
  clear hk
  induction d with
  | zero => exact h
  | succ d ih => exact ih.succ
def Spd (base top : Nat) (W W' : World) : Prop := Below base W W' ∧ (∀ k, top ≤ k → k < W.heap.size → W'.heap[k]? = W.heap[k]?) ∧ ∀ m τ v, Vg W base top m τ v → Vg W' base top m τ v
theorem Spd.refl (base top : Nat) (W : World) : Spd base top W W := ⟨Below.refl _ _, fun _ _ _ => rfl, fun _ _ _ h => h⟩
theorem Spd.trans {base top : Nat} {W W' W2 : World} (h : Spd base top W W') (k : Spd base top W' W2) : Spd base top W W2 := ⟨h.1.trans k.1, fun i hi hl => (k.2.1 i hi (Nat.lt_of_lt_of_le hl h.1.size)).trans (h.2.1 i hi hl), fun m τ v hv => k.2.2 m τ v (h.2.2 m τ v hv)⟩
theorem Spd.below {base top : Nat} {W W' : World} (hb : Below W.heap.size W W') (hbase : base ≤ W.heap.size) : Spd base top W W' := by
  refine ⟨hb.mono hbase, fun k _ hk => hb.block k hk, fun m => ?_⟩
  induction m with
  | zero => intro τ v h; rw [Vg] at h ⊢; exact h
  | succ m ih =>
    intro τ v h
    rw [Vg] at h ⊢
    rcases h with h | ⟨g, n, cap, cur, h1, h2, h3, h4, h5⟩
    · exact .inl h
    · refine .inr ⟨g, n, cap, cur, h1, h2, h3, blk_below h4 hb, fun j i f hj hf => ?_⟩
      obtain ⟨u, a, b⟩ := h5 j i f hj hf
      exact ⟨u, a, Fl.good_mono ih b⟩
theorem Vg.ofR {α : Type} {d : Kd α} {τ : Tg} {W : World} {base m : Nat} {ok : Nat → Prop} {v : Value} {xs : List α} (hsz : d.sz = τ.fl.length) (hR : d.R τ.ty W base ok v xs)
    (hel : ∀ x ∈ xs, ∀ (ok : Nat → Prop) (cs : List Value), d.M W base ok x cs → ∀ (i : Nat) (f : Fl), τ.fl[i]? = some f → ∃ u, (cs : List Value)[i]? = some u ∧ Fl.good (Vg W base W.heap.size m) f u) : Vg W base W.heap.size (m + 1) τ v := by
  obtain ⟨_, inner, ho, hr⟩ := hR
  rw [Vg]
  rcases ho.2 with ⟨h1, h2⟩ | ⟨g, cap, cur, h1, hb, hg, hcap, hmax, hsz', htake⟩
  · exact .inl h1
  · refine .inr ⟨g, xs.length, cap, cur, h1, by have : maxLen ≤ 9223372036854775807 := (by decide); omega, ⟨hb, blk_lt hg⟩, hg, fun j i f hj hf => ?_⟩
    have hM := hr.2 j _ (List.getElem?_eq_getElem hj)
    obtain ⟨u, hc, hgd⟩ := hel _ (List.getElem_mem hj) _ _ hM i f hf
    refine ⟨u, ?_, hgd⟩
    rw [hsz] at hc
    rw [← htake, List.getElem?_take] at hc
    split at hc
    · rw [List.getElem?_drop, List.getElem?_take] at hc
      split at hc
      · rw [Array.getElem?_toList] at hc; exact hc
      · cases hc
    · cases hc
theorem OwnE.vg {W : World} {base : Nat} : ∀ (m : Nat) {ok : Nat → Prop} {v : Value} {l : List Ex}, szL l ≤ m → Kd.R k24 24 W base ok v l → Vg W base W.heap.size (m + 1) .e v := by
  intro m
  induction m with
  | zero =>
    intro ok v l h hR
    cases l with
    | nil => exact Vg.ofR (τ := .e) rfl hR (fun x hx => by cases hx)
    | cons x xs => rw [szL] at h; have := szE_pos x; omega
  | succ m ih =>
    intro ok v l h hR
    refine Vg.ofR (τ := .e) rfl hR (fun x hx ok cs hM i f hf => ?_)
    obtain ⟨u, rfl, hRu⟩ := k24_openM hM
    have hxs := szL_mem hx
    have hs := szE_eq x
    have hi : i < 3 := (List.getElem?_eq_some_iff.1 hf).1
    obtain rfl | rfl | rfl : i = 0 ∨ i = 1 ∨ i = 2 := by omega
    · simp [Tg.fl] at hf; subst hf; exact ⟨_, rfl, _, rfl⟩
    · simp [Tg.fl] at hf; subst hf; exact ⟨_, rfl, _, rfl⟩
    · simp [Tg.fl] at hf; subst hf; exact ⟨_, rfl, ih (by omega) hRu⟩
end Go.Proofs.Ytacefdkfbpgedaa.Mine
namespace Go.Proofs.Ytacefdkfbpgedaa.Mine
open Go.Proofs.Ytacefdkfbpgedaa.PProgExprs
open Go.RowKit Go.Shelf Go.Proofs.YtacefdkfbpgedaaW.PrintWords Go.Proofs.YtacefdkfbpgedaaW.PrintLast Go.Proofs.YtacefdkfbpgedaaW.PrintMore
set_option linter.unusedVariables false
set_option linter.unusedSimpArgs false
theorem Vg.bound {W : World} {base top m : Nat} {τ : Tg} {v : Value} (h : Vg W base top m τ v) : ∃ A n c, v = .slice A n c ∧ n ≤ 9223372036854775807 := by
  cases m with
  | zero => rw [Vg] at h; exact ⟨_, _, _, h, by omega⟩
  | succ m =>
    rw [Vg] at h
    rcases h with h | ⟨g, n, cap, cur, h, hn, _⟩
    · exact ⟨_, _, _, h, by omega⟩
    · exact ⟨_, _, _, h, hn⟩
theorem Vg.at {W : World} {base top m : Nat} {τ : Tg} {A : Option Addr} {n c : Nat} (h : Vg W base top (m + 1) τ (.slice A n c)) {j : Nat} (hj : j < n) :
    ∃ g cur, A = some ⟨g, 0, none⟩ ∧ (base ≤ g ∧ g < top) ∧ W.heap[g]? = some (.cells cur τ.ty (0, 0)) ∧ ∀ i f, τ.fl[i]? = some f → ∃ u, cur[j * τ.fl.length + i]? = some u ∧ Fl.good (Vg W base top m) f u := by
  rw [Vg] at h
  rcases h with h | ⟨g, n1, cap, cur, h, hn, hg, hb, hel⟩
  · cases h; omega
  · cases h
    exact ⟨g, cur, rfl, hg, hb, fun i f hf => hel j i f hj hf⟩
end Go.Proofs.Ytacefdkfbpgedaa.Mine
namespace Go.Proofs.Ytacefdkfbpgedaa.Mine
open Go.Proofs.Ytacefdkfbpgedaa.PProgExprs
open Go.RowKit Go.Shelf Go.Proofs.YtacefdkfbpgedaaW.PrintWords Go.Proofs.YtacefdkfbpgedaaW.PrintLast Go.Proofs.YtacefdkfbpgedaaW.PrintMore
set_option linter.unusedVariables false
set_option linter.unusedSimpArgs false
set_option maxRecDepth 100000
abbrev PBox (B : Nat) (A : Option Addr) (n c : Nat) (W : World) : Prop := W.heap[B]? = some (.cells #[.slice A n c] 53 (0, 0))
abbrev LrS (W0 : World) (b0 : Nat) (A : Option Addr) (n c : Nat) (W : World) : Prop := Below W0.heap.size W0 W ∧ W.cell? ⟨b0, 0, none⟩ = some (.slice A n c)
theorem LrS.step {W0 : World} {b0 : Nat} {A : Option Addr} {n c : Nat} {W W' : World} (h : LrS W0 b0 A n c W) (hb : Below W.heap.size W W') : LrS W0 b0 A n c W' := ⟨h.1.trans (hb.mono h.1.size), pw_cell_below hb h.2⟩
theorem eqL_refl {α : Type} {p : α → α → Bool} (h : ∀ x, p x x = true) (xs : List α) : eqL p xs xs = true := eqL_true rfl (fun j x y _ hx hy => by rw [hx] at hy; cases hy; exact h x)
theorem sameD_refl (d : De) : sameD d d = true := by
  simp only [sameD, decide_true, Bool.true_and, Bool.and_eq_true]
  exact ⟨sameE_iff.2 rfl, eqL_refl (fun c => by simp [sameC, sameE_iff]) _⟩
theorem sameP_refl (l : List De) : eqL sameD l l = true := eqL_refl sameD_refl l
end Go.Proofs.Ytacefdkfbpgedaa.Mine
namespace Go.Proofs.Ytacefdkfbpgedaa.Mine
open Go.Proofs.Ytacefdkfbpgedaa.PProgExprs
open Go.RowKit Go.Shelf Go.Proofs.YtacefdkfbpgedaaW.PrintWords Go.Proofs.YtacefdkfbpgedaaW.PrintLast Go.Proofs.YtacefdkfbpgedaaW.PrintMore
set_option linter.unusedVariables false
set_option linter.unusedSimpArgs false
set_option maxRecDepth 100000
theorem DefN.new (X : World) (base : Nat) (ok : Nat → Prop) (hb : base ≤ X.heap.size) (hok : ok X.heap.size) : Kd.N k58 58 (X.alloc (.cells #[] 58)) base ok (.slice (some ⟨X.heap.size, 0, none⟩) 0 0) [] := by
  have h : Kd.R k58 58 (X.alloc (.cells #[] 58)) X.heap.size ok (.slice (some ⟨X.heap.size, 0, none⟩) 0 0) [] :=
    ⟨fun k hk => by cases hk; exact hok, [], World.ownsRow_lit (base := X.heap.size) (e := 58) (size := 6) X #[] 0 (Nat.le_refl _) (by simp [maxLen]) (by simp), Reps.none _ _⟩
  exact Kd.R_N (Kd.R_lower h hb)
abbrev ChS (a b : Nat) (A : Option Addr) (n c : Nat) (v0 v1 v2 v3 v4 v5 : Value) (W : World) : Prop := W.cell? ⟨a, 0, none⟩ = some (.slice A n c) ∧ W.cell? ⟨b, 0, none⟩ = some v0 ∧ W.cell? ⟨b, 1, none⟩ = some v1 ∧ W.cell? ⟨b, 2, none⟩ = some v2 ∧ W.cell? ⟨b, 3, none⟩ = some v3 ∧ W.cell? ⟨b, 4, none⟩ = some v4 ∧ W.cell? ⟨b, 5, none⟩ = some v5
theorem ChS.of {a b : Nat} {A : Option Addr} {n c : Nat} {v0 v1 v2 v3 v4 v5 : Value} {W : World} (h : W.heap[a]? = some (.cells #[.slice A n c] 53 (0, 0))) (k : W.heap[b]? = some (.cells #[v0, v1, v2, v3, v4, v5] 58 (0, 0))) : ChS a b A n c v0 v1 v2 v3 v4 v5 W :=
  ⟨(blk_cell h 0).trans rfl, (blk_cell k 0).trans rfl, (blk_cell k 1).trans rfl, (blk_cell k 2).trans rfl, (blk_cell k 3).trans rfl, (blk_cell k 4).trans rfl, (blk_cell k 5).trans rfl⟩
theorem okP_of {l : List De} (hl : l.length ≤ 100000) (h : ∀ d ∈ l, bigD d = false) : OkP l := by
  have hn : 40 ≤ nmLim := by decide
  refine ⟨hl, fun d hd => bigD_okD (h d hd), fun d hd => ?_, fun d hd => ?_⟩
  · have := (bigD_ok (h d hd)).1; omega
  · have hb := bodies_ok (h d hd)
    have := szL_le hb.2
    have : (bodiesD d).length * 60 ≤ 10 * 60 := Nat.mul_le_mul_right _ hb.1
    omega
end Go.Proofs.Ytacefdkfbpgedaa.Mine
namespace Go.Proofs.Ytacefdkfbpgedaa.Mine
open Go.Proofs.Ytacefdkfbpgedaa.PProgExprs
open Go.RowKit Go.Shelf Go.Proofs.YtacefdkfbpgedaaW.PrintWords Go.Proofs.YtacefdkfbpgedaaW.PrintLast Go.Proofs.YtacefdkfbpgedaaW.PrintMore
set_option linter.unusedVariables false
set_option linter.unusedSimpArgs false
set_option maxRecDepth 100000
end Go.Proofs.Ytacefdkfbpgedaa.Mine
namespace Go.Proofs.Ytacefdkfbpgedaa.Mine
open Go.Proofs.Ytacefdkfbpgedaa.PProgExprs
open Go.RowKit Go.Shelf Go.Proofs.YtacefdkfbpgedaaW.PrintWords Go.Proofs.YtacefdkfbpgedaaW.PrintLast Go.Proofs.YtacefdkfbpgedaaW.PrintMore
set_option linter.unusedVariables false
set_option linter.unusedSimpArgs false
set_option maxRecDepth 100000
end Go.Proofs.Ytacefdkfbpgedaa.Mine
namespace Go.Proofs.Ytacefdkfbpgedaa.Mine
open Go.Proofs.Ytacefdkfbpgedaa.PProgExprs
open Go.RowKit Go.Shelf Go.Proofs.YtacefdkfbpgedaaW.PrintWords Go.Proofs.YtacefdkfbpgedaaW.PrintLast Go.Proofs.YtacefdkfbpgedaaW.PrintMore
set_option linter.unusedVariables false
set_option linter.unusedSimpArgs false
set_option maxRecDepth 100000
def nmR (s t : ByteArray) (k : Int) (n : ByteArray) : ByteArray := if k = 3 ∧ n = s then t else n
mutual
def renE (s t : ByteArray) : Ex → Ex
  | ⟨k, n, l⟩ => ⟨k, nmR s t k n, renL s t l⟩
def renL (s t : ByteArray) : List Ex → List Ex
  | [] => []
  | x :: xs => renE s t x :: renL s t xs
end
theorem renE_eq (s t : ByteArray) (e : Ex) : renE s t e = ⟨e.f0, nmR s t e.f0 e.f1, renL s t e.f2⟩ := by cases e; rw [renE]
theorem renL_map (s t : ByteArray) : ∀ l : List Ex, renL s t l = l.map (renE s t)
  | [] => by rw [renL]; rfl
  | x :: xs => by rw [renL, renL_map s t xs]; rfl
theorem renL_length (s t : ByteArray) (l : List Ex) : (renL s t l).length = l.length := by rw [renL_map, List.length_map]
abbrev RnS (B3 B7 : Nat) (v0 v1 : Value) (p : Addr) (u0 u1 u2 : Value) (W : World) : Prop := W.cell? ⟨B3, 2, none⟩ = some v0 ∧ W.cell? ⟨B7, 2, none⟩ = some v1 ∧ W.cell? p = some u0 ∧ W.cell? ⟨p.block, p.off + 1, none⟩ = some u1 ∧ W.cell? ⟨p.block, p.off + 2, none⟩ = some u2
theorem RnS.keep {n B3 B7 : Nat} {v0 v1 : Value} {p : Addr} {u0 u1 u2 : Value} {W W' : World} (h : RnS B3 B7 v0 v1 p u0 u1 u2 W) (hb : Below n W W') (h3 : B3 < n) (h7 : B7 < n) (hp : p.block < n) : RnS B3 B7 v0 v1 p u0 u1 u2 W' :=
  ⟨(hb.cell (p := ⟨B3, 2, none⟩) h3).trans h.1, (hb.cell (p := ⟨B7, 2, none⟩) h7).trans h.2.1, (hb.cell hp).trans h.2.2.1, (hb.cell (p := ⟨p.block, p.off + 1, none⟩) hp).trans h.2.2.2.1, (hb.cell (p := ⟨p.block, p.off + 2, none⟩) hp).trans h.2.2.2.2⟩
end Go.Proofs.Ytacefdkfbpgedaa.Mine
namespace Go.Proofs.Ytacefdkfbpgedaa.Mine
open Go.Proofs.Ytacefdkfbpgedaa.PProgExprs
open Go.RowKit Go.Shelf Go.Proofs.YtacefdkfbpgedaaW.PrintWords Go.Proofs.YtacefdkfbpgedaaW.PrintLast Go.Proofs.YtacefdkfbpgedaaW.PrintMore
set_option linter.unusedVariables false
set_option linter.unusedSimpArgs false
def renC (s t : ByteArray) (c : Ca) : Ca := ⟨c.f0, c.f1, renE s t c.f2⟩
def renDb (s t : ByteArray) (d : De) : De := ⟨d.f0, d.f1, d.f2.map (renC s t), if d.f2.length = 0 then renE s t d.f3 else d.f3⟩
def renD (s t : ByteArray) (d : De) : De := ⟨if d.f0 = s then t else d.f0, d.f1, d.f2.map (renC s t), if d.f2.length = 0 then renE s t d.f3 else d.f3⟩
def renP (s t : ByteArray) (l : List De) : List De := l.map (renD s t)
def nameD (t : ByteArray) (d : De) : De := ⟨t, d.f1, d.f2, d.f3⟩
theorem renD_no {s t : ByteArray} {d : De} (h : d.f0 ≠ s) : renD s t d = renDb s t d := by simp [renD, renDb, h]
theorem renD_yes {s t : ByteArray} {d : De} (h : d.f0 = s) : renD s t d = nameD t (renDb s t d) := by simp [renD, renDb, nameD, h]
theorem check_nodup {l : List De} (h : checkP l = 0) : (l.map (·.f0)).Nodup := by
  unfold checkP at h
  cases h1 : decide ((l.length : Int) < 1) <;> rw [h1] at h
  · cases h2 : decide ((12 : Int) < (l.length : Int)) <;> rw [h2] at h
    · simp only [cond_false] at h
      by_cases h3 : firstErr rightE l = 0
      · rw [if_pos h3] at h
        cases h4 : twB (l.map (·.f0)) <;> rw [h4] at h
        · simpa [twB] using h4
        · simp at h
      · rw [if_neg h3] at h; exact absurd h h3
    · simp at h
  · simp at h
theorem ren_at {s t : ByteArray} {l : List De} {i : Nat} {d : De} (hn : (l.map (·.f0)).Nodup) (hi : l[i]? = some d) (hd : d.f0 = s) : renP s t l = (l.map (renDb s t)).set i (nameD t (renDb s t d)) := by
  obtain ⟨hlt, hdd⟩ := List.getElem?_eq_some_iff.1 hi
  apply List.ext_getElem?
  intro j
  rw [renP, List.getElem?_map, List.getElem?_set]
  by_cases hj : i = j
  · subst hj
    rw [hi, if_pos rfl, if_pos (by simpa using hlt), Option.map_some, renD_yes hd]
  · rw [if_neg hj, List.getElem?_map]
    rcases Nat.lt_or_ge j l.length with hjl | hjl
    · rw [List.getElem?_eq_getElem hjl, Option.map_some, Option.map_some]
      have hne : l[j].f0 ≠ s := fun he => by
        have h1 : (l.map (·.f0))[i]'(by simpa using hlt) = (l.map (·.f0))[j]'(by simpa using hjl) := by simp [hdd, hd, he]
        rcases Nat.lt_or_gt_of_ne hj with h | h
        · exact List.pairwise_iff_getElem.1 hn i j (by simpa using hlt) (by simpa using hjl) h h1
        · exact List.pairwise_iff_getElem.1 hn j i (by simpa using hjl) (by simpa using hlt) h h1.symm
      rw [renD_no hne]
    · rw [List.getElem?_eq_none hjl]; rfl
theorem numD_get {l : List De} {s : ByteArray} {i : Nat} (h : numD l s = (i : Int)) : ∃ d, l[i]? = some d ∧ d.f0 = s := by
  unfold numD idxB at h
  split at h
  · next ha =>
    have hi : l.findIdx (fun d => decide (d.f0 = s)) = i := by omega
    obtain ⟨x, hx, hp⟩ := List.any_eq_true.1 ha
    have hlt : l.findIdx (fun d => decide (d.f0 = s)) < l.length := List.findIdx_lt_length_of_exists ⟨x, hx, hp⟩
    rw [hi] at hlt
    refine ⟨l[i], List.getElem?_eq_getElem hlt, ?_⟩
    have := List.findIdx_getElem (p := fun d : De => decide (d.f0 = s)) (xs := l) (w := by rw [hi]; exact hlt)
    simp only [hi] at this
    simpa using this
  · omega
theorem nmR_idem (s t : ByteArray) (k : Int) (n : ByteArray) : nmR s t k (nmR s t k n) = nmR s t k n := by
  unfold nmR
  by_cases h : k = 3 ∧ n = s
  · rw [if_pos h]
    by_cases h2 : k = 3 ∧ t = s
    · rw [if_pos h2]
    · rw [if_neg h2]
  · rw [if_neg h, if_neg h]
theorem renL_idem (s t : ByteArray) (m : Nat) : ∀ l : List Ex, szL l ≤ m → renL s t (renL s t l) = renL s t l := by
  induction m with
  | zero =>
    intro l h
    cases l with
    | nil => simp [renL]
    | cons x xs => rw [szL] at h; have := szE_pos x; omega
  | succ m ih =>
    intro l
    induction l with
    | nil => intro _; simp [renL]
    | cons x xs ihx =>
      intro h
      rw [szL] at h
      have hx := szE_eq x
      have hp := szE_pos x
      rw [renL, renL, ihx (by omega), renE_eq s t x, renE_eq s t ⟨_, _, _⟩]
      simp only
      rw [nmR_idem, ih x.f2 (by omega)]
theorem renE_idem (s t : ByteArray) (e : Ex) : renE s t (renE s t e) = renE s t e := by
  rw [renE_eq s t e, renE_eq s t ⟨_, _, _⟩]
  simp only
  rw [nmR_idem, renL_idem s t _ e.f2 (Nat.le_refl _)]
end Go.Proofs.Ytacefdkfbpgedaa.Mine
namespace Go.Proofs.Ytacefdkfbpgedaa.Mine
open Go.Proofs.Ytacefdkfbpgedaa.PProgExprs
open Go.RowKit Go.Shelf Go.Proofs.YtacefdkfbpgedaaW.PrintWords Go.Proofs.YtacefdkfbpgedaaW.PrintLast Go.Proofs.YtacefdkfbpgedaaW.PrintMore
set_option linter.unusedVariables false
set_option linter.unusedSimpArgs false
set_option maxRecDepth 100000
def renR (ps : List De) (s t : ByteArray) : List De × Int := if numD ps s < 0 then ([], 1) else if nameB t = false then ([], 4) else if s ≠ t ∧ 0 ≤ numD ps t then ([], 5) else (renP s t ps, 0)
abbrev CcS (B10 B11 : Nat) (v0 v1 : Value) (p : Addr) (u0 u1 u2 u3 u4 : Value) (W : World) : Prop := W.cell? ⟨B10, 2, none⟩ = some v0 ∧ W.cell? ⟨B11, 2, none⟩ = some v1 ∧ W.cell? p = some u0 ∧ W.cell? ⟨p.block, p.off + 1, none⟩ = some u1 ∧ W.cell? ⟨p.block, p.off + 2, none⟩ = some u2 ∧ W.cell? ⟨p.block, p.off + 3, none⟩ = some u3 ∧ W.cell? ⟨p.block, p.off + 4, none⟩ = some u4
theorem CcS.keep {n B10 B11 : Nat} {v0 v1 : Value} {p : Addr} {u0 u1 u2 u3 u4 : Value} {W W' : World} (h : CcS B10 B11 v0 v1 p u0 u1 u2 u3 u4 W) (hb : Below n W W') (h3 : B10 < n) (h7 : B11 < n) (hp : p.block < n) : CcS B10 B11 v0 v1 p u0 u1 u2 u3 u4 W' :=
  ⟨(hb.cell (p := ⟨B10, 2, none⟩) h3).trans h.1, (hb.cell (p := ⟨B11, 2, none⟩) h7).trans h.2.1, (hb.cell hp).trans h.2.2.1, (hb.cell (p := ⟨p.block, p.off + 1, none⟩) hp).trans h.2.2.2.1, (hb.cell (p := ⟨p.block, p.off + 2, none⟩) hp).trans h.2.2.2.2.1, (hb.cell (p := ⟨p.block, p.off + 3, none⟩) hp).trans h.2.2.2.2.2.1, (hb.cell (p := ⟨p.block, p.off + 4, none⟩) hp).trans h.2.2.2.2.2.2⟩
end Go.Proofs.Ytacefdkfbpgedaa.Mine
namespace Go.Proofs.Ytacefdkfbpgedaa.Mine
open Go.Proofs.Ytacefdkfbpgedaa.PProgExprs
open Go.RowKit Go.Shelf Go.Proofs.YtacefdkfbpgedaaW.PrintWords Go.Proofs.YtacefdkfbpgedaaW.PrintLast Go.Proofs.YtacefdkfbpgedaaW.PrintMore
set_option linter.unusedVariables false
set_option linter.unusedSimpArgs false
end Go.Proofs.Ytacefdkfbpgedaa.Mine
namespace Go.Proofs.Ytacefdkfbpgedaa.Mine
open Go.Proofs.Ytacefdkfbpgedaa.PProgExprs
open Go.RowKit Go.Shelf Go.Proofs.YtacefdkfbpgedaaW.PrintWords Go.Proofs.YtacefdkfbpgedaaW.PrintLast Go.Proofs.YtacefdkfbpgedaaW.PrintMore
set_option linter.unusedVariables false
set_option linter.unusedSimpArgs false
end Go.Proofs.Ytacefdkfbpgedaa.Mine
namespace Go.Proofs.Ytacefdkfbpgedaa.Mine
open Go.Proofs.Ytacefdkfbpgedaa.PProgExprs
open Go.RowKit Go.Shelf Go.Proofs.YtacefdkfbpgedaaW.PrintWords Go.Proofs.YtacefdkfbpgedaaW.PrintLast Go.Proofs.YtacefdkfbpgedaaW.PrintMore
set_option linter.unusedVariables false
set_option linter.unusedSimpArgs false
def RowE (W : World) (b : Nat) (ok : Nat → Prop) (v : Value) (l : List Ex) : Prop :=
  (v = .slice none 0 0 ∧ l = []) ∨ ∃ g cap cur, v = .slice (some ⟨g, 0, none⟩) l.length cap ∧ b ≤ g ∧ ok g ∧ W.heap[g]? = some (.cells cur 24 (0, 0)) ∧ l.length ≤ cap ∧ cap ≤ maxLen ∧ cur.size = cap * 3 ∧
    ∀ j x, l[j]? = some x → ∃ u, cur[j * 3]? = some (.int .i64 x.f0) ∧ cur[j * 3 + 1]? = some (.string x.f1) ∧ cur[j * 3 + 2]? = some u ∧ Kd.R k24 24 W b (fun k => ok k ∧ some k ≠ v.ownBlock) u x.f2
theorem RowE.of {W : World} {b : Nat} {ok : Nat → Prop} {v : Value} {l : List Ex} (h : Kd.R k24 24 W b ok v l) : RowE W b ok v l := by
  obtain ⟨h0, inner, ho, hr⟩ := h
  rcases ho.2 with ⟨h1, h2⟩ | ⟨g, cap, cur, h1, hb, hg, hcap, hmax, hsz, htake⟩
  · exact .inl ⟨h1, List.length_eq_zero_iff.1 h2⟩
  · refine .inr ⟨g, cap, cur, h1, hb, h0 g (by rw [h1]; rfl), hg, hcap, hmax, hsz, fun j x hj => ?_⟩
    have hM := hr.2 j x hj
    obtain ⟨u, hc, hRu⟩ := k24_openM hM
    have hjl := (List.getElem?_eq_some_iff.1 hj).1
    have key : ∀ i z, [Value.int .i64 x.f0, .string x.f1, u][i]? = some z → cur[j * 3 + i]? = some z := by
      intro i z hz
      rw [← hc, ← htake, List.getElem?_take] at hz
      split at hz
      · rw [List.getElem?_drop, List.getElem?_take] at hz
        split at hz
        · rw [Array.getElem?_toList] at hz; exact hz
        · cases hz
      · cases hz
    exact ⟨u, key 0 _ rfl, key 1 _ rfl, key 2 _ rfl, hRu⟩
theorem RowE.to {W : World} {b : Nat} {ok : Nat → Prop} {v : Value} {l : List Ex} (h : RowE W b ok v l) : Kd.R k24 24 W b ok v l := by
  rcases h with ⟨rfl, rfl⟩ | ⟨g, cap, cur, rfl, hb, hok, hg, hcap, hmax, hsz, hel⟩
  · exact Kd.R_nil _ _ _ _ _
  · have hL : (cur.toList.take (l.length * 3)).length = l.length * 3 := by rw [List.length_take, Array.length_toList (xs := cur), hsz]; exact Nat.min_eq_left (Nat.mul_le_mul_right 3 hcap)
    refine ⟨fun k hk => ?_, cur.toList.take (l.length * 3), ⟨hL, .inr ⟨g, cap, cur, rfl, hb, hg, hcap, hmax, hsz, rfl⟩⟩, ⟨hL, fun j x hj => ?_⟩⟩
    · have : g = k := by simpa [Value.ownBlock] using hk
      rw [← this]; exact hok
    · obtain ⟨u, h0, h1, h2, h3⟩ := hel j x hj
      have hjl := (List.getElem?_eq_some_iff.1 hj).1
      have hM := k24_mkM W b _ x h3
      have : ((cur.toList.take (l.length * 3)).drop (j * 3)).take 3 = [.int .i64 x.f0, .string x.f1, u] := by
        apply List.ext_getElem?
        intro i
        rw [List.getElem?_take]
        split
        · next hi =>
          rw [List.getElem?_drop, List.getElem?_take, if_pos (by omega), Array.getElem?_toList]
          match i, hi with
          | 0, _ => simpa using h0
          | 1, _ => simpa using h1
          | 2, _ => simpa using h2
        · next hi => exact (List.getElem?_eq_none (by simp only [List.length_cons, List.length_nil]; omega)).symm
      rw [show k24.sz = 3 from rfl, this]
      exact hM
theorem row_det : ∀ (m : Nat) {W : World} {b b' : Nat} {ok ok' : Nat → Prop} {v : Value} {l l' : List Ex}, szL l ≤ m → Kd.R k24 24 W b ok v l → Kd.R k24 24 W b' ok' v l' → l = l' := by
  intro m
  induction m with
  | zero =>
    intro W b b' ok ok' v l l' hm h h'
    cases l with
    | cons x xs => rw [szL] at hm; have := szE_pos x; omega
    | nil =>
      rcases RowE.of h with ⟨rfl, _⟩ | ⟨g, cap, cur, rfl, _⟩
      · rcases RowE.of h' with ⟨_, rfl⟩ | ⟨g', cap', cur', he, _⟩
        · rfl
        · cases he
      · rcases RowE.of h' with ⟨he, _⟩ | ⟨g', cap', cur', he, _⟩
        · cases he
        · injection he with _ h2
          exact (List.length_eq_zero_iff.1 h2.symm).symm
  | succ m ih =>
    intro W b b' ok ok' v l l' hm h h'
    rcases RowE.of h with ⟨rfl, rfl⟩ | ⟨g, cap, cur, rfl, _, _, hg, _, _, _, hel⟩
    · rcases RowE.of h' with ⟨_, rfl⟩ | ⟨g', cap', cur', he, _⟩
      · rfl
      · cases he
    · rcases RowE.of h' with ⟨he, _⟩ | ⟨g', cap', cur', he, _, _, hg', _, _, _, hel'⟩
      · cases he
      · injection he with h1 h2 _
        injection h1 with h1
        injection h1 with h1
        subst h1
        rw [hg] at hg'
        injection hg' with hg'
        injection hg' with hg'
        subst hg'
        apply List.ext_getElem h2
        intro j hj hj'
        obtain ⟨u, a0, a1, a2, a3⟩ := hel j _ (List.getElem?_eq_getElem hj)
        obtain ⟨u', b0, b1, b2, b3⟩ := hel' j _ (List.getElem?_eq_getElem hj')
        rw [a0] at b0
        rw [a1] at b1
        rw [a2] at b2
        injection b0 with b0
        injection b0 with _ b0
        injection b1 with b1
        injection b1 with b1
        injection b2 with b2
        subst b2
        have hx := szL_mem (List.getElem_mem hj)
        have hs := szE_eq l[j]
        have h4 := ih (by omega) a3 b3
        exact ex_ext b0 b1 h4
def Rcell (s t : ByteArray) (cur cur' : Array Value) : Prop :=
  cur'.size = cur.size ∧ ∀ i u, cur[i]? = some u → cur'[i]? = some u ∨ ∃ j k n, i = j * 3 + 1 ∧ cur[j * 3]? = some (.int .i64 k) ∧ u = .string n ∧ cur'[i]? = some (.string (nmR s t k n))
theorem Rcell.refl (s t : ByteArray) (cur : Array Value) : Rcell s t cur cur := ⟨rfl, fun i u h => .inl h⟩
theorem Rcell.three {s t : ByteArray} {cur cur' : Array Value} (h : Rcell s t cur cur') (j : Nat) : cur'[j * 3]? = cur[j * 3]? ∧ cur'[j * 3 + 2]? = cur[j * 3 + 2]? := by
  constructor
  · cases hu : cur[j * 3]? with
    | none => rw [Array.getElem?_eq_none_iff] at hu ⊢; have := h.1; omega
    | some u =>
      rcases h.2 _ u hu with h1 | ⟨j2, _, _, h1, _⟩
      · exact h1
      · omega
  · cases hu : cur[j * 3 + 2]? with
    | none => rw [Array.getElem?_eq_none_iff] at hu ⊢; have := h.1; omega
    | some u =>
      rcases h.2 _ u hu with h1 | ⟨j2, _, _, h1, _⟩
      · exact h1
      · omega
theorem Rcell.trans {s t : ByteArray} {cur cur' cur2 : Array Value} (h : Rcell s t cur cur') (k : Rcell s t cur' cur2) : Rcell s t cur cur2 := by
  refine ⟨k.1.trans h.1, fun i u hu => ?_⟩
  rcases h.2 i u hu with h1 | ⟨j, kk, n, rfl, h1, rfl, h2⟩
  · rcases k.2 i u h1 with h3 | ⟨j, kk, n, rfl, h3, rfl, h4⟩
    · exact .inl h3
    · exact .inr ⟨j, kk, n, rfl, (h.three j).1.symm.trans h3, rfl, h4⟩
  · rcases k.2 _ _ h2 with h3 | ⟨j2, k2, n2, h3, h4, h5, h6⟩
    · exact .inr ⟨j, kk, n, rfl, h1, rfl, h3⟩
    · obtain rfl : j2 = j := by omega
      rw [(h.three j2).1, h1] at h4
      injection h4 with h4
      injection h4 with _ h4
      injection h5 with h5
      subst h4 h5
      rw [nmR_idem] at h6
      exact .inr ⟨j2, kk, n, rfl, h1, rfl, h6⟩
def Rn (s t : ByteArray) (base top : Nat) (W W' : World) : Prop := Below base W W' ∧ (∀ k, top ≤ k → k < W.heap.size → W'.heap[k]? = W.heap[k]?) ∧
  ∀ (g : Nat) (cur : Array Value) (ty : Nat), W.heap[g]? = some (.cells cur ty (0, 0)) → ∃ cur', W'.heap[g]? = some (.cells cur' ty (0, 0)) ∧ (ty ≠ 24 → cur' = cur) ∧ Rcell s t cur cur'
theorem Rn.refl (s t : ByteArray) (base top : Nat) (W : World) : Rn s t base top W W := ⟨Below.refl _ _, fun _ _ _ => rfl, fun g cur ty h => ⟨cur, h, fun _ => rfl, Rcell.refl _ _ _⟩⟩
theorem Rn.trans {s t : ByteArray} {base top : Nat} {W W' W2 : World} (h : Rn s t base top W W') (k : Rn s t base top W' W2) : Rn s t base top W W2 := by
  refine ⟨h.1.trans k.1, fun i hi hl => (k.2.1 i hi (Nat.lt_of_lt_of_le hl h.1.size)).trans (h.2.1 i hi hl), fun g cur ty hg => ?_⟩
  obtain ⟨c1, a1, a2, a3⟩ := h.2.2 g cur ty hg
  obtain ⟨c2, b1, b2, b3⟩ := k.2.2 g c1 ty a1
  exact ⟨c2, b1, fun hne => (b2 hne).trans (a2 hne), a3.trans b3⟩
theorem Rn.below {s t : ByteArray} {base top : Nat} {W W' : World} (hb : Below W.heap.size W W') (hbase : base ≤ W.heap.size) : Rn s t base top W W' :=
  ⟨hb.mono hbase, fun k _ hk => hb.block k hk, fun g cur ty hg => ⟨cur, blk_below hg hb, fun _ => rfl, Rcell.refl _ _ _⟩⟩
theorem Rn.put {s t : ByteArray} {base top : Nat} {W W' : World} {g : Nat} {cur cur' : Array Value} (h0 : W.heap[g]? = some (.cells cur 24 (0, 0))) (hg : base ≤ g ∧ g < top) (hb : Below base W W') (ho : ∀ k, k ≠ g → W'.heap[k]? = W.heap[k]?)
    (h' : W'.heap[g]? = some (.cells cur' 24 (0, 0))) (hc : Rcell s t cur cur') : Rn s t base top W W' := by
  refine ⟨hb, fun k hk _ => ho k (by omega), fun g1 c1 ty h1 => ?_⟩
  by_cases hgg : g1 = g
  · subst hgg
    rw [h0] at h1
    injection h1 with h1
    injection h1 with e1 e2
    subst e1 e2
    exact ⟨cur', h', fun hne => absurd rfl hne, hc⟩
  · exact ⟨c1, (ho g1 hgg).trans h1, fun _ => rfl, Rcell.refl _ _ _⟩
theorem list_of {α : Type} (n : Nat) (p : Nat → α → Prop) (h : ∀ j, j < n → ∃ x, p j x) : ∃ l : List α, l.length = n ∧ ∀ j x, l[j]? = some x → p j x := by
  induction n with
  | zero => exact ⟨[], rfl, fun j x h => by simp at h⟩
  | succ n ih =>
    obtain ⟨l, h1, h2⟩ := ih (fun j hj => h j (by omega))
    obtain ⟨x, hx⟩ := h n (by omega)
    refine ⟨l ++ [x], by simp [h1], fun j y hy => ?_⟩
    by_cases hj : j < l.length
    · rw [List.getElem?_append_left hj] at hy; exact h2 j y hy
    · have hj2 := (List.getElem?_eq_some_iff.1 hy).1
      rw [List.length_append, List.length_singleton] at hj2
      obtain rfl : j = l.length := by omega
      rw [List.getElem?_append_right (Nat.le_refl _)] at hy
      simp at hy
      subst hy
      rw [h1]; exact hx
def LikeE (s t : ByteArray) (x x' : Ex) : Prop := renE s t x' = renE s t x ∧ (renE s t x = x → x' = x)
def LikeL (s t : ByteArray) (l l' : List Ex) : Prop := l'.length = l.length ∧ ∀ (j : Nat) (x x' : Ex), l[j]? = some x → l'[j]? = some x' → LikeE s t x x'
theorem LikeL.ren {s t : ByteArray} {l l' : List Ex} (h : LikeL s t l l') : renL s t l' = renL s t l := by
  apply List.ext_getElem (by rw [renL_length, renL_length, h.1])
  intro j h1 h2
  rw [renL_length] at h1 h2
  simp only [renL_map, List.getElem_map]
  exact (h.2 j _ _ (List.getElem?_eq_getElem h2) (List.getElem?_eq_getElem h1)).1
theorem LikeL.fix {s t : ByteArray} {l l' : List Ex} (h : LikeL s t l l') (hf : renL s t l = l) : l' = l := by
  apply List.ext_getElem h.1
  intro j h1 h2
  refine (h.2 j _ _ (List.getElem?_eq_getElem h2) (List.getElem?_eq_getElem h1)).2 ?_
  have h3 := congrArg (fun q : List Ex => q[j]?) hf
  simp only [renL_map, List.getElem?_map, List.getElem?_eq_getElem h2, Option.map_some] at h3
  exact Option.some.inj h3
theorem LikeE.mk {s t : ByteArray} {x : Ex} {n : ByteArray} {l : List Ex} (hn : n = x.f1 ∨ n = nmR s t x.f0 x.f1) (hl : LikeL s t x.f2 l) : LikeE s t x ⟨x.f0, n, l⟩ := by
  constructor
  · rw [renE_eq, renE_eq s t x]
    simp only
    rw [hl.ren]
    rcases hn with rfl | rfl
    · rfl
    · rw [nmR_idem]
  · intro hf
    rw [renE_eq] at hf
    have h1 : nmR s t x.f0 x.f1 = x.f1 := congrArg S24.f1 hf
    have h2 : renL s t x.f2 = x.f2 := congrArg S24.f2 hf
    rw [hl.fix h2]
    have : n = x.f1 := by rcases hn with h | h; exact h; exact h.trans h1
    exact ex_ext rfl this rfl
theorem Rn.row {s t : ByteArray} : ∀ (m : Nat) {base top : Nat} {W W' : World} {b : Nat} {ok : Nat → Prop} {v : Value} {l : List Ex}, Rn s t base top W W' → szL l ≤ m → Kd.R k24 24 W b ok v l →
    ∃ l', Kd.R k24 24 W' b ok v l' ∧ LikeL s t l l' := by
  intro m
  induction m with
  | zero =>
    intro base top W W' b ok v l hR hm h
    cases l with
    | cons x xs => rw [szL] at hm; have := szE_pos x; omega
    | nil =>
      refine ⟨[], ?_, rfl, fun j x x' hx => by simp at hx⟩
      rcases RowE.of h with ⟨rfl, _⟩ | ⟨g, cap, cur, rfl, hb, hok, hg, hcap, hmax, hsz, hel⟩
      · exact Kd.R_nil _ _ _ _ _
      · obtain ⟨cur', hg', _, hc⟩ := hR.2.2 g cur _ hg
        exact RowE.to (.inr ⟨g, cap, cur', rfl, hb, hok, hg', hcap, hmax, hc.1.trans hsz, fun j x hx => by simp at hx⟩)
  | succ m ih =>
    intro base top W W' b ok v l hR hm h
    rcases RowE.of h with ⟨rfl, rfl⟩ | ⟨g, cap, cur, rfl, hb, hok, hg, hcap, hmax, hsz, hel⟩
    · exact ⟨[], Kd.R_nil _ _ _ _ _, rfl, fun j x x' hx => by simp at hx⟩
    · obtain ⟨cur', hg', _, hc⟩ := hR.2.2 g cur _ hg
      obtain ⟨l', h1, h2⟩ := list_of l.length (fun j x' => ∃ x, l[j]? = some x ∧ LikeE s t x x' ∧ ∃ u, cur'[j * 3]? = some (.int .i64 x'.f0) ∧ cur'[j * 3 + 1]? = some (.string x'.f1) ∧ cur'[j * 3 + 2]? = some u ∧ Kd.R k24 24 W' b (fun k => ok k ∧ some k ≠ (Value.slice (some ⟨g, 0, none⟩) l.length cap).ownBlock) u x'.f2) (fun j hj => by
        obtain ⟨u, a0, a1, a2, a3⟩ := hel j _ (List.getElem?_eq_getElem hj)
        have hx := szL_mem (List.getElem_mem hj)
        have hs := szE_eq l[j]
        obtain ⟨l2, b1, b2⟩ := ih hR (by omega) a3
        have c0 := (hc.three j).1.trans a0
        have c2 := (hc.three j).2.trans a2
        rcases hc.2 _ _ a1 with h3 | ⟨j2, k2, n2, h3, h4, h5, h6⟩
        · exact ⟨⟨l[j].f0, l[j].f1, l2⟩, l[j], List.getElem?_eq_getElem hj, LikeE.mk (.inl rfl) b2, u, c0, h3, c2, b1⟩
        · obtain rfl : j2 = j := by omega
          rw [a0] at h4
          injection h4 with h4
          injection h4 with _ h4
          injection h5 with h5
          subst h4 h5
          exact ⟨⟨l[j2].f0, nmR s t l[j2].f0 l[j2].f1, l2⟩, l[j2], List.getElem?_eq_getElem hj, LikeE.mk (.inr rfl) b2, u, c0, h6, c2, b1⟩)
      refine ⟨l', RowE.to (.inr ⟨g, cap, cur', by rw [h1], hb, hok, hg', by rw [h1]; exact hcap, hmax, hc.1.trans hsz, fun j x' hx' => ?_⟩), h1, fun j x x' hx hx' => ?_⟩
      · obtain ⟨x, _, _, h3⟩ := h2 j x' hx'
        exact h3
      · obtain ⟨y, hy, h3, _⟩ := h2 j x' hx'
        rw [hx] at hy
        injection hy with hy
        rw [hy]; exact h3
end Go.Proofs.Ytacefdkfbpgedaa.Mine
namespace Go.Proofs.Ytacefdkfbpgedaa.Mine
open Go.Proofs.Ytacefdkfbpgedaa.PProgExprs
open Go.RowKit Go.Shelf Go.Proofs.YtacefdkfbpgedaaW.PrintWords Go.Proofs.YtacefdkfbpgedaaW.PrintLast Go.Proofs.YtacefdkfbpgedaaW.PrintMore
set_option linter.unusedVariables false
set_option linter.unusedSimpArgs false
theorem LikeE.refl (s t : ByteArray) (x : Ex) : LikeE s t x x := ⟨rfl, fun _ => rfl⟩
theorem LikeL.refl (s t : ByteArray) (l : List Ex) : LikeL s t l l := ⟨rfl, fun j x x' h h' => by rw [h] at h'; injection h' with h'; subst h'; exact LikeE.refl _ _ _⟩
theorem LikeE.trans {s t : ByteArray} {x y z : Ex} (h : LikeE s t x y) (k : LikeE s t y z) : LikeE s t x z :=
  ⟨k.1.trans h.1, fun hx => by have h1 := h.2 hx; subst h1; exact k.2 hx⟩
theorem LikeL.trans {s t : ByteArray} {l l' l2 : List Ex} (h : LikeL s t l l') (k : LikeL s t l' l2) : LikeL s t l l2 := by
  refine ⟨k.1.trans h.1, fun j x z hx hz => ?_⟩
  have hj : j < l'.length := by have := (List.getElem?_eq_some_iff.1 hz).1; have := k.1; omega
  exact (h.2 j x _ hx (List.getElem?_eq_getElem hj)).trans (k.2 j _ z (List.getElem?_eq_getElem hj) hz)
theorem szL_ren (s t : ByteArray) (m : Nat) : ∀ l : List Ex, szL l ≤ m → szL (renL s t l) = szL l := by
  induction m with
  | zero =>
    intro l h
    cases l with
    | nil => simp [renL]
    | cons x xs => rw [szL] at h; have := szE_pos x; omega
  | succ m ih =>
    intro l
    induction l with
    | nil => intro _; simp [renL]
    | cons x xs ihx =>
      intro h
      rw [szL] at h
      have hx := szE_eq x
      have hp := szE_pos x
      rw [renL, szL, szL, ihx (by omega), renE_eq s t x, szE_eq, szE_eq x]
      simp only
      rw [ih x.f2 (by omega)]
theorem szE_ren (s t : ByteArray) (e : Ex) : szE (renE s t e) = szE e := by
  rw [renE_eq, szE_eq, szE_eq e]
  simp only
  rw [szL_ren s t _ e.f2 (Nat.le_refl _)]
theorem Rn.setNew {s t : ByteArray} {base top : Nat} {w wr : World} (h : Rn s t base top w wr) {b i : Nat} (hb : w.heap.size ≤ b) (hbase : base ≤ w.heap.size) (z : Value) : Rn s t base top w (wr.setCell ⟨b, i, none⟩ z) := by
  refine ⟨h.1.setCell (by show base ≤ b; omega) _, fun k hk hl => ?_, fun g cur ty hg => ?_⟩
  · rw [Below.heap_setCell _ _ _ _ (by show k ≠ b; omega)]; exact h.2.1 k hk hl
  · have hlt := blk_lt hg
    obtain ⟨c1, a1, a2, a3⟩ := h.2.2 g cur ty hg
    exact ⟨c1, blk_far a1 (by show g ≠ b; omega) _, a2, a3⟩
def wrE (W : World) (g i : Nat) (u0 u1 u2 : Value) : World := ((W.setCell ⟨g, i, none⟩ u0).setCell ⟨g, i + 1, none⟩ u1).setCell ⟨g, i + 2, none⟩ u2
theorem wrE_ne {W : World} {g i k : Nat} {u0 u1 u2 : Value} (hne : k ≠ g) : (wrE W g i u0 u1 u2).heap[k]? = W.heap[k]? := by
  unfold wrE
  rw [Below.heap_setCell _ _ _ _ (by simp only; omega), Below.heap_setCell _ _ _ _ (by simp only; omega), Below.heap_setCell _ _ _ _ (by simp only; omega)]
theorem wrE_below {base : Nat} {W : World} {g i : Nat} {u0 u1 u2 : Value} (hg : base ≤ g) : Below base W (wrE W g i u0 u1 u2) := (((Below.refl base W).setCell hg _).setCell hg _).setCell hg _
theorem wrE_at {W : World} {g i : Nat} {cur : Array Value} {ty : Nat} {u0 u1 u2 : Value} (h : W.heap[g]? = some (.cells cur ty (0, 0))) : (wrE W g i u0 u1 u2).heap[g]? = some (.cells (((cur.setIfInBounds i u0).setIfInBounds (i + 1) u1).setIfInBounds (i + 2) u2) ty (0, 0)) :=
  blk_put (blk_put (blk_put h i _ rfl) (i + 1) _ rfl) (i + 2) _ rfl
theorem Rn.step {s t : ByteArray} {base top : Nat} {W W5 : World} {b b' : Nat} {ok ok' : Nat → Prop} {l : List Ex} {g n cap kk : Nat} {cur : Array Value} {x : Ex} {u : Value}
    (hR : Kd.R k24 24 W b ok (.slice (some ⟨g, 0, none⟩) n cap) l) (hx : l[kk]? = some x) (hg : W.heap[g]? = some (.cells cur 24 (0, 0))) (k0 : cur[kk * 3]? = some (.int .i64 x.f0)) (k1 : cur[kk * 3 + 1]? = some (.string x.f1)) (k2 : cur[kk * 3 + 2]? = some u)
    (hRn : Rn s t base top W W5) (hu : Kd.R k24 24 W5 b' ok' u (renL s t x.f2)) (hgb : base ≤ g ∧ g < top) :
    Rn s t base top W5 (wrE W5 g (kk * 3) (.int .i64 x.f0) (.string (nmR s t x.f0 x.f1)) u) ∧ ∃ l6, Kd.R k24 24 (wrE W5 g (kk * 3) (.int .i64 x.f0) (.string (nmR s t x.f0 x.f1)) u) b ok (.slice (some ⟨g, 0, none⟩) n cap) l6 ∧ LikeL s t l l6 ∧ l6[kk]? = some (renE s t x) := by
  obtain ⟨cur5, hg5, _, hc⟩ := hRn.2.2 g cur _ hg
  have c0 := (hc.three kk).1.trans k0
  have c2 := (hc.three kk).2.trans k2
  obtain ⟨n5, c1, hn5⟩ : ∃ n5, cur5[kk * 3 + 1]? = some (.string n5) ∧ nmR s t x.f0 n5 = nmR s t x.f0 x.f1 := by
    rcases hc.2 _ _ k1 with h3 | ⟨j2, kz, n2, h3, h4, h5, h6⟩
    · exact ⟨_, h3, rfl⟩
    · obtain rfl : j2 = kk := by omega
      rw [k0] at h4
      injection h4 with h4
      injection h4 with _ h4
      injection h5 with h5
      subst h4 h5
      exact ⟨_, h6, nmR_idem _ _ _ _⟩
  have l0 := (Array.getElem?_eq_some_iff.1 c0).1
  have l1 := (Array.getElem?_eq_some_iff.1 c1).1
  have l2 := (Array.getElem?_eq_some_iff.1 c2).1
  obtain ⟨cur6, hcur6⟩ : ∃ cur6, ((cur5.setIfInBounds (kk * 3) (.int .i64 x.f0)).setIfInBounds (kk * 3 + 1) (.string (nmR s t x.f0 x.f1))).setIfInBounds (kk * 3 + 2) u = cur6 := ⟨_, rfl⟩
  have d0 : cur6[kk * 3]? = some (.int .i64 x.f0) := by rw [← hcur6]; simp [Array.getElem?_setIfInBounds, l0]
  have d1 : cur6[kk * 3 + 1]? = some (.string (nmR s t x.f0 x.f1)) := by rw [← hcur6]; simp [Array.getElem?_setIfInBounds, l1]
  have d2 : cur6[kk * 3 + 2]? = some u := by rw [← hcur6]; simp [Array.getElem?_setIfInBounds, l2]
  have hrc : Rcell s t cur5 cur6 := by
    refine ⟨by rw [← hcur6]; simp, fun i z hz => ?_⟩
    by_cases h0 : i = kk * 3
    · subst h0; rw [c0] at hz; injection hz with hz; subst hz; exact .inl d0
    · by_cases h1 : i = kk * 3 + 1
      · subst h1; rw [c1] at hz; injection hz with hz; subst hz; exact .inr ⟨kk, x.f0, n5, rfl, c0, rfl, by rw [hn5]; exact d1⟩
      · by_cases h2 : i = kk * 3 + 2
        · subst h2; rw [c2] at hz; injection hz with hz; subst hz; exact .inl d2
        · left
          rw [← hcur6, Array.getElem?_setIfInBounds_ne (by omega), Array.getElem?_setIfInBounds_ne (by omega), Array.getElem?_setIfInBounds_ne (by omega)]
          exact hz
  have hg6 := wrE_at (i := kk * 3) (u0 := .int .i64 x.f0) (u1 := .string (nmR s t x.f0 x.f1)) (u2 := u) hg5
  rw [hcur6] at hg6
  have hput : Rn s t base top W5 (wrE W5 g (kk * 3) (.int .i64 x.f0) (.string (nmR s t x.f0 x.f1)) u) := Rn.put hg5 hgb (wrE_below hgb.1) (fun k hk => wrE_ne hk) hg6 hrc
  refine ⟨hput, ?_⟩
  obtain ⟨l6, h6, hL6⟩ := Rn.row _ (hRn.trans hput) (Nat.le_refl _) hR
  refine ⟨l6, h6, hL6, ?_⟩
  obtain ⟨l7, h7, hL7⟩ := Rn.row _ hput (Nat.le_refl _) hu
  have h8 := hL7.fix (renL_idem s t _ x.f2 (Nat.le_refl _))
  subst h8
  have hkl : kk < l6.length := by rw [hL6.1]; exact (List.getElem?_eq_some_iff.1 hx).1
  rcases RowE.of h6 with ⟨he, _⟩ | ⟨g', cap', cur', he, _, _, hg', _, _, _, hel'⟩
  · cases he
  · injection he with h1 _ _
    injection h1 with h1
    injection h1 with h1
    subst h1
    rw [hg6] at hg'
    injection hg' with hg'
    injection hg' with hg'
    subst hg'
    obtain ⟨u', b0, b1, b2, b3⟩ := hel' kk _ (List.getElem?_eq_getElem hkl)
    rw [d0] at b0
    rw [d1] at b1
    rw [d2] at b2
    injection b0 with b0
    injection b0 with _ b0
    injection b1 with b1
    injection b1 with b1
    injection b2 with b2
    subst b2
    have h9 := row_det _ (Nat.le_refl _) b3 h7
    rw [List.getElem?_eq_getElem hkl]
    exact congrArg some (by rw [renE_eq]; exact ex_ext b0.symm b1.symm h9)
end Go.Proofs.Ytacefdkfbpgedaa.Mine
namespace Go.Proofs.Ytacefdkfbpgedaa.Mine
open Go.Proofs.Ytacefdkfbpgedaa.PProgExprs
open Go.RowKit Go.Shelf Go.Proofs.YtacefdkfbpgedaaW.PrintWords Go.Proofs.YtacefdkfbpgedaaW.PrintLast Go.Proofs.YtacefdkfbpgedaaW.PrintMore
set_option linter.unusedVariables false
set_option linter.unusedSimpArgs false
abbrev RmS (B3 B8 : Nat) (v u0 u1 u2 : Value) (W : World) : Prop := W.cell? ⟨B3, 2, none⟩ = some v ∧ W.cell? ⟨B8, 0, none⟩ = some u0 ∧ W.cell? ⟨B8, 1, none⟩ = some u1 ∧ W.cell? ⟨B8, 2, none⟩ = some u2
set_option maxRecDepth 100000 in
set_option maxHeartbeats 4000000 in
theorem c_renamed (s t : ByteArray) (base top : Nat) (n : Nat) : ∀ (e : Ex) (v : Value) (w : World), szE e ≤ n → szE e ≤ 1000000 → base ≤ w.heap.size → top ≤ w.heap.size → Kd.R k24 24 w base (fun k => k < top) v e.f2 →
    Calls Try.prog 90 #[.agg #[.int .i64 e.f0, .string e.f1, v], .string s, .string t] w fun en w' => en = .returned (.agg #[.int .i64 e.f0, .string (nmR s t e.f0 e.f1), v]) ∧ Rn s t base top w w' ∧ Kd.R k24 24 w' base (fun k => k < top) v (renL s t e.f2) := by
  induction n with
  | zero => intro e v w h; exact absurd h (by have := szE_pos e; omega)
  | succ n ih =>
    intro e v w hn hn2 hbase htop hr
    have hsz := szE_eq e
    have h1 : szL e.f2 ≤ n := by omega
    have h2 : szL e.f2 ≤ 1000000 := by omega
    have h3 := szL_len e.f2
    obtain ⟨A, c, hv⟩ := Kd.R_slice hr
    obtain ⟨W1, hW1⟩ : ∃ W1, ((w.alloc (.cells #[.int .i64 e.f0, .string e.f1, v] 24)).alloc (.cells #[.int .i64 0, .string ⟨#[]⟩, .slice none 0 0] 24)) = W1 := ⟨_, rfl⟩
    have z1 : W1.heap.size = w.heap.size + 1 + 1 := by rw [← hW1]; simp
    have q1 : Below w.heap.size w W1 := by rw [← hW1]; exact below_alloc2 _ _ _
    have b3 : W1.heap[w.heap.size]? = some (.cells #[.int .i64 e.f0, .string e.f1, v] 24 (0, 0)) := by rw [← hW1]; exact blk_alloc (alloc_at _ _) _
    have b6 : W1.heap[w.heap.size + 1]? = some (.cells #[.int .i64 0, .string ⟨#[]⟩, .slice none 0 0] 24 (0, 0)) := by rw [← hW1]; have := alloc_at (w.alloc (.cells #[.int .i64 e.f0, .string e.f1, v] 24)) (.cells #[.int .i64 0, .string ⟨#[]⟩, .slice none 0 0] 24); simpa only [World.size_alloc] using this
    have hz1a := Nat.le_of_eq z1
    have hz1b := Nat.le_of_eq z1.symm
    have HR1 := Aside0.mk (Kd.R_below hr q1)
    have Q1 := Aside0.mk (Rn.below (s := s) (t := t) (base := base) (top := top) q1 hbase)
    have B3 := Aside0.mk b3
    have B6 := Aside0.mk b6
    have HW1 := Lib.hid hW1
    have k0 := (blk_cell B3.out 0).trans rfl
    have k1 := (blk_cell B3.out 1).trans rfl
    have f3 := fun i => blk_frozen B3.out i
    subst hv
    obtain ⟨nm, hnm⟩ : ∃ nm, nmR s t e.f0 e.f1 = nm := ⟨_, rfl⟩
    have HNm := Lib.hid hnm
    rw [hnm]
    clear hr hn hn2 hsz q1 b3 b6 z1 hW1 hnm
    go_enter Try.func90, Try.ntmps90
    go_upto_region 1 with fail
    rw [HW1.out]
    obtain ⟨b, hb⟩ : ∃ b, ((e.f0 == 3) && (e.f1.toList == s.toList)) = b := ⟨_, rfl⟩
    have HNb := Lib.hid (show nm = if b = true then t else e.f1 by
      rw [← HNm.out, nmR, ← hb, sEq]
      simp only [Bool.and_eq_true, beq_iff_eq, decide_eq_true_eq])
    go_cut [17] (fun s22 wx => s22 = .bool b ∧ wx = W1)
    case first =>
      cases hk1 : (e.f0 == 3) with
      | false =>
        have hbf : b = false := by rw [← hb, hk1]; rfl
        clear hb
        go_wp2_with fail
        go_meet
        exact ⟨by rw [hbf], rfl⟩
      | true =>
        cases hk2 : (e.f1.toList == s.toList) with
        | false =>
          have hbf : b = false := by rw [← hb, hk1, hk2]; rfl
          clear hb
          go_wp2_with fail
          go_meet
          exact ⟨by rw [hbf], rfl⟩
        | true =>
          have hbf : b = true := by rw [← hb, hk1, hk2]; rfl
          clear hb
          go_wp2_with fail
          go_meet
          exact ⟨by rw [hbf], rfl⟩
    case rest =>
    obtain ⟨rfl, rfl⟩ := hcut
    clear hb k0 k1 f3 HW1
    go_upto_if 17 with fail
    go_cut [3] (fun s3 wx => s3 = .pointer (some ⟨w.heap.size, 0, none⟩) ∧ wx.heap.size = wc.heap.size ∧ Aside0 (wx.heap[w.heap.size]? = some (.cells #[.int .i64 e.f0, .string nm, .slice A e.f2.length c] 24 (0, 0))) ∧ Aside0 (wx.heap[w.heap.size + 1]? = some (.cells #[.int .i64 0, .string ⟨#[]⟩, .slice none 0 0] 24 (0, 0))) ∧ Aside0 (Rn s t base top w wx) ∧ Aside0 (Kd.R k24 24 wx base (fun k => k < top) (.slice A e.f2.length c) e.f2))
    case first =>
      have f3 := fun i => blk_frozen B3.out i
      have k3 := (blk_cell B3.out 1).trans rfl
      cases b with
      | false =>
        have hn := HNb.out
        rw [if_neg (by decide)] at hn
        subst hn
        go_wp2_with fail
        go_meet
        exact ⟨rfl, rfl, B3, B6, Q1, HR1⟩
      | true =>
        have hn := HNb.out
        rw [if_pos rfl] at hn
        subst hn
        go_wp2_with fail
        go_meet
        exact ⟨rfl, by simp [World.setCell], ⟨blk_put B3.out 1 _ rfl⟩, ⟨blk_far B6.out (by simp) _⟩, ⟨Rn.setNew Q1.out (Nat.le_refl _) hbase _⟩, ⟨Kd.R_far HR1.out (fun k hk => by simp only; omega) _⟩⟩
    case rest =>
      rename World => wd
      obtain ⟨rfl, hzd, B3d, B6d, Qd, HRd⟩ := hcut
      clear B3 B6 Q1 HR1 HNb
      have kA := (blk_cell B3d.out 2).trans rfl
      go_wp2_with fail
      clear kA
      go_loopg [23] e.f2.length (fun gg s8 wr => ∃ (kk : Nat) (l : List Ex), kk ≤ e.f2.length ∧ e.f2.length - kk ≤ gg ∧ s8 = .int .i64 kk ∧ Aside0 (Kd.R k24 24 wr base (fun k => k < top) (.slice A e.f2.length c) l) ∧ Aside0 (LikeL s t e.f2 l) ∧ Aside0 (∀ j x, j < kk → e.f2[j]? = some x → l[j]? = some (renE s t x)) ∧ Aside0 (Rn s t base top w wr) ∧ Aside0 (wr.heap[w.heap.size]? = some (.cells #[.int .i64 e.f0, .string nm, .slice A e.f2.length c] 24 (0, 0))) ∧ Aside0 (wr.heap[w.heap.size + 1]? = some (.cells #[.int .i64 0, .string ⟨#[]⟩, .slice none 0 0] 24 (0, 0))) ∧ w.heap.size + 1 + 1 ≤ wr.heap.size)
      case atStart => exact ⟨0, e.f2, Nat.zero_le _, by omega, rfl, HRd, ⟨LikeL.refl _ _ _⟩, ⟨fun j x hj => absurd hj (Nat.not_lt_zero _)⟩, Qd, B3d, B6d, by omega⟩
      case round =>
        obtain ⟨kk, l, hkk, hg, rfl, HR, HL, HD, HQ, BA, BZ, hszr⟩ := hrel
        by_cases hlt : kk < e.f2.length
        · have hltz : (kk : Int) < (e.f2.length : Int) := by omega
          have hll : l.length = e.f2.length := HL.out.1
          have hkl : kk < l.length := by omega
          rcases RowE.of HR.out with ⟨_, he⟩ | ⟨g, cap, cur, he, hgb, hgt, hgc, _, _, _, hel⟩
          · rw [he] at hkl; exact absurd hkl (Nat.not_lt_zero _)
          obtain ⟨rfl, hce⟩ : A = some ⟨g, 0, none⟩ ∧ c = cap := by injection he with e1 e2 e3; exact ⟨e1, e3⟩
          subst hce
          clear he
          obtain ⟨u, u0, u1, u2, hRu⟩ := hel kk _ (List.getElem?_eq_getElem hkl)
          obtain ⟨x, hx⟩ : ∃ x, l[kk] = x := ⟨_, rfl⟩
          have hxk : l[kk]? = some x := by rw [List.getElem?_eq_getElem hkl, hx]
          rw [hx] at u0 u1 hRu
          have k0 := (blk_cell hgc (kk * 3)).trans u0
          have k1 := (blk_cell hgc (kk * 3 + 1)).trans u1
          have k2 := (blk_cell hgc (kk * 3 + 2)).trans u2
          have hxz : szE x ≤ n ∧ szE x ≤ 1000000 := by
            have h5 := HL.out.2 kk _ x (List.getElem?_eq_getElem hlt) hxk
            have h6 := szL_mem (List.getElem_mem hlt)
            have h7 : szE x = szE e.f2[kk] := by rw [← szE_ren s t x, h5.1, szE_ren]
            omega
          obtain ⟨A2, c2, hu⟩ := Kd.R_slice hRu
          have HGC := Aside0.mk hgc
          have HU := Aside0.mk (And.intro u0 (And.intro u1 u2))
          have HRu := Aside0.mk hRu
          have HXK := Aside0.mk hxk
          clear hel hgc u0 u1 u2 hRu hx hxk hkl
          subst hu
          obtain ⟨W0, hW0⟩ : ∃ W0, wr.alloc (.cells #[.int .i64 x.f0, .string x.f1, .slice A2 x.f2.length c2] 24) = W0 := ⟨_, rfl⟩
          have q0 : Below wr.heap.size wr W0 := by rw [← hW0]; exact below_alloc1 _ _
          have z0 : W0.heap.size = wr.heap.size + 1 := by rw [← hW0]; simp
          have qd : Below wr.heap.size wr W0.drew := below_drew q0
          have BX := Aside0.mk (show W0.drew.heap[wr.heap.size]? = some (.cells #[.int .i64 x.f0, .string x.f1, .slice A2 x.f2.length c2] 24 (0, 0)) by rw [← hW0]; exact alloc_at _ _)
          have BAd := Aside0.mk (blk_below BA.out qd)
          have BZd := Aside0.mk (blk_below BZ.out qd)
          have hb0 : base ≤ wr.heap.size := by omega
          have ht0 : top ≤ wr.heap.size := by omega
          have hz0 : W0.drew.heap.size = wr.heap.size + 1 := z0
          have HC := Lib.hid (ih x (.slice A2 x.f2.length c2) W0.drew hxz.1 hxz.2 (by omega) (by omega) (Kd.R_below (Kd.R_mono HRu.out (fun k hk => hk.1)) qd))
          have HQd := Aside0.mk (Rn.below (s := s) (t := t) (top := top) qd hb0)
          have HHW := Lib.hid hW0
          have hSd0 : RmS w.heap.size wr.heap.size (.slice (some ⟨g, 0, none⟩) e.f2.length c) (.int .i64 x.f0) (.string x.f1) (.slice A2 x.f2.length c2) W0.drew := ⟨(blk_cell BAd.out 2).trans rfl, (blk_cell BX.out 0).trans rfl, (blk_cell BX.out 1).trans rfl, (blk_cell BX.out 2).trans rfl⟩
          clear q0 qd hW0 HRu
          go_upto_region 6 with fail
          rw [HHW.out]
          have hSd : (fun W => RmS w.heap.size wr.heap.size (.slice (some ⟨g, 0, none⟩) e.f2.length c) (.int .i64 x.f0) (.string x.f1) (.slice A2 x.f2.length c2) W) W0.drew := hSd0
          clear hSd0 k0 k1 k2
          refine wp_region_K (S := fun W => RmS w.heap.size wr.heap.size (.slice (some ⟨g, 0, none⟩) e.f2.length c) (.int .i64 x.f0) (.string x.f1) (.slice A2 x.f2.length c2) W) (k := 8) (by kernel_rfl) ?_
          change wpAnyK _ _ _ _ _ _ 9 (Array.replicate 9 false) _ _
          refine wpAnyK_take (i := 0) (v := ?_) rfl (by kernel_rfl) (by kernel_rfl) (by kernel_rfl) (by kernel_rfl) (fun _ _ _ h => h) hSd (Or.inl ⟨by rfl, ?_⟩) ?_
          rotate_left 1
          (intro w hSw; (try dsimp only at hSw); go_simp; try (with_reducible rfl))
          (try simp only [List.getElem_toArray, List.getElem_cons_succ, List.getElem_cons_zero]); (try dsimp only [Act.put]); (try simp only [List.setIfInBounds_toArray, List.set_cons_zero, List.set_cons_succ])
          refine wpAnyK_take (i := 1) (v := ?_) rfl (by kernel_rfl) (by kernel_rfl) (by kernel_rfl) (by kernel_rfl) (fun _ _ _ h => h) hSd (Or.inl ⟨by rfl, ?_⟩) ?_
          rotate_left 1
          (intro w hSw; (try dsimp only at hSw); go_simp; try (with_reducible rfl))
          (try simp only [List.getElem_toArray, List.getElem_cons_succ, List.getElem_cons_zero]); (try dsimp only [Act.put]); (try simp only [List.setIfInBounds_toArray, List.set_cons_zero, List.set_cons_succ])
          refine wpAnyK_take (i := 2) (v := ?_) rfl (by kernel_rfl) (by kernel_rfl) (by kernel_rfl) (by kernel_rfl) (fun _ _ _ h => h) hSd (Or.inl ⟨by rfl, ?_⟩) ?_
          rotate_left 1
          (intro w hSw; (try dsimp only at hSw); go_simp; try (with_reducible rfl))
          (try simp only [List.getElem_toArray, List.getElem_cons_succ, List.getElem_cons_zero]); (try dsimp only [Act.put]); (try simp only [List.setIfInBounds_toArray, List.set_cons_zero, List.set_cons_succ])
          refine wpAnyK_take (i := 3) (v := ?_) rfl (by kernel_rfl) (by kernel_rfl) (by kernel_rfl) (by kernel_rfl) (fun _ _ _ h => h) hSd (Or.inl ⟨by rfl, ?_⟩) ?_
          rotate_left 1
          (intro w hSw; (try dsimp only at hSw); go_simp; try (with_reducible rfl))
          (try simp only [List.getElem_toArray, List.getElem_cons_succ, List.getElem_cons_zero]); (try dsimp only [Act.put]); (try simp only [List.setIfInBounds_toArray, List.set_cons_zero, List.set_cons_succ])
          refine wpAnyK_take (i := 4) (v := ?_) rfl (by kernel_rfl) (by kernel_rfl) (by kernel_rfl) (by kernel_rfl) (fun _ _ _ h => h) hSd (Or.inl ⟨by rfl, ?_⟩) ?_
          rotate_left 1
          (intro w hSw; (try dsimp only at hSw); go_simp; try (with_reducible rfl))
          (try simp only [List.getElem_toArray, List.getElem_cons_succ, List.getElem_cons_zero]); (try dsimp only [Act.put]); (try simp only [List.setIfInBounds_toArray, List.set_cons_zero, List.set_cons_succ])
          refine wpAnyK_take (i := 5) (v := ?_) rfl (by kernel_rfl) (by kernel_rfl) (by kernel_rfl) (by kernel_rfl) (fun _ _ _ h => h) hSd (Or.inl ⟨by rfl, ?_⟩) ?_
          rotate_left 1
          (intro w hSw; (try dsimp only at hSw); go_simp; try (with_reducible rfl))
          (try simp only [List.getElem_toArray, List.getElem_cons_succ, List.getElem_cons_zero]); (try dsimp only [Act.put]); (try simp only [List.setIfInBounds_toArray, List.set_cons_zero, List.set_cons_succ])
          refine wpAnyK_one (i := 6) (by kernel_rfl) rfl (fun K hK => ?_)
          go_simp
          go_at_call 90
          (with_reducible refine HC.out.mono ?_)
          rintro e' w5 ⟨rfl, hRn5, hRu5⟩
          have BA5 := Aside0.mk (show w5.heap[w.heap.size]? = _ from (hRn5.2.1 _ (by omega) (by omega)).trans BAd.out)
          have BZ5 := Aside0.mk (show w5.heap[w.heap.size + 1]? = _ from (hRn5.2.1 _ (by omega) (by omega)).trans BZd.out)
          have BX5 := Aside0.mk (show w5.heap[wr.heap.size]? = _ from (hRn5.2.1 _ (by omega) (by omega)).trans BX.out)
          have hs5 := hRn5.1.size
          have hRw5 := HQd.out.trans hRn5
          obtain ⟨hst, l6, h6, hL6, h6k⟩ := Rn.step HR.out HXK.out HGC.out HU.out.1 HU.out.2.1 HU.out.2.2 hRw5 hRu5 ⟨hgb, hgt⟩
          obtain ⟨cur5, hc5, _, hrc⟩ := hRw5.2.2 g cur _ HGC.out
          have l2 : kk * 3 + 2 < cur5.size := by rw [hrc.1]; exact (Array.getElem?_eq_some_iff.1 HU.out.2.2).1
          have x0 : w5.cell? ⟨g, kk * 3, none⟩ = some _ := (blk_cell hc5 (kk * 3)).trans (Array.getElem?_eq_getElem (by omega))
          have x1 : w5.cell? ⟨g, kk * 3 + 1, none⟩ = some _ := (blk_cell hc5 (kk * 3 + 1)).trans (Array.getElem?_eq_getElem (by omega))
          have x2 : w5.cell? ⟨g, kk * 3 + 2, none⟩ = some _ := (blk_cell hc5 (kk * 3 + 2)).trans (Array.getElem?_eq_getElem (by omega))
          have HQ6 := Aside0.mk ((HQ.out.trans hRw5).trans hst)
          have H6 := Aside0.mk h6
          have HL6 := Aside0.mk hL6
          have H6k := Aside0.mk h6k
          have HC5 := Aside0.mk hc5
          have hSd : (fun W => RmS w.heap.size wr.heap.size (.slice (some ⟨g, 0, none⟩) e.f2.length c) (.int .i64 x.f0) (.string x.f1) (.slice A2 x.f2.length c2) W) w5 := ⟨(blk_cell BA5.out 2).trans rfl, (blk_cell BX5.out 0).trans rfl, (blk_cell BX5.out 1).trans rfl, (blk_cell BX5.out 2).trans rfl⟩
          clear hRn5 hRu5 hRw5 hst h6 hL6 h6k hc5 hrc
          refine hK.out _ _ (fun _ => hSd) ?_
          clear hK
          have fg := fun i => blk_frozen HC5.out i
          refine wpAnyK_take (i := 7) (v := ?_) rfl (by kernel_rfl) (by kernel_rfl) (by kernel_rfl) (by kernel_rfl) (fun _ _ _ h => h) hSd (Or.inl ⟨by rfl, ?_⟩) ?_
          rotate_left 1
          (intro w hSw; (try dsimp only at hSw); go_simp; try (with_reducible rfl))
          (try simp only [List.getElem_toArray, List.getElem_cons_succ, List.getElem_cons_zero]); (try dsimp only [Act.put]); (try simp only [List.setIfInBounds_toArray, List.set_cons_zero, List.set_cons_succ])
          refine wpAnyK_one (i := 8) (by kernel_rfl) rfl (fun K hK => ?_)
          go_simp
          refine hK.out _ _ (fun h => absurd rfl h) ?_
          clear hK hSd
          refine wpAnyK_done (by kernel_rfl) ?_ _
          go_wp2_with fail
          go_roundg (e.f2.length - (kk + 1))
          case measure => omega
          case rel =>
            refine ⟨kk + 1, l6, by omega, by omega, by go_num, H6, ⟨HL.out.trans HL6.out⟩, ⟨fun j y hj hy => ?_⟩, HQ6, ?_, ?_, ?_⟩
            · by_cases hjk : j = kk
              · subst hjk
                have h5 := HL.out.2 j y x hy HXK.out
                rw [H6k.out, h5.1]
              · have h5 := HD.out j y (by omega) hy
                have h6 : j < l6.length := by have := HL6.out.1; have := (List.getElem?_eq_some_iff.1 h5).1; omega
                rw [List.getElem?_eq_getElem h6]
                exact congrArg some ((HL6.out.2 j _ _ h5 (List.getElem?_eq_getElem h6)).2 (renE_idem s t y))
            · exact ⟨(wrE_ne (by omega)).trans BA5.out⟩
            · exact ⟨(wrE_ne (by omega)).trans BZ5.out⟩
            · simp only [World.setCell, Array.size_modify]; omega
        · have : kk = e.f2.length := by omega
          subst this
          have o0 := (blk_cell BA.out 0).trans rfl
          have o1 := (blk_cell BA.out 1).trans rfl
          have o2 := (blk_cell BA.out 2).trans rfl
          have z0 := (blk_cell BZ.out 0).trans rfl
          have z1 := (blk_cell BZ.out 1).trans rfl
          have z2 := (blk_cell BZ.out 2).trans rfl
          have fz := fun i => blk_frozen BZ.out i
          go_wp2_with fail
          have b4 := blk_put (blk_put (blk_put BZ.out 0 (.int .i64 e.f0) rfl) 1 (.string nm) rfl) 2 (.slice A e.f2.length c) rfl
          refine bodyPost_ret (results_single rfl (.cell _ _ _ _ _ rfl b4 Try.underlying24 rfl rfl .nil)) rfl ?_
          have hfin : l = renL s t e.f2 := by
            apply List.ext_getElem?
            intro j
            by_cases hj : j < e.f2.length
            · rw [HD.out j _ hj (List.getElem?_eq_getElem hj), renL_map, List.getElem?_map, List.getElem?_eq_getElem hj]; rfl
            · rw [List.getElem?_eq_none (by have := HL.out.1; omega), List.getElem?_eq_none (by rw [renL_length]; omega)]
          rw [← hfin]
          exact ⟨rfl, Rn.setNew (Rn.setNew (Rn.setNew HQ.out (by omega) hbase _) (by omega) hbase _) (by omega) hbase _, Kd.R_far (Kd.R_far (Kd.R_far HR.out (fun k hk => by simp only; omega) _) (fun k hk => by simp only; omega) _) (fun k hk => by simp only; omega) _⟩
end Go.Proofs.Ytacefdkfbpgedaa.Mine
namespace Go.Proofs.Ytacefdkfbpgedaa.Mine
open Go.Proofs.Ytacefdkfbpgedaa.PProgExprs
open Go.RowKit Go.Shelf Go.Proofs.YtacefdkfbpgedaaW.PrintWords Go.Proofs.YtacefdkfbpgedaaW.PrintLast Go.Proofs.YtacefdkfbpgedaaW.PrintMore
set_option linter.unusedVariables false
set_option linter.unusedSimpArgs false
def RowC (W : World) (b : Nat) (ok : Nat → Prop) (v : Value) (l : List Ca) : Prop :=
  (v = .slice none 0 0 ∧ l = []) ∨ ∃ g cap cur, v = .slice (some ⟨g, 0, none⟩) l.length cap ∧ b ≤ g ∧ ok g ∧ W.heap[g]? = some (.cells cur 99 (0, 0)) ∧ l.length ≤ cap ∧ cap ≤ maxLen ∧ cur.size = cap * 5 ∧
    ∀ j x, l[j]? = some x → ∃ u1 u4, cur[j * 5]? = some (.string x.f0) ∧ cur[j * 5 + 1]? = some u1 ∧ cur[j * 5 + 2]? = some (.int .i64 x.f2.f0) ∧ cur[j * 5 + 3]? = some (.string x.f2.f1) ∧ cur[j * 5 + 4]? = some u4 ∧
      Kd.R Kd.string 9 W b (fun k => ok k ∧ some k ≠ v.ownBlock) u1 x.f1 ∧ Kd.R k24 24 W b (fun k => ok k ∧ some k ≠ v.ownBlock) u4 x.f2.f2
theorem RowC.of {W : World} {b : Nat} {ok : Nat → Prop} {v : Value} {l : List Ca} (h : Kd.R k99 99 W b ok v l) : RowC W b ok v l := by
  obtain ⟨h0, inner, ho, hr⟩ := h
  rcases ho.2 with ⟨h1, h2⟩ | ⟨g, cap, cur, h1, hb, hg, hcap, hmax, hsz, htake⟩
  · exact .inl ⟨h1, List.length_eq_zero_iff.1 h2⟩
  · refine .inr ⟨g, cap, cur, h1, hb, h0 g (by rw [h1]; rfl), hg, hcap, hmax, hsz, fun j x hj => ?_⟩
    have hM := hr.2 j x hj
    obtain ⟨u1, u4, hc, hR1, hR4⟩ := k99_openM hM
    have hjl := (List.getElem?_eq_some_iff.1 hj).1
    have key : ∀ i z, [Value.string x.f0, u1, .int .i64 x.f2.f0, .string x.f2.f1, u4][i]? = some z → cur[j * 5 + i]? = some z := by
      intro i z hz
      rw [← hc, ← htake, List.getElem?_take] at hz
      split at hz
      · rw [List.getElem?_drop, List.getElem?_take] at hz
        split at hz
        · rw [Array.getElem?_toList] at hz; exact hz
        · cases hz
      · cases hz
    exact ⟨u1, u4, key 0 _ rfl, key 1 _ rfl, key 2 _ rfl, key 3 _ rfl, key 4 _ rfl, hR1, hR4⟩
theorem RowC.to {W : World} {b : Nat} {ok : Nat → Prop} {v : Value} {l : List Ca} (h : RowC W b ok v l) : Kd.R k99 99 W b ok v l := by
  rcases h with ⟨rfl, rfl⟩ | ⟨g, cap, cur, rfl, hb, hok, hg, hcap, hmax, hsz, hel⟩
  · exact Kd.R_nil _ _ _ _ _
  · have hL : (cur.toList.take (l.length * 5)).length = l.length * 5 := by rw [List.length_take, Array.length_toList (xs := cur), hsz]; exact Nat.min_eq_left (Nat.mul_le_mul_right 5 hcap)
    refine ⟨fun k hk => ?_, cur.toList.take (l.length * 5), ⟨hL, .inr ⟨g, cap, cur, rfl, hb, hg, hcap, hmax, hsz, rfl⟩⟩, ⟨hL, fun j x hj => ?_⟩⟩
    · have : g = k := by simpa [Value.ownBlock] using hk
      rw [← this]; exact hok
    · obtain ⟨u1, u4, h0, h1, h2, h3, h4, h5, h6⟩ := hel j x hj
      have hjl := (List.getElem?_eq_some_iff.1 hj).1
      have hM := k99_mkM W b _ x h5 h6
      have : ((cur.toList.take (l.length * 5)).drop (j * 5)).take 5 = [.string x.f0, u1, .int .i64 x.f2.f0, .string x.f2.f1, u4] := by
        apply List.ext_getElem?
        intro i
        rw [List.getElem?_take]
        split
        · next hi =>
          rw [List.getElem?_drop, List.getElem?_take, if_pos (by omega), Array.getElem?_toList]
          match i, hi with
          | 0, _ => simpa using h0
          | 1, _ => simpa using h1
          | 2, _ => simpa using h2
          | 3, _ => simpa using h3
          | 4, _ => simpa using h4
        · next hi => exact (List.getElem?_eq_none (by simp only [List.length_cons, List.length_nil]; omega)).symm
      rw [show k99.sz = 5 from rfl, this]
      exact hM
theorem Rn.texts {s t : ByteArray} {base top : Nat} {W W' : World} {b : Nat} {ok : Nat → Prop} {v : Value} {l : List ByteArray} (h : Rn s t base top W W') (hR : Kd.R Kd.string 9 W b ok v l) : Kd.R Kd.string 9 W' b ok v l := by
  refine Kd.R_mono (Kd.R_move (Kd.R_bound hR) (fun k hk => ?_)) (fun k hk => hk.1)
  obtain ⟨_, _, _, q, hq, cells, hc⟩ := hk
  obtain ⟨c1, a1, a2, _⟩ := h.2.2 k cells q hc
  have hne : q ≠ 24 := by
    rcases List.mem_cons.1 hq with rfl | hq
    · decide
    · exact absurd (show q ∈ ([] : List Nat) from hq) (by simp)
  rw [a1, a2 hne, hc]
def LikeC (s t : ByteArray) (x x' : Ca) : Prop := x'.f0 = x.f0 ∧ x'.f1 = x.f1 ∧ x'.f2.f0 = x.f2.f0 ∧ x'.f2.f1 = x.f2.f1 ∧ LikeL s t x.f2.f2 x'.f2.f2
theorem Rn.rowC {s t : ByteArray} {base top : Nat} {W W' : World} {b : Nat} {ok : Nat → Prop} {v : Value} {l : List Ca} (hR : Rn s t base top W W') (h : Kd.R k99 99 W b ok v l) :
    ∃ l', Kd.R k99 99 W' b ok v l' ∧ l'.length = l.length ∧ ∀ (j : Nat) (x x' : Ca), l[j]? = some x → l'[j]? = some x' → LikeC s t x x' := by
  rcases RowC.of h with ⟨rfl, rfl⟩ | ⟨g, cap, cur, rfl, hb, hok, hg, hcap, hmax, hsz, hel⟩
  · exact ⟨[], Kd.R_nil _ _ _ _ _, rfl, fun j x x' hx => by simp at hx⟩
  · obtain ⟨cur', hg', hce, hc⟩ := hR.2.2 g cur _ hg
    have hce := hce (by decide)
    subst hce
    obtain ⟨l', h1, h2⟩ := list_of l.length (fun j x' => ∃ x, l[j]? = some x ∧ LikeC s t x x' ∧ ∃ u1 u4, cur'[j * 5]? = some (.string x'.f0) ∧ cur'[j * 5 + 1]? = some u1 ∧ cur'[j * 5 + 2]? = some (.int .i64 x'.f2.f0) ∧ cur'[j * 5 + 3]? = some (.string x'.f2.f1) ∧ cur'[j * 5 + 4]? = some u4 ∧ Kd.R Kd.string 9 W' b (fun k => ok k ∧ some k ≠ (Value.slice (some ⟨g, 0, none⟩) l.length cap).ownBlock) u1 x'.f1 ∧ Kd.R k24 24 W' b (fun k => ok k ∧ some k ≠ (Value.slice (some ⟨g, 0, none⟩) l.length cap).ownBlock) u4 x'.f2.f2) (fun j hj => by
      obtain ⟨u1, u4, a0, a1, a2, a3, a4, a5, a6⟩ := hel j _ (List.getElem?_eq_getElem hj)
      obtain ⟨l2, b1, b2⟩ := Rn.row _ hR (Nat.le_refl _) a6
      exact ⟨⟨l[j].f0, l[j].f1, ⟨l[j].f2.f0, l[j].f2.f1, l2⟩⟩, l[j], List.getElem?_eq_getElem hj, ⟨rfl, rfl, rfl, rfl, b2⟩, u1, u4, a0, a1, a2, a3, a4, hR.texts a5, b1⟩)
    refine ⟨l', RowC.to (.inr ⟨g, cap, cur', by rw [h1], hb, hok, hg', by rw [h1]; exact hcap, hmax, hsz, fun j x' hx' => ?_⟩), h1, fun j x x' hx hx' => ?_⟩
    · obtain ⟨x, _, _, h3⟩ := h2 j x' hx'
      exact h3
    · obtain ⟨y, hy, h3, _⟩ := h2 j x' hx'
      rw [hx] at hy
      injection hy with hy
      rw [hy]; exact h3
end Go.Proofs.Ytacefdkfbpgedaa.Mine
namespace Go.Proofs.Ytacefdkfbpgedaa.Mine
open Go.Proofs.Ytacefdkfbpgedaa.PProgExprs
open Go.RowKit Go.Shelf Go.Proofs.YtacefdkfbpgedaaW.PrintWords Go.Proofs.YtacefdkfbpgedaaW.PrintLast Go.Proofs.YtacefdkfbpgedaaW.PrintMore
set_option linter.unusedVariables false
set_option linter.unusedSimpArgs false
theorem Rn.stepC {s t : ByteArray} {base top : Nat} {W W5 : World} {b b' : Nat} {ok ok' : Nat → Prop} {l : List Ca} {g n cap kk : Nat} {cur : Array Value} {x : Ca} {u : Value}
    (hR : Kd.R k99 99 W b ok (.slice (some ⟨g, 0, none⟩) n cap) l) (hx : l[kk]? = some x) (hg : W.heap[g]? = some (.cells cur 99 (0, 0))) (k4 : cur[kk * 5 + 4]? = some u)
    (hRn : Rn s t base top W W5) (hu : Kd.R k24 24 W5 b' ok' u (renL s t x.f2.f2)) :
    ∃ l6, Kd.R k99 99 (wrE W5 g (kk * 5 + 2) (.int .i64 x.f2.f0) (.string (nmR s t x.f2.f0 x.f2.f1)) u) b ok (.slice (some ⟨g, 0, none⟩) n cap) l6 ∧ l6.length = l.length ∧ ∀ (j : Nat) (y y' : Ca), l[j]? = some y → l6[j]? = some y' → if j = kk then y' = renC s t y else LikeC s t y y' := by
  obtain ⟨cur5, hg5, hce, _⟩ := hRn.2.2 g cur _ hg
  have hce := hce (by decide)
  subst hce
  obtain ⟨l5, h5, hl5, hL5⟩ := Rn.rowC hRn hR
  have hkl : kk < l.length := (List.getElem?_eq_some_iff.1 hx).1
  have hkl5 : kk < l5.length := by omega
  rcases RowC.of h5 with ⟨he, _⟩ | ⟨g', cap', cur', he, hb, hok, hg', hcap, hmax, hsz, hel⟩
  · cases he
  injection he with h1 h2 h3
  injection h1 with h1
  injection h1 with h1
  subst h1 h2 h3
  rw [hg5] at hg'
  injection hg' with hg'
  injection hg' with hg'
  subst hg'
  have hg6 := wrE_at (i := kk * 5 + 2) (u0 := .int .i64 x.f2.f0) (u1 := .string (nmR s t x.f2.f0 x.f2.f1)) (u2 := u) hg5
  have mv : ∀ {α : Type} {dk : Kd α} {e : TypeId} {v : Value} {xs : List α}, Kd.R dk e W5 b (fun k => ok k ∧ some k ≠ (Value.slice (some ⟨g, 0, none⟩) l5.length cap).ownBlock) v xs → Kd.R dk e (wrE W5 g (kk * 5 + 2) (.int .i64 x.f2.f0) (.string (nmR s t x.f2.f0 x.f2.f1)) u) b (fun k => ok k ∧ some k ≠ (Value.slice (some ⟨g, 0, none⟩) l5.length cap).ownBlock) v xs := by
    intro α dk e v xs h
    have hne : ∀ k, (ok k ∧ some k ≠ (Value.slice (some ⟨g, 0, none⟩) l5.length cap).ownBlock) → k ≠ g := fun k hk he => hk.2 (by rw [he]; rfl)
    exact Kd.R_far (Kd.R_far (Kd.R_far h hne _) hne _) hne _
  refine ⟨l5.set kk (renC s t x), RowC.to (.inr ⟨g, cap, _, by rw [List.length_set], hb, hok, hg6, by rw [List.length_set]; exact hcap, hmax, by simpa using hsz, fun j y hy => ?_⟩), by rw [List.length_set, hl5], fun j y y' hy hy' => ?_⟩
  · rw [List.getElem?_set] at hy
    by_cases hjk : kk = j
    · subst hjk
      rw [if_pos rfl, if_pos hkl5] at hy
      injection hy with hy
      subst hy
      obtain ⟨u1, u4, a0, a1, a2, a3, a4, a5, a6⟩ := hel kk _ (List.getElem?_eq_getElem hkl5)
      obtain ⟨e0, e1, e2, e3, e4⟩ := hL5 kk _ _ hx (List.getElem?_eq_getElem hkl5)
      rw [k4] at a4
      injection a4 with a4
      subst a4
      have hd := row_det _ (Nat.le_refl _) a6 hu
      have hlt : kk * 5 + 4 < cur5.size := (Array.getElem?_eq_some_iff.1 k4).1
      rw [e0] at a0
      rw [e1] at a5
      rw [hd] at a6
      refine ⟨u1, u, ?_, ?_, ?_, ?_, ?_, mv a5, ?_⟩
      · rw [Array.getElem?_setIfInBounds_ne (by omega), Array.getElem?_setIfInBounds_ne (by omega), Array.getElem?_setIfInBounds_ne (by omega)]; exact a0
      · rw [Array.getElem?_setIfInBounds_ne (by omega), Array.getElem?_setIfInBounds_ne (by omega), Array.getElem?_setIfInBounds_ne (by omega)]; exact a1
      · rw [Array.getElem?_setIfInBounds_ne (by omega), Array.getElem?_setIfInBounds_ne (by omega), Array.getElem?_setIfInBounds, if_pos rfl, if_pos (by omega)]; simp [renC, renE_eq]
      · rw [Array.getElem?_setIfInBounds_ne (by omega), Array.getElem?_setIfInBounds, if_pos rfl, if_pos (by simp; omega)]; simp [renC, renE_eq]
      · rw [Array.getElem?_setIfInBounds, if_pos rfl, if_pos (by simp; omega)]
      · have h9 : (renC s t x).f2.f2 = renL s t x.f2.f2 := by simp [renC, renE_eq]
        rw [h9]; exact mv a6
    · rw [if_neg hjk] at hy
      obtain ⟨u1, u4, a0, a1, a2, a3, a4, a5, a6⟩ := hel j _ hy
      refine ⟨u1, u4, ?_, ?_, ?_, ?_, ?_, mv a5, mv a6⟩
      · rw [Array.getElem?_setIfInBounds_ne (by omega), Array.getElem?_setIfInBounds_ne (by omega), Array.getElem?_setIfInBounds_ne (by omega)]; exact a0
      · rw [Array.getElem?_setIfInBounds_ne (by omega), Array.getElem?_setIfInBounds_ne (by omega), Array.getElem?_setIfInBounds_ne (by omega)]; exact a1
      · rw [Array.getElem?_setIfInBounds_ne (by omega), Array.getElem?_setIfInBounds_ne (by omega), Array.getElem?_setIfInBounds_ne (by omega)]; exact a2
      · rw [Array.getElem?_setIfInBounds_ne (by omega), Array.getElem?_setIfInBounds_ne (by omega), Array.getElem?_setIfInBounds_ne (by omega)]; exact a3
      · rw [Array.getElem?_setIfInBounds_ne (by omega), Array.getElem?_setIfInBounds_ne (by omega), Array.getElem?_setIfInBounds_ne (by omega)]; exact a4
  · rw [List.getElem?_set] at hy'
    by_cases hjk : kk = j
    · subst hjk
      rw [if_pos rfl, if_pos hkl5] at hy'
      injection hy' with hy'
      rw [hx] at hy
      injection hy with hy
      rw [if_pos rfl, ← hy', hy]
    · rw [if_neg hjk] at hy'
      rw [if_neg (fun h => hjk h.symm)]
      exact hL5 j y y' hy hy'
end Go.Proofs.Ytacefdkfbpgedaa.Mine
namespace Go.Proofs.Ytacefdkfbpgedaa.Mine
open Go.Proofs.Ytacefdkfbpgedaa.PProgExprs
open Go.RowKit Go.Shelf Go.Proofs.YtacefdkfbpgedaaW.PrintWords Go.Proofs.YtacefdkfbpgedaaW.PrintLast Go.Proofs.YtacefdkfbpgedaaW.PrintMore
set_option linter.unusedVariables false
set_option linter.unusedSimpArgs false
theorem ca_ext {x y : Ca} (h0 : x.f0 = y.f0) (h1 : x.f1 = y.f1) (h2 : x.f2 = y.f2) : x = y := by cases x; cases y; cases h0; cases h1; cases h2; rfl
theorem LikeC.ren {s t : ByteArray} {x x' : Ca} (h : LikeC s t x x') : renC s t x' = renC s t x := by
  obtain ⟨h0, h1, h2, h3, h4⟩ := h
  unfold renC
  rw [h0, h1, renE_eq s t x'.f2, renE_eq s t x.f2, h2, h3, h4.ren]
theorem LikeC.trans {s t : ByteArray} {x y z : Ca} (h : LikeC s t x y) (k : LikeC s t y z) : LikeC s t x z :=
  ⟨k.1.trans h.1, k.2.1.trans h.2.1, k.2.2.1.trans h.2.2.1, k.2.2.2.1.trans h.2.2.2.1, h.2.2.2.2.trans k.2.2.2.2⟩
theorem LikeC.fix {s t : ByteArray} {x y : Ca} (h : LikeC s t (renC s t x) y) : y = renC s t x := by
  obtain ⟨h0, h1, h2, h3, h4⟩ := h
  refine ca_ext h0 h1 (ex_ext h2 h3 ?_)
  refine h4.fix ?_
  simp only [renC, renE_eq]
  exact renL_idem s t _ _ (Nat.le_refl _)
theorem cases_step {s t : ByteArray} {ds l l6 : List Ca} {jj : Nat} (hl : l.length = ds.length) (hl6 : l6.length = l.length) (hL : ∀ (j : Nat) (y y' : Ca), ds[j]? = some y → l[j]? = some y' → if j < jj then y' = renC s t y else LikeC s t y y')
    (h6 : ∀ (j : Nat) (y y' : Ca), l[j]? = some y → l6[j]? = some y' → if j = jj then y' = renC s t y else LikeC s t y y') : ∀ (j : Nat) (y y' : Ca), ds[j]? = some y → l6[j]? = some y' → if j < jj + 1 then y' = renC s t y else LikeC s t y y' := by
  intro j y y' hy hy'
  have hj : j < l.length := by have := (List.getElem?_eq_some_iff.1 hy').1; omega
  have h1 := hL j y _ hy (List.getElem?_eq_getElem hj)
  have h2 := h6 j _ y' (List.getElem?_eq_getElem hj) hy'
  rcases Nat.lt_trichotomy j jj with h | h | h
  · rw [if_pos h] at h1
    rw [if_neg (by omega), h1] at h2
    rw [if_pos (by omega)]
    exact h2.fix
  · rw [if_neg (by omega)] at h1
    rw [if_pos h] at h2
    rw [if_pos (by omega), h2, h1.ren]
  · rw [if_neg (by omega)] at h1 h2
    rw [if_neg (by omega)]
    exact h1.trans h2
end Go.Proofs.Ytacefdkfbpgedaa.Mine
namespace Go.Proofs.Ytacefdkfbpgedaa.Mine
open Go.Proofs.Ytacefdkfbpgedaa.PProgExprs
open Go.RowKit Go.Shelf Go.Proofs.YtacefdkfbpgedaaW.PrintWords Go.Proofs.YtacefdkfbpgedaaW.PrintLast Go.Proofs.YtacefdkfbpgedaaW.PrintMore
set_option linter.unusedVariables false
set_option linter.unusedSimpArgs false
theorem name_row {W : World} {base g n cap : Nat} {xs : List De} (h : Kd.R k58 58 W base (fun _ => True) (.slice (some ⟨g, 0, none⟩) n cap) xs) (i : Nat) (hi : i < n) (t : ByteArray) (d : De) (hd : xs[i]? = some d) :
    Kd.R k58 58 (W.setCell ⟨g, i * 6, none⟩ (.string t)) base (fun _ => True) (.slice (some ⟨g, 0, none⟩) n cap) (xs.set i (nameD t d)) ∧ (∃ u, W.cell? ⟨g, i * 6, none⟩ = some u) ∧ W.frozen? ⟨g, i * 6, none⟩ = false := by
  obtain ⟨c, hcl, hM, hcc, hf⟩ := Kd.R_elem h d (i : Int) (by omega) (by omega)
  have hg : xs.getD (i : Int).toNat d = d := by rw [Int.toNat_natCast, List.getD_eq_getElem?_getD, hd]; rfl
  rw [hg] at hM
  obtain ⟨v1, v2, v5, rfl, h1, h2, h5⟩ := k58_openM hM
  have h6 := Kd.R_seg h (i : Int) (by omega) (by omega) (seg := [.string t]) (j := 0) hcl hcc (show 1 ≤ 6 by decide) (x' := nameD t d) (okp := fun k => True ∧ k ≠ g) (k58_mkM W base _ (nameD t d) h1 h2 h5) (fun k hk => hk)
  exact ⟨h6.1, ⟨_, hcc 0 _ rfl⟩, hf 0⟩
theorem find_at {ps : List De} {s : ByteArray} {fp : Int × Int} (h : findP ps s = fp) (h0 : fp.2 = 0) : checkP ps = 0 ∧ ∃ (i : Nat) (d : De), fp.1 = (i : Int) ∧ i < ps.length ∧ ps[i]? = some d ∧ d.f0 = s := by
  subst h
  unfold findP at *
  by_cases h1 : checkP ps = 0
  · rw [if_pos h1] at *
    by_cases h2 : numD ps s < 0
    · rw [if_pos h2] at h0; exact absurd h0 (by decide)
    · rw [if_neg h2] at *
      obtain ⟨i, hi⟩ : ∃ i : Nat, numD ps s = (i : Int) := ⟨(numD ps s).toNat, by omega⟩
      obtain ⟨d, hd, hs⟩ := numD_get hi
      exact ⟨h1, i, d, hi, (List.getElem?_eq_some_iff.1 hd).1, hd, hs⟩
  · rw [if_neg h1] at h0; exact absurd h0 h1
end Go.Proofs.Ytacefdkfbpgedaa.Mine
namespace Go.Proofs.Ytacefdkfbpgedaa.Mine
open Go.Proofs.Ytacefdkfbpgedaa.PProgExprs
open Go.RowKit Go.Shelf Go.Proofs.YtacefdkfbpgedaaW.PrintWords Go.Proofs.YtacefdkfbpgedaaW.PrintLast Go.Proofs.YtacefdkfbpgedaaW.PrintMore
set_option linter.unusedVariables false
set_option linter.unusedSimpArgs false
set_option maxRecDepth 100000
abbrev RmC (B3 B8 : Nat) (v u0 u1 u2 : Value) (W : World) : Prop := W.cell? ⟨B3, 2, none⟩ = some v ∧ W.cell? ⟨B8, 2, none⟩ = some u0 ∧ W.cell? ⟨B8, 3, none⟩ = some u1 ∧ W.cell? ⟨B8, 4, none⟩ = some u2
def renameP (ps : List De) (s t : ByteArray) : List De × Int := if checkP ps = 0 then renR ps s t else ([], checkP ps)
set_option maxHeartbeats 8000000 in
theorem c_Rename (ps : List De) (A : Option Addr) (c : Nat) (s t : ByteArray) (w : World) (hr : Kd.C k58 w A ps.length ps) (hc : ps.length ≤ c) (hl : ps.length ≤ 100) (hb : ∀ x ∈ ps, bigD x = false) :
    Calls Try.prog 51 #[.agg #[.slice A ps.length c], .string s, .string t] w fun en w' => ∃ v, en = .returned (.tuple #[.agg #[v], .int .i64 (renameP ps s t).2]) ∧ OwnD w' w.heap.size v (renameP ps s t).1 ∧ Below w.heap.size w w' := by
  have hF := Kd.C_F k58_heap hr
  have hokp : OkP ps := okP_of (by omega) hb
  have hmd := hr.2.1
  obtain ⟨W1, hW1⟩ : ∃ W1, (w.alloc (.cells #[.slice A ps.length c] 53)).alloc (.cells #[.slice none 0 0] 53) = W1 := ⟨_, rfl⟩
  have q1 : Below w.heap.size w W1 := by rw [← hW1]; exact below_alloc2 _ _ _
  have bP : PBox w.heap.size A ps.length c W1 := by rw [← hW1]; exact blk_alloc (alloc_at _ _) _
  have bR : PBox (w.heap.size + 1) none 0 0 W1 := by rw [← hW1]; have := alloc_at (w.alloc (.cells #[.slice A ps.length c] 53)) (.cells #[.slice none 0 0] 53); rw [World.size_alloc] at this; exact this
  have z1 : W1.heap.size = w.heap.size + 1 + 1 := by rw [← hW1]; simp
  have HPs := Aside0.mk hF
  have Q := Aside0.mk q1
  have BP := Aside0.mk bP
  have BR := Aside0.mk bR
  have HW1 := Lib.hid hW1
  have hz1a := Nat.le_of_eq z1
  have hz1b := Nat.le_of_eq z1.symm
  have kP := (blk_cell bP 0).trans rfl
  obtain ⟨fp, hfp⟩ : ∃ fp, findP ps s = fp := ⟨_, rfl⟩
  obtain ⟨n2, hn2⟩ : ∃ n, numD ps t = n := ⟨_, rfl⟩
  obtain ⟨nb, hnb⟩ : ∃ b, nameB t = b := ⟨_, rfl⟩
  have HC := Lib.hid (c_Find ps A c s W1 (Kd.C_below hr q1) hc hokp)
  rw [hfp] at HC
  have HX := Lib.hid (show renameP ps s t = if fp.2 = 0 then (if nb = false then ([], 4) else if s ≠ t ∧ 0 ≤ n2 then ([], 5) else (renP s t ps, 0)) else ([], fp.2) by
    rw [renameP, ← hfp, findP, renR, hn2, hnb]
    by_cases h1 : checkP ps = 0
    · rw [if_pos h1, if_pos h1]
      by_cases h2 : numD ps s < 0
      · rw [if_pos h2, if_pos h2, if_neg (by decide)]
      · rw [if_neg h2, if_neg h2, if_pos rfl]
    · rw [if_neg h1, if_neg h1, if_neg h1])
  have HN1 := Lib.hid (And.intro hn2 hnb)
  have HFp := Lib.hid hfp
  clear hF hr q1 bP bR hW1 z1 hfp hn2 hnb
  go_enter Try.func51, Try.ntmps51
  go_wp2_with fail
  rw [HW1.out]
  go_wp2_with fail
  refine HC.out.mono ?_
  rintro en w2 ⟨rfl, hb'⟩
  have Q := Aside0.mk (Q.out.trans (hb'.mono Q.out.size))
  have BP := Aside0.mk (blk_below BP.out hb')
  have BR := Aside0.mk (blk_below BR.out hb')
  have hs2 := hb'.size
  clear hb' HC kP HW1
  have k4 := (blk_cell BR.out 0).trans rfl
  have f4 := blk_frozen BR.out 0
  cases he : (fp.2 != 0) with
  | true =>
    have hne : ¬ fp.2 = 0 := by simpa using he
    have HX2 := Lib.hid (show renameP ps s t = ([], fp.2) by rw [HX.out, if_neg hne])
    clear hne
    go_wp2
    have b4 := blk_put BR.out 0 (.slice none 0 0) rfl
    refine bodyPost_ret (results_ct rfl _ _ _ _ _ _ _ rfl b4 Try.underlying53 rfl (by kernel_rfl)) rfl ?_
    rw [HX2.out]
    exact ⟨_, rfl, Kd.R_nil _ _ _ _ _, (Q.out).setCell (by simp only; omega) _⟩
  | false =>
    have hfe : fp.2 = 0 := by simpa using he
    have HX1 := Lib.hid (show renameP ps s t = if nb = false then ([], 4) else if s ≠ t ∧ 0 ≤ n2 then ([], 5) else (renP s t ps, 0) by rw [HX.out, if_pos hfe])
    have HFe := Lib.hid hfe
    clear hfe
    have HC := Lib.hid (c_named t w2)
    rw [HN1.out.2] at HC
    go_wp2_with fail
    refine HC.out.mono ?_
    rintro en w3 ⟨rfl, hb'⟩
    have Q := Aside0.mk (Q.out.trans (hb'.mono Q.out.size))
    have BP := Aside0.mk (blk_below BP.out hb')
    have BR := Aside0.mk (blk_below BR.out hb')
    have hs3 := hb'.size
    clear hb' HC k4 f4
    have k4 := (blk_cell BR.out 0).trans rfl
    have f4 := blk_frozen BR.out 0
    have kP := (blk_cell BP.out 0).trans rfl
    cases nb with
    | false =>
      have HX2 := Lib.hid (show renameP ps s t = ([], 4) by rw [HX1.out, if_pos rfl])
      go_wp2
      have b4 := blk_put BR.out 0 (.slice none 0 0) rfl
      refine bodyPost_ret (results_ct rfl _ _ _ _ _ _ _ rfl b4 Try.underlying53 rfl (by kernel_rfl)) rfl ?_
      rw [HX2.out]
      exact ⟨_, rfl, Kd.R_nil _ _ _ _ _, (Q.out).setCell (by simp only; omega) _⟩
    | true =>
      have HX3 := Lib.hid (show renameP ps s t = if s ≠ t ∧ 0 ≤ n2 then ([], 5) else (renP s t ps, 0) by rw [HX1.out, if_neg (by decide)])
      obtain ⟨b, hb5⟩ : ∃ b, decide (s ≠ t ∧ 0 ≤ n2) = b := ⟨_, rfl⟩
      have HC := Lib.hid (c_number ps A c t w3 (Kd.F_now (Kd.F_below HPs.out Q.out)) hc)
      rw [HN1.out.1] at HC
      go_upto_region 6 with fail
      go_cut [31] (fun s30 wx => s30 = .bool b ∧ Aside0 (Below w3.heap.size w3 wx))
      case first =>
        by_cases hst : s = t
        · have hbf : b = false := by rw [← hb5]; simp [hst]
          have he2 : (t.toList != s.toList) = false := by rw [hst]; simp
          have he3 : (t.toList == s.toList) = true := by rw [hst]; simp
          clear hb5 hst
          go_wp2_with fail
          go_meet
          exact ⟨by rw [hbf], ⟨Below.refl _ _⟩⟩
        · have he3 : (t.toList == s.toList) = false := by rw [sEq]; simpa using fun h => hst h.symm
          have he2 : (t.toList != s.toList) = true := by rw [bne, he3]; rfl
          have hbf : b = decide (n2 ≥ 0) := by rw [← hb5]; simp [hst]
          clear hb5 hst
          go_wp2_with fail
          refine HC.out.mono ?_
          rintro en w4 ⟨rfl, hb4⟩
          have HB4 := Aside0.mk hb4
          clear hb4
          go_wp2_with fail
          go_meet
          exact ⟨by rw [hbf], HB4⟩
      case rest =>
        obtain ⟨rfl, HB5⟩ := hcut
        have HXb := Lib.hid (show renameP ps s t = if b = true then ([], 5) else (renP s t ps, 0) by
          rw [HX3.out, ← hb5]
          by_cases h : s ≠ t ∧ 0 ≤ n2
          · rw [if_pos h, if_pos (by simpa using h)]
          · rw [if_neg h, if_neg (by simpa using h)])
        have Q := Aside0.mk (Q.out.trans (HB5.out.mono Q.out.size))
        have BP := Aside0.mk (blk_below BP.out HB5.out)
        have BR := Aside0.mk (blk_below BR.out HB5.out)
        have hs5 := HB5.out.size
        clear hb5 HB5 kP k4 f4 HC HX3 HX1 HX
        cases b with
        | true =>
          have HX2 := Lib.hid (show renameP ps s t = ([], 5) by rw [HXb.out, if_pos rfl])
          have k4 := (blk_cell BR.out 0).trans rfl
          have f4 := blk_frozen BR.out 0
          go_wp2
          have b4 := blk_put BR.out 0 (.slice none 0 0) rfl
          refine bodyPost_ret (results_ct rfl _ _ _ _ _ _ _ rfl b4 Try.underlying53 rfl (by kernel_rfl)) rfl ?_
          rw [HX2.out]
          exact ⟨_, rfl, Kd.R_nil _ _ _ _ _, (Q.out).setCell (by simp only; omega) _⟩
        | false =>
          have HX2 := Lib.hid (show renameP ps s t = (renP s t ps, 0) by rw [HXb.out, if_neg (by decide)])
          obtain ⟨W8, hW8⟩ : ∃ W8, wc.alloc (.cells #[.slice none 0 0] 53) = W8 := ⟨_, rfl⟩
          have q8 : Below wc.heap.size wc W8 := by rw [← hW8]; exact below_alloc1 _ _
          have z8 : W8.heap.size = wc.heap.size + 1 := by rw [← hW8]; simp
          have BV := Aside0.mk (show PBox wc.heap.size none 0 0 W8 by rw [← hW8]; exact alloc_at _ _)
          have HW8 := Lib.hid hW8
          have BP8 := Aside0.mk (blk_below BP.out q8)
          have BR8 := Aside0.mk (blk_below BR.out q8)
          have Q8 := Aside0.mk (Q.out.trans (q8.mono Q.out.size))
          have hz8a := Nat.le_of_eq z8
          have hz8b := Nat.le_of_eq z8.symm
          have kP := (blk_cell BP8.out 0).trans rfl
          clear hW8 q8 z8 HXb
          go_upto_region 9 with fail
          rw [HW8.out]
          clear HW8
          go_wp2_with fail
          have hw8 := Q8.out.size
          have hoq : ∀ x ∈ ps, OkO x := fun x hx => bigD_okO (hb x hx)
          clear kP
          go_loopg [46] ps.length (fun gg s46 wr => ∃ (kk : Nat) (v : Value), kk ≤ ps.length ∧ ps.length - kk ≤ gg ∧ s46 = .int .i64 kk ∧ Aside0 (OwnD wr W8.heap.size v ((ps.take kk).map (renDb s t))) ∧ Aside0 (Below wc.heap.size W8 wr) ∧ Aside0 (Fr (fun k => k = wc.heap.size) W8 wr) ∧ W8.heap.size ≤ wr.heap.size ∧ Aside0 (wr.heap[wc.heap.size]? = some (.cells #[v] 53 (0, 0))))
          case atStart => exact ⟨0, _, Nat.zero_le _, by omega, rfl, ⟨Kd.R_nil _ _ _ _ _⟩, ⟨Below.refl _ _⟩, ⟨Fr.refl _ _⟩, Nat.le_refl _, BV⟩
          case round =>
            obtain ⟨kk, v, hkk, hg, rfl, HO, HB, HFr, hszr, BV⟩ := hrel
            have Q9 := Aside0.mk (Q8.out.trans (HB.out.mono (by omega)))
            have hs9 := Q9.out.size
            by_cases hlt : kk < ps.length
            · have hltz : (kk : Int) < (ps.length : Int) := by omega
              have hFr := Kd.F_below HPs.out Q9.out
              obtain ⟨ad, g0, g1, g2, g3, g4, g5, rfl, hK, hcells, y0, y1, y2, y3, y4, y5⟩ := gett6 rfl (Kd.F_now hFr) kk hlt
              have hFK := elemF hFr kk hlt rfl hcells (fun _ _ _ h => h) (by decide)
              have hmem := List.getElem_mem hlt
              obtain ⟨dd, hdd⟩ : ∃ dd, ps[kk] = dd := ⟨_, rfl⟩
              rw [hdd] at hFK hmem
              obtain ⟨Z1, z1, Z2, z2, Z5, z5, he, _⟩ := k58_openF hFK
              obtain ⟨rfl, rfl, rfl, rfl, rfl, rfl⟩ : g0 = _ ∧ g1 = _ ∧ g2 = _ ∧ g3 = _ ∧ g4 = _ ∧ g5 = _ := by simpa using he
              have hod := hoq _ hmem
              have HTs := Lib.hid (show (ps.take (kk + 1)).map (renDb s t) = (ps.take kk).map (renDb s t) ++ [renDb s t dd] by rw [take_snoc hlt, hdd, List.map_append]; rfl)
              obtain ⟨W0, hW0⟩ : ∃ W0, wr.alloc (.cells #[.string dd.f0, .slice Z1 dd.f1.length z1, .slice Z2 dd.f2.length z2, .int .i64 dd.f3.f0, .string dd.f3.f1, .slice Z5 dd.f3.f2.length z5] 58) = W0 := ⟨_, rfl⟩
              have q0 : Below wr.heap.size wr W0 := by rw [← hW0]; exact below_alloc1 _ _
              have s0 : W0.heap.size = wr.heap.size + 1 := by rw [← hW0]; simp
              have bx : W0.heap[wr.heap.size]? = some (.cells #[.string dd.f0, .slice Z1 dd.f1.length z1, .slice Z2 dd.f2.length z2, .int .i64 dd.f3.f0, .string dd.f3.f1, .slice Z5 dd.f3.f2.length z5] 58 (0, 0)) := by rw [← hW0]; exact alloc_at _ _
              have HBX := Aside0.mk bx
              have hFK0 : Kd.FK k58 W0 (fun k => k < W0.heap.size) dd [.string dd.f0, .slice Z1 dd.f1.length z1, .slice Z2 dd.f2.length z2, .int .i64 dd.f3.f0, .string dd.f3.f1, .slice Z5 dd.f3.f2.length z5] := Kd.FK_mono (Kd.FK_below hFK q0) (fun k hk => by omega)
              have HC := Lib.hid (c_ownS dd _ W0 hFK0 hod.c hod.p hod.v hod.b hod.z)
              have HHW := Lib.hid hW0
              have HQ0 := Aside0.mk q0
              clear hFr hK hcells hFK he hdd q0 bx hFK0 hW0
              go_upto_region 12 with fail
              rw [HHW.out]
              have x0 := (blk_cell HBX.out 0).trans rfl
              have x1 := (blk_cell HBX.out 1).trans rfl
              have x2 := (blk_cell HBX.out 2).trans rfl
              have x3 := (blk_cell HBX.out 3).trans rfl
              have x4 := (blk_cell HBX.out 4).trans rfl
              have x5 := (blk_cell HBX.out 5).trans rfl
              go_wp2_with fail
              refine HC.out.mono ?_
              rintro e wE ⟨v1, v2, v5, rfl, m, hm1, hm2, hT, hCs, hE, hbE⟩
              obtain ⟨At, ct, ht⟩ := Kd.R_slice hT
              obtain ⟨Ac, cc, hcc⟩ := Kd.R_slice hCs
              obtain ⟨Ae, ce, he⟩ := Kd.R_slice hE
              subst ht
              subst hcc
              subst he
              have HBE := Aside0.mk (blk_below HBX.out hbE)
              have fx := fun i => blk_frozen HBE.out i
              have x0 := (blk_cell HBE.out 0).trans rfl
              have x1 := (blk_cell HBE.out 1).trans rfl
              have x2 := (blk_cell HBE.out 2).trans rfl
              have x3 := (blk_cell HBE.out 3).trans rfl
              have x4 := (blk_cell HBE.out 4).trans rfl
              have x5 := (blk_cell HBE.out 5).trans rfl
              obtain ⟨wF, hwF⟩ : ∃ wF, (((((wE.setCell ⟨wr.heap.size, 0, none⟩ (.string dd.f0)).setCell ⟨wr.heap.size, 1, none⟩ (.slice At dd.f1.length ct)).setCell ⟨wr.heap.size, 2, none⟩ (.slice Ac dd.f2.length cc)).setCell ⟨wr.heap.size, 3, none⟩ (.int .i64 dd.f3.f0)).setCell ⟨wr.heap.size, 4, none⟩ (.string dd.f3.f1)).setCell ⟨wr.heap.size, 5, none⟩ (.slice Ae dd.f3.f2.length ce) = wF := ⟨_, rfl⟩
              have zF : wF.heap.size = wE.heap.size := by rw [← hwF]; simp only [World.setCell, Array.size_modify]
              have hbF := blk_put (blk_put (blk_put (blk_put (blk_put (blk_put HBE.out 0 (.string dd.f0) rfl) 1 (.slice At dd.f1.length ct) rfl) 2 (.slice Ac dd.f2.length cc) rfl) 3 (.int .i64 dd.f3.f0) rfl) 4 (.string dd.f3.f1) rfl) 5 (.slice Ae dd.f3.f2.length ce) rfl
              rw [hwF] at hbF
              have HBF := Aside0.mk (show wF.heap[wr.heap.size]? = some (.cells #[.string dd.f0, .slice At dd.f1.length ct, .slice Ac dd.f2.length cc, .int .i64 dd.f3.f0, .string dd.f3.f1, .slice Ae dd.f3.f2.length ce] 58 (0, 0)) from hbF)
              have hne : ∀ k, k < m ∧ W0.heap.size ≤ k → k ≠ wr.heap.size := fun k hk => by have := hk.2; omega
              have hne' : ∀ k, True ∧ m ≤ k → k ≠ wr.heap.size := fun k hk => by have := hk.2; omega
              have HCs := Aside0.mk (show Kd.R k99 99 wF W0.heap.size (fun k => k < m) (.slice Ac dd.f2.length cc) dd.f2 by
                rw [← hwF]
                have h1 := Kd.R_mono (Kd.R_bound hCs) (ok' := fun k => k < m ∧ W0.heap.size ≤ k) (fun k hk => ⟨hk.1, hk.2.1⟩)
                exact Kd.R_mono (Kd.R_far (Kd.R_far (Kd.R_far (Kd.R_far (Kd.R_far (Kd.R_far h1 hne _) hne _) hne _) hne _) hne _) hne _) (fun _ hk => hk.1))
              have HT := Aside0.mk (show OwnT wF m (.slice At dd.f1.length ct) dd.f1 by
                rw [← hwF]
                have h1 := Kd.R_mono (Kd.R_bound hT) (ok' := fun k => True ∧ m ≤ k) (fun k hk => ⟨trivial, hk.2.1⟩)
                exact Kd.R_mono (Kd.R_far (Kd.R_far (Kd.R_far (Kd.R_far (Kd.R_far (Kd.R_far h1 hne' _) hne' _) hne' _) hne' _) hne' _) hne' _) (fun _ hk => hk.1))
              have HE := Aside0.mk (show OwnE wF m (.slice Ae dd.f3.f2.length ce) dd.f3.f2 by
                rw [← hwF]
                have h1 := Kd.R_mono (Kd.R_bound hE) (ok' := fun k => True ∧ m ≤ k) (fun k hk => ⟨trivial, hk.2.1⟩)
                exact Kd.R_mono (Kd.R_far (Kd.R_far (Kd.R_far (Kd.R_far (Kd.R_far (Kd.R_far h1 hne' _) hne' _) hne' _) hne' _) hne' _) hne' _) (fun _ hk => hk.1))
              have HQF := Aside0.mk (show Below wr.heap.size wr wF by
                rw [← hwF]
                exact ((((((HQ0.out.trans (hbE.mono HQ0.out.size)).setCell (by simp) _).setCell (by simp) _).setCell (by simp) _).setCell (by simp) _).setCell (by simp) _).setCell (by simp) _)
              have HwF := Lib.hid hwF
              have hm2F : m ≤ wF.heap.size := by omega
              clear hT hCs hE hbE hbF hwF zF hne hne' HC HHW
              go_upto_region 13 with fail
              rw [HwF.out]
              clear x0 x1 x2 x3 x4 x5 fx
              have x2 := (blk_cell HBF.out 2).trans rfl
              go_wp2_with fail
              go_loopg [55] dd.f2.length (fun gg s55 wz => ∃ (jj : Nat) (l : List Ca), jj ≤ dd.f2.length ∧ dd.f2.length - jj ≤ gg ∧ s55 = .int .i64 jj ∧ l.length = dd.f2.length ∧ Aside0 (Kd.R k99 99 wz W0.heap.size (fun k => k < m) (.slice Ac dd.f2.length cc) l) ∧ Aside0 (∀ (j : Nat) (y y' : Ca), dd.f2[j]? = some y → l[j]? = some y' → if j < jj then y' = renC s t y else LikeC s t y y') ∧ Aside0 (Below W0.heap.size wF wz) ∧ Aside0 (∀ k, m ≤ k → k < wF.heap.size → wz.heap[k]? = wF.heap[k]?))
              case atStart => exact ⟨0, dd.f2, Nat.zero_le _, by omega, rfl, rfl, HCs, ⟨fun j y y' h h' => by rw [h] at h'; injection h' with h'; subst h'; rw [if_neg (Nat.not_lt_zero _)]; exact ⟨rfl, rfl, rfl, rfl, LikeL.refl _ _ _⟩⟩, ⟨Below.refl _ _⟩, ⟨fun _ _ _ => rfl⟩⟩
              case round =>
                rename World => wz
                obtain ⟨jj, l, hjj, hgg, rfl, hll, HRC, HLC, HBz, HMz⟩ := hrel
                have hszz := HBz.out.size
                have BXz := Aside0.mk (show wz.heap[wr.heap.size]? = _ from (HBz.out.block _ (by omega)).trans HBF.out)
                by_cases hjl : jj < dd.f2.length
                · have hjlz : (jj : Int) < (dd.f2.length : Int) := by omega
                  have hjl2 : jj < l.length := by omega
                  have hdl : dd.f2.length ≤ 100000 := hod.c
                  rcases RowC.of HRC.out with ⟨_, he⟩ | ⟨g, cap, cur, he, hgb, hgt, hgc, _, _, _, hel⟩
                  · rw [he] at hjl2; exact absurd hjl2 (Nat.not_lt_zero _)
                  obtain ⟨hAe, hce⟩ : Ac = some ⟨g, 0, none⟩ ∧ cc = cap := by injection he with e1 e2 e3; exact ⟨e1, e3⟩
                  subst hAe
                  subst hce
                  clear he
                  obtain ⟨u1, u4, c0, c1, c2, c3, c4, hR1, hR4⟩ := hel jj _ (List.getElem?_eq_getElem hjl2)
                  obtain ⟨x, hx⟩ : ∃ x, l[jj] = x := ⟨_, rfl⟩
                  have hxk : l[jj]? = some x := by rw [List.getElem?_eq_getElem hjl2, hx]
                  rw [hx] at c0 c2 c3 hR1 hR4
                  have k0 := (blk_cell hgc (jj * 5)).trans c0
                  have k1 := (blk_cell hgc (jj * 5 + 1)).trans c1
                  have k2 := (blk_cell hgc (jj * 5 + 2)).trans c2
                  have k3 := (blk_cell hgc (jj * 5 + 3)).trans c3
                  have k4 := (blk_cell hgc (jj * 5 + 4)).trans c4
                  have hlx := HLC.out jj _ _ (List.getElem?_eq_getElem hjl) hxk
                  rw [if_neg (Nat.lt_irrefl _)] at hlx
                  obtain ⟨A2, c22, hu⟩ := Kd.R_slice hR4
                  obtain ⟨A1, c21, hu1⟩ := Kd.R_slice hR1
                  subst hu
                  subst hu1
                  have HGC := Aside0.mk hgc
                  have HK4 := Aside0.mk c4
                  have HR4 := Aside0.mk hR4
                  have HXK := Aside0.mk hxk
                  have HLx := Aside0.mk hlx
                  have x2 := (blk_cell BXz.out 2).trans rfl
                  clear hel hgc c0 c1 c2 c3 c4 hR1 hR4 hx hxk hjl2 hlx
                  obtain ⟨Y0, hY0⟩ : ∃ Y0, wz.alloc (.cells #[.string x.f0, .slice A1 x.f1.length c21, .int .i64 x.f2.f0, .string x.f2.f1, .slice A2 x.f2.f2.length c22] 99) = Y0 := ⟨_, rfl⟩
                  have q0 : Below wz.heap.size wz Y0 := by rw [← hY0]; exact below_alloc1 _ _
                  have z0 : Y0.heap.size = wz.heap.size + 1 := by rw [← hY0]; simp
                  have qd : Below wz.heap.size wz Y0.drew := below_drew q0
                  have BC := Aside0.mk (show Y0.drew.heap[wz.heap.size]? = some (.cells #[.string x.f0, .slice A1 x.f1.length c21, .int .i64 x.f2.f0, .string x.f2.f1, .slice A2 x.f2.f2.length c22] 99 (0, 0)) by rw [← hY0]; exact alloc_at _ _)
                  have BXd := Aside0.mk (blk_below BXz.out qd)
                  have hz0 : Y0.drew.heap.size = wz.heap.size + 1 := z0
                  have hszx : szE x.f2 ≤ 1000000 := by
                    have h5 := hod.z _ (List.getElem_mem hjl)
                    have h6 := HLx.out.2.2.2.2.ren
                    have h7 : szL x.f2.f2 = szL dd.f2[jj].f2.f2 := by rw [← szL_ren s t _ x.f2.f2 (Nat.le_refl _), h6, szL_ren s t _ _ (Nat.le_refl _)]
                    rw [szE_eq] at h5 ⊢
                    omega
                  have HC := Lib.hid (c_renamed s t W0.heap.size m (szE x.f2) x.f2 (.slice A2 x.f2.f2.length c22) Y0.drew (Nat.le_refl _) hszx (by omega) (by omega) (Kd.R_below (Kd.R_mono HR4.out (fun k hk => hk.1)) qd))
                  have HQd := Aside0.mk (Rn.below (s := s) (t := t) (base := W0.heap.size) (top := m) qd (by omega))
                  have HHY := Lib.hid hY0
                  have hSd0 : RmC wr.heap.size wz.heap.size (.slice (some ⟨g, 0, none⟩) dd.f2.length cc) (.int .i64 x.f2.f0) (.string x.f2.f1) (.slice A2 x.f2.f2.length c22) Y0.drew := ⟨(blk_cell BXd.out 2).trans rfl, (blk_cell BC.out 2).trans rfl, (blk_cell BC.out 3).trans rfl, (blk_cell BC.out 4).trans rfl⟩
                  clear q0 qd hY0 hszx
                  go_upto_region 16 with fail
                  rw [HHY.out]
                  have hSd : (fun W => RmC wr.heap.size wz.heap.size (.slice (some ⟨g, 0, none⟩) dd.f2.length cc) (.int .i64 x.f2.f0) (.string x.f2.f1) (.slice A2 x.f2.f2.length c22) W) Y0.drew := hSd0
                  clear hSd0 k0 k1 k2 k3 k4 x2
                  refine wp_region_K (S := fun W => RmC wr.heap.size wz.heap.size (.slice (some ⟨g, 0, none⟩) dd.f2.length cc) (.int .i64 x.f2.f0) (.string x.f2.f1) (.slice A2 x.f2.f2.length c22) W) (k := 10) (by kernel_rfl) ?_
                  change wpAnyK _ _ _ _ _ _ 11 (Array.replicate 11 false) _ _
                  refine wpAnyK_take (i := 0) (v := ?_) rfl (by kernel_rfl) (by kernel_rfl) (by kernel_rfl) (by kernel_rfl) (fun _ _ _ h => h) hSd (Or.inl ⟨by rfl, ?_⟩) ?_
                  rotate_left 1
                  (intro w hSw; (try dsimp only at hSw); go_simp; try (with_reducible rfl))
                  (try simp only [List.getElem_toArray, List.getElem_cons_succ, List.getElem_cons_zero]); (try dsimp only [Act.put]); (try simp only [List.setIfInBounds_toArray, List.set_cons_zero, List.set_cons_succ])
                  refine wpAnyK_take (i := 1) (v := ?_) rfl (by kernel_rfl) (by kernel_rfl) (by kernel_rfl) (by kernel_rfl) (fun _ _ _ h => h) hSd (Or.inl ⟨by rfl, ?_⟩) ?_
                  rotate_left 1
                  (intro w hSw; (try dsimp only at hSw); go_simp; try (with_reducible rfl))
                  (try simp only [List.getElem_toArray, List.getElem_cons_succ, List.getElem_cons_zero]); (try dsimp only [Act.put]); (try simp only [List.setIfInBounds_toArray, List.set_cons_zero, List.set_cons_succ])
                  refine wpAnyK_take (i := 2) (v := ?_) rfl (by kernel_rfl) (by kernel_rfl) (by kernel_rfl) (by kernel_rfl) (fun _ _ _ h => h) hSd (Or.inl ⟨by rfl, ?_⟩) ?_
                  rotate_left 1
                  (intro w hSw; (try dsimp only at hSw); go_simp; try (with_reducible rfl))
                  (try simp only [List.getElem_toArray, List.getElem_cons_succ, List.getElem_cons_zero]); (try dsimp only [Act.put]); (try simp only [List.setIfInBounds_toArray, List.set_cons_zero, List.set_cons_succ])
                  refine wpAnyK_take (i := 3) (v := ?_) rfl (by kernel_rfl) (by kernel_rfl) (by kernel_rfl) (by kernel_rfl) (fun _ _ _ h => h) hSd (Or.inl ⟨by rfl, ?_⟩) ?_
                  rotate_left 1
                  (intro w hSw; (try dsimp only at hSw); go_simp; try (with_reducible rfl))
                  (try simp only [List.getElem_toArray, List.getElem_cons_succ, List.getElem_cons_zero]); (try dsimp only [Act.put]); (try simp only [List.setIfInBounds_toArray, List.set_cons_zero, List.set_cons_succ])
                  refine wpAnyK_take (i := 4) (v := ?_) rfl (by kernel_rfl) (by kernel_rfl) (by kernel_rfl) (by kernel_rfl) (fun _ _ _ h => h) hSd (Or.inl ⟨by rfl, ?_⟩) ?_
                  rotate_left 1
                  (intro w hSw; (try dsimp only at hSw); go_simp; try (with_reducible rfl))
                  (try simp only [List.getElem_toArray, List.getElem_cons_succ, List.getElem_cons_zero]); (try dsimp only [Act.put]); (try simp only [List.setIfInBounds_toArray, List.set_cons_zero, List.set_cons_succ])
                  refine wpAnyK_take (i := 5) (v := ?_) rfl (by kernel_rfl) (by kernel_rfl) (by kernel_rfl) (by kernel_rfl) (fun _ _ _ h => h) hSd (Or.inl ⟨by rfl, ?_⟩) ?_
                  rotate_left 1
                  (intro w hSw; (try dsimp only at hSw); go_simp; try (with_reducible rfl))
                  (try simp only [List.getElem_toArray, List.getElem_cons_succ, List.getElem_cons_zero]); (try dsimp only [Act.put]); (try simp only [List.setIfInBounds_toArray, List.set_cons_zero, List.set_cons_succ])
                  refine wpAnyK_take (i := 6) (v := ?_) rfl (by kernel_rfl) (by kernel_rfl) (by kernel_rfl) (by kernel_rfl) (fun _ _ _ h => h) hSd (Or.inl ⟨by rfl, ?_⟩) ?_
                  rotate_left 1
                  (intro w hSw; (try dsimp only at hSw); go_simp; try (with_reducible rfl))
                  (try simp only [List.getElem_toArray, List.getElem_cons_succ, List.getElem_cons_zero]); (try dsimp only [Act.put]); (try simp only [List.setIfInBounds_toArray, List.set_cons_zero, List.set_cons_succ])
                  refine wpAnyK_one (i := 7) (by kernel_rfl) rfl (fun K hK => ?_)
                  go_simp
                  go_at_call 90
                  (with_reducible refine HC.out.mono ?_)
                  rintro e' w5 ⟨rfl, hRn5, hRu5⟩
                  have BX5 := Aside0.mk (show w5.heap[wr.heap.size]? = _ from (hRn5.1.block _ (by omega)).trans BXd.out)
                  have BC5 := Aside0.mk (show w5.heap[wz.heap.size]? = _ from (hRn5.2.1 _ (by omega) (by omega)).trans BC.out)
                  have hs5 := hRn5.1.size
                  have hRw5 := HQd.out.trans hRn5
                  obtain ⟨l6, h6, hl6, hL6⟩ := Rn.stepC HRC.out HXK.out HGC.out HK4.out hRw5 hRu5
                  obtain ⟨cur5, hc5, hce5, _⟩ := hRw5.2.2 g cur _ HGC.out
                  have hce5 := hce5 (by decide)
                  subst hce5
                  have l2 : jj * 5 + 4 < cur5.size := (Array.getElem?_eq_some_iff.1 HK4.out).1
                  have x0 : w5.cell? ⟨g, jj * 5 + 2, none⟩ = some _ := (blk_cell hc5 (jj * 5 + 2)).trans (Array.getElem?_eq_getElem (by omega))
                  have x1 : w5.cell? ⟨g, jj * 5 + 2 + 1, none⟩ = some _ := (blk_cell hc5 (jj * 5 + 2 + 1)).trans (Array.getElem?_eq_getElem (by omega))
                  have x2 : w5.cell? ⟨g, jj * 5 + 2 + 2, none⟩ = some _ := (blk_cell hc5 (jj * 5 + 2 + 2)).trans (Array.getElem?_eq_getElem (by omega))
                  have fg := fun i => blk_frozen hc5 i
                  have H6 := Aside0.mk h6
                  have HL6 := Aside0.mk hL6
                  have HRw := Aside0.mk hRw5
                  have hSd : (fun W => RmC wr.heap.size wz.heap.size (.slice (some ⟨g, 0, none⟩) dd.f2.length cc) (.int .i64 x.f2.f0) (.string x.f2.f1) (.slice A2 x.f2.f2.length c22) W) w5 := ⟨(blk_cell BX5.out 2).trans rfl, (blk_cell BC5.out 2).trans rfl, (blk_cell BC5.out 3).trans rfl, (blk_cell BC5.out 4).trans rfl⟩
                  clear hRn5 hRu5 hRw5 h6 hL6 hc5
                  refine hK.out _ _ (fun _ => hSd) ?_
                  clear hK
                  refine wpAnyK_one (i := 8) (by kernel_rfl) rfl (fun K hK => ?_)
                  go_simp
                  refine hK.out _ _ (fun _ => hSd) ?_
                  clear hK
                  refine wpAnyK_one (i := 9) (by kernel_rfl) rfl (fun K hK => ?_)
                  go_simp
                  refine hK.out _ _ (fun _ => hSd) ?_
                  clear hK
                  refine wpAnyK_one (i := 10) (by kernel_rfl) rfl (fun K hK => ?_)
                  go_simp
                  refine hK.out _ _ (fun h => absurd rfl h) ?_
                  clear hK hSd
                  refine wpAnyK_done (by kernel_rfl) ?_ _
                  go_wp2_with fail
                  go_roundg (dd.f2.length - (jj + 1))
                  case measure => omega
                  case rel =>
                    have hgm : W0.heap.size ≤ g ∧ g < m := ⟨hgb, hgt⟩
                    exact ⟨jj + 1, l6, hjl, Nat.le_refl _, by go_num, hl6.trans hll, H6, ⟨cases_step hll hl6 HLC.out HL6.out⟩, ⟨(HBz.out.trans HRw.out.1).trans (wrE_below hgb)⟩, ⟨fun k hk hkl => (wrE_ne (by omega)).trans ((HRw.out.2.1 k hk (by omega)).trans (HMz.out k hk hkl))⟩⟩
                · have : jj = dd.f2.length := by omega
                  subst this
                  have x2 := (blk_cell BXz.out 2).trans rfl
                  have hlm : l = dd.f2.map (renC s t) := by
                    apply List.ext_getElem (by rw [List.length_map, hll])
                    intro j h1 h2
                    have h3 := HLC.out j _ _ (List.getElem?_eq_getElem (by rw [List.length_map] at h2; exact h2)) (List.getElem?_eq_getElem h1)
                    rw [if_pos (by omega)] at h3
                    rw [h3, List.getElem_map]
                  subst hlm
                  have HTz := Aside0.mk (show OwnT wz m (.slice At dd.f1.length ct) dd.f1 from Kd.R_mono (Kd.R_step (Kd.R_mono (Kd.R_bound HT.out) (ok' := fun k => True ∧ m ≤ k) (fun k hk => ⟨trivial, hk.2.1⟩)) (fun k hk hkl => HMz.out k hk.2 hkl)) (fun _ _ => trivial))
                  have HEz := Aside0.mk (show OwnE wz m (.slice Ae dd.f3.f2.length ce) dd.f3.f2 from Kd.R_mono (Kd.R_step (Kd.R_mono (Kd.R_bound HE.out) (ok' := fun k => True ∧ m ≤ k) (fun k hk => ⟨trivial, hk.2.1⟩)) (fun k hk hkl => HMz.out k hk.2 hkl)) (fun _ _ => trivial))
                  have HQz := Aside0.mk (show Below wr.heap.size wr wz from HQF.out.trans (HBz.out.mono (by omega)))
                  have hmz : m ≤ wz.heap.size := by omega
                  clear hll HLC
                  obtain ⟨b0, hb0⟩ : ∃ b0, ((dd.f2.length : Int) == 0) = b0 := ⟨_, rfl⟩
                  go_upto_if 74 with fail
                  go_cut [46] (fun s46 wx => s46 = .int .i64 kk ∧ Aside0 (Below wr.heap.size wr wx) ∧ ∃ e5 : Ex, Aside0 (wx.heap[wr.heap.size]? = some (.cells #[.string dd.f0, .slice At dd.f1.length ct, .slice Ac dd.f2.length cc, .int .i64 e5.f0, .string e5.f1, .slice Ae e5.f2.length ce] 58 (0, 0))) ∧ Aside0 (renDb s t dd = ⟨dd.f0, dd.f1, dd.f2.map (renC s t), e5⟩) ∧ Aside0 (Kd.R k99 99 wx W0.heap.size (fun _ => True) (.slice Ac dd.f2.length cc) (dd.f2.map (renC s t))) ∧ Aside0 (OwnT wx W0.heap.size (.slice At dd.f1.length ct) dd.f1) ∧ Aside0 (OwnE wx W0.heap.size (.slice Ae e5.f2.length ce) e5.f2))
                  case first =>
                    cases b0 with
                    | true =>
                      have HL0 := Lib.hid (show dd.f2.length = 0 by have := beq_iff_eq.1 hb0; omega)
                      have x3 := (blk_cell BXz.out 3).trans rfl
                      have x4 := (blk_cell BXz.out 4).trans rfl
                      have x5 := (blk_cell BXz.out 5).trans rfl
                      have hzw : wz.heap.size ≤ wz.heap.size := Nat.le_refl _
                      have HC := Lib.hid (c_renamed s t m wz.heap.size (szE dd.f3) dd.f3 (.slice Ae dd.f3.f2.length ce) wz (Nat.le_refl _) hod.b hmz hzw (Kd.R_mono (Kd.R_bound HEz.out) (fun k hk => hk.2.2.1)))
                      go_wp2_with fail
                      refine HC.out.mono ?_
                      rintro e' w5 ⟨rfl, hRn5, hRu5⟩
                      have hs5 := hRn5.1.size
                      have BX5 := Aside0.mk (show w5.heap[wr.heap.size]? = _ from (hRn5.1.block _ (by omega)).trans BXz.out)
                      have fx := fun i => blk_frozen BX5.out i
                      have y3 := (blk_cell BX5.out 3).trans rfl
                      have y4 := (blk_cell BX5.out 4).trans rfl
                      have y5 := (blk_cell BX5.out 5).trans rfl
                      have HRC5 := Aside0.mk (Kd.R_step HRC.out (fun k hk hkl => hRn5.1.block k (by omega)) (w1 := w5))
                      have HT5 := Aside0.mk (hRn5.texts HTz.out)
                      have HRu := Aside0.mk hRu5
                      have HQ5 := Aside0.mk (HQz.out.trans (hRn5.1.mono (by omega)))
                      clear hRn5 hRu5 x3 x4 x5
                      go_wp2_with fail
                      go_meet
                      obtain ⟨l5, hl5⟩ : ∃ l5, renL s t dd.f3.f2 = l5 := ⟨_, rfl⟩
                      have hll5 : l5.length = dd.f3.f2.length := by rw [← hl5, renL_length]
                      have hn5 : ∀ k, (True ∧ m ≤ k) → k ≠ wr.heap.size := fun k hk => by have := hk.2; omega
                      have hE5 : OwnE w5 W0.heap.size (.slice Ae dd.f3.f2.length ce) l5 := by rw [← hl5]; exact Kd.R_lower (Kd.R_mono HRu.out (fun _ _ => trivial)) (by omega)
                      exact ⟨rfl, ⟨((HQ5.out.setCell (Nat.le_refl _) _).setCell (Nat.le_refl _) _).setCell (Nat.le_refl _) _⟩, ⟨dd.f3.f0, nmR s t dd.f3.f0 dd.f3.f1, l5⟩, ⟨by
                        rw [hll5]
                        exact blk_put (blk_put (blk_put BX5.out 3 _ rfl) 4 _ rfl) 5 _ rfl⟩, ⟨by rw [renDb, if_pos HL0.out, renE_eq, hl5]⟩, ⟨by
                        exact Kd.R_mono (Kd.R_far (Kd.R_far (Kd.R_far (Kd.R_mono (Kd.R_bound HRC5.out) (ok' := fun k => W0.heap.size ≤ k) (fun k hk => hk.2.1)) (fun k hk => by show k ≠ wr.heap.size; omega) _) (fun k hk => by show k ≠ wr.heap.size; omega) _) (fun k hk => by show k ≠ wr.heap.size; omega) _) (fun _ _ => trivial)⟩, ⟨by
                        exact Kd.R_mono (Kd.R_far (Kd.R_far (Kd.R_far (Kd.R_lower (Kd.R_mono (Kd.R_bound HT5.out) (ok' := fun k => True ∧ m ≤ k) (fun k hk => ⟨trivial, hk.2.1⟩)) (show W0.heap.size ≤ m by omega)) hn5 _) hn5 _) hn5 _) (fun _ _ => trivial)⟩, ⟨by
                        show Kd.R k24 24 _ W0.heap.size (fun _ => True) (.slice Ae l5.length ce) l5
                        rw [hll5]
                        exact Kd.R_mono (Kd.R_far (Kd.R_far (Kd.R_far (Kd.R_mono (Kd.R_bound hE5) (ok' := fun k => W0.heap.size ≤ k) (fun k hk => hk.2.1)) (fun k hk => by show k ≠ wr.heap.size; omega) _) (fun k hk => by show k ≠ wr.heap.size; omega) _) (fun k hk => by show k ≠ wr.heap.size; omega) _) (fun _ _ => trivial)⟩⟩
                    | false =>
                      have hl0 : ¬ dd.f2.length = 0 := by intro h; rw [h] at hb0; exact absurd hb0 (by decide)
                      go_wp2_with fail
                      go_meet
                      exact ⟨rfl, HQz, dd.f3, BXz, ⟨by rw [renDb, if_neg hl0]⟩, ⟨Kd.R_mono HRC.out (fun _ _ => trivial)⟩, ⟨Kd.R_lower HTz.out (by omega)⟩, ⟨Kd.R_lower HEz.out (by omega)⟩⟩
                  case rest =>
                    rename World => wx
                    obtain ⟨rfl, HBx, e5, BX, HRe, HXC, HXT, HXE⟩ := hcut
                    clear HTz HEz HRC HBz HMz HQz BXz x2 hmz hb0
                    have hsx := HBx.out.size
                    have BVx := Aside0.mk (blk_below BV.out HBx.out)
                    obtain ⟨xs, hxs⟩ : ∃ xs, (ps.take kk).map (renDb s t) = xs := ⟨_, rfl⟩
                    have hxl : xs.length ≤ 100 := by rw [← hxs, List.length_map, List.length_take]; omega
                    have HTx := Lib.hid (show (ps.take (kk + 1)).map (renDb s t) = xs ++ [⟨dd.f0, dd.f1, dd.f2.map (renC s t), e5⟩] by rw [HTs.out, hxs, HRe.out])
                    rw [hxs] at HO
                    obtain ⟨Av, cv, hv⟩ := Kd.R_slice HO.out
                    subst hv
                    have hW80 : W8.heap.size ≤ W0.heap.size := by omega
                    have HM := Aside0.mk (k58_mkM wx W8.heap.size (fun k => W0.heap.size ≤ k) (⟨dd.f0, dd.f1, dd.f2.map (renC s t), e5⟩ : De) (Kd.R_lower (Kd.R_mono (Kd.R_bound HXT.out) (ok' := fun k => W0.heap.size ≤ k) (fun k hk => hk.2.1)) hW80) (Kd.R_lower (Kd.R_mono (Kd.R_bound HXC.out) (ok' := fun k => W0.heap.size ≤ k) (fun k hk => hk.2.1)) hW80) (Kd.R_lower (Kd.R_mono (Kd.R_bound HXE.out) (ok' := fun k => W0.heap.size ≤ k) (fun k hk => hk.2.1)) hW80))
                    have HNe := Lib.hid (fun (k : Nat) (hk : W0.heap.size ≤ k) => show True ∧ some k ≠ (Value.slice Av xs.length cv).ownBlock from ⟨trivial, fun he => by have := ((Kd.R_bound HO.out).1 k he.symm).2.2.1; omega⟩)
                    have HNr := Lib.hid (fun (k : Nat) (hk : some k = (Value.slice Av xs.length cv).ownBlock) => show W8.heap.size ≤ k from ((Kd.R_bound HO.out).1 k hk.symm).2.1)
                    have HOx := Aside0.mk (Kd.R_below HO.out HBx.out)
                    have HFx := Aside0.mk (HFr.out.after_below HBx.out)
                    have HBw := Aside0.mk (show Below wc.heap.size W8 wx from HB.out.trans (HBx.out.mono (by omega)))
                    have kV := (blk_cell BVx.out 0).trans rfl
                    have y0 := (blk_cell BX.out 0).trans rfl
                    have y1 := (blk_cell BX.out 1).trans rfl
                    have y2 := (blk_cell BX.out 2).trans rfl
                    have y3 := (blk_cell BX.out 3).trans rfl
                    have y4 := (blk_cell BX.out 4).trans rfl
                    have y5 := (blk_cell BX.out 5).trans rfl
                    go_wp2_with (at_builtin; refine Kd.R_append k58 (w0 := wx) (W := wx) W8.heap.size rfl (.tmp 82) (.tmp 84) 51 58 _ 112 rfl Try.underlying51 infoDe rfl (by decide) (by decide) (.slice Av xs.length cv) xs (⟨dd.f0, dd.f1, dd.f2.map (renC s t), e5⟩ : De) [.string dd.f0, .slice At dd.f1.length ct, .slice Ac dd.f2.length cc, .int .i64 e5.f0, .string e5.f1, .slice Ae e5.f2.length ce] (fun _ => True) (fun k => W0.heap.size ≤ k) rfl rfl HM.out HNe.out (fun _ _ => trivial) HOx.out (Below.refl _ _) (by omega) (by omega) ?_; intro v9 w9 hR9 hB9 hg9 hat9; obtain ⟨Az, cz, hvz⟩ := Kd.R_slice hR9; rw [show (xs ++ [(⟨dd.f0, dd.f1, dd.f2.map (renC s t), e5⟩ : De)]).length = xs.length + 1 from by simp] at hvz; subst hvz; have BV9 := Aside0.mk (blk_grown BVx.out hg9 (fun he => by have := HNr.out _ he; omega)); have k9 := (blk_cell BV9.out 0).trans rfl; have f9 := blk_frozen BV9.out 0; have HR9 := Aside0.mk hR9; have hs9 := hB9.size; have HB9 := Aside0.mk (HBw.out.trans (hB9.mono (by omega))); have HG9 := Aside0.mk (HFx.out.grown hg9 (fun k hk => .inr (HNr.out k hk.symm))); clear hR9 hB9 hg9 hat9 kV y0 y1 y2 y3 y4 y5)
                    go_roundg (ps.length - (kk + 1))
                    case measure => omega
                    case rel => exact ⟨kk + 1, _, hlt, Nat.le_refl _, by go_num, ⟨by
                      rw [HTx.out]
                      exact Kd.R_mono (Kd.R_far (Kd.R_mono (Kd.R_bound HR9.out) (ok' := fun k => W8.heap.size ≤ k) (fun k hk => hk.2.1)) (p := ⟨wc.heap.size, 0, none⟩) (fun k hk => by show k ≠ wc.heap.size; omega) _) (fun _ _ => trivial)⟩, ⟨HB9.out.setCell (Nat.le_refl _) _⟩, ⟨HG9.out.setCell (.inl rfl) _⟩, by simp only [World.setCell, Array.size_modify]; omega, ⟨blk_put BV9.out 0 _ rfl⟩⟩
            · have hkl : kk = ps.length := by omega
              subst hkl
              obtain ⟨qs, hqs⟩ : ∃ qs, ps.map (renDb s t) = qs := ⟨_, rfl⟩
              have hql : qs.length = ps.length := by rw [← hqs, List.length_map]
              have hOl := HO.out
              rw [List.take_length, hqs] at hOl
              obtain ⟨hck, i, d, hfi, hil, hdi, hds⟩ := find_at HFp.out HFe.out
              have hilz : (i : Int) < (qs.length : Int) := by omega
              have hi0 : (0 : Int) ≤ (i : Int) := by omega
              have hqi : qs[i]? = some (renDb s t d) := by rw [← hqs, List.getElem?_map, hdi]; rfl
              have hpos : 0 < qs.length := by omega
              obtain ⟨g, cap, rfl, hgb, hgt, cells, hcells⟩ := Kd.R_form hOl hpos
              have hiq : i < qs.length := by omega
              obtain ⟨hrow, ⟨u0, hu0⟩, hf0⟩ := name_row hOl i hiq t (renDb s t d) hqi
              have hren : renP s t ps = qs.set i (nameD t (renDb s t d)) := by rw [← hqs]; exact ren_at (check_nodup hck) hdi hds
              have HRo := Aside0.mk hrow
              have HRn := Lib.hid hren
              have kV := (blk_cell BV.out 0).trans rfl
              have fV := fun i => blk_frozen BV.out i
              have BRr := Aside0.mk (show wr.heap[w.heap.size + 1]? = _ from (HB.out.block _ (by omega)).trans BR8.out)
              have kR := (blk_cell BRr.out 0).trans rfl
              have fR := fun i => blk_frozen BRr.out i
              have HQl := Lib.hid hql
              clear hOl hck hdi hds hqi hrow hren hcells hqs HO hql hpos
              go_wp2_with fail
              have b3 := blk_far (p := ⟨g, i * 6, none⟩) BRr.out (by simp only; omega) (.string t)
              have b4 := blk_put b3 0 (.slice (some ⟨g, 0, none⟩) qs.length cap) rfl
              refine bodyPost_ret (results_ct rfl _ _ _ _ _ _ _ rfl b4 Try.underlying53 rfl (by kernel_rfl)) rfl ?_
              rw [HX2.out]
              refine ⟨_, rfl, ?_, ((Q8.out.trans (HB.out.mono (by omega))).setCell (by simp only; omega) _).setCell (by simp only; omega) _⟩
              show Kd.R k58 58 _ w.heap.size (fun _ => True) _ (renP s t ps)
              rw [HRn.out]
              exact Kd.R_lower (Kd.R_mono (Kd.R_far (Kd.R_mono (Kd.R_bound HRo.out) (ok' := fun k => W8.heap.size ≤ k) (fun k hk => hk.2.1)) (p := ⟨w.heap.size + 1, 0, none⟩) (fun k hk => by show k ≠ w.heap.size + 1; omega) _) (fun _ _ => trivial)) (by omega)
end Go.Proofs.Ytacefdkfbpgedaa.Mine
