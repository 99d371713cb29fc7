/- The reference's Bodies and all. -/
import Derived.Test.YtacefdkfbpgedaaCD5
import Derived.Deep.QuietTactic
import Derived.BigQuiet
import Derived.Test.YtacefdkfbpgedaaCD6
import Derived.Test.YtacefdkfbpgedaaCD7
import Derived.Deep.RegionLaw
import Derived.Deep.DeepMust
import Derived.Deep.DeepCutAuto
import Derived.BigRegion
import Derived.Test.YtacefdkfbpgedaaCD1
import Derived.Test.YtacefdkfbpgedaaCD4
import Derived.Test.YtacefdkfbpgedaaCD3
import Derived.Test.YtacefdkfbpgedaaCD2
namespace Go.Proofs.Ytacefdkfbpgedaa.Mine
open Go.Proofs.Ytacefdkfbpgedaa.PProgExprs
open Go.RowKit Go.Shelf Go.Proofs.YtacefdkfbpgedaaW.PrintWords Go.Proofs.YtacefdkfbpgedaaW.PrintLast Go.Proofs.YtacefdkfbpgedaaW.PrintMore
set_option linter.unusedVariables false
set_option linter.unusedSimpArgs false
end Go.Proofs.Ytacefdkfbpgedaa.Mine
namespace Go.Proofs.Ytacefdkfbpgedaa.Mine
open Go.Proofs.Ytacefdkfbpgedaa.PProgExprs
open Go.RowKit Go.Shelf Go.Proofs.YtacefdkfbpgedaaW.PrintWords Go.Proofs.YtacefdkfbpgedaaW.PrintLast Go.Proofs.YtacefdkfbpgedaaW.PrintMore
set_option linter.unusedVariables false
set_option linter.unusedSimpArgs false
end Go.Proofs.Ytacefdkfbpgedaa.Mine
namespace Go.Proofs.Ytacefdkfbpgedaa.Mine
open Go.Proofs.Ytacefdkfbpgedaa.PProgExprs
open Go.RowKit Go.Shelf Go.Proofs.YtacefdkfbpgedaaW.PrintWords Go.Proofs.YtacefdkfbpgedaaW.PrintLast Go.Proofs.YtacefdkfbpgedaaW.PrintMore
set_option linter.unusedVariables false
set_option linter.unusedSimpArgs false
end Go.Proofs.Ytacefdkfbpgedaa.Mine
namespace Go.Proofs.Ytacefdkfbpgedaa.Mine
open Go.Proofs.Ytacefdkfbpgedaa.PProgExprs
open Go.RowKit Go.Shelf Go.Proofs.YtacefdkfbpgedaaW.PrintWords Go.Proofs.YtacefdkfbpgedaaW.PrintLast Go.Proofs.YtacefdkfbpgedaaW.PrintMore
set_option linter.unusedVariables false
set_option linter.unusedSimpArgs false
theorem cell_keep {n : Nat} {W W' : World} {p : Addr} {v : Value} (hb : Below n W W') (hp : p.block < n) (h : W.cell? p = some v) : W'.cell? p = some v := (hb.cell hp).trans h
abbrev DbS (W0 : World) (B : Nat) (P C : Value) (p : Addr) (v : Value) (W : World) : Prop := Below W0.heap.size W0 W ∧ W.cell? ⟨B, 1, none⟩ = some P ∧ W.cell? ⟨B, 2, none⟩ = some C ∧ W.cell? p = some v
theorem DbS.step {W0 : World} {B : Nat} {P C : Value} {p : Addr} {v : Value} {W W' : World} (h : DbS W0 B P C p v W) (hB : B < W0.heap.size) (hp : p.block < W0.heap.size) (hb : Below W0.heap.size W W') : DbS W0 B P C p v W' := by
  obtain ⟨h0, h1, h2, h3⟩ := h
  exact ⟨h0.trans hb, cell_keep hb hB h1, cell_keep hb hB h2, cell_keep hb hp h3⟩
end Go.Proofs.Ytacefdkfbpgedaa.Mine
namespace Go.Proofs.Ytacefdkfbpgedaa.Mine
open Go.Proofs.Ytacefdkfbpgedaa.PProgExprs
open Go.RowKit Go.Shelf Go.Proofs.YtacefdkfbpgedaaW.PrintWords Go.Proofs.YtacefdkfbpgedaaW.PrintLast Go.Proofs.YtacefdkfbpgedaaW.PrintMore
set_option linter.unusedVariables false
set_option linter.unusedSimpArgs false
abbrev DcS (W0 : World) (B : Nat) (P C : Value) (p : Addr) (v0 v1 v2 v3 : Value) (W : World) : Prop := Below W0.heap.size W0 W ∧ W.cell? ⟨B, 1, none⟩ = some P ∧ W.cell? ⟨B, 2, none⟩ = some C ∧ W.cell? ⟨p.block, p.off + 1, none⟩ = some v0 ∧ W.cell? ⟨p.block, p.off + 2, none⟩ = some v1 ∧ W.cell? ⟨p.block, p.off + 3, none⟩ = some v2 ∧ W.cell? ⟨p.block, p.off + 4, none⟩ = some v3
theorem DcS.step {W0 : World} {B : Nat} {P C : Value} {p : Addr} {v0 v1 v2 v3 : Value} {W W' : World} (h : DcS W0 B P C p v0 v1 v2 v3 W) (hB : B < W0.heap.size) (hp : p.block < W0.heap.size) (hb : Below W0.heap.size W W') : DcS W0 B P C p v0 v1 v2 v3 W' := by
  obtain ⟨h0, h1, h2, h3, h4, h5, h6⟩ := h
  exact ⟨h0.trans hb, cell_keep hb hB h1, cell_keep hb hB h2, cell_keep hb hp h3, cell_keep hb hp h4, cell_keep hb hp h5, cell_keep hb hp h6⟩
end Go.Proofs.Ytacefdkfbpgedaa.Mine
namespace Go.Proofs.Ytacefdkfbpgedaa.Mine
open Go.Proofs.Ytacefdkfbpgedaa.PProgExprs
open Go.RowKit Go.Shelf Go.Proofs.YtacefdkfbpgedaaW.PrintWords Go.Proofs.YtacefdkfbpgedaaW.PrintLast Go.Proofs.YtacefdkfbpgedaaW.PrintMore
set_option linter.unusedVariables false
set_option linter.unusedSimpArgs false
theorem numD_first {defs : List De} {i : Nat} {d : De} (h : defs[i]? = some d) : ∃ k : Nat, numD defs d.f0 = (k : Int) ∧ k ≤ i ∧ ∃ x, defs[k]? = some x ∧ x.f0 = d.f0 := by
  have hi := (List.getElem?_eq_some_iff.1 h).1
  have he := (List.getElem?_eq_some_iff.1 h).2
  have ha : defs.any (fun x => decide (x.f0 = d.f0)) = true := List.any_eq_true.2 ⟨d, List.mem_of_getElem? h, by simp⟩
  have hlt := List.findIdx_lt_length_of_exists (p := fun x : De => decide (x.f0 = d.f0)) (xs := defs) ⟨d, List.mem_of_getElem? h, by simp⟩
  refine ⟨defs.findIdx (fun x => decide (x.f0 = d.f0)), by rw [numD, idxB, if_pos ha], ?_, defs[defs.findIdx (fun x => decide (x.f0 = d.f0))], List.getElem?_eq_getElem hlt, by have := List.findIdx_getElem (w := hlt); simpa using this⟩
  rcases Nat.lt_or_ge i (defs.findIdx (fun x => decide (x.f0 = d.f0))) with h2 | h2
  · have := List.not_of_lt_findIdx h2
    simp [he] at this
  · exact h2
abbrev FdS (W0 : World) (B : Nat) (P : Value) (p : Addr) (v : Value) (W : World) : Prop := Below W0.heap.size W0 W ∧ W.cell? ⟨B, 0, none⟩ = some P ∧ W.cell? p = some v
theorem FdS.step {W0 : World} {B : Nat} {P : Value} {p : Addr} {v : Value} {W W' : World} (h : FdS W0 B P p v W) (hb : Below W.heap.size W W') : FdS W0 B P p v W' := by
  obtain ⟨h0, h1, h2⟩ := h
  exact ⟨h0.trans (hb.mono h0.size), pw_cell_below hb h1, pw_cell_below hb h2⟩
end Go.Proofs.Ytacefdkfbpgedaa.Mine
namespace Go.Proofs.Ytacefdkfbpgedaa.Mine
open Go.Proofs.Ytacefdkfbpgedaa.PProgExprs
open Go.RowKit Go.Shelf Go.Proofs.YtacefdkfbpgedaaW.PrintWords Go.Proofs.YtacefdkfbpgedaaW.PrintLast Go.Proofs.YtacefdkfbpgedaaW.PrintMore
set_option linter.unusedVariables false
set_option linter.unusedSimpArgs false
abbrev RcS (W0 : World) (B : Nat) (P : Value) (p : Addr) (g0 g1 g2 g3 g4 g5 : Value) (W : World) : Prop := Below W0.heap.size W0 W ∧ W.cell? ⟨B, 0, none⟩ = some P ∧ W.cell? p = some g0 ∧ W.cell? ⟨p.block, p.off + 1, none⟩ = some g1 ∧ W.cell? ⟨p.block, p.off + 2, none⟩ = some g2 ∧ W.cell? ⟨p.block, p.off + 3, none⟩ = some g3 ∧ W.cell? ⟨p.block, p.off + 4, none⟩ = some g4 ∧ W.cell? ⟨p.block, p.off + 5, none⟩ = some g5
theorem RcS.step {W0 : World} {B : Nat} {P : Value} {p : Addr} {g0 g1 g2 g3 g4 g5 : Value} {W W' : World} (h : RcS W0 B P p g0 g1 g2 g3 g4 g5 W) (hb : Below W.heap.size W W') : RcS W0 B P p g0 g1 g2 g3 g4 g5 W' := by
  obtain ⟨h0, h1, h2, h3, h4, h5, h6, h7⟩ := h
  exact ⟨h0.trans (hb.mono h0.size), pw_cell_below hb h1, pw_cell_below hb h2, pw_cell_below hb h3, pw_cell_below hb h4, pw_cell_below hb h5, pw_cell_below hb h6, pw_cell_below hb h7⟩
theorem numD_at {defs : List De} {s : ByteArray} (h : 0 ≤ numD defs s) : ∃ i : Nat, numD defs s = (i : Int) ∧ ∃ hi : i < defs.length, (defs[i]'hi).f0 = s := by
  unfold numD idxB at h ⊢
  split at h
  · next ha =>
    obtain ⟨d, hd, e⟩ := List.any_eq_true.1 ha
    have hlt := List.findIdx_lt_length_of_exists (p := fun x : De => decide (x.f0 = s)) (xs := defs) ⟨d, hd, e⟩
    refine ⟨defs.findIdx (fun x => decide (x.f0 = s)), by rw [if_pos ha], hlt, ?_⟩
    have := List.findIdx_getElem (w := hlt)
    simpa using this
  · omega
abbrev RrS (W0 : World) (B : Nat) (P : Value) (p : Addr) (s : ByteArray) (W : World) : Prop := Below W0.heap.size W0 W ∧ W.cell? ⟨B, 0, none⟩ = some P ∧ W.cell? p = some (.string s)
theorem RrS.step {W0 : World} {B : Nat} {P : Value} {p : Addr} {s : ByteArray} {W W' : World} (h : RrS W0 B P p s W) (hb : Below W.heap.size W W') : RrS W0 B P p s W' := by
  obtain ⟨h0, h1, h2⟩ := h
  exact ⟨h0.trans (hb.mono h0.size), pw_cell_below hb h1, pw_cell_below hb h2⟩
end Go.Proofs.Ytacefdkfbpgedaa.Mine
namespace Go.Proofs.Ytacefdkfbpgedaa.Mine
open Go.Proofs.Ytacefdkfbpgedaa.PProgExprs
open Go.RowKit Go.Shelf Go.Proofs.YtacefdkfbpgedaaW.PrintWords Go.Proofs.YtacefdkfbpgedaaW.PrintLast Go.Proofs.YtacefdkfbpgedaaW.PrintMore
set_option linter.unusedVariables false
set_option linter.unusedSimpArgs false
theorem infoDe : (Try.prog.info? 58).map (fun i => (i.zero, i.size, i.bytes)) = some (some (.agg #[.string ⟨#[]⟩, .slice none 0 0, .slice none 0 0, .int .i64 0, .string ⟨#[]⟩, .slice none 0 0]), 6, 112) := by kernel_rfl
def inR (l : List ByteArray) (d : De) : Bool := l.any fun x => decide (x = d.f0)
def onlyP (defs : List De) (s : ByteArray) : List De := defs.filter (inR (reachP defs s))
theorem filter_take_snoc {α : Type} {p : α → Bool} {l : List α} {k : Nat} {x : α} (h : l[k]? = some x) : (l.take (k + 1)).filter p = (l.take k).filter p ++ (if p x then [x] else []) := by
  obtain ⟨hk, rfl⟩ := List.getElem?_eq_some_iff.1 h
  rw [take_snoc hk, List.filter_append]
  congr 1
  by_cases hp : p l[k] = true
  · simp [hp]
  · simp [hp]
end Go.Proofs.Ytacefdkfbpgedaa.Mine
namespace Go.Proofs.Ytacefdkfbpgedaa.Mine
open Go.Proofs.Ytacefdkfbpgedaa.PProgExprs
open Go.RowKit Go.Shelf Go.Proofs.YtacefdkfbpgedaaW.PrintWords Go.Proofs.YtacefdkfbpgedaaW.PrintLast Go.Proofs.YtacefdkfbpgedaaW.PrintMore
set_option linter.unusedVariables false
set_option linter.unusedSimpArgs false
noncomputable def sameC (c d : Ca) : Bool := decide (c.f0 = d.f0) && (decide (c.f1 = d.f1) && sameE c.f2 d.f2)
noncomputable def sameD (x y : De) : Bool := decide (x.f0 = y.f0) && (decide (x.f1 = y.f1) && (sameE x.f3 y.f3 && eqL sameC x.f2 y.f2))
abbrev SmS (W0 : World) (b6 b7 : Nat) (C6 C7 : Value) (p : Addr) (u0 u1 u2 u3 u4 : Value) (q : Addr) (v0 v1 v2 v3 v4 : Value) (W : World) : Prop := Below W0.heap.size W0 W ∧ W.cell? ⟨b6, 2, none⟩ = some C6 ∧ W.cell? ⟨b7, 2, none⟩ = some C7 ∧
  W.cell? p = some u0 ∧ W.cell? ⟨p.block, p.off + 1, none⟩ = some u1 ∧ W.cell? ⟨p.block, p.off + 2, none⟩ = some u2 ∧ W.cell? ⟨p.block, p.off + 3, none⟩ = some u3 ∧ W.cell? ⟨p.block, p.off + 4, none⟩ = some u4 ∧
  W.cell? q = some v0 ∧ W.cell? ⟨q.block, q.off + 1, none⟩ = some v1 ∧ W.cell? ⟨q.block, q.off + 2, none⟩ = some v2 ∧ W.cell? ⟨q.block, q.off + 3, none⟩ = some v3 ∧ W.cell? ⟨q.block, q.off + 4, none⟩ = some v4
theorem SmS.step {W0 : World} {b6 b7 : Nat} {C6 C7 : Value} {p : Addr} {u0 u1 u2 u3 u4 : Value} {q : Addr} {v0 v1 v2 v3 v4 : Value} {W W' : World} (h : SmS W0 b6 b7 C6 C7 p u0 u1 u2 u3 u4 q v0 v1 v2 v3 v4 W) (hb : Below W.heap.size W W') : SmS W0 b6 b7 C6 C7 p u0 u1 u2 u3 u4 q v0 v1 v2 v3 v4 W' := by
  obtain ⟨h0, h1, h2, h3, h4, h5, h6, h7, h8, h9, h10, h11, h12⟩ := h
  exact ⟨h0.trans (hb.mono h0.size), pw_cell_below hb h1, pw_cell_below hb h2, pw_cell_below hb h3, pw_cell_below hb h4, pw_cell_below hb h5, pw_cell_below hb h6, pw_cell_below hb h7, pw_cell_below hb h8, pw_cell_below hb h9, pw_cell_below hb h10, pw_cell_below hb h11, pw_cell_below hb h12⟩
end Go.Proofs.Ytacefdkfbpgedaa.Mine
namespace Go.Proofs.Ytacefdkfbpgedaa.Mine
open Go.Proofs.Ytacefdkfbpgedaa.PProgExprs
open Go.RowKit Go.Shelf Go.Proofs.YtacefdkfbpgedaaW.PrintWords Go.Proofs.YtacefdkfbpgedaaW.PrintLast Go.Proofs.YtacefdkfbpgedaaW.PrintMore
set_option linter.unusedVariables false
set_option linter.unusedSimpArgs false
attribute [local go_sem] max2_int min2_int max_two min_two
end Go.Proofs.Ytacefdkfbpgedaa.Mine
namespace Go.Proofs.Ytacefdkfbpgedaa.Mine
open Go.Proofs.Ytacefdkfbpgedaa.PProgExprs
open Go.RowKit Go.Shelf Go.Proofs.YtacefdkfbpgedaaW.PrintWords Go.Proofs.YtacefdkfbpgedaaW.PrintLast Go.Proofs.YtacefdkfbpgedaaW.PrintMore
set_option linter.unusedVariables false
set_option linter.unusedSimpArgs false
def NewB (w : World) (v v1 : Value) : Prop := ∀ b, v1.ownBlock = some b → v.ownBlock = some b ∨ w.heap.size ≤ b
theorem NewB.refl (w : World) (v : Value) : NewB w v v := fun b h => .inl h
theorem NewB.of {w w3 : World} {v v1 : Value} (h : v1.ownBlock = v.ownBlock ∨ ∃ b, v1.ownBlock = some b ∧ w3.heap.size ≤ b) (hs : w.heap.size ≤ w3.heap.size) : NewB w v v1 := fun b hb => by
  rcases h with h | ⟨c, h, hc⟩
  · rw [h] at hb; exact .inl hb
  · rw [h] at hb; cases hb; exact .inr (by omega)
end Go.Proofs.Ytacefdkfbpgedaa.Mine
namespace Go.Proofs.Ytacefdkfbpgedaa.Mine
open Go.Proofs.Ytacefdkfbpgedaa.PProgExprs
open Go.RowKit Go.Shelf Go.Proofs.YtacefdkfbpgedaaW.PrintWords Go.Proofs.YtacefdkfbpgedaaW.PrintLast Go.Proofs.YtacefdkfbpgedaaW.PrintMore
set_option linter.unusedVariables false
set_option linter.unusedSimpArgs false
end Go.Proofs.Ytacefdkfbpgedaa.Mine
namespace Go.Proofs.Ytacefdkfbpgedaa.Mine
open Go.Proofs.Ytacefdkfbpgedaa.PProgExprs
open Go.RowKit Go.Shelf Go.Proofs.YtacefdkfbpgedaaW.PrintWords Go.Proofs.YtacefdkfbpgedaaW.PrintLast Go.Proofs.YtacefdkfbpgedaaW.PrintMore
set_option linter.unusedVariables false
set_option linter.unusedSimpArgs false
def Dj (ok : Nat → Prop) (v : Value) : Prop := ∀ k, ok k → some k ≠ v.ownBlock
theorem Dj.new {ok : Nat → Prop} {W : World} {v v1 : Value} (h : Dj ok v) (hn : NewB W v v1) (hlt : ∀ k, ok k → k < W.heap.size) : Dj ok v1 := fun k hk he => by
  rcases hn k he.symm with h1 | h1
  · exact h k hk h1.symm
  · have := hlt k hk; omega
def StayB (W W' : World) (vn vm : Value) : Prop := ∀ k, k < W.heap.size → some k ≠ vn.ownBlock → some k ≠ vm.ownBlock → W'.heap[k]? = W.heap[k]?
theorem StayB.F {α : Type} {d : Kd α} {W W' : World} {vn vm : Value} (h : StayB W W' vn vm) {ok : Nat → Prop} {A : Option Addr} {n : Nat} {xs : List α} (hF : Kd.F d W ok A n xs) (h1 : Dj ok vn) (h2 : Dj ok vm) : Kd.F d W' ok A n xs := Kd.F_step hF (fun k hk hlt => h k hlt (h1 k hk) (h2 k hk))
theorem StayB.blk {W W' : World} {vn vm : Value} (h : StayB W W' vn vm) {g : Nat} {o : Obj} (hb : W.heap[g]? = some o) (hne : some g ≠ vn.ownBlock ∧ some g ≠ vm.ownBlock) : W'.heap[g]? = some o := (h g (blk_lt hb) hne.1 hne.2).trans hb
end Go.Proofs.Ytacefdkfbpgedaa.Mine
namespace Go.Proofs.Ytacefdkfbpgedaa.Mine
open Go.Proofs.Ytacefdkfbpgedaa.PProgExprs
open Go.RowKit Go.Shelf Go.Proofs.YtacefdkfbpgedaaW.PrintWords Go.Proofs.YtacefdkfbpgedaaW.PrintLast Go.Proofs.YtacefdkfbpgedaaW.PrintMore
set_option linter.unusedVariables false
set_option linter.unusedSimpArgs false
def KH (B : Nat) (W W' : World) : Prop := W.heap.size ≤ W'.heap.size ∧ ∀ k o, k ≠ B → W.heap[k]? = some o → (∀ cs, o ≠ .cells cs 132 (0, 0)) → W'.heap[k]? = some o
theorem KH.refl (B : Nat) (W : World) : KH B W W := ⟨Nat.le_refl _, fun _ _ _ h _ => h⟩
theorem KH.trans {B : Nat} {a b c : World} (h : KH B a b) (k : KH B b c) : KH B a c := ⟨Nat.le_trans h.1 k.1, fun i o hi ho hn => k.2 i o hi (h.2 i o hi ho hn) hn⟩
theorem KH.of_below {B : Nat} {W W' : World} (h : Below W.heap.size W W') : KH B W W' := ⟨h.size, fun k o _ hk _ => (h.block k (blk_lt hk)).trans hk⟩
theorem KH.grownN {B : Nat} {W X Y : World} {row : Option Nat} (h : KH B W X) (hg : X.grownBy Y row) (hr : ∀ r, row = some r → W.heap.size ≤ r) : KH B W Y := ⟨Nat.le_trans h.1 hg.size, fun k o hi ho hn => by
  have h1 := h.2 k o hi ho hn
  exact (hg.block k (blk_lt h1) (fun e => by have := hr k e.symm; have := blk_lt ho; omega)).trans h1⟩
theorem KH.set {B : Nat} {W X : World} (h : KH B W X) (j : Nat) (u : Value) : KH B W (X.setCell ⟨B, j, none⟩ u) := ⟨by have := h.1; simpa [World.setCell] using this, fun k o hi ho hn => (Below.heap_setCell _ _ _ _ hi).trans (h.2 k o hi ho hn)⟩
theorem KH.blk {B : Nat} {W W' : World} (h : KH B W W') {g t : Nat} {cs : Array Value} (hb : W.heap[g]? = some (.cells cs t (0, 0))) (ht : t ≠ 132) (hg : g ≠ B) : W'.heap[g]? = some (.cells cs t (0, 0)) := h.2 g _ hg hb (fun cs' e => by cases e; exact ht rfl)
end Go.Proofs.Ytacefdkfbpgedaa.Mine
namespace Go.Proofs.Ytacefdkfbpgedaa.Mine
open Go.Proofs.Ytacefdkfbpgedaa.PProgExprs
open Go.RowKit Go.Shelf Go.Proofs.YtacefdkfbpgedaaW.PrintWords Go.Proofs.YtacefdkfbpgedaaW.PrintLast Go.Proofs.YtacefdkfbpgedaaW.PrintMore
set_option linter.unusedVariables false
set_option linter.unusedSimpArgs false
theorem infoCa : (Try.prog.info? 99).map (fun i => (i.zero, i.size, i.bytes)) = some (some (.agg #[.string ⟨#[]⟩, .slice none 0 0, .int .i64 0, .string ⟨#[]⟩, .slice none 0 0]), 5, 88) := by kernel_rfl
abbrev OwnC (W : World) (base : Nat) (v : Value) (l : List Ca) : Prop := Kd.R k99 99 W base (fun _ => True) v l
abbrev OwnD (W : World) (base : Nat) (v : Value) (l : List De) : Prop := Kd.R k58 58 W base (fun _ => True) v l
abbrev OdS (W0 : World) (B : Nat) (g0 g1 g3 g4 g5 : Value) (W : World) : Prop := Below W0.heap.size W0 W ∧ W.cell? ⟨B, 0, none⟩ = some g0 ∧ W.cell? ⟨B, 1, none⟩ = some g1 ∧ W.cell? ⟨B, 3, none⟩ = some g3 ∧ W.cell? ⟨B, 4, none⟩ = some g4 ∧ W.cell? ⟨B, 5, none⟩ = some g5
theorem OdS.step {W0 : World} {B : Nat} {g0 g1 g3 g4 g5 : Value} {W W' : World} (h : OdS W0 B g0 g1 g3 g4 g5 W) (hB : B < W0.heap.size) (hb : Below W0.heap.size W W') : OdS W0 B g0 g1 g3 g4 g5 W' := by
  obtain ⟨h0, h1, h2, h3, h4, h5⟩ := h
  exact ⟨h0.trans hb, cell_keep hb hB h1, cell_keep hb hB h2, cell_keep hb hB h3, cell_keep hb hB h4, cell_keep hb hB h5⟩
theorem OdS.alloc {W0 : World} {B : Nat} {g0 g1 g3 g4 g5 : Value} {W : World} {o : Obj} (h : OdS W0 B g0 g1 g3 g4 g5 W) (hB : B < W0.heap.size) : OdS W0 B g0 g1 g3 g4 g5 (W.alloc o) := h.step hB ((below_alloc1 _ _).mono h.1.size)
theorem OdS.put {W0 : World} {B : Nat} {g0 g1 g3 g4 g5 : Value} {W : World} {p : Addr} {u : Value} (h : OdS W0 B g0 g1 g3 g4 g5 W) (hB : B < W0.heap.size) (hp : W0.heap.size ≤ p.block) : OdS W0 B g0 g1 g3 g4 g5 (W.setCell p u) := h.step hB ((Below.refl _ _).setCell hp _)
theorem OdS.b {W0 : World} {B : Nat} {g0 g1 g3 g4 g5 : Value} {W : World} (h : OdS W0 B g0 g1 g3 g4 g5 W) : Below W0.heap.size W0 W := h.1
abbrev OcS (n : Nat) (W0 : World) (B : Nat) (u0 u1 u2 u3 u4 : Value) (W : World) : Prop := Below n W0 W ∧ W0.heap.size ≤ W.heap.size ∧ W.cell? ⟨B, 0, none⟩ = some u0 ∧ W.cell? ⟨B, 1, none⟩ = some u1 ∧ W.cell? ⟨B, 2, none⟩ = some u2 ∧ W.cell? ⟨B, 3, none⟩ = some u3 ∧ W.cell? ⟨B, 4, none⟩ = some u4
section
variable {n : Nat} {W0 : World} {B : Nat} {u0 u1 u2 u3 u4 : Value} {W W' : World}
theorem OcS.step (h : OcS n W0 B u0 u1 u2 u3 u4 W) (hn : n ≤ W0.heap.size) (hb : Below W.heap.size W W') : OcS n W0 B u0 u1 u2 u3 u4 W' := by
  obtain ⟨h0, h1, h2, h3, h4, h5, h6⟩ := h
  exact ⟨h0.trans (hb.mono (by omega)), Nat.le_trans h1 hb.size, pw_cell_below hb h2, pw_cell_below hb h3, pw_cell_below hb h4, pw_cell_below hb h5, pw_cell_below hb h6⟩
theorem OcS.alloc {o : Obj} (h : OcS n W0 B u0 u1 u2 u3 u4 W) (hn : n ≤ W0.heap.size) : OcS n W0 B u0 u1 u2 u3 u4 (W.alloc o) := h.step hn (below_alloc1 _ _)
theorem OcS.put {b j : Nat} {u : Value} (h : OcS n W0 B u0 u1 u2 u3 u4 W) (hn : n ≤ b) (hne : b ≠ B) : OcS n W0 B u0 u1 u2 u3 u4 (W.setCell ⟨b, j, none⟩ u) := by
  obtain ⟨h0, h1, h2, h3, h4, h5, h6⟩ := h
  have key : ∀ i v, W.cell? ⟨B, i, none⟩ = some v → (W.setCell ⟨b, j, none⟩ u).cell? ⟨B, i, none⟩ = some v := fun i v hv => (World.cell?_of_block (Below.heap_setCell _ _ _ _ (by simp only; omega))).trans hv
  exact ⟨h0.setCell (by simp only; omega) _, by simpa [World.setCell] using h1, key _ _ h2, key _ _ h3, key _ _ h4, key _ _ h5, key _ _ h6⟩
theorem OcS.of {t : Nat} (hb : Below n W0 W) (hs : W0.heap.size ≤ W.heap.size) (h : W.heap[B]? = some (.cells #[u0, u1, u2, u3, u4] t (0, 0))) : OcS n W0 B u0 u1 u2 u3 u4 W := ⟨hb, hs, (blk_cell h 0).trans rfl, (blk_cell h 1).trans rfl, (blk_cell h 2).trans rfl, (blk_cell h 3).trans rfl, (blk_cell h 4).trans rfl⟩
end
end Go.Proofs.Ytacefdkfbpgedaa.Mine
namespace Go.Proofs.Ytacefdkfbpgedaa.Mine
open Go.Proofs.Ytacefdkfbpgedaa.PProgExprs
open Go.RowKit Go.Shelf Go.Proofs.YtacefdkfbpgedaaW.PrintWords Go.Proofs.YtacefdkfbpgedaaW.PrintLast Go.Proofs.YtacefdkfbpgedaaW.PrintMore
set_option linter.unusedVariables false
set_option linter.unusedSimpArgs false
def PartC (w0 W : World) (base : Nat) (xs : List Ca) (kk : Nat) (cur : Array Value) : Prop :=
  cur.size = xs.length * 5 ∧ ∀ j (h : j < xs.length), ∃ v1 v4, cur[j * 5]? = some (.string xs[j].f0) ∧ cur[j * 5 + 1]? = some v1 ∧ cur[j * 5 + 2]? = some (.int .i64 xs[j].f2.f0) ∧ cur[j * 5 + 3]? = some (.string xs[j].f2.f1) ∧ cur[j * 5 + 4]? = some v4 ∧
    if j < kk then OwnT W base v1 xs[j].f1 ∧ OwnE W base v4 xs[j].f2.f2 else ∃ A1 c1 A4 c4, v1 = .slice A1 xs[j].f1.length c1 ∧ v4 = .slice A4 xs[j].f2.f2.length c4 ∧ xs[j].f1.length ≤ c1 ∧ Kd.C Kd.string w0 A1 xs[j].f1.length xs[j].f1 ∧ xs[j].f2.f2.length ≤ c4 ∧ Kd.C k24 w0 A4 xs[j].f2.f2.length xs[j].f2.f2
theorem PartC.below {w0 W W' : World} {base : Nat} {xs : List Ca} {kk : Nat} {cur : Array Value} (h : PartC w0 W base xs kk cur) (hb : Below W.heap.size W W') : PartC w0 W' base xs kk cur := by
  refine ⟨h.1, fun j hj => ?_⟩
  obtain ⟨v1, v4, h0, h1, h2, h3, h4, h5⟩ := h.2 j hj
  refine ⟨v1, v4, h0, h1, h2, h3, h4, ?_⟩
  split
  · next hl => rw [if_pos hl] at h5; exact ⟨Kd.R_below h5.1 hb, Kd.R_below h5.2 hb⟩
  · next hl => rw [if_neg hl] at h5; exact h5
theorem PartC.get {w0 W : World} {base : Nat} {xs : List Ca} {kk : Nat} {cur : Array Value} (h : PartC w0 W base xs kk cur) (hb : Below w0.heap.size w0 W) (j : Nat) (hj : j < xs.length) : ∃ A1 c1 A4 c4, cur[j * 5]? = some (.string xs[j].f0) ∧ cur[j * 5 + 1]? = some (.slice A1 xs[j].f1.length c1) ∧ cur[j * 5 + 2]? = some (.int .i64 xs[j].f2.f0) ∧ cur[j * 5 + 3]? = some (.string xs[j].f2.f1) ∧ cur[j * 5 + 4]? = some (.slice A4 xs[j].f2.f2.length c4) ∧ xs[j].f1.length ≤ c1 ∧ Kd.C Kd.string W A1 xs[j].f1.length xs[j].f1 ∧ xs[j].f2.f2.length ≤ c4 ∧ Kd.C k24 W A4 xs[j].f2.f2.length xs[j].f2.f2 := by
  obtain ⟨v1, v4, h0, h1, h2, h3, h4, h5⟩ := h.2 j hj
  split at h5
  · obtain ⟨A, c, rfl, hc, hr⟩ := Kd.R_reads h5.1
    obtain ⟨A4, c4, rfl, hc4, hr4⟩ := Kd.R_reads h5.2
    exact ⟨A, c, A4, c4, h0, h1, h2, h3, h4, hc, hr, hc4, hr4⟩
  · obtain ⟨A, c, A4, c4, rfl, rfl, hc, hr, hc4, hr4⟩ := h5
    exact ⟨A, c, A4, c4, h0, h1, h2, h3, h4, hc, Kd.C_below hr hb, hc4, Kd.C_below hr4 hb⟩
theorem cells_of_CC {W : World} {A : Option Addr} {xs : List Ca} (h : Kd.C k99 W A xs.length xs) (base : Nat) : ∃ cs : List Value, cs.length = xs.length * 5 ∧ (0 < cs.length → ∃ ad, A = some ad ∧ ∀ j v, cs[j]? = some v → W.cell? (ad.add j) = some v) ∧ (∀ v ∈ cs, v.oneCell' = true) ∧ PartC W W base xs 0 cs.toArray := by
  by_cases h0 : xs = []
  · subst h0
    exact ⟨[], rfl, fun h => by simp at h, fun v h => by simp at h, rfl, fun j h => by simp at h⟩
  have hpos : 0 < xs.length := List.length_pos_iff.2 h0
  obtain ⟨ad, c, rfl, _⟩ := cget h 0 hpos
  have key : ∀ i (hi : i < xs.length), ∃ A1 a1 A4 a4, W.cell? (ad.add (i * 5)) = some (.string xs[i].f0) ∧ W.cell? (ad.add (i * 5 + 1)) = some (.slice A1 xs[i].f1.length a1) ∧ W.cell? (ad.add (i * 5 + 2)) = some (.int .i64 xs[i].f2.f0) ∧ W.cell? (ad.add (i * 5 + 3)) = some (.string xs[i].f2.f1) ∧ W.cell? (ad.add (i * 5 + 4)) = some (.slice A4 xs[i].f2.f2.length a4) ∧ xs[i].f1.length ≤ a1 ∧ Kd.C Kd.string W A1 xs[i].f1.length xs[i].f1 ∧ xs[i].f2.f2.length ≤ a4 ∧ Kd.C k24 W A4 xs[i].f2.f2.length xs[i].f2.f2 := by
    intro i hi
    obtain ⟨ad', cs, he, hl, hK, hc⟩ := cget h i hi
    cases he
    obtain ⟨A1, a1, A4, a4, rfl, hl1, hr1, hl4, hr4⟩ := k99_open hK
    exact ⟨A1, a1, A4, a4, hc 0 _ rfl, hc 1 _ rfl, hc 2 _ rfl, hc 3 _ rfl, hc 4 _ rfl, hl1, hr1, hl4, hr4⟩
  have at_ : ∀ j, j < xs.length * 5 → ∃ u, W.cell? (ad.add j) = some u ∧ u.oneCell' = true := by
    intro j hj
    have h3 : j / 5 < xs.length := by omega
    obtain ⟨A1, a1, A4, a4, k0, k1, k2, k3, k4, _⟩ := key (j / 5) h3
    have hm : j = j / 5 * 5 ∨ j = j / 5 * 5 + 1 ∨ j = j / 5 * 5 + 2 ∨ j = j / 5 * 5 + 3 ∨ j = j / 5 * 5 + 4 := by omega
    rcases hm with hm | hm | hm | hm | hm
    · rw [← hm] at k0; exact ⟨_, k0, rfl⟩
    · rw [← hm] at k1; exact ⟨_, k1, rfl⟩
    · rw [← hm] at k2; exact ⟨_, k2, rfl⟩
    · rw [← hm] at k3; exact ⟨_, k3, rfl⟩
    · rw [← hm] at k4; exact ⟨_, k4, rfl⟩
  have get : ∀ j, j < xs.length * 5 → ((List.range (xs.length * 5)).map (fun j => (W.cell? (ad.add j)).getD undef))[j]? = W.cell? (ad.add j) := by
    intro j hj
    obtain ⟨u, hu, _⟩ := at_ j hj
    rw [List.getElem?_map, List.getElem?_range hj]
    simp [hu]
  refine ⟨(List.range (xs.length * 5)).map (fun j => (W.cell? (ad.add j)).getD undef), by simp, fun _ => ⟨ad, rfl, fun j v hv => ?_⟩, fun v hv => ?_, by simp, fun j hj => ?_⟩
  · have hj : j < xs.length * 5 := by have := (List.getElem?_eq_some_iff.1 hv).1; simpa using this
    rw [get j hj] at hv; exact hv
  · obtain ⟨j, hj, rfl⟩ := List.mem_map.1 hv
    obtain ⟨u, hu, h1⟩ := at_ j (List.mem_range.1 hj)
    rw [hu]; exact h1
  · obtain ⟨A1, a1, A4, a4, k0, k1, k2, k3, k4, hl1, hr1, hl4, hr4⟩ := key j hj
    simp only [List.getElem?_toArray]
    exact ⟨_, _, (get _ (by omega)).trans k0, (get _ (by omega)).trans k1, (get _ (by omega)).trans k2, (get _ (by omega)).trans k3, (get _ (by omega)).trans k4, by rw [if_neg (Nat.not_lt_zero _)]; exact ⟨A1, a1, A4, a4, rfl, rfl, hl1, hr1, hl4, hr4⟩⟩
def putC (cur : Array Value) (i : Nat) (u0 u1 u2 u3 u4 : Value) : Array Value := ((((cur.setIfInBounds i u0).setIfInBounds (i + 1) u1).setIfInBounds (i + 2) u2).setIfInBounds (i + 3) u3).setIfInBounds (i + 4) u4
theorem putC_get {cur : Array Value} {i : Nat} {u0 u1 u2 u3 u4 : Value} (h : i + 4 < cur.size) : (putC cur i u0 u1 u2 u3 u4)[i]? = some u0 ∧ (putC cur i u0 u1 u2 u3 u4)[i + 1]? = some u1 ∧ (putC cur i u0 u1 u2 u3 u4)[i + 2]? = some u2 ∧ (putC cur i u0 u1 u2 u3 u4)[i + 3]? = some u3 ∧ (putC cur i u0 u1 u2 u3 u4)[i + 4]? = some u4 := by
  have h0 : i < cur.size := by omega
  have h1 : i + 1 < cur.size := by omega
  have h2 : i + 2 < cur.size := by omega
  have h3 : i + 3 < cur.size := by omega
  refine ⟨?_, ?_, ?_, ?_, ?_⟩ <;> simp [putC, Array.getElem?_setIfInBounds, h, h0, h1, h2, h3]
theorem putC_other {cur : Array Value} {i j : Nat} {u0 u1 u2 u3 u4 : Value} (h : j < i ∨ i + 4 < j) : (putC cur i u0 u1 u2 u3 u4)[j]? = cur[j]? := by
  unfold putC
  rw [Array.getElem?_setIfInBounds, if_neg (by omega), Array.getElem?_setIfInBounds, if_neg (by omega), Array.getElem?_setIfInBounds, if_neg (by omega), Array.getElem?_setIfInBounds, if_neg (by omega), Array.getElem?_setIfInBounds, if_neg (by omega)]
theorem PartC.step {w0 W : World} {base : Nat} {xs : List Ca} {kk : Nat} {cur : Array Value} (h : PartC w0 W base xs kk cur) (hk : kk < xs.length) {v1 v4 : Value} (hv1 : OwnT W base v1 xs[kk].f1) (hv4 : OwnE W base v4 xs[kk].f2.f2) : PartC w0 W base xs (kk + 1) (putC cur (kk * 5) (.string xs[kk].f0) v1 (.int .i64 xs[kk].f2.f0) (.string xs[kk].f2.f1) v4) := by
  have hsz := h.1
  refine ⟨by simp [putC, h.1], fun j hj => ?_⟩
  by_cases hjk : j = kk
  · subst hjk
    obtain ⟨g0, g1, g2, g3, g4⟩ := putC_get (cur := cur) (i := j * 5) (u0 := .string xs[j].f0) (u1 := v1) (u2 := .int .i64 xs[j].f2.f0) (u3 := .string xs[j].f2.f1) (u4 := v4) (by omega)
    exact ⟨v1, v4, g0, g1, g2, g3, g4, by rw [if_pos (by omega)]; exact ⟨hv1, hv4⟩⟩
  · obtain ⟨u1, u4, h0, h1, h2, h3, h4, h5⟩ := h.2 j hj
    refine ⟨u1, u4, (putC_other (by omega)).trans h0, (putC_other (by omega)).trans h1, (putC_other (by omega)).trans h2, (putC_other (by omega)).trans h3, (putC_other (by omega)).trans h4, ?_⟩
    by_cases hl : j < kk
    · rw [if_pos hl] at h5; rw [if_pos (by omega)]; exact h5
    · rw [if_neg hl] at h5; rw [if_neg (by omega)]; exact h5
theorem PartC.done {w0 W : World} {base g : Nat} {xs : List Ca} {cur : Array Value} (h : PartC w0 W (g + 1) xs xs.length cur) (hg : W.heap[g]? = some (.cells cur 99 (0, 0))) (hb : base ≤ g) (hm : xs.length ≤ 1000000) : OwnC W base (.slice (some ⟨g, 0, none⟩) xs.length xs.length) xs := by
  have hsz : cur.size = xs.length * k99.sz := h.1
  refine ⟨fun _ _ => trivial, cur.toList, ⟨by simpa using hsz, .inr ⟨g, xs.length, cur, rfl, hb, hg, Nat.le_refl _, by simp [maxLen]; omega, hsz, ?_⟩⟩, ⟨by simpa using hsz, fun j p hj => ?_⟩⟩
  · rw [← hsz]; exact List.take_of_length_le (by simp)
  · obtain ⟨hjl, rfl⟩ := List.getElem?_eq_some_iff.1 hj
    obtain ⟨v1, v4, h0, h1, h2, h3, h4, h5⟩ := h.2 j hjl
    rw [if_pos hjl] at h5
    have hM := k99_mkM W base (fun k => True ∧ some k ≠ (Value.slice (some ⟨g, 0, none⟩) xs.length xs.length).ownBlock) xs[j] (Kd.R_lower (Kd.R_mono (Kd.R_bound h5.1) (fun k hk => ⟨trivial, fun he => by have h5 := hk.2.1; simp only [Value.ownBlock, Option.some.injEq] at he; omega⟩)) (by omega)) (Kd.R_lower (Kd.R_mono (Kd.R_bound h5.2) (fun k hk => ⟨trivial, fun he => by have h5 := hk.2.1; simp only [Value.ownBlock, Option.some.injEq] at he; omega⟩)) (by omega))
    have : (cur.toList.drop (j * 5)).take 5 = [.string xs[j].f0, v1, .int .i64 xs[j].f2.f0, .string xs[j].f2.f1, v4] := by
      apply List.ext_getElem?
      intro i
      match i with
      | 0 => simpa [List.getElem?_take, List.getElem?_drop] using h0
      | 1 => simpa [List.getElem?_take, List.getElem?_drop] using h1
      | 2 => simpa [List.getElem?_take, List.getElem?_drop] using h2
      | 3 => simpa [List.getElem?_take, List.getElem?_drop] using h3
      | 4 => simpa [List.getElem?_take, List.getElem?_drop] using h4
      | i + 5 => simp [List.getElem?_take]; omega
    rw [show k99.sz = 5 from rfl, this]
    exact hM
theorem PartC.set {w0 W : World} {base g j : Nat} {u : Value} {xs : List Ca} {kk : Nat} {cur : Array Value} (h : PartC w0 W base xs kk cur) (hg : g < base) : PartC w0 (W.setCell ⟨g, j, none⟩ u) base xs kk cur := by
  refine ⟨h.1, fun i hi => ?_⟩
  obtain ⟨v1, v4, h0, h1, h2, h3, h4, h5⟩ := h.2 i hi
  refine ⟨v1, v4, h0, h1, h2, h3, h4, ?_⟩
  split
  · next hl => rw [if_pos hl] at h5; exact ⟨Kd.R_mono (Kd.R_far (Kd.R_mono (Kd.R_bound h5.1) (ok' := fun k => base ≤ k) (fun k hk => hk.2.1)) (p := ⟨g, j, none⟩) (fun k hk => by show k ≠ g; omega) _) (fun _ _ => trivial), OwnE.set h5.2 hg _ _⟩
  · next hl => rw [if_neg hl] at h5; exact h5
theorem PartC.world {w0 W W' : World} {base : Nat} {xs : List Ca} {cur : Array Value} (h : PartC w0 W base xs 0 cur) : PartC w0 W' base xs 0 cur :=
  ⟨h.1, fun i hi => by obtain ⟨v1, v4, h0, h1, h2, h3, h4, h5⟩ := h.2 i hi; exact ⟨v1, v4, h0, h1, h2, h3, h4, by rw [if_neg (Nat.not_lt_zero _)] at h5 ⊢; exact h5⟩⟩
end Go.Proofs.Ytacefdkfbpgedaa.Mine
namespace Go.Proofs.Ytacefdkfbpgedaa.Mine
open Go.Proofs.Ytacefdkfbpgedaa.PProgExprs
open Go.RowKit Go.Shelf Go.Proofs.YtacefdkfbpgedaaW.PrintWords Go.Proofs.YtacefdkfbpgedaaW.PrintLast Go.Proofs.YtacefdkfbpgedaaW.PrintMore
set_option linter.unusedVariables false
set_option linter.unusedSimpArgs false
set_option maxRecDepth 100000 in
set_option maxHeartbeats 8000000 in
theorem c_ownS (d : De) (cs : List Value) (w : World) (hd : Kd.FK k58 w (fun k => k < w.heap.size) d cs) (hl : d.f2.length ≤ 100000) (hp : d.f1.length ≤ 100000) (hv : ∀ c ∈ d.f2, c.f1.length ≤ 100000) (hz3 : szE d.f3 ≤ 1000000) (hz : ∀ c ∈ d.f2, szE c.f2 ≤ 1000000) :
    Calls Try.prog 79 #[.agg cs.toArray] w fun en w' => ∃ v1 v2 v5, en = .returned (.agg #[.string d.f0, v1, v2, .int .i64 d.f3.f0, .string d.f3.f1, v5]) ∧ ∃ m, w.heap.size ≤ m ∧ m ≤ w'.heap.size ∧ OwnT w' m v1 d.f1 ∧ Kd.R k99 99 w' w.heap.size (fun k => k < m) v2 d.f2 ∧ OwnE w' m v5 d.f3.f2 ∧ Below w.heap.size w w' := by
  obtain ⟨A1, c1, A2, c2, A5, c5, rfl, l1, F1, l2, F2, l5, F5⟩ := k58_openF hd
  have hm2 := (Kd.F_now F2).2.1
  obtain ⟨cs, hcl, hcs, hc1, hP⟩ := cells_of_CC (Kd.F_now F2) (w.heap.size + 1 + 1 + 1)
  obtain ⟨i0, hi0, hzz⟩ := Option.map_eq_some_iff.1 infoCa
  simp only [Prod.mk.injEq] at hzz
  have hmk := fun (W : World) => run_make W 56 99 i0 _ Try.underlying56 hi0 hzz.1 .i64 .i64 (d.f2.length : Int) (d.f2.length : Int) (by omega) (by omega) (by rw [hzz.2.2]; omega) (by omega)
  simp only [Int.toNat_natCast, hzz.2.1] at hmk
  obtain ⟨W1, hW1⟩ : ∃ W1, (w.alloc (.cells #[.string d.f0, .slice A1 d.f1.length c1, .slice A2 d.f2.length c2, .int .i64 d.f3.f0, .string d.f3.f1, .slice A5 d.f3.f2.length c5] 58)).alloc (.cells #[.string ⟨#[]⟩, .slice none 0 0, .slice none 0 0, .int .i64 0, .string ⟨#[]⟩, .slice none 0 0] 58) = W1 := ⟨_, rfl⟩
  have q1 : Below w.heap.size w W1 := by rw [← hW1]; exact below_alloc2 _ _ _
  have b0 : W1.heap[w.heap.size]? = some (.cells #[.string d.f0, .slice A1 d.f1.length c1, .slice A2 d.f2.length c2, .int .i64 d.f3.f0, .string d.f3.f1, .slice A5 d.f3.f2.length c5] 58 (0, 0)) := by rw [← hW1]; exact blk_alloc (alloc_at _ _) _
  have b1 : W1.heap[w.heap.size + 1]? = some (.cells #[.string ⟨#[]⟩, .slice none 0 0, .slice none 0 0, .int .i64 0, .string ⟨#[]⟩, .slice none 0 0] 58 (0, 0)) := by rw [← hW1]; have := alloc_at (w.alloc (.cells #[.string d.f0, .slice A1 d.f1.length c1, .slice A2 d.f2.length c2, .int .i64 d.f3.f0, .string d.f3.f1, .slice A5 d.f3.f2.length c5] 58)) (.cells #[.string ⟨#[]⟩, .slice none 0 0, .slice none 0 0, .int .i64 0, .string ⟨#[]⟩, .slice none 0 0] 58); rw [World.size_alloc] at this; exact this
  have z1 : W1.heap.size = w.heap.size + 1 + 1 := by rw [← hW1]; simp
  obtain ⟨mk, hmkd⟩ : ∃ mk, madeCells (Value.agg #[.string ⟨#[]⟩, .slice none 0 0, .int .i64 0, .string ⟨#[]⟩, .slice none 0 0]).cells (d.f2.length * 5) = mk := ⟨_, rfl⟩
  have hmks : mk.size = d.f2.length * 5 := by rw [← hmkd]; exact size_madeCells _ _
  have hzc : (Value.agg #[.string ⟨#[]⟩, .slice none 0 0, .int .i64 0, .string ⟨#[]⟩, .slice none 0 0]).cells.size = 5 := rfl
  rw [hmkd] at hmk
  have hg1 : (W1.alloc (.cells mk 99)).heap[w.heap.size + 1 + 1]? = some (.cells mk 99 (0, 0)) := by rw [← z1]; exact alloc_at _ _
  have hq1 : Below w.heap.size w (W1.alloc (.cells mk 99)) := q1.trans ((below_alloc1 _ _).mono q1.size)
  have hsi : (Try.prog.info? 99).map (·.size) = some 5 := by kernel_rfl
  have HQ1 := Aside0.mk hq1
  have HG1 := Aside0.mk hg1
  have HF2 := Aside0.mk F2
  have HF1 := Aside0.mk F1
  have HF5 := Aside0.mk F5
  have HL1 := Lib.hid l1
  have HL5 := Lib.hid l5
  have Q := Aside0.mk q1
  have B0 := Aside0.mk b0
  have B1 := Aside0.mk b1
  have HW1 := Lib.hid hW1
  have HZ1 := Lib.hid z1
  have HCS := Aside0.mk hcs
  have HC1 := Aside0.mk hc1
  have HP := Aside0.mk hP
  have kP2 := (blk_cell b0 2).trans rfl
  have kP2a := pw_cell_below (below_alloc1 W1 (.cells mk 99)) kP2
  clear hd F1 F2 F5 q1 b0 b1 hW1 l1 l2 l5 hq1 hg1 hcs hc1 hP hzz hi0 hmkd hzc
  go_enter Try.func79, Try.ntmps79
  go_upto_region 1 with fail
  rw [HW1.out]
  go_wp2_with (refine wpList_copy_sz rfl (.tmp 10) (.tmp 12) 56 56 rfl 99 (w.heap.size + 1 + 1) d.f2.length d.f2.length c2 5 A2 mk 99 cs rfl rfl Try.underlying56 hsi HG1.out hcl (fun hp => by obtain ⟨ad, ha, hc⟩ := HCS.out hp; exact ⟨ad, ha, fun j v hv => pw_cell_below HQ1.out (hc j v hv)⟩) (hcl.trans hmks.symm) HC1.out ?_)
  obtain ⟨W2, hW2⟩ : ∃ W2, (W1.alloc (.cells mk 99)).setRow (w.heap.size + 1 + 1) cs.toArray = W2 := ⟨_, rfl⟩
  have g2 : W2.heap[w.heap.size + 1 + 1]? = some (.cells cs.toArray 99 (0, 0)) := by rw [← hW2]; exact setRow_heap _ _ _ _ _ _ HG1.out
  have c2 : W2.heap[w.heap.size]? = some (.cells #[.string d.f0, .slice A1 d.f1.length c1, .slice A2 d.f2.length c2, .int .i64 d.f3.f0, .string d.f3.f1, .slice A5 d.f3.f2.length c5] 58 (0, 0)) := by rw [← hW2, setRow_other _ _ _ _ (by omega)]; exact blk_alloc B0.out _
  have d2 : W2.heap[w.heap.size + 1]? = some (.cells #[.string ⟨#[]⟩, .slice none 0 0, .slice none 0 0, .int .i64 0, .string ⟨#[]⟩, .slice none 0 0] 58 (0, 0)) := by rw [← hW2, setRow_other _ _ _ _ (by omega)]; exact blk_alloc B1.out _
  have q2 : Below w.heap.size w W2 := by rw [← hW2]; exact HQ1.out.trans ⟨rfl, rfl, rfl, by simp [World.setRow], fun k hk => setRow_other _ _ _ _ (by omega)⟩
  rw [hW2]
  have G2 := Aside0.mk g2
  have C2 := Aside0.mk c2
  have D2 := Aside0.mk d2
  have Q2 := Aside0.mk q2
  clear g2 c2 d2 q2 hW2 HG1 HQ1 HW1 HZ1 B0 B1 Q hmk kP2 kP2a
  go_loopg [16] d.f2.length (fun gg s16 wr => ∃ (kk : Nat) (cur : Array Value), kk ≤ d.f2.length ∧ d.f2.length - kk ≤ gg ∧ s16 = .int .i64 kk ∧ Aside0 (PartC w wr (w.heap.size + 1 + 1 + 1) d.f2 kk cur) ∧ Aside0 (Below w.heap.size w wr) ∧ Aside0 (wr.heap[w.heap.size + 1 + 1]? = some (.cells cur 99 (0, 0))) ∧ Aside0 (wr.heap[w.heap.size]? = some (.cells #[.string d.f0, .slice A1 d.f1.length c1, .slice A2 d.f2.length c2, .int .i64 d.f3.f0, .string d.f3.f1, .slice A5 d.f3.f2.length c5] 58 (0, 0))) ∧ Aside0 (wr.heap[w.heap.size + 1]? = some (.cells #[.string ⟨#[]⟩, .slice none 0 0, .slice none 0 0, .int .i64 0, .string ⟨#[]⟩, .slice none 0 0] 58 (0, 0))))
  case atStart => exact ⟨0, _, Nat.zero_le _, by omega, rfl, ⟨HP.out.world⟩, Q2, G2, C2, D2⟩
  case round =>
    obtain ⟨kk, cur, hkk, hg, rfl, HP, HB, GB, CB, DB⟩ := hrel
    by_cases hlt : kk < d.f2.length
    · have hltz : (kk : Int) < (d.f2.length : Int) := by omega
      obtain ⟨X1, x1, X4, x4, u0, u1, u2, u3, u4, m1, G1, m4, G4⟩ := HP.out.get HB.out kk hlt
      have hvl := hv _ (List.getElem_mem hlt)
      have hzc := hz _ (List.getElem_mem hlt)
      have HSt := Lib.hid (fun (W : World) (v1 v4 : Value) (hP : PartC w W (w.heap.size + 1 + 1 + 1) d.f2 kk cur) => hP.step hlt (v1 := v1) (v4 := v4))
      obtain ⟨ca, hca⟩ : ∃ ca, d.f2[kk] = ca := ⟨_, rfl⟩
      rw [hca] at u0 u1 u2 u3 u4 m1 m4 G1 G4 hvl hzc HSt
      have k0 := (blk_cell GB.out (kk * 5)).trans u0
      have k1 := (blk_cell GB.out (kk * 5 + 1)).trans u1
      have k2 := (blk_cell GB.out (kk * 5 + 2)).trans u2
      have k3 := (blk_cell GB.out (kk * 5 + 3)).trans u3
      have k4 := (blk_cell GB.out (kk * 5 + 4)).trans u4
      obtain ⟨W0, hW0⟩ : ∃ W0, wr.alloc (.cells #[.string ca.f0, .slice X1 ca.f1.length x1, .int .i64 ca.f2.f0, .string ca.f2.f1, .slice X4 ca.f2.f2.length x4] 99) = W0 := ⟨_, rfl⟩
      have q0 : Below wr.heap.size wr W0 := by rw [← hW0]; exact below_alloc1 _ _
      have s0 : W0.heap.size = wr.heap.size + 1 := by rw [← hW0]; simp
      have bx : W0.heap[wr.heap.size]? = some (.cells #[.string ca.f0, .slice X1 ca.f1.length x1, .int .i64 ca.f2.f0, .string ca.f2.f1, .slice X4 ca.f2.f2.length x4] 99 (0, 0)) := by rw [← hW0]; exact alloc_at _ _
      have hlw := blk_lt GB.out
      have hS0 : OcS W0.heap.size W0 wr.heap.size (.string ca.f0) (.slice X1 ca.f1.length x1) (.int .i64 ca.f2.f0) (.string ca.f2.f1) (.slice X4 ca.f2.f2.length x4) W0.drew := OcS.of (below_drew (Below.refl _ _)) (Nat.le_refl _) (show W0.drew.heap[wr.heap.size]? = _ from bx)
      have hbel : ∀ W, OcS W0.heap.size W0 wr.heap.size (.string ca.f0) (.slice X1 ca.f1.length x1) (.int .i64 ca.f2.f0) (.string ca.f2.f1) (.slice X4 ca.f2.f2.length x4) W → Below wr.heap.size wr W := fun W hS => q0.trans (hS.1.mono (by omega))
      have HDupS := Lib.hid (fun W (hS : OcS W0.heap.size W0 wr.heap.size (.string ca.f0) (.slice X1 ca.f1.length x1) (.int .i64 ca.f2.f0) (.string ca.f2.f1) (.slice X4 ca.f2.f2.length x4) W) => c_CloneS X1 x1 ca.f1 W (Kd.C_below G1 (hbel W hS)) m1 (by omega))
      have HOwnS := Lib.hid (fun W (hS : OcS W0.heap.size W0 wr.heap.size (.string ca.f0) (.slice X1 ca.f1.length x1) (.int .i64 ca.f2.f0) (.string ca.f2.f1) (.slice X4 ca.f2.f2.length x4) W) => c_ownExpr _ ca.f2 X4 x4 W (Nat.le_refl _) hzc (Kd.C_below G4 (hbel W hS)) m4)
      have HBl := Lib.hid hbel
      have HHW := Lib.hid hW0
      have hne : some (w.heap.size + 1 + 1) ≠ none := by simp
      clear u0 u1 u2 u3 u4 m1 m4 G1 G4 hvl hzc hca hW0 q0 bx hbel
      go_upto_region 6 with fail
      rw [HHW.out]
      have hSd : (fun W => OcS W0.heap.size W0 wr.heap.size (.string ca.f0) (.slice X1 ca.f1.length x1) (.int .i64 ca.f2.f0) (.string ca.f2.f1) (.slice X4 ca.f2.f2.length x4) W) W0.drew := hS0
      refine wp_region_K (S := fun W => OcS W0.heap.size W0 wr.heap.size (.string ca.f0) (.slice X1 ca.f1.length x1) (.int .i64 ca.f2.f0) (.string ca.f2.f1) (.slice X4 ca.f2.f2.length x4) W) (k := 12) (by kernel_rfl) ?_
      change wpAnyK _ _ _ _ _ _ 13 (Array.replicate 13 false) _ _
      refine wpAnyK_take (i := 0) (v := ?_) rfl (by kernel_rfl) (by kernel_rfl) (by kernel_rfl) (by kernel_rfl) (fun _ _ _ h => h) hSd (Or.inl ⟨by rfl, ?_⟩) ?_
      rotate_left 1
      (intro w hSw; (try dsimp only at hSw); go_simp; try (with_reducible rfl))
      (try simp only [List.getElem_toArray, List.getElem_cons_succ, List.getElem_cons_zero]); (try dsimp only [Act.put]); (try simp only [List.setIfInBounds_toArray, List.set_cons_zero, List.set_cons_succ])
      refine wpAnyK_take (i := 1) (v := ?_) rfl (by kernel_rfl) (by kernel_rfl) (by kernel_rfl) (by kernel_rfl) (fun _ _ _ h => h) hSd (Or.inl ⟨by rfl, ?_⟩) ?_
      rotate_left 1
      (intro w hSw; (try dsimp only at hSw); go_simp; try (with_reducible rfl))
      (try simp only [List.getElem_toArray, List.getElem_cons_succ, List.getElem_cons_zero]); (try dsimp only [Act.put]); (try simp only [List.setIfInBounds_toArray, List.set_cons_zero, List.set_cons_succ])
      refine wpAnyK_take (i := 2) (v := ?_) rfl (by kernel_rfl) (by kernel_rfl) (by kernel_rfl) (by kernel_rfl) (fun _ _ _ h => h) hSd (Or.inl ⟨by rfl, ?_⟩) ?_
      rotate_left 1
      (intro w hSw; (try dsimp only at hSw); go_simp; try (with_reducible rfl))
      (try simp only [List.getElem_toArray, List.getElem_cons_succ, List.getElem_cons_zero]); (try dsimp only [Act.put]); (try simp only [List.setIfInBounds_toArray, List.set_cons_zero, List.set_cons_succ])
      refine wpAnyK_take (i := 3) (v := ?_) rfl (by kernel_rfl) (by kernel_rfl) (by kernel_rfl) (by kernel_rfl) (fun _ _ _ h => h) hSd (Or.inl ⟨by rfl, ?_⟩) ?_
      rotate_left 1
      (intro w hSw; (try dsimp only at hSw); go_simp; try (with_reducible rfl))
      (try simp only [List.getElem_toArray, List.getElem_cons_succ, List.getElem_cons_zero]); (try dsimp only [Act.put]); (try simp only [List.setIfInBounds_toArray, List.set_cons_zero, List.set_cons_succ])
      refine wpAnyK_take (i := 4) (v := ?_) rfl (by kernel_rfl) (by kernel_rfl) (by kernel_rfl) (by kernel_rfl) (fun _ _ _ h => h) hSd (Or.inl ⟨by rfl, ?_⟩) ?_
      rotate_left 1
      (intro w hSw; (try dsimp only at hSw); go_simp; try (with_reducible rfl))
      (try simp only [List.getElem_toArray, List.getElem_cons_succ, List.getElem_cons_zero]); (try dsimp only [Act.put]); (try simp only [List.setIfInBounds_toArray, List.set_cons_zero, List.set_cons_succ])
      refine wpAnyK_take (i := 5) (v := ?_) rfl (by kernel_rfl) (by kernel_rfl) (by kernel_rfl) (by kernel_rfl) (fun _ _ _ h => h) hSd (Or.inl ⟨by rfl, ?_⟩) ?_
      rotate_left 1
      (intro w hSw; (try dsimp only at hSw); go_simp; try (with_reducible rfl))
      (try simp only [List.getElem_toArray, List.getElem_cons_succ, List.getElem_cons_zero]); (try dsimp only [Act.put]); (try simp only [List.setIfInBounds_toArray, List.set_cons_zero, List.set_cons_succ])
      refine wpAnyK_take (i := 7) (v := ?_) rfl (by kernel_rfl) (by kernel_rfl) (by kernel_rfl) (by kernel_rfl) (fun _ _ _ h => h) hSd (Or.inl ⟨by rfl, ?_⟩) ?_
      rotate_left 1
      (intro w hSw; (try dsimp only at hSw); go_simp; try (with_reducible rfl))
      (try simp only [List.getElem_toArray, List.getElem_cons_succ, List.getElem_cons_zero]); (try dsimp only [Act.put]); (try simp only [List.setIfInBounds_toArray, List.set_cons_zero, List.set_cons_succ])
      refine wpAnyK_take (i := 8) (v := ?_) rfl (by kernel_rfl) (by kernel_rfl) (by kernel_rfl) (by kernel_rfl) (fun _ _ _ h => h) hSd (Or.inl ⟨by rfl, ?_⟩) ?_
      rotate_left 1
      (intro w hSw; (try dsimp only at hSw); go_simp; try (with_reducible rfl))
      (try simp only [List.getElem_toArray, List.getElem_cons_succ, List.getElem_cons_zero]); (try dsimp only [Act.put]); (try simp only [List.setIfInBounds_toArray, List.set_cons_zero, List.set_cons_succ])
      refine wpAnyK_one (i := 6) (by kernel_rfl) rfl (fun K hK => ?_)
      go_simp
      go_at_call 118
      (with_reducible refine (HDupS.out _ hSd).mono ?_)
      rintro e wD ⟨vd, rfl, hT, hbD⟩
      have hSd : (fun W => OcS W0.heap.size W0 wr.heap.size (.string ca.f0) (.slice X1 ca.f1.length x1) (.int .i64 ca.f2.f0) (.string ca.f2.f1) (.slice X4 ca.f2.f2.length x4) W) wD := OcS.step hSd (Nat.le_refl _) hbD
      have hsD := hSd.1.size
      obtain ⟨Ax, cx, hvd⟩ := Kd.R_slice hT
      subst hvd
      have HT := Aside0.mk (show OwnT wD (w.heap.size + 1 + 1 + 1) _ _ from Kd.R_lower hT (by show _ ≤ W0.heap.size; omega))
      clear hT hbD
      refine hK.out _ _ (fun _ => hSd) ?_
      clear hK
      refine wpAnyK_one (i := 9) (by kernel_rfl) rfl (fun K hK => ?_)
      go_simp
      go_at_call 64
      (with_reducible refine (HOwnS.out _ hSd).mono ?_)
      rintro e wE ⟨ve, rfl, hE, hbE⟩
      have HT := Aside0.mk (Kd.R_below HT.out hbE)
      have hSd : (fun W => OcS W0.heap.size W0 wr.heap.size (.string ca.f0) (.slice X1 ca.f1.length x1) (.int .i64 ca.f2.f0) (.string ca.f2.f1) (.slice X4 ca.f2.f2.length x4) W) wE := OcS.step hSd (Nat.le_refl _) hbE
      obtain ⟨Ay, cy, hve⟩ := Kd.R_slice hE
      subst hve
      have hPE := HP.out.below (HBl.out wE hSd)
      have hS2 := HSt.out wE _ _ hPE HT.out (show OwnE wE (w.heap.size + 1 + 1 + 1) _ _ from Kd.R_lower hE (by have := hsD; omega))
      have HS2 := Aside0.mk hS2
      have GB2 := Aside0.mk (blk_below GB.out (HBl.out wE hSd))
      have CB2 := Aside0.mk (blk_below CB.out (HBl.out wE hSd))
      have DB2 := Aside0.mk (blk_below DB.out (HBl.out wE hSd))
      have HB2 := Aside0.mk (HB.out.trans ((HBl.out wE hSd).mono HB.out.size))
      have x0 : wE.cell? ⟨w.heap.size + 1 + 1, kk * 5, none⟩ = some _ := pw_cell_below (HBl.out wE hSd) k0
      have x1 : wE.cell? ⟨w.heap.size + 1 + 1, kk * 5 + 1, none⟩ = some _ := pw_cell_below (HBl.out wE hSd) k1
      have x2 : wE.cell? ⟨w.heap.size + 1 + 1, kk * 5 + 2, none⟩ = some _ := pw_cell_below (HBl.out wE hSd) k2
      have x3 : wE.cell? ⟨w.heap.size + 1 + 1, kk * 5 + 3, none⟩ = some _ := pw_cell_below (HBl.out wE hSd) k3
      have x4 : wE.cell? ⟨w.heap.size + 1 + 1, kk * 5 + 4, none⟩ = some _ := pw_cell_below (HBl.out wE hSd) k4
      have fg := fun i => blk_frozen GB2.out i
      clear hE hbE hPE hS2 hsD
      refine hK.out _ _ (fun _ => hSd) ?_
      clear hK
      refine wpAnyK_take (i := 10) (v := ?_) rfl (by kernel_rfl) (by kernel_rfl) (by kernel_rfl) (by kernel_rfl) (fun _ _ _ h => h) hSd (Or.inl ⟨by rfl, ?_⟩) ?_
      rotate_left 1
      (intro w hSw; (try dsimp only at hSw); go_simp; try (with_reducible rfl))
      (try simp only [List.getElem_toArray, List.getElem_cons_succ, List.getElem_cons_zero]); (try dsimp only [Act.put]); (try simp only [List.setIfInBounds_toArray, List.set_cons_zero, List.set_cons_succ])
      refine wpAnyK_take (i := 11) (v := ?_) rfl (by kernel_rfl) (by kernel_rfl) (by kernel_rfl) (by kernel_rfl) (fun _ _ _ h => h) hSd (Or.inl ⟨by rfl, ?_⟩) ?_
      rotate_left 1
      (intro w hSw; (try dsimp only at hSw); go_simp; try (with_reducible rfl))
      (try simp only [List.getElem_toArray, List.getElem_cons_succ, List.getElem_cons_zero]); (try dsimp only [Act.put]); (try simp only [List.setIfInBounds_toArray, List.set_cons_zero, List.set_cons_succ])
      refine wpAnyK_one (i := 12) (by kernel_rfl) rfl (fun K hK => ?_)
      go_simp
      refine hK.out _ _ (fun h => absurd rfl h) ?_
      clear hK hSd
      refine wpAnyK_done (by kernel_rfl) ?_ _
      go_wp2
      go_roundg (d.f2.length - (kk + 1))
      case measure => omega
      case rel => exact ⟨kk + 1, _, by omega, by omega, by go_num, ⟨((((HS2.out.set (by omega)).set (by omega)).set (by omega)).set (by omega)).set (by omega)⟩, ⟨((((HB2.out.setCell (by simp; omega) _).setCell (by simp; omega) _).setCell (by simp; omega) _).setCell (by simp; omega) _).setCell (by simp; omega) _⟩, ⟨blk_put (blk_put (blk_put (blk_put (blk_put GB2.out _ _ rfl) _ _ rfl) _ _ rfl) _ _ rfl) _ _ rfl⟩, ⟨blk_far (blk_far (blk_far (blk_far (blk_far CB2.out (by simp; omega) _) (by simp; omega) _) (by simp; omega) _) (by simp; omega) _) (by simp; omega) _⟩, ⟨blk_far (blk_far (blk_far (blk_far (blk_far DB2.out (by simp) _) (by simp) _) (by simp) _) (by simp) _) (by simp) _⟩⟩
    · have : kk = d.f2.length := by omega
      subst this
      have hO := PartC.done (base := w.heap.size + 1 + 1) HP.out GB.out (Nat.le_refl _) (by omega)
      have HO := Aside0.mk (Kd.R_below (Kd.R_mono (Kd.R_bound hO) (ok' := fun k => k < wr.heap.size) (fun k hk => hk.2.2.1)) (below_drew (Below.refl _ _)))
      have hlw := blk_lt GB.out
      have hlt0 : w.heap.size < wr.heap.size := by omega
      have hS0 : OdS wr w.heap.size (.string d.f0) (.slice A1 d.f1.length c1) (.int .i64 d.f3.f0) (.string d.f3.f1) (.slice A5 d.f3.f2.length c5) wr.drew := ⟨below_drew (Below.refl _ _), (blk_cell CB.out 0).trans rfl, (blk_cell CB.out 1).trans rfl, (blk_cell CB.out 3).trans rfl, (blk_cell CB.out 4).trans rfl, (blk_cell CB.out 5).trans rfl⟩
      have HDupS := Lib.hid (fun W (hS : OdS wr w.heap.size (.string d.f0) (.slice A1 d.f1.length c1) (.int .i64 d.f3.f0) (.string d.f3.f1) (.slice A5 d.f3.f2.length c5) W) => c_CloneS A1 c1 d.f1 W (Kd.C_below (Kd.F_now HF1.out) (HB.out.trans (hS.1.mono HB.out.size))) HL1.out (by omega))
      have HOwnS := Lib.hid (fun W (hS : OdS wr w.heap.size (.string d.f0) (.slice A1 d.f1.length c1) (.int .i64 d.f3.f0) (.string d.f3.f1) (.slice A5 d.f3.f2.length c5) W) => c_ownExpr _ d.f3 A5 c5 W (Nat.le_refl _) hz3 (Kd.C_below (Kd.F_now HF5.out) (HB.out.trans (hS.1.mono HB.out.size))) HL5.out)
      have DBd := Aside0.mk (show wr.drew.heap[w.heap.size + 1]? = _ from DB.out)
      clear hO
      go_upto_region 8 with fail
      have hSd : (fun W => OdS wr w.heap.size (.string d.f0) (.slice A1 d.f1.length c1) (.int .i64 d.f3.f0) (.string d.f3.f1) (.slice A5 d.f3.f2.length c5) W) wr.drew := hS0
      refine wp_region_K (S := fun W => OdS wr w.heap.size (.string d.f0) (.slice A1 d.f1.length c1) (.int .i64 d.f3.f0) (.string d.f3.f1) (.slice A5 d.f3.f2.length c5) W) (k := 10) (by kernel_rfl) ?_
      change wpAnyK _ _ _ _ _ _ 11 (Array.replicate 11 false) _ _
      refine wpAnyK_take (i := 0) (v := ?_) rfl (by kernel_rfl) (by kernel_rfl) (by kernel_rfl) (by kernel_rfl) (fun _ _ _ h => h) hSd (Or.inl ⟨by rfl, ?_⟩) ?_
      rotate_left 1
      (intro w hSw; (try dsimp only at hSw); go_simp; try (with_reducible rfl))
      (try simp only [List.getElem_toArray, List.getElem_cons_succ, List.getElem_cons_zero]); (try dsimp only [Act.put]); (try simp only [List.setIfInBounds_toArray, List.set_cons_zero, List.set_cons_succ])
      refine wpAnyK_take (i := 1) (v := ?_) rfl (by kernel_rfl) (by kernel_rfl) (by kernel_rfl) (by kernel_rfl) (fun _ _ _ h => h) hSd (Or.inl ⟨by rfl, ?_⟩) ?_
      rotate_left 1
      (intro w hSw; (try dsimp only at hSw); go_simp; try (with_reducible rfl))
      (try simp only [List.getElem_toArray, List.getElem_cons_succ, List.getElem_cons_zero]); (try dsimp only [Act.put]); (try simp only [List.setIfInBounds_toArray, List.set_cons_zero, List.set_cons_succ])
      refine wpAnyK_take (i := 2) (v := ?_) rfl (by kernel_rfl) (by kernel_rfl) (by kernel_rfl) (by kernel_rfl) (fun _ _ _ h => h) hSd (Or.inl ⟨by rfl, ?_⟩) ?_
      rotate_left 1
      (intro w hSw; (try dsimp only at hSw); go_simp; try (with_reducible rfl))
      (try simp only [List.getElem_toArray, List.getElem_cons_succ, List.getElem_cons_zero]); (try dsimp only [Act.put]); (try simp only [List.setIfInBounds_toArray, List.set_cons_zero, List.set_cons_succ])
      refine wpAnyK_take (i := 3) (v := ?_) rfl (by kernel_rfl) (by kernel_rfl) (by kernel_rfl) (by kernel_rfl) (fun _ _ _ h => h) hSd (Or.inl ⟨by rfl, ?_⟩) ?_
      rotate_left 1
      (intro w hSw; (try dsimp only at hSw); go_simp; try (with_reducible rfl))
      (try simp only [List.getElem_toArray, List.getElem_cons_succ, List.getElem_cons_zero]); (try dsimp only [Act.put]); (try simp only [List.setIfInBounds_toArray, List.set_cons_zero, List.set_cons_succ])
      refine wpAnyK_take (i := 5) (v := ?_) rfl (by kernel_rfl) (by kernel_rfl) (by kernel_rfl) (by kernel_rfl) (fun _ _ _ h => h) hSd (Or.inl ⟨by rfl, ?_⟩) ?_
      rotate_left 1
      (intro w hSw; (try dsimp only at hSw); go_simp; try (with_reducible rfl))
      (try simp only [List.getElem_toArray, List.getElem_cons_succ, List.getElem_cons_zero]); (try dsimp only [Act.put]); (try simp only [List.setIfInBounds_toArray, List.set_cons_zero, List.set_cons_succ])
      refine wpAnyK_take (i := 6) (v := ?_) rfl (by kernel_rfl) (by kernel_rfl) (by kernel_rfl) (by kernel_rfl) (fun _ _ _ h => h) hSd (Or.inl ⟨by rfl, ?_⟩) ?_
      rotate_left 1
      (intro w hSw; (try dsimp only at hSw); go_simp; try (with_reducible rfl))
      (try simp only [List.getElem_toArray, List.getElem_cons_succ, List.getElem_cons_zero]); (try dsimp only [Act.put]); (try simp only [List.setIfInBounds_toArray, List.set_cons_zero, List.set_cons_succ])
      refine wpAnyK_take (i := 7) (v := ?_) rfl (by kernel_rfl) (by kernel_rfl) (by kernel_rfl) (by kernel_rfl) (fun _ _ _ h => h) hSd (Or.inl ⟨by rfl, ?_⟩) ?_
      rotate_left 1
      (intro w hSw; (try dsimp only at hSw); go_simp; try (with_reducible rfl))
      (try simp only [List.getElem_toArray, List.getElem_cons_succ, List.getElem_cons_zero]); (try dsimp only [Act.put]); (try simp only [List.setIfInBounds_toArray, List.set_cons_zero, List.set_cons_succ])
      refine wpAnyK_one (i := 4) (by kernel_rfl) rfl (fun K hK => ?_)
      go_simp
      go_at_call 118
      (with_reducible refine (HDupS.out _ hSd).mono ?_)
      rintro e wD ⟨vd, rfl, hT, hbD⟩
      have hSd : (fun W => OdS wr w.heap.size (.string d.f0) (.slice A1 d.f1.length c1) (.int .i64 d.f3.f0) (.string d.f3.f1) (.slice A5 d.f3.f2.length c5) W) wD := OdS.step hSd hlt0 (hbD.mono hSd.1.size)
      have hsD : wr.heap.size ≤ wD.heap.size := hSd.1.size
      obtain ⟨Ax, cx, hvd⟩ := Kd.R_slice hT
      subst hvd
      have HT := Aside0.mk (show OwnT wD wr.heap.size _ _ from hT)
      have HO := Aside0.mk (Kd.R_below HO.out hbD)
      have DBd := Aside0.mk (blk_below DBd.out hbD)
      clear hT hbD
      refine hK.out _ _ (fun _ => hSd) ?_
      clear hK
      refine wpAnyK_one (i := 8) (by kernel_rfl) rfl (fun K hK => ?_)
      go_simp
      go_at_call 64
      (with_reducible refine (HOwnS.out _ hSd).mono ?_)
      rintro e wE ⟨ve, rfl, hE, hbE⟩
      have hSd : (fun W => OdS wr w.heap.size (.string d.f0) (.slice A1 d.f1.length c1) (.int .i64 d.f3.f0) (.string d.f3.f1) (.slice A5 d.f3.f2.length c5) W) wE := OdS.step hSd hlt0 (hbE.mono hSd.1.size)
      obtain ⟨Ay, cy, hve⟩ := Kd.R_slice hE
      subst hve
      have HT := Aside0.mk (Kd.R_below HT.out hbE)
      have HO := Aside0.mk (Kd.R_below HO.out hbE)
      have DBd := Aside0.mk (blk_below DBd.out hbE)
      have HE := Aside0.mk (show OwnE wE wr.heap.size _ _ from Kd.R_lower hE hsD)
      have HBE := Aside0.mk (HB.out.trans (hSd.1.mono HB.out.size))
      have e0 := (blk_cell DBd.out 0).trans rfl
      have e1 := (blk_cell DBd.out 1).trans rfl
      have e2 := (blk_cell DBd.out 2).trans rfl
      have e3 := (blk_cell DBd.out 3).trans rfl
      have e4 := (blk_cell DBd.out 4).trans rfl
      have e5 := (blk_cell DBd.out 5).trans rfl
      have fd := fun i => blk_frozen DBd.out i
      have hsE : wr.heap.size ≤ wE.heap.size := Nat.le_trans hsD hbE.size
      clear hE hbE
      refine hK.out _ _ (fun _ => hSd) ?_
      clear hK
      refine wpAnyK_take (i := 9) (v := ?_) rfl (by kernel_rfl) (by kernel_rfl) (by kernel_rfl) (by kernel_rfl) (fun _ _ _ h => h) hSd (Or.inl ⟨by rfl, ?_⟩) ?_
      rotate_left 1
      (intro w hSw; (try dsimp only at hSw); go_simp; try (with_reducible rfl))
      (try simp only [List.getElem_toArray, List.getElem_cons_succ, List.getElem_cons_zero]); (try dsimp only [Act.put]); (try simp only [List.setIfInBounds_toArray, List.set_cons_zero, List.set_cons_succ])
      refine wpAnyK_one (i := 10) (by kernel_rfl) rfl (fun K hK => ?_)
      go_simp
      refine hK.out _ _ (fun h => absurd rfl h) ?_
      clear hK hSd
      refine wpAnyK_done (by kernel_rfl) ?_ _
      go_wp2
      have b4 := blk_put (blk_put (blk_put (blk_put (blk_put (blk_put DBd.out 0 (.string d.f0) rfl) 1 (.slice Ax d.f1.length cx) rfl) 2 (.slice (some ⟨w.heap.size + 1 + 1, 0, none⟩) d.f2.length d.f2.length) rfl) 3 (.int .i64 d.f3.f0) rfl) 4 (.string d.f3.f1) rfl) 5 (.slice Ay d.f3.f2.length cy) rfl
      refine bodyPost_ret (results_single rfl (.cell _ _ _ _ _ rfl b4 Try.underlying58 rfl rfl .nil)) rfl ?_
      have key : ∀ {α : Type} {dk : Kd α} {e : TypeId} {v : Value} {xs : List α} {b0 : Nat} {ok : Nat → Prop} {u0 u1 u2 u3 u4 u5 : Value}, w.heap.size + 1 + 1 ≤ b0 → Kd.R dk e wE b0 ok v xs → Kd.R dk e ((((((wE.setCell ⟨w.heap.size + 1, 0, none⟩ u0).setCell ⟨w.heap.size + 1, 1, none⟩ u1).setCell ⟨w.heap.size + 1, 2, none⟩ u2).setCell ⟨w.heap.size + 1, 3, none⟩ u3).setCell ⟨w.heap.size + 1, 4, none⟩ u4).setCell ⟨w.heap.size + 1, 5, none⟩ u5) b0 ok v xs := fun {_ _ _ _ _ b0 ok _ _ _ _ _ _} hb0 h => by
        have h1 := Kd.R_mono (Kd.R_bound h) (ok' := fun k => ok k ∧ b0 ≤ k) (fun k hk => ⟨hk.1, hk.2.1⟩)
        have hne : ∀ k, ok k ∧ b0 ≤ k → k ≠ w.heap.size + 1 := fun k hk => by have := hk.2; omega
        exact Kd.R_mono (Kd.R_far (Kd.R_far (Kd.R_far (Kd.R_far (Kd.R_far (Kd.R_far h1 hne _) hne _) hne _) hne _) hne _) hne _) (fun _ hk => hk.1)
      exact ⟨_, _, _, rfl, wr.heap.size, by omega, by simp only [World.setCell, Array.size_modify]; omega, key (by omega) HT.out, Kd.R_lower (key (Nat.le_refl _) HO.out) (by omega), key (by omega) HE.out, (((((HBE.out.setCell (by simp) _).setCell (by simp) _).setCell (by simp) _).setCell (by simp) _).setCell (by simp) _).setCell (by simp) _⟩
theorem c_own (d : De) (cs : List Value) (w : World) (hd : Kd.FK k58 w (fun k => k < w.heap.size) d cs) (hl : d.f2.length ≤ 100000) (hp : d.f1.length ≤ 100000) (hv : ∀ c ∈ d.f2, c.f1.length ≤ 100000) (hz3 : szE d.f3 ≤ 1000000) (hz : ∀ c ∈ d.f2, szE c.f2 ≤ 1000000) :
    Calls Try.prog 79 #[.agg cs.toArray] w fun en w' => ∃ v1 v2 v5, en = .returned (.agg #[.string d.f0, v1, v2, .int .i64 d.f3.f0, .string d.f3.f1, v5]) ∧ OwnT w' w.heap.size v1 d.f1 ∧ OwnC w' w.heap.size v2 d.f2 ∧ OwnE w' w.heap.size v5 d.f3.f2 ∧ Below w.heap.size w w' := by
  refine (c_ownS d cs w hd hl hp hv hz3 hz).mono ?_
  rintro en w' ⟨v1, v2, v5, rfl, m, h1, _, h2, h3, h4, h5⟩
  exact ⟨v1, v2, v5, rfl, Kd.R_lower h2 h1, Kd.R_mono h3 (fun _ _ => trivial), Kd.R_lower h4 h1, h5⟩
end Go.Proofs.Ytacefdkfbpgedaa.Mine
namespace Go.Proofs.Ytacefdkfbpgedaa.Mine
open Go.Proofs.Ytacefdkfbpgedaa.PProgExprs
open Go.RowKit Go.Shelf Go.Proofs.YtacefdkfbpgedaaW.PrintWords Go.Proofs.YtacefdkfbpgedaaW.PrintLast Go.Proofs.YtacefdkfbpgedaaW.PrintMore
set_option linter.unusedVariables false
set_option linter.unusedSimpArgs false
abbrev OeS (n : Nat) (W0 : World) (B : Nat) (u0 u1 u2 u3 u4 u5 : Value) (W : World) : Prop := Below n W0 W ∧ W0.heap.size ≤ W.heap.size ∧ W.cell? ⟨B, 0, none⟩ = some u0 ∧ W.cell? ⟨B, 1, none⟩ = some u1 ∧ W.cell? ⟨B, 2, none⟩ = some u2 ∧ W.cell? ⟨B, 3, none⟩ = some u3 ∧ W.cell? ⟨B, 4, none⟩ = some u4 ∧ W.cell? ⟨B, 5, none⟩ = some u5
theorem OeS.of {n : Nat} {W0 : World} {B : Nat} {u0 u1 u2 u3 u4 u5 : Value} {W : World} {t : Nat} (hb : Below n W0 W) (hs : W0.heap.size ≤ W.heap.size) (h : W.heap[B]? = some (.cells #[u0, u1, u2, u3, u4, u5] t (0, 0))) : OeS n W0 B u0 u1 u2 u3 u4 u5 W := ⟨hb, hs, (blk_cell h 0).trans rfl, (blk_cell h 1).trans rfl, (blk_cell h 2).trans rfl, (blk_cell h 3).trans rfl, (blk_cell h 4).trans rfl, (blk_cell h 5).trans rfl⟩
structure OkO (d : De) : Prop where
  c : d.f2.length ≤ 100000
  p : d.f1.length ≤ 100000
  v : ∀ c ∈ d.f2, c.f1.length ≤ 100000
  b : szE d.f3 ≤ 1000000
  z : ∀ c ∈ d.f2, szE c.f2 ≤ 1000000
end Go.Proofs.Ytacefdkfbpgedaa.Mine
namespace Go.Proofs.Ytacefdkfbpgedaa.Mine
open Go.Proofs.Ytacefdkfbpgedaa.PProgExprs
open Go.RowKit Go.Shelf Go.Proofs.YtacefdkfbpgedaaW.PrintWords Go.Proofs.YtacefdkfbpgedaaW.PrintLast Go.Proofs.YtacefdkfbpgedaaW.PrintMore
set_option linter.unusedVariables false
set_option linter.unusedSimpArgs false
def onlyE (defs : List De) (s : ByteArray) : List De := if (findP defs s).2 = 0 then onlyP defs s else []
set_option maxRecDepth 100000 in
set_option maxHeartbeats 8000000 in
theorem c_Only (defs : List De) (A : Option Addr) (c : Nat) (s : ByteArray) (w : World) (hr : Kd.C k58 w A defs.length defs) (hc : defs.length ≤ c) (hok : OkP defs) (hoo : ∀ d ∈ defs, OkO d) :
    Calls Try.prog 36 #[.agg #[.slice A defs.length c], .string s] w fun en w' => ∃ v, en = .returned (.tuple #[.agg #[v], .int .i64 (findP defs s).2]) ∧ OwnD w' w.heap.size v (onlyE defs s) ∧ Below w.heap.size w w' := by
  have hn := hok.n
  have hmd := hr.2.1
  have HF := Lib.hid (Kd.C_F k58_heap hr)
  have HR := Lib.hid hr
  have HRe := Lib.hid (fun W (hb : Below w.heap.size w W) => c_Reach defs A c s W (Kd.C_below hr hb) hc hok)
  obtain ⟨W1, hW1⟩ : ∃ W1, (w.alloc (.cells #[.slice A defs.length c] 53)).alloc (.cells #[.slice none 0 0] 53) = W1 := ⟨_, rfl⟩
  have q1 : Below w.heap.size w W1 := by rw [← hW1]; exact below_alloc2 _ _ _
  have b0 : W1.heap[w.heap.size]? = some (.cells #[.slice A defs.length c] 53 (0, 0)) := by rw [← hW1]; exact blk_alloc (alloc_at _ _) _
  have b1 : W1.heap[w.heap.size + 1]? = some (.cells #[.slice none 0 0] 53 (0, 0)) := by rw [← hW1]; have := alloc_at (w.alloc (.cells #[.slice A defs.length c] 53)) (.cells #[.slice none 0 0] 53); rw [World.size_alloc] at this; exact this
  have HZ1 := Lib.hid (show W1.heap.size = w.heap.size + 1 + 1 by rw [← hW1]; simp)
  have HC1 := Lib.hid (HRe.out W1 q1)
  have Q := Aside0.mk q1
  have B0 := Aside0.mk b0
  have B1 := Aside0.mk b1
  have HW1 := Lib.hid hW1
  have kP := (blk_cell b0 0).trans rfl
  clear hr q1 b0 b1 hW1 HRe
  go_enter Try.func36, Try.ntmps36
  go_wp2_with fail
  rw [HW1.out]
  refine HC1.out.mono ?_
  rintro en w3 ⟨v, rfl, ho, hb⟩
  obtain ⟨Ar, cr, rfl, hcr, hCr⟩ := OwnS.reads ho
  have hmr := hCr.2.1
  have HLt := Lib.hid (fun k (hk : (Value.slice Ar (reachE defs s).length cr).ownBlock = some k) => show w.heap.size + 1 < k ∧ k < w3.heap.size from ⟨by have := (ho.lt k hk).1; have := HZ1.out; omega, (ho.lt k hk).2⟩)
  have HRo := Aside0.mk ho
  have Q := Aside0.mk (Q.out.trans (hb.mono Q.out.size))
  have B0 := Aside0.mk (blk_below B0.out hb)
  have B1 := Aside0.mk (blk_below B1.out hb)
  have hs3 : w.heap.size + 1 < w3.heap.size := blk_lt B1.out
  clear ho hCr hb HC1 kP
  cases hz : decide ((findP defs s).2 = 0) with
  | false =>
    have hz := of_decide_eq_false hz
    have hE : onlyE defs s = [] := if_neg hz
    have k6 := (blk_cell B1.out 0).trans rfl
    have f6 := blk_frozen B1.out 0
    have hz1 : ((findP defs s).2 != 0) = true := by simpa using hz
    go_wp2
    have b6 := blk_put B1.out 0 (.slice none 0 0) rfl
    refine bodyPost_ret (results_ct rfl _ _ _ _ _ _ _ rfl b6 Try.underlying53 rfl (by kernel_rfl)) rfl ?_
    rw [hE]
    exact ⟨_, rfl, Kd.R_nil _ _ _ _ _, Q.out.setCell (by simp only; omega) _⟩
  | true =>
    have hz := of_decide_eq_true hz
    have hE : onlyE defs s = onlyP defs s := if_pos hz
    have hRr : reachE defs s = reachP defs s := if_pos hz
    rw [hz]
    have kP := (blk_cell B0.out 0).trans rfl
    have kPa := fun o => pw_cell_below (below_alloc1 w3 o) kP
    obtain ⟨W4, hW4⟩ : ∃ W4, w3.alloc (.cells #[.slice none 0 0] 53) = W4 := ⟨_, rfl⟩
    have q4 : Below w3.heap.size w3 W4 := by rw [← hW4]; exact below_alloc1 _ _
    have z4 : W4.heap.size = w3.heap.size + 1 := by rw [← hW4]; simp
    have BV := Aside0.mk (show W4.heap[w3.heap.size]? = some (.cells #[.slice none 0 0] 53 (0, 0)) by rw [← hW4]; exact alloc_at _ _)
    have B0 := Aside0.mk (blk_below B0.out q4)
    have B1 := Aside0.mk (blk_below B1.out q4)
    have Q := Aside0.mk (Q.out.trans (q4.mono Q.out.size))
    have HRo := Aside0.mk (OwnS.after HRo.out q4)
    have kP4 := (blk_cell B0.out 0).trans rfl
    clear kPa
    go_wp2
    rw [hRr] at HRo HLt hcr
    obtain ⟨re, hre⟩ : ∃ re, reachP defs s = re := ⟨_, rfl⟩
    have hOn : onlyE defs s = defs.filter (inR re) := by rw [hE, onlyP, hre]
    have HOn := Lib.hid hOn
    rw [hre] at HRo HLt hcr ⊢
    clear hOn hE hRr hW4 kP
    go_loopg [24] defs.length (fun gg s24 wr => ∃ (kk : Nat) (v : Value), kk ≤ defs.length ∧ defs.length - kk ≤ gg ∧ s24 = .int .i64 kk ∧ Aside0 (OwnD wr W4.heap.size v ((defs.take kk).filter (inR re))) ∧ Aside0 (Below w3.heap.size W4 wr) ∧ W4.heap.size ≤ wr.heap.size ∧ Aside0 (wr.heap[w3.heap.size]? = some (.cells #[v] 53 (0, 0))) ∧ Aside0 (OwnS wr W1.heap.size (.slice Ar re.length cr) re))
    case atStart => exact ⟨0, _, Nat.zero_le _, by omega, rfl, ⟨Kd.R_nil _ _ _ _ _⟩, ⟨Below.refl _ _⟩, Nat.le_refl _, BV, HRo⟩
    case round =>
      obtain ⟨kk, v, hkk, hg, rfl, HO, HB, hsz, BV, CR⟩ := hrel
      have HQ := Aside0.mk (Q.out.trans (HB.out.mono (by omega)))
      by_cases hlt : kk < defs.length
      · have hltz : (kk : Int) < (defs.length : Int) := by omega
        obtain ⟨ad, g0, g1, g2, g3, g4, g5, rfl, hK, hcells, y0, y1, y2, y3, y4, y5⟩ := gett6 rfl (Kd.C_below HR.out HQ.out) kk hlt
        have hFK := elemF HF.out kk hlt rfl hcells (fun p v hp hv => (HQ.out).cell (World.block_lt_of_cell? _ _ hv) |>.trans hv) (by decide)
        have hmem := List.getElem_mem hlt
        obtain ⟨dd, hdd⟩ : ∃ dd, defs[kk] = dd := ⟨_, rfl⟩
        have HK := Lib.hid (show defs[kk]? = some dd by rw [List.getElem?_eq_getElem hlt, hdd])
        rw [hdd] at hFK hmem
        obtain ⟨Z1, z1, Z2, z2, Z5, z5, he, _⟩ := k58_openF hFK
        obtain ⟨rfl, rfl, rfl, rfl, rfl, rfl⟩ : g0 = _ ∧ g1 = _ ∧ g2 = _ ∧ g3 = _ ∧ g4 = _ ∧ g5 = _ := by simpa using he
        have HDd := Lib.hid hdd
        have HFk := Lib.hid (show Kd.FK k58 wr (fun k => k < (wr).heap.size) dd [.string dd.f0, .slice Z1 dd.f1.length z1, .slice Z2 dd.f2.length z2, .int .i64 dd.f3.f0, .string dd.f3.f1, .slice Z5 dd.f3.f2.length z5] from Kd.FK_mono (Kd.FK_below hFK (HQ.out)) (fun k hk => by have := (HQ.out).size; omega))
        clear hK hcells hFK he hdd
        have hod := hoo _ hmem
        have hxl : ((defs.take kk).filter (inR re)).length ≤ 100000 := Nat.le_trans (List.length_filter_le _ _) (by rw [List.length_take]; omega)
        have hsn := filter_take_snoc (p := inR re) HK.out
        obtain ⟨xs, hxs⟩ : ∃ xs, (defs.take kk).filter (inR re) = xs := ⟨_, rfl⟩
        rw [hxs] at HO hsn hxl
        have HTs := Lib.hid hsn
        obtain ⟨A9, c9, hv⟩ := Kd.R_slice HO.out
        subst hv
        have HO1 := HO
        clear hsn hxs
        obtain ⟨W0, hW0⟩ : ∃ W0, wr.alloc (.cells #[.string dd.f0, .slice Z1 dd.f1.length z1, .slice Z2 dd.f2.length z2, .int .i64 dd.f3.f0, .string dd.f3.f1, .slice Z5 dd.f3.f2.length z5] 58) = W0 := ⟨_, rfl⟩
        have q0 : Below wr.heap.size wr W0 := by rw [← hW0]; exact below_alloc1 _ _
        have s0 : W0.heap.size = wr.heap.size + 1 := by rw [← hW0]; simp
        have bx : W0.heap[wr.heap.size]? = some (.cells #[.string dd.f0, .slice Z1 dd.f1.length z1, .slice Z2 dd.f2.length z2, .int .i64 dd.f3.f0, .string dd.f3.f1, .slice Z5 dd.f3.f2.length z5] 58 (0, 0)) := by rw [← hW0]; exact alloc_at _ _
        have hnW : W4.heap.size ≤ W0.heap.size := by omega
        have HBX := Aside0.mk (show W0.drew.heap[wr.heap.size]? = _ from bx)
        have HB3 := Aside0.mk (show W0.drew.heap[w3.heap.size]? = _ from blk_below (w1 := W0) BV.out q0)
        have HO0 := Aside0.mk (Kd.R_below (Kd.R_below HO.out q0) (below_drew (Below.refl _ _)))
        have HNx := Lib.hid (show some wr.heap.size ≠ (Value.slice A9 xs.length c9).ownBlock from fun he => by have := ((Kd.R_bound HO.out).1 _ he.symm).2.2.1; omega)
        have HNe := Lib.hid (fun (k : Nat) (hk : W0.heap.size ≤ k) => show True ∧ some k ≠ (Value.slice A9 xs.length c9).ownBlock from ⟨trivial, fun he => by have := ((Kd.R_bound HO.out).1 k he.symm).2.2.1; omega⟩)
        have HNr := Lib.hid (fun (k : Nat) (hk : some k = (Value.slice A9 xs.length c9).ownBlock) => show W4.heap.size ≤ k from ((Kd.R_bound HO.out).1 k hk.symm).2.1)
        have hFK0 : Kd.FK k58 W0.drew (fun k => k < W0.drew.heap.size) dd [.string dd.f0, .slice Z1 dd.f1.length z1, .slice Z2 dd.f2.length z2, .int .i64 dd.f3.f0, .string dd.f3.f1, .slice Z5 dd.f3.f2.length z5] := Kd.FK_mono (Kd.FK_below (Kd.FK_below HFk.out q0) (below_drew (Below.refl _ _))) (fun k hk => by show k < W0.heap.size; omega)
        have HC := Lib.hid (c_own dd _ W0.drew hFK0 hod.c hod.p hod.v hod.b hod.z)
        have HBq := Lib.hid (show Below (w3.heap.size) W4 W0 from HB.out.trans (q0.mono (by omega)))
        have HHW := Lib.hid hW0
        have HQ0 := Aside0.mk q0
        have hSd : (fun W => OeS W4.heap.size W0 wr.heap.size (.string dd.f0) (.slice Z1 dd.f1.length z1) (.slice Z2 dd.f2.length z2) (.int .i64 dd.f3.f0) (.string dd.f3.f1) (.slice Z5 dd.f3.f2.length z5) W ∧ W.cell? ⟨w3.heap.size, 0, none⟩ = some (.slice A9 xs.length c9)) W0.drew := ⟨OeS.of (below_drew (Below.refl _ _)) (Nat.le_refl _) HBX.out, (blk_cell HB3.out 0).trans rfl⟩
        clear hW0 q0 bx hFK0 HO hod
        have CR0 := Aside0.mk (OwnS.after CR.out HQ0.out)
        have HBV1 := Aside0.mk (blk_below BV.out HQ0.out)
        have HI1 := Lib.hid (c_ContS Ar cr re dd.f0 W0 (by obtain ⟨_, _, he, _, h⟩ := OwnS.reads CR0.out; cases he; exact h) hcr)
        cases hm2 : re.any (fun x => decide (x = dd.f0)) with
        | false =>
          rw [hm2] at HI1
          have HM2 := Lib.hid hm2
          clear hm2
          go_wp2_with fail
          rw [HHW.out]
          refine HI1.out.mono ?_
          rintro en w' ⟨rfl, hw⟩
          have hw := hw.symm
          subst hw
          go_wp2_with fail
          go_roundg (defs.length - (kk + 1))
          case measure => omega
          case rel => exact ⟨kk + 1, _, by omega, by omega, by go_num, ⟨by
            have e1 : inR re dd = false := HM2.out
            rw [HTs.out, if_neg (by simp [e1]), List.append_nil]
            exact Kd.R_below HO1.out HQ0.out⟩, ⟨HBq.out.mono (by omega)⟩, by omega, HBV1, CR0⟩
        | true =>
          rw [hm2] at HI1
          have HM2 := Lib.hid hm2
          clear hm2
          go_wp2_with fail
          rw [HHW.out]
          refine HI1.out.mono ?_
          rintro en w' ⟨rfl, hw⟩
          have hw := hw.symm
          subst hw
          go_upto_region 9 with fail
          refine wp_region_K (S := fun W => OeS W4.heap.size W0 wr.heap.size (.string dd.f0) (.slice Z1 dd.f1.length z1) (.slice Z2 dd.f2.length z2) (.int .i64 dd.f3.f0) (.string dd.f3.f1) (.slice Z5 dd.f3.f2.length z5) W ∧ W.cell? ⟨w3.heap.size, 0, none⟩ = some (.slice A9 xs.length c9)) (k := 7) (by kernel_rfl) ?_
          change wpAnyK _ _ _ _ _ _ 8 (Array.replicate 8 false) _ _
          refine wpAnyK_take (i := 0) (v := ?_) rfl (by kernel_rfl) (by kernel_rfl) (by kernel_rfl) (by kernel_rfl) (fun _ _ _ h => h) hSd (Or.inl ⟨by rfl, ?_⟩) ?_
          rotate_left 1
          (intro w hSw; (try dsimp only at hSw); go_simp; try (with_reducible rfl))
          (try simp only [List.getElem_toArray, List.getElem_cons_succ, List.getElem_cons_zero]); (try dsimp only [Act.put]); (try simp only [List.setIfInBounds_toArray, List.set_cons_zero, List.set_cons_succ])
          refine wpAnyK_take (i := 1) (v := ?_) rfl (by kernel_rfl) (by kernel_rfl) (by kernel_rfl) (by kernel_rfl) (fun _ _ _ h => h) hSd (Or.inl ⟨by rfl, ?_⟩) ?_
          rotate_left 1
          (intro w hSw; (try dsimp only at hSw); go_simp; try (with_reducible rfl))
          (try simp only [List.getElem_toArray, List.getElem_cons_succ, List.getElem_cons_zero]); (try dsimp only [Act.put]); (try simp only [List.setIfInBounds_toArray, List.set_cons_zero, List.set_cons_succ])
          refine wpAnyK_take (i := 2) (v := ?_) rfl (by kernel_rfl) (by kernel_rfl) (by kernel_rfl) (by kernel_rfl) (fun _ _ _ h => h) hSd (Or.inl ⟨by rfl, ?_⟩) ?_
          rotate_left 1
          (intro w hSw; (try dsimp only at hSw); go_simp; try (with_reducible rfl))
          (try simp only [List.getElem_toArray, List.getElem_cons_succ, List.getElem_cons_zero]); (try dsimp only [Act.put]); (try simp only [List.setIfInBounds_toArray, List.set_cons_zero, List.set_cons_succ])
          refine wpAnyK_one (i := 3) (by kernel_rfl) rfl (fun K hK => ?_)
          go_simp
          go_at_call 79
          (with_reducible refine HC.out.mono ?_)
          rintro e wE ⟨v1, v2, v5, rfl, hT, hCs, hE, hbE⟩
          have HB3 := Aside0.mk (blk_below HB3.out hbE)
          have HBX := Aside0.mk (blk_below HBX.out hbE)
          have k3 := (blk_cell HB3.out 0).trans rfl
          have hbW : Below W0.heap.size W0 wE := (below_drew (Below.refl _ _)).trans hbE
          have hszE : W0.heap.size ≤ wE.heap.size := hbE.size
          have HSb := Lib.hid (hbW.mono hnW)
          have hSd : (fun W => OeS W4.heap.size W0 wr.heap.size (.string dd.f0) (.slice Z1 dd.f1.length z1) (.slice Z2 dd.f2.length z2) (.int .i64 dd.f3.f0) (.string dd.f3.f1) (.slice Z5 dd.f3.f2.length z5) W ∧ W.cell? ⟨w3.heap.size, 0, none⟩ = some (.slice A9 xs.length c9)) wE := ⟨OeS.of (hbW.mono hnW) hszE HBX.out, k3⟩
          have HO0 := Aside0.mk (Kd.R_below HO0.out hbE)
          obtain ⟨At, ct, ht⟩ := Kd.R_slice hT
          obtain ⟨Ac, cc, hcc⟩ := Kd.R_slice hCs
          obtain ⟨Ae, ce, he⟩ := Kd.R_slice hE
          subst ht
          subst hcc
          subst he
          have HM := Aside0.mk (k58_mkM wE W4.heap.size (fun k => W0.heap.size ≤ k) dd (Kd.R_lower (Kd.R_mono (Kd.R_bound hT) (ok' := fun k => W0.heap.size ≤ k) (fun k hk => hk.2.1)) hnW) (Kd.R_lower (Kd.R_mono (Kd.R_bound hCs) (ok' := fun k => W0.heap.size ≤ k) (fun k hk => hk.2.1)) hnW) (Kd.R_lower (Kd.R_mono (Kd.R_bound hE) (ok' := fun k => W0.heap.size ≤ k) (fun k hk => hk.2.1)) hnW))
          have CR1 := Aside0.mk (OwnS.after (OwnS.after CR0.out (below_drew (Below.refl _ _))) hbE)
          clear hT hCs hE hbE hbW
          refine hK.out _ _ (fun _ => hSd) ?_
          clear hK
          refine wpAnyK_one (i := 4) (by kernel_rfl) rfl (fun K hK => ?_)
          go_simp
          have hSd : (fun W => OeS W4.heap.size W0 wr.heap.size (.string dd.f0) (.slice Z1 dd.f1.length z1) (.slice Z2 dd.f2.length z2) (.int .i64 dd.f3.f0) (.string dd.f3.f1) (.slice Z5 dd.f3.f2.length z5) W ∧ W.cell? ⟨w3.heap.size, 0, none⟩ = some (.slice A9 xs.length c9)) (wE.alloc (.cells #[.string dd.f0, .slice At dd.f1.length ct, .slice Ac dd.f2.length cc, .int .i64 dd.f3.f0, .string dd.f3.f1, .slice Ae dd.f3.f2.length ce] 58)) := ⟨OeS.of (HSb.out.trans ((below_alloc1 _ _).mono (by omega))) (by rw [World.size_alloc]; omega) (blk_alloc HBX.out _), pw_cell_below (below_alloc1 _ _) k3⟩
          refine hK.out _ _ (fun _ => hSd) ?_
          clear hK
          refine wpAnyK_one (i := 5) (by kernel_rfl) rfl (fun K hK => ?_)
          refine Kd.R_append_step k58 (w0 := wE) (W := wE) W4.heap.size (by rfl) (.tmp 33) (.tmp 36) 51 58 _ 112 rfl Try.underlying51 infoDe rfl (by decide) (by decide) (.slice A9 xs.length c9) xs dd [.string dd.f0, .slice At dd.f1.length ct, .slice Ac dd.f2.length cc, .int .i64 dd.f3.f0, .string dd.f3.f1, .slice Ae dd.f3.f2.length ce] (fun _ => True) (fun k => W0.heap.size ≤ k) rfl rfl HM.out HNe.out (fun _ _ => trivial) HO0.out (Below.refl _ _) (by omega) (by omega) ?_
          intro v9 w9 hR9 hB9 hg9 hat9
          
          have HB9 := Aside0.mk (blk_grown HB3.out hg9 (fun he => by have := HNr.out _ he; omega))
          have HX9 := blk_grown HBX.out hg9 (fun he => HNx.out he)
          have k9 := (blk_cell HB9.out 0).trans rfl
          have f9 := blk_frozen HB9.out 0
          have hSd : (fun W => OeS W4.heap.size W0 wr.heap.size (.string dd.f0) (.slice Z1 dd.f1.length z1) (.slice Z2 dd.f2.length z2) (.int .i64 dd.f3.f0) (.string dd.f3.f1) (.slice Z5 dd.f3.f2.length z5) W ∧ W.cell? ⟨w3.heap.size, 0, none⟩ = some (.slice A9 xs.length c9)) w9 := ⟨OeS.of (HSb.out.trans hB9) (Nat.le_trans hszE hB9.size) HX9, k9⟩
          obtain ⟨Az, cz, hvz⟩ := Kd.R_slice hR9
          rw [show (xs ++ [dd]).length = xs.length + 1 from by simp] at hvz
          subst hvz
          have HR9 := Aside0.mk hR9
          have HBB9 := Lib.hid hB9
          have hs9 := hB9.size
          have CR9 := Aside0.mk (own_far CR1.out hg9 (fun k hk he => by have := HNr.out _ he.symm; have := (HLt.out k hk).2; omega))
          clear hR9 hB9 hg9 hat9 HX9
          refine hK.out _ _ (fun _ => hSd) ?_
          clear hK
          refine wpAnyK_take (i := 6) (v := ?_) rfl (by kernel_rfl) (by kernel_rfl) (by kernel_rfl) (by kernel_rfl) (fun _ _ _ h => h) hSd (Or.inl ⟨by rfl, ?_⟩) ?_
          rotate_left 1
          (intro w hSw; (try dsimp only at hSw); go_simp; try (with_reducible rfl))
          (try simp only [List.getElem_toArray, List.getElem_cons_succ, List.getElem_cons_zero]); (try dsimp only [Act.put]); (try simp only [List.setIfInBounds_toArray, List.set_cons_zero, List.set_cons_succ])
          refine wpAnyK_one (i := 7) (by kernel_rfl) rfl (fun K hK => ?_)
          go_simp
          refine hK.out _ _ (fun h => absurd rfl h) ?_
          clear hK hSd
          refine wpAnyK_done (by kernel_rfl) ?_ _
          clear k3
          go_wp2
          go_roundg (defs.length - (kk + 1))
          case measure => omega
          case rel => exact ⟨kk + 1, _, by omega, by omega, by go_num, ⟨by
            have e1 : inR re dd = true := HM2.out
            rw [HTs.out, if_pos e1]
            exact Kd.R_mono (Kd.R_far (Kd.R_mono (Kd.R_bound HR9.out) (ok' := fun k => W4.heap.size ≤ k) (fun k hk => hk.2.1)) (p := ⟨w3.heap.size, 0, none⟩) (fun k hk => by show k ≠ w3.heap.size; omega) _) (fun _ _ => trivial)⟩, ⟨(HBq.out.trans ((HSb.out.trans HBB9.out).mono (by omega))).setCell (by simp only; omega) _⟩, by simp only [World.setCell, Array.size_modify]; omega, ⟨blk_put HB9.out 0 _ rfl⟩, ⟨own_move CR9.out (fun k hk => Below.heap_setCell _ _ _ _ (by have := (HLt.out k hk).2; simp only; omega))⟩⟩
      · have : kk = defs.length := by omega
        subst this
        have hOl := HO.out
        rw [List.take_length, ← HOn.out] at hOl
        obtain ⟨A9, c9, hv⟩ := Kd.R_slice hOl
        subst hv
        have HOl := Aside0.mk hOl
        have k5 := (blk_cell BV.out 0).trans rfl
        have k6 := (blk_cell (show wr.heap[w.heap.size + 1]? = _ from (HB.out.block _ (by omega)).trans B1.out) 0).trans rfl
        have f6 := blk_frozen (show wr.heap[w.heap.size + 1]? = _ from (HB.out.block _ (by omega)).trans B1.out) 0
        clear hOl
        go_wp2
        have b4 := blk_put (show wr.heap[w.heap.size + 1]? = _ from (HB.out.block _ (by omega)).trans B1.out) 0 (.slice A9 (onlyE defs s).length c9) rfl
        refine bodyPost_ret (results_ct rfl _ _ _ _ _ _ _ rfl b4 Try.underlying53 rfl (by kernel_rfl)) rfl ?_
        exact ⟨_, (by rw [hz]; rfl), Kd.R_lower (Kd.R_mono (Kd.R_far (Kd.R_mono (Kd.R_bound HOl.out) (ok' := fun k => W4.heap.size ≤ k) (fun k hk => hk.2.1)) (p := ⟨w.heap.size + 1, 0, none⟩) (fun k hk => by show k ≠ w.heap.size + 1; omega) _) (fun _ _ => trivial)) (by omega), HQ.out.setCell (by simp only; omega) _⟩
end Go.Proofs.Ytacefdkfbpgedaa.Mine
namespace Go.Proofs.Ytacefdkfbpgedaa.Mine
open Go.Proofs.Ytacefdkfbpgedaa.PProgExprs
open Go.RowKit Go.Shelf Go.Proofs.YtacefdkfbpgedaaW.PrintWords Go.Proofs.YtacefdkfbpgedaaW.PrintLast Go.Proofs.YtacefdkfbpgedaaW.PrintMore
set_option linter.unusedVariables false
set_option linter.unusedSimpArgs false
def bigC (c : Ca) : Bool := decide ((40 : Int) < (c.f0.size : Int)) || (longS c.f1 || bigE c.f2)
def bigD (d : De) : Bool := decide ((40 : Int) < (d.f0.size : Int)) || (longS d.f1 || (bigE d.f3 || (decide ((10 : Int) < (d.f2.length : Int)) || d.f2.any bigC)))
end Go.Proofs.Ytacefdkfbpgedaa.Mine
namespace Go.Proofs.Ytacefdkfbpgedaa.Mine
open Go.Proofs.Ytacefdkfbpgedaa.PProgExprs
open Go.RowKit Go.Shelf Go.Proofs.YtacefdkfbpgedaaW.PrintWords Go.Proofs.YtacefdkfbpgedaaW.PrintLast Go.Proofs.YtacefdkfbpgedaaW.PrintMore
set_option linter.unusedVariables false
set_option linter.unusedSimpArgs false
theorem longS_len {l : List ByteArray} (h : longS l = false) : l.length ≤ 12 ∧ ∀ s ∈ l, s.size ≤ 40 := by
  rw [longS, Bool.or_eq_false_iff, decide_eq_false_iff_not, List.any_eq_false] at h
  exact ⟨by omega, fun s hs => by have := h.2 s hs; simp at this; omega⟩
theorem bigC_ok {c : Ca} (h : bigC c = false) : c.f0.size ≤ 40 ∧ c.f1.length ≤ 12 ∧ (∀ s ∈ c.f1, s.size ≤ 40) ∧ szE c.f2 ≤ 60 := by
  rw [bigC, Bool.or_eq_false_iff, Bool.or_eq_false_iff, decide_eq_false_iff_not] at h
  obtain ⟨h1, h2, h3⟩ := h
  exact ⟨by omega, (longS_len h2).1, (longS_len h2).2, bigE_sz h3⟩
theorem bigD_ok {d : De} (h : bigD d = false) : d.f0.size ≤ 40 ∧ d.f1.length ≤ 12 ∧ (∀ s ∈ d.f1, s.size ≤ 40) ∧ szE d.f3 ≤ 60 ∧ d.f2.length ≤ 10 ∧ ∀ c ∈ d.f2, bigC c = false := by
  rw [bigD, Bool.or_eq_false_iff, Bool.or_eq_false_iff, Bool.or_eq_false_iff, Bool.or_eq_false_iff, decide_eq_false_iff_not, decide_eq_false_iff_not, List.any_eq_false] at h
  obtain ⟨h1, h2, h3, h4, h5⟩ := h
  exact ⟨by omega, (longS_len h2).1, (longS_len h2).2, bigE_sz h3, by omega, fun c hc => by have := h5 c hc; simpa using this⟩
theorem szL_le {l : List Ex} {k : Nat} (h : ∀ x ∈ l, szE x ≤ k) : szL l ≤ l.length * k := by
  induction l with
  | nil => simp [szL]
  | cons x xs ih =>
    rw [szL, List.length_cons, Nat.add_mul, Nat.one_mul]
    have h1 := h x (by simp)
    have h2 := ih (fun y hy => h y (by simp [hy]))
    omega
theorem bodies_ok {d : De} (h : bigD d = false) : (bodiesD d).length ≤ 10 ∧ ∀ b ∈ bodiesD d, szE b ≤ 60 := by
  obtain ⟨_, _, _, h3, h4, h5⟩ := bigD_ok h
  unfold bodiesD
  split
  · exact ⟨by simp, fun b hb => by simp at hb; subst hb; exact h3⟩
  · refine ⟨by simpa using h4, fun b hb => ?_⟩
    obtain ⟨c, hc, rfl⟩ := List.mem_map.1 hb
    exact (bigC_ok (h5 c hc)).2.2.2
theorem bigD_okD {d : De} (h : bigD d = false) : OkD d := by
  have hb := bodies_ok h
  obtain ⟨h0, h1, h2, h3, h4, h5⟩ := bigD_ok h
  have hn : 40 ≤ nmLim := by decide
  refine ⟨by omega, by omega, fun c hc => ?_, fun b hb' => ?_, fun s hs => ?_, fun c hc => ?_, fun c hc s hs => ?_⟩
  · have := (bigC_ok (h5 c hc)).2.1; omega
  · have := hb.2 b hb'; omega
  · have := h2 s hs; omega
  · have := (bigC_ok (h5 c hc)).1; omega
  · have := (bigC_ok (h5 c hc)).2.2.1 s hs; omega
theorem bigD_okO {d : De} (h : bigD d = false) : OkO d := by
  obtain ⟨h0, h1, h2, h3, h4, h5⟩ := bigD_ok h
  refine ⟨by omega, by omega, fun c hc => ?_, by omega, fun c hc => ?_⟩
  · have := (bigC_ok (h5 c hc)).2.1; omega
  · have := (bigC_ok (h5 c hc)).2.2.2; omega
theorem find_yes {defs : List De} {s : ByteArray} (h : (findP defs s).2 = 0) : checkP defs = 0 ∧ 0 ≤ numD defs s ∧ (findP defs s).1 = numD defs s ∧ callsP defs s = callsOf defs s ∧ reachE defs s = reachP defs s ∧ onlyE defs s = onlyP defs s := by
  obtain ⟨h1, i, h2, h3, h4⟩ := findP_ok h
  exact ⟨h1, by omega, by omega, if_pos h, if_pos h, if_pos h⟩
end Go.Proofs.Ytacefdkfbpgedaa.Mine
