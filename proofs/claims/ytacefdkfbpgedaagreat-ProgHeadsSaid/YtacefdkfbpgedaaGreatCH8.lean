/- The reference's Bodies and all. -/
import Derived.Test.YtacefdkfbpgedaaGreatCH3
import Derived.Deep.QuietTactic
import Derived.BigQuiet
import Derived.Test.YtacefdkfbpgedaaGreatCH4
import Derived.Test.YtacefdkfbpgedaaGreatCH5
import Derived.Deep.RegionLaw
import Derived.Deep.DeepMust
import Derived.Deep.DeepCutAuto
import Derived.BigRegion
namespace Go.Proofs.YtacefdkfbpgedaaGreat.Mine
open Go.Proofs.YtacefdkfbpgedaaGreat.PProgSmall
open Go.RowKit Go.Shelf Go.Proofs.YtacefdkfbpgedaaGreatW.PrintWords Go.Proofs.YtacefdkfbpgedaaGreatW.PrintLast Go.Proofs.YtacefdkfbpgedaaGreatW.PrintMore
set_option linter.unusedVariables false
set_option linter.unusedSimpArgs false
end Go.Proofs.YtacefdkfbpgedaaGreat.Mine
namespace Go.Proofs.YtacefdkfbpgedaaGreat.Mine
open Go.Proofs.YtacefdkfbpgedaaGreat.PProgSmall
open Go.RowKit Go.Shelf Go.Proofs.YtacefdkfbpgedaaGreatW.PrintWords Go.Proofs.YtacefdkfbpgedaaGreatW.PrintLast Go.Proofs.YtacefdkfbpgedaaGreatW.PrintMore
set_option linter.unusedVariables false
set_option linter.unusedSimpArgs false
end Go.Proofs.YtacefdkfbpgedaaGreat.Mine
namespace Go.Proofs.YtacefdkfbpgedaaGreat.Mine
open Go.Proofs.YtacefdkfbpgedaaGreat.PProgSmall
open Go.RowKit Go.Shelf Go.Proofs.YtacefdkfbpgedaaGreatW.PrintWords Go.Proofs.YtacefdkfbpgedaaGreatW.PrintLast Go.Proofs.YtacefdkfbpgedaaGreatW.PrintMore
set_option linter.unusedVariables false
set_option linter.unusedSimpArgs false
end Go.Proofs.YtacefdkfbpgedaaGreat.Mine
namespace Go.Proofs.YtacefdkfbpgedaaGreat.Mine
open Go.Proofs.YtacefdkfbpgedaaGreat.PProgSmall
open Go.RowKit Go.Shelf Go.Proofs.YtacefdkfbpgedaaGreatW.PrintWords Go.Proofs.YtacefdkfbpgedaaGreatW.PrintLast Go.Proofs.YtacefdkfbpgedaaGreatW.PrintMore
set_option linter.unusedVariables false
set_option linter.unusedSimpArgs false
theorem cell_keep {n : Nat} {W W' : World} {p : Addr} {v : Value} (hb : Below n W W') (hp : p.block < n) (h : W.cell? p = some v) : W'.cell? p = some v := (hb.cell hp).trans h
abbrev DbS (W0 : World) (B : Nat) (P C : Value) (p : Addr) (v : Value) (W : World) : Prop := Below W0.heap.size W0 W ∧ W.cell? ⟨B, 1, none⟩ = some P ∧ W.cell? ⟨B, 2, none⟩ = some C ∧ W.cell? p = some v
theorem DbS.step {W0 : World} {B : Nat} {P C : Value} {p : Addr} {v : Value} {W W' : World} (h : DbS W0 B P C p v W) (hB : B < W0.heap.size) (hp : p.block < W0.heap.size) (hb : Below W0.heap.size W W') : DbS W0 B P C p v W' := by
  obtain ⟨h0, h1, h2, h3⟩ := h
  exact ⟨h0.trans hb, cell_keep hb hB h1, cell_keep hb hB h2, cell_keep hb hp h3⟩
end Go.Proofs.YtacefdkfbpgedaaGreat.Mine
namespace Go.Proofs.YtacefdkfbpgedaaGreat.Mine
open Go.Proofs.YtacefdkfbpgedaaGreat.PProgSmall
open Go.RowKit Go.Shelf Go.Proofs.YtacefdkfbpgedaaGreatW.PrintWords Go.Proofs.YtacefdkfbpgedaaGreatW.PrintLast Go.Proofs.YtacefdkfbpgedaaGreatW.PrintMore
set_option linter.unusedVariables false
set_option linter.unusedSimpArgs false
abbrev DcS (W0 : World) (B : Nat) (P C : Value) (p : Addr) (v0 v1 v2 v3 : Value) (W : World) : Prop := Below W0.heap.size W0 W ∧ W.cell? ⟨B, 1, none⟩ = some P ∧ W.cell? ⟨B, 2, none⟩ = some C ∧ W.cell? ⟨p.block, p.off + 1, none⟩ = some v0 ∧ W.cell? ⟨p.block, p.off + 2, none⟩ = some v1 ∧ W.cell? ⟨p.block, p.off + 3, none⟩ = some v2 ∧ W.cell? ⟨p.block, p.off + 4, none⟩ = some v3
theorem DcS.step {W0 : World} {B : Nat} {P C : Value} {p : Addr} {v0 v1 v2 v3 : Value} {W W' : World} (h : DcS W0 B P C p v0 v1 v2 v3 W) (hB : B < W0.heap.size) (hp : p.block < W0.heap.size) (hb : Below W0.heap.size W W') : DcS W0 B P C p v0 v1 v2 v3 W' := by
  obtain ⟨h0, h1, h2, h3, h4, h5, h6⟩ := h
  exact ⟨h0.trans hb, cell_keep hb hB h1, cell_keep hb hB h2, cell_keep hb hp h3, cell_keep hb hp h4, cell_keep hb hp h5, cell_keep hb hp h6⟩
end Go.Proofs.YtacefdkfbpgedaaGreat.Mine
namespace Go.Proofs.YtacefdkfbpgedaaGreat.Mine
open Go.Proofs.YtacefdkfbpgedaaGreat.PProgSmall
open Go.RowKit Go.Shelf Go.Proofs.YtacefdkfbpgedaaGreatW.PrintWords Go.Proofs.YtacefdkfbpgedaaGreatW.PrintLast Go.Proofs.YtacefdkfbpgedaaGreatW.PrintMore
set_option linter.unusedVariables false
set_option linter.unusedSimpArgs false
abbrev FdS (W0 : World) (B : Nat) (P : Value) (p : Addr) (v : Value) (W : World) : Prop := Below W0.heap.size W0 W ∧ W.cell? ⟨B, 0, none⟩ = some P ∧ W.cell? p = some v
theorem FdS.step {W0 : World} {B : Nat} {P : Value} {p : Addr} {v : Value} {W W' : World} (h : FdS W0 B P p v W) (hb : Below W.heap.size W W') : FdS W0 B P p v W' := by
  obtain ⟨h0, h1, h2⟩ := h
  exact ⟨h0.trans (hb.mono h0.size), pw_cell_below hb h1, pw_cell_below hb h2⟩
end Go.Proofs.YtacefdkfbpgedaaGreat.Mine
namespace Go.Proofs.YtacefdkfbpgedaaGreat.Mine
open Go.Proofs.YtacefdkfbpgedaaGreat.PProgSmall
open Go.RowKit Go.Shelf Go.Proofs.YtacefdkfbpgedaaGreatW.PrintWords Go.Proofs.YtacefdkfbpgedaaGreatW.PrintLast Go.Proofs.YtacefdkfbpgedaaGreatW.PrintMore
set_option linter.unusedVariables false
set_option linter.unusedSimpArgs false
abbrev RcS (W0 : World) (B : Nat) (P : Value) (p : Addr) (g0 g1 g2 g3 g4 g5 : Value) (W : World) : Prop := Below W0.heap.size W0 W ∧ W.cell? ⟨B, 0, none⟩ = some P ∧ W.cell? p = some g0 ∧ W.cell? ⟨p.block, p.off + 1, none⟩ = some g1 ∧ W.cell? ⟨p.block, p.off + 2, none⟩ = some g2 ∧ W.cell? ⟨p.block, p.off + 3, none⟩ = some g3 ∧ W.cell? ⟨p.block, p.off + 4, none⟩ = some g4 ∧ W.cell? ⟨p.block, p.off + 5, none⟩ = some g5
theorem RcS.step {W0 : World} {B : Nat} {P : Value} {p : Addr} {g0 g1 g2 g3 g4 g5 : Value} {W W' : World} (h : RcS W0 B P p g0 g1 g2 g3 g4 g5 W) (hb : Below W.heap.size W W') : RcS W0 B P p g0 g1 g2 g3 g4 g5 W' := by
  obtain ⟨h0, h1, h2, h3, h4, h5, h6, h7⟩ := h
  exact ⟨h0.trans (hb.mono h0.size), pw_cell_below hb h1, pw_cell_below hb h2, pw_cell_below hb h3, pw_cell_below hb h4, pw_cell_below hb h5, pw_cell_below hb h6, pw_cell_below hb h7⟩
theorem numD_at {defs : List De} {s : ByteArray} (h : 0 ≤ numD defs s) : ∃ i : Nat, numD defs s = (i : Int) ∧ ∃ hi : i < defs.length, (defs[i]'hi).f0 = s := by
  unfold numD idxB at h ⊢
  split at h
  · next ha =>
    obtain ⟨d, hd, e⟩ := List.any_eq_true.1 ha
    have hlt := List.findIdx_lt_length_of_exists (p := fun x : De => decide (x.f0 = s)) (xs := defs) ⟨d, hd, e⟩
    refine ⟨defs.findIdx (fun x => decide (x.f0 = s)), by rw [if_pos ha], hlt, ?_⟩
    have := List.findIdx_getElem (w := hlt)
    simpa using this
  · omega
abbrev RrS (W0 : World) (B : Nat) (P : Value) (p : Addr) (s : ByteArray) (W : World) : Prop := Below W0.heap.size W0 W ∧ W.cell? ⟨B, 0, none⟩ = some P ∧ W.cell? p = some (.string s)
theorem RrS.step {W0 : World} {B : Nat} {P : Value} {p : Addr} {s : ByteArray} {W W' : World} (h : RrS W0 B P p s W) (hb : Below W.heap.size W W') : RrS W0 B P p s W' := by
  obtain ⟨h0, h1, h2⟩ := h
  exact ⟨h0.trans (hb.mono h0.size), pw_cell_below hb h1, pw_cell_below hb h2⟩
end Go.Proofs.YtacefdkfbpgedaaGreat.Mine
namespace Go.Proofs.YtacefdkfbpgedaaGreat.Mine
open Go.Proofs.YtacefdkfbpgedaaGreat.PProgSmall
open Go.RowKit Go.Shelf Go.Proofs.YtacefdkfbpgedaaGreatW.PrintWords Go.Proofs.YtacefdkfbpgedaaGreatW.PrintLast Go.Proofs.YtacefdkfbpgedaaGreatW.PrintMore
set_option linter.unusedVariables false
set_option linter.unusedSimpArgs false
end Go.Proofs.YtacefdkfbpgedaaGreat.Mine
namespace Go.Proofs.YtacefdkfbpgedaaGreat.Mine
open Go.Proofs.YtacefdkfbpgedaaGreat.PProgSmall
open Go.RowKit Go.Shelf Go.Proofs.YtacefdkfbpgedaaGreatW.PrintWords Go.Proofs.YtacefdkfbpgedaaGreatW.PrintLast Go.Proofs.YtacefdkfbpgedaaGreatW.PrintMore
set_option linter.unusedVariables false
set_option linter.unusedSimpArgs false
abbrev SmS (W0 : World) (b6 b7 : Nat) (C6 C7 : Value) (p : Addr) (u0 u1 u2 u3 u4 : Value) (q : Addr) (v0 v1 v2 v3 v4 : Value) (W : World) : Prop := Below W0.heap.size W0 W ∧ W.cell? ⟨b6, 2, none⟩ = some C6 ∧ W.cell? ⟨b7, 2, none⟩ = some C7 ∧
  W.cell? p = some u0 ∧ W.cell? ⟨p.block, p.off + 1, none⟩ = some u1 ∧ W.cell? ⟨p.block, p.off + 2, none⟩ = some u2 ∧ W.cell? ⟨p.block, p.off + 3, none⟩ = some u3 ∧ W.cell? ⟨p.block, p.off + 4, none⟩ = some u4 ∧
  W.cell? q = some v0 ∧ W.cell? ⟨q.block, q.off + 1, none⟩ = some v1 ∧ W.cell? ⟨q.block, q.off + 2, none⟩ = some v2 ∧ W.cell? ⟨q.block, q.off + 3, none⟩ = some v3 ∧ W.cell? ⟨q.block, q.off + 4, none⟩ = some v4
theorem SmS.step {W0 : World} {b6 b7 : Nat} {C6 C7 : Value} {p : Addr} {u0 u1 u2 u3 u4 : Value} {q : Addr} {v0 v1 v2 v3 v4 : Value} {W W' : World} (h : SmS W0 b6 b7 C6 C7 p u0 u1 u2 u3 u4 q v0 v1 v2 v3 v4 W) (hb : Below W.heap.size W W') : SmS W0 b6 b7 C6 C7 p u0 u1 u2 u3 u4 q v0 v1 v2 v3 v4 W' := by
  obtain ⟨h0, h1, h2, h3, h4, h5, h6, h7, h8, h9, h10, h11, h12⟩ := h
  exact ⟨h0.trans (hb.mono h0.size), pw_cell_below hb h1, pw_cell_below hb h2, pw_cell_below hb h3, pw_cell_below hb h4, pw_cell_below hb h5, pw_cell_below hb h6, pw_cell_below hb h7, pw_cell_below hb h8, pw_cell_below hb h9, pw_cell_below hb h10, pw_cell_below hb h11, pw_cell_below hb h12⟩
end Go.Proofs.YtacefdkfbpgedaaGreat.Mine
namespace Go.Proofs.YtacefdkfbpgedaaGreat.Mine
open Go.Proofs.YtacefdkfbpgedaaGreat.PProgSmall
open Go.RowKit Go.Shelf Go.Proofs.YtacefdkfbpgedaaGreatW.PrintWords Go.Proofs.YtacefdkfbpgedaaGreatW.PrintLast Go.Proofs.YtacefdkfbpgedaaGreatW.PrintMore
set_option linter.unusedVariables false
set_option linter.unusedSimpArgs false
def isHead (s : ByteArray) (k : Int) (c : Ca) : Bool := decide (c.f0 = s) && ((c.f1.length : Int) == k)
def pickP (d : De) (s : ByteArray) (k : Int) : Int × Int := if idxB (isHead s k) d.f2 < 0 then (0, 6) else (idxB (isHead s k) d.f2, 0)
end Go.Proofs.YtacefdkfbpgedaaGreat.Mine
