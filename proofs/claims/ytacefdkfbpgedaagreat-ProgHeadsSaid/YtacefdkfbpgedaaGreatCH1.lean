/- Frames: which blocks a step may turn. Plain lemmas on worlds, and on rows that are read. -/
import Derived.Test.YtacefdkfbpgedaaGreatProg
import Derived.Test.YtacefdkfbpgedaaGreatCH0
import Derived.Shelf.Abstract
import Derived.OneCell
import Derived.RangeFuncBox
import Derived.Lib.Hide
import Derived.OrdersHeld
import Derived.Deep.RegionHeld
namespace Go.Proofs.YtacefdkfbpgedaaGreat.Mine
open Go.RowKit Go.Proofs.YtacefdkfbpgedaaGreatW.PrintWords Go.Proofs.YtacefdkfbpgedaaGreatW.PrintLast
set_option linter.unusedVariables false
structure Fr (M : Nat → Prop) (w w' : World) : Prop where
  os : w'.os = w.os
  tape : w'.tape = w.tape
  output : w'.output = w.output
  size : w.heap.size ≤ w'.heap.size
  block : ∀ k, k < w.heap.size → ¬ M k → w'.heap[k]? = w.heap[k]?
def NoM : Nat → Prop := fun _ => False
section
variable {M M' : Nat → Prop} {w w' a b c : World}
theorem Fr.refl (M : Nat → Prop) (w : World) : Fr M w w := ⟨rfl, rfl, rfl, Nat.le_refl _, fun _ _ _ => rfl⟩
theorem Fr.trans (h : Fr M a b) (k : Fr M b c) : Fr M a c :=
  ⟨k.os.trans h.os, k.tape.trans h.tape, k.output.trans h.output, Nat.le_trans h.size k.size, fun i hi hm => (k.block i (Nat.lt_of_lt_of_le hi h.size) hm).trans (h.block i hi hm)⟩
theorem Fr.mono (h : Fr M w w') (hm : ∀ k, M k → M' k) : Fr M' w w' := ⟨h.os, h.tape, h.output, h.size, fun k hk hn => h.block k hk (fun x => hn (hm k x))⟩
theorem Fr.of_below (M : Nat → Prop) (h : Below w.heap.size w w') : Fr M w w' := ⟨h.os, h.tape, h.output, h.size, fun k hk _ => h.block k hk⟩
theorem Fr.below {n : Nat} (h : Fr M w w') (hn : n ≤ w.heap.size) (hm : ∀ k, k < n → ¬ M k) : Below n w w' := ⟨h.os, h.tape, h.output, h.size, fun k hk => h.block k (Nat.lt_of_lt_of_le hk hn) (hm k hk)⟩
theorem Fr.below0 (h : Fr NoM w w') : Below w.heap.size w w' := h.below (Nat.le_refl _) (fun _ _ x => x)
theorem Fr.alloc (h : Fr M w w') (o : Obj) : Fr M w (w'.alloc o) := h.trans (Fr.of_below M ((Below.refl _ _).alloc (Nat.le_refl _) o))
theorem Fr.drewN (h : Fr M w w') (n : Nat) : Fr M w (w'.drewN n) := ⟨h.os, h.tape, h.output, h.size, h.block⟩
theorem Fr.drew (h : Fr M w w') : Fr M w w'.drew := ⟨h.os, h.tape, h.output, h.size, h.block⟩
theorem Fr.setCell (h : Fr M w w') {p : Addr} (hp : M p.block ∨ w.heap.size ≤ p.block) (u : Value) : Fr M w (w'.setCell p u) :=
  ⟨h.os, h.tape, h.output, by simpa [World.setCell] using h.size, fun k hk hm => (Below.heap_setCell _ _ _ _ (fun e => by rcases hp with hp | hp; exact hm (e ▸ hp); omega)).trans (h.block k hk hm)⟩
theorem Fr.grown (h : Fr M w w') {w2 : World} {row : Option Nat} (hg : w'.grownBy w2 row) (hr : ∀ k, row = some k → M k ∨ w.heap.size ≤ k) : Fr M w w2 :=
  ⟨hg.os.trans h.os, hg.tape.trans h.tape, hg.output.trans h.output, Nat.le_trans h.size hg.size, fun k hk hm => (hg.block k (Nat.lt_of_lt_of_le hk h.size) (fun e => by rcases hr k e.symm with hx | hx; exact hm hx; omega)).trans (h.block k hk hm)⟩
theorem Fr.cell (h : Fr M w w') {p : Addr} {v : Value} (hc : w.cell? p = some v) (hm : ¬ M p.block) : w'.cell? p = some v :=
  (World.cell?_of_block (h.block _ (World.block_lt_of_cell? w p hc) hm)).trans hc
theorem Fr.blk (h : Fr M w w') {g : Nat} {o : Obj} (hc : w.heap[g]? = some o) (hm : ¬ M g) : w'.heap[g]? = some o := (h.block _ (blk_lt hc) hm).trans hc
theorem Fr.after_below (h : Fr M w w') (hb : Below w'.heap.size w' c) : Fr M w c := h.trans (Fr.of_below M hb)
end
structure Rel (R : World → World → Prop) : Prop where
  below : ∀ {W W' : World}, Below W.heap.size W W' → R W W'
  trans : ∀ {a b c : World}, R a b → R b c → R a c
theorem Rel.refl {R : World → World → Prop} (h : Rel R) (W : World) : R W W := h.below (Below.refl _ _)
theorem Fr.rel (M : Nat → Prop) : Rel (Fr M) := ⟨fun h => Fr.of_below M h, fun h k => h.trans k⟩
def kpO : Obj → Bool
  | .cells _ t _ => t == 67
  | _ => false
def KC (M : Nat → Prop) (n : Nat) (W W' : World) : Prop := W.heap.size ≤ W'.heap.size ∧ ∀ k o, ¬ M k → W.heap[k]? = some o → (k < n ∨ kpO o = true → W'.heap[k]? = some o) ∧ (∀ cs, o = .cells cs 57 (0, 0) → ∃ cs', W'.heap[k]? = some (.cells cs' 57 (0, 0)) ∧ cs'[2]? = cs[2]?)
section
variable {M : Nat → Prop} {n : Nat} {W W' : World}
theorem KC.rel (M : Nat → Prop) (n : Nat) : Rel (KC M n) := ⟨fun h => ⟨h.size, fun k o _ hk => ⟨fun _ => (h.block k (blk_lt hk)).trans hk, fun cs e => ⟨cs, by rw [← e]; exact (h.block k (blk_lt hk)).trans hk, rfl⟩⟩⟩,
  fun h k => ⟨Nat.le_trans h.1 k.1, fun i o hm hi => ⟨fun ho => (k.2 i o hm ((h.2 i o hm hi).1 ho)).1 ho, fun cs e => by
    obtain ⟨cs1, h1, h2⟩ := (h.2 i o hm hi).2 cs e
    obtain ⟨cs2, h3, h4⟩ := (k.2 i _ hm h1).2 cs1 rfl
    exact ⟨cs2, h3, h4.trans h2⟩⟩⟩⟩
theorem KC.blkE (h : KC M n W W') {k : Nat} {cs : Array Value} (hm : ¬ M k) (hk : W.heap[k]? = some (.cells cs 57 (0, 0))) : ∃ cs', W'.heap[k]? = some (.cells cs' 57 (0, 0)) ∧ cs'[2]? = cs[2]? := (h.2 k _ hm hk).2 cs rfl
theorem KC.blkF (h : KC M n W W') {k : Nat} {cs : Array Value} (hm : ¬ M k) (hk : W.heap[k]? = some (.cells cs 67 (0, 0))) : W'.heap[k]? = some (.cells cs 67 (0, 0)) := (h.2 k _ hm hk).1 (.inr (by simp [kpO]))
theorem KC.blkN (h : KC M n W W') {k : Nat} {o : Obj} (hm : ¬ M k) (hk : W.heap[k]? = some o) (hn : k < n) : W'.heap[k]? = some o := (h.2 k _ hm hk).1 (.inl hn)
theorem KC.cell (h : KC M n W W') {p : Addr} {v : Value} (hc : W.cell? p = some v) (hm : ¬ M p.block) (hn : p.block < n) : W'.cell? p = some v := by
  obtain ⟨o, ho, hcells⟩ := cells_of_cell hc
  rw [World.cell?_of_block ((h.blkN hm ho hn).trans ho.symm)]; exact hc
theorem KC.F {α : Type} {d : Kd α} {ok : Nat → Prop} {A : Option Addr} {xs : List α} (h : KC M n W W') (hF : Kd.F d W ok A xs.length xs) (hok : ∀ k, ok k → ¬ M k ∧ k < n) : Kd.F d W' ok A xs.length xs :=
  Kd.F_step hF (fun k hk hlt => by rw [h.blkN (hok k hk).1 (Array.getElem?_eq_getElem hlt) (hok k hk).2]; exact (Array.getElem?_eq_getElem hlt).symm)
theorem KC.putObj (M : Nat → Prop) {n : Nat} {W : World} {l : Nat} {o o' : Obj} (hl : n ≤ l) (h : W.heap[l]? = some o) (hc : o.isCells = false) : KC M n W (W.putObj l o') :=
  ⟨by simp, fun k x _ hk => by
    by_cases e : k = l
    · subst e
      rw [h] at hk; cases hk
      refine ⟨fun hx => ?_, fun cs e => by subst e; cases hc⟩
      rcases hx with hx | hx
      · omega
      · cases o <;> simp_all [kpO, Obj.isCells]
    · have hk2 : (W.putObj l o').heap[k]? = some x := by rw [World.putObj_heap_other e]; exact hk
      exact ⟨fun _ => hk2, fun cs ec => ⟨cs, by rw [← ec]; exact hk2, rfl⟩⟩⟩
theorem KC.turned (M : Nat → Prop) {n g : Nat} {W W' : World} (hs : W.heap.size ≤ W'.heap.size) (hb : ∀ k, k < W.heap.size → k ≠ g → W'.heap[k]? = W.heap[k]?) (hn : n ≤ g) {o : Obj} (h : W.heap[g]? = some o) (ho : kpO o = false) (hE : ∀ cs, o = .cells cs 57 (0, 0) → ∃ cs', W'.heap[g]? = some (.cells cs' 57 (0, 0)) ∧ cs'[2]? = cs[2]?) : KC M n W W' :=
  ⟨hs, fun k x _ hk => by
    by_cases e : k = g
    · subst e
      rw [h] at hk; cases hk
      exact ⟨fun hx => by (rcases hx with hx | hx; exact absurd hn (by omega); rw [ho] at hx; exact absurd hx (by simp)), hE⟩
    · have hk2 : W'.heap[k]? = some x := (hb k (blk_lt hk) e).trans hk
      exact ⟨fun _ => hk2, fun cs ec => ⟨cs, by rw [← ec]; exact hk2, rfl⟩⟩⟩
theorem KC.grown (M : Nat → Prop) {n : Nat} {W W' : World} {row : Option Nat} (hg : W.grownBy W' row) (hr : ∀ k, row = some k → n ≤ k ∧ ∃ cs t, W.heap[k]? = some (.cells cs t (0, 0)) ∧ t ≠ 57 ∧ t ≠ 67) : KC M n W W' := by
  cases row with
  | none => exact (KC.rel M n).below ⟨hg.os, hg.tape, hg.output, hg.size, fun k hk => hg.block k hk (by simp)⟩
  | some g =>
    obtain ⟨hn, cs, t, hc, h1, h2⟩ := hr g rfl
    exact KC.turned M hg.size (fun k hk hne => hg.block k hk (fun e => hne (Option.some.inj e))) hn hc (by simpa [kpO] using h2) (fun cs' e => by cases e; exact absurd rfl h1)
theorem KC.set (M : Nat → Prop) {n : Nat} {W : World} {g j : Nat} {u : Value} {cs : Array Value} {t : Nat} (hn : n ≤ g) (h : W.heap[g]? = some (.cells cs t (0, 0))) (h2 : t ≠ 67) (h3 : t = 57 → j ≠ 2) : KC M n W (W.setCell ⟨g, j, none⟩ u) :=
  KC.turned M (by simp [World.setCell]) (fun k hk hne => Below.heap_setCell _ _ _ _ hne) hn h (by simpa [kpO] using h2) (fun cs' e => by
    cases e
    exact ⟨_, blk_set h j u, by
      have := h3 rfl
      rw [Array.getElem?_setIfInBounds]
      simp [this]⟩)
end
theorem retb {a b : Bool} (h : a = b) : Ending.returned (.bool a) = .returned (.bool b) := by rw [h]
theorem reti {k : IntKind} {a b : Int} (h : a = b) : Ending.returned (.int k a) = .returned (.int k b) := by rw [h]
theorem alloc_at (w : World) (o : Obj) : (w.alloc o).heap[w.heap.size]? = some o := heap_alloc_new w o
theorem below_alloc1 (w : World) (o : Obj) : Below w.heap.size w (w.alloc o) := (Below.refl _ _).alloc (Nat.le_refl _) o
theorem below_alloc2 (w : World) (o o' : Obj) : Below w.heap.size w ((w.alloc o).alloc o') := (below_alloc1 w o).trans ((below_alloc1 _ o').mono (by simp))
theorem len3 {cs : List Value} (h : cs.length = 3) : ∃ c0 c1 c2, cs = [c0, c1, c2] := by
  match cs, h with
  | [c0, c1, c2], _ => exact ⟨_, _, _, rfl⟩
theorem len5 {cs : List Value} (h : cs.length = 5) : ∃ c0 c1 c2 c3 c4, cs = [c0, c1, c2, c3, c4] := by
  match cs, h with
  | [c0, c1, c2, c3, c4], _ => exact ⟨_, _, _, _, _, rfl⟩
theorem len6 {cs : List Value} (h : cs.length = 6) : ∃ c0 c1 c2 c3 c4 c5, cs = [c0, c1, c2, c3, c4, c5] := by
  match cs, h with
  | [c0, c1, c2, c3, c4, c5], _ => exact ⟨_, _, _, _, _, _, rfl⟩
section
variable {α : Type} {d : Kd α} {w W : World} {A : Option Addr} {xs : List α}
theorem cget (h : d.C W A xs.length xs) (i : Nat) (hi : i < xs.length) :
    ∃ ad c, A = some ad ∧ c.length = d.sz ∧ d.K W xs[i] c ∧ ∀ j u, c[j]? = some u → W.cell? (ad.add (i * d.sz + j)) = some u := by
  obtain ⟨ad, c, rfl, hl, hK, hc⟩ := Kd.C_get h xs[i] (i : Int) (by omega) (by omega)
  refine ⟨ad, c, rfl, hl, ?_, hc⟩
  simpa [List.getD_eq_getElem?_getD, hi] using hK
theorem get1 (hs : d.sz = 1) (h : d.C W A xs.length xs) (i : Nat) (hi : i < xs.length) :
    ∃ ad c0, A = some ad ∧ d.K W xs[i] [c0] ∧ W.cell? (ad.add i) = some c0 := by
  obtain ⟨ad, c, rfl, hl, hK, hc⟩ := cget h i hi
  rw [hs] at hl hc
  match c, hl with
  | [c0], _ => exact ⟨ad, c0, rfl, hK, by simpa using hc 0 _ rfl⟩
theorem get3 (hs : d.sz = 3) (h : d.C W A xs.length xs) (i : Nat) (hi : i < xs.length) :
    ∃ ad c0 c1 c2, A = some ad ∧ d.K W xs[i] [c0, c1, c2] ∧ W.cell? (ad.add (i * 3)) = some c0 ∧ W.cell? ⟨(ad.add (i * 3)).block, (ad.add (i * 3)).off + 1, none⟩ = some c1 ∧ W.cell? ⟨(ad.add (i * 3)).block, (ad.add (i * 3)).off + 2, none⟩ = some c2 := by
  obtain ⟨ad, c, rfl, hl, hK, hc⟩ := cget h i hi
  rw [hs] at hl hc
  match c, hl with
  | [c0, c1, c2], _ => exact ⟨ad, c0, c1, c2, rfl, hK, hc 0 _ rfl, by rw [← add_field _ _ 1 (by omega)]; exact hc 1 _ rfl, by rw [← add_field _ _ 2 (by omega)]; exact hc 2 _ rfl⟩
theorem gett1 (hs : d.sz = 1) (h : d.C W A xs.length xs) (i : Nat) (hi : i < xs.length) :
    ∃ ad c0, A = some ad ∧ d.K W xs[i] [c0] ∧ (∀ j u, [c0][j]? = some u → W.cell? (ad.add (i * d.sz + j)) = some u) ∧ W.cell? (ad.add i) = some c0 := by
  obtain ⟨ad, c, rfl, hl, hK, hc⟩ := cget h i hi
  rw [hs] at hl hc ⊢
  match c, hl with
  | [c0], _ => exact ⟨ad, c0, rfl, hK, hc, by simpa using hc 0 _ rfl⟩
theorem gett3 (hs : d.sz = 3) (h : d.C W A xs.length xs) (i : Nat) (hi : i < xs.length) :
    ∃ ad c0 c1 c2, A = some ad ∧ d.K W xs[i] [c0, c1, c2] ∧ (∀ j u, [c0, c1, c2][j]? = some u → W.cell? (ad.add (i * d.sz + j)) = some u) ∧ W.cell? (ad.add (i * 3)) = some c0 ∧ W.cell? ⟨(ad.add (i * 3)).block, (ad.add (i * 3)).off + 1, none⟩ = some c1 ∧ W.cell? ⟨(ad.add (i * 3)).block, (ad.add (i * 3)).off + 2, none⟩ = some c2 := by
  obtain ⟨ad, c, rfl, hl, hK, hc⟩ := cget h i hi
  rw [hs] at hl hc ⊢
  match c, hl with
  | [c0, c1, c2], _ => exact ⟨ad, c0, c1, c2, rfl, hK, hc, hc 0 _ rfl, by rw [← add_field _ _ 1 (by omega)]; exact hc 1 _ rfl, by rw [← add_field _ _ 2 (by omega)]; exact hc 2 _ rfl⟩
theorem gett5 (hs : d.sz = 5) (h : d.C W A xs.length xs) (i : Nat) (hi : i < xs.length) :
    ∃ ad c0 c1 c2 c3 c4, A = some ad ∧ d.K W xs[i] [c0, c1, c2, c3, c4] ∧ (∀ j u, [c0, c1, c2, c3, c4][j]? = some u → W.cell? (ad.add (i * d.sz + j)) = some u) ∧ W.cell? (ad.add (i * 5)) = some c0 ∧ W.cell? ⟨(ad.add (i * 5)).block, (ad.add (i * 5)).off + 1, none⟩ = some c1 ∧ W.cell? ⟨(ad.add (i * 5)).block, (ad.add (i * 5)).off + 2, none⟩ = some c2 ∧ W.cell? ⟨(ad.add (i * 5)).block, (ad.add (i * 5)).off + 3, none⟩ = some c3 ∧ W.cell? ⟨(ad.add (i * 5)).block, (ad.add (i * 5)).off + 4, none⟩ = some c4 := by
  obtain ⟨ad, c, rfl, hl, hK, hc⟩ := cget h i hi
  rw [hs] at hl hc ⊢
  match c, hl with
  | [c0, c1, c2, c3, c4], _ => exact ⟨ad, c0, c1, c2, c3, c4, rfl, hK, hc, hc 0 _ rfl, by rw [← add_field _ _ 1 (by omega)]; exact hc 1 _ rfl, by rw [← add_field _ _ 2 (by omega)]; exact hc 2 _ rfl, by rw [← add_field _ _ 3 (by omega)]; exact hc 3 _ rfl, by rw [← add_field _ _ 4 (by omega)]; exact hc 4 _ rfl⟩
theorem gett6 (hs : d.sz = 6) (h : d.C W A xs.length xs) (i : Nat) (hi : i < xs.length) :
    ∃ ad c0 c1 c2 c3 c4 c5, A = some ad ∧ d.K W xs[i] [c0, c1, c2, c3, c4, c5] ∧ (∀ j u, [c0, c1, c2, c3, c4, c5][j]? = some u → W.cell? (ad.add (i * d.sz + j)) = some u) ∧ W.cell? (ad.add (i * 6)) = some c0 ∧ W.cell? ⟨(ad.add (i * 6)).block, (ad.add (i * 6)).off + 1, none⟩ = some c1 ∧ W.cell? ⟨(ad.add (i * 6)).block, (ad.add (i * 6)).off + 2, none⟩ = some c2 ∧ W.cell? ⟨(ad.add (i * 6)).block, (ad.add (i * 6)).off + 3, none⟩ = some c3 ∧ W.cell? ⟨(ad.add (i * 6)).block, (ad.add (i * 6)).off + 4, none⟩ = some c4 ∧ W.cell? ⟨(ad.add (i * 6)).block, (ad.add (i * 6)).off + 5, none⟩ = some c5 := by
  obtain ⟨ad, c, rfl, hl, hK, hc⟩ := cget h i hi
  rw [hs] at hl hc ⊢
  match c, hl with
  | [c0, c1, c2, c3, c4, c5], _ => exact ⟨ad, c0, c1, c2, c3, c4, c5, rfl, hK, hc, hc 0 _ rfl, by rw [← add_field _ _ 1 (by omega)]; exact hc 1 _ rfl, by rw [← add_field _ _ 2 (by omega)]; exact hc 2 _ rfl, by rw [← add_field _ _ 3 (by omega)]; exact hc 3 _ rfl, by rw [← add_field _ _ 4 (by omega)]; exact hc 4 _ rfl, by rw [← add_field _ _ 5 (by omega)]; exact hc 5 _ rfl⟩
theorem elemF {w0 : World} {ok : Nat → Prop} {ad : Addr} (hF : Kd.F d w0 ok (some ad) xs.length xs) (i : Nat) (hi : i < xs.length) {cs : List Value} (hl : cs.length = d.sz) (hcell : ∀ j u, cs[j]? = some u → W.cell? (ad.add (i * d.sz + j)) = some u)
    (hk : ∀ (p : Addr) v, ok p.block → w0.cell? p = some v → W.cell? p = some v) (hs : 0 < d.sz) : Kd.FK d w0 ok xs[i] cs := by
  obtain ⟨ad', c, he, hcl, hK, hcc, hin⟩ := Kd.F_get hF xs[i] (i : Int) (by omega) (by omega)
  cases he
  have : c = cs := by
    apply List.ext_getElem?
    intro j
    by_cases hj : j < d.sz
    · have h1 := hcc j _ (List.getElem?_eq_getElem (by omega))
      have h2 := hk _ _ (by rw [add_block]; exact hin hs) h1
      have h3 := hcell j _ (List.getElem?_eq_getElem (show j < cs.length by omega))
      rw [Int.toNat_natCast] at h2
      rw [h2] at h3
      rw [List.getElem?_eq_getElem (by omega), List.getElem?_eq_getElem (by omega)]
      exact h3
    · rw [List.getElem?_eq_none (by omega), List.getElem?_eq_none (by omega)]
  subst this
  simpa [List.getD_eq_getElem?_getD, hi] using hK
end
end Go.Proofs.YtacefdkfbpgedaaGreat.Mine
namespace Go.Proofs.YtacefdkfbpgedaaGreat.Mine
open Go.Proofs.YtacefdkfbpgedaaGreat.PProgSmall
end Go.Proofs.YtacefdkfbpgedaaGreat.Mine
namespace Go.Proofs.YtacefdkfbpgedaaGreat.Mine
open Go.Proofs.YtacefdkfbpgedaaGreat.PProgSmall
open Go.RowKit Go.Proofs.YtacefdkfbpgedaaGreatW.PrintWords
abbrev Ex := S57
abbrev Ca := S62
abbrev De := S59
mutual
def szE : Ex → Nat
  | ⟨_, _, l⟩ => 1 + szL l
def szL : List Ex → Nat
  | [] => 0
  | x :: xs => szE x + szL xs
end
mutual
def plE : Ex → List Ex
  | ⟨k, n, l⟩ => ⟨k, n, l⟩ :: plL l
def plL : List Ex → List Ex
  | [] => []
  | x :: xs => plE x ++ plL xs
end
def nmLim : Nat := 140737488351232
mutual
def leftE : Ex → Int → Int
  | ⟨_, s, l⟩, n => leftL l (n - (1 + (s.size : Int) / 40))
def leftL : List Ex → Int → Int
  | [], n => n
  | x :: xs, n => if n ≥ 0 then leftL xs (leftE x n) else n
end
theorem szE_eq (e : Ex) : szE e = 1 + szL e.f2 := by cases e; simp [szE]
theorem plE_eq (e : Ex) : plE e = e :: plL e.f2 := by cases e; simp [plE]
theorem leftE_eq (e : Ex) (n : Int) : leftE e n = leftL e.f2 (n - (1 + (e.f1.size : Int) / 40)) := by cases e; simp [leftE]
theorem szE_pos (e : Ex) : 0 < szE e := by rw [szE_eq]; omega
theorem szL_append (a b : List Ex) : szL (a ++ b) = szL a + szL b := by
  induction a with
  | nil => simp [szL]
  | cons x xs ih => simp only [List.cons_append, szL, ih]; omega
theorem szL_mem {x : Ex} {l : List Ex} (h : x ∈ l) : szE x ≤ szL l := by
  induction l with
  | nil => cases h
  | cons y ys ih =>
    rw [szL]
    rcases List.mem_cons.1 h with h | h
    · subst h; omega
    · have := ih h; omega
theorem szE_mem {x e : Ex} (h : x ∈ e.f2) : szE x < szE e := by
  have := szL_mem h
  rw [szE_eq e]; omega
theorem plL_append (a b : List Ex) : plL (a ++ b) = plL a ++ plL b := by
  induction a with
  | nil => simp [plL]
  | cons x xs ih => simp only [List.cons_append, plL, ih, List.append_assoc]
theorem length_plL (l : List Ex) : (plL l).length = szL l := by
  have key : ∀ n, (∀ e : Ex, szE e ≤ n → (plE e).length = szE e) ∧ (∀ l : List Ex, szL l ≤ n → (plL l).length = szL l) := by
    intro n
    induction n with
    | zero =>
      refine ⟨fun e h => absurd h (by have := szE_pos e; omega), fun l h => ?_⟩
      cases l with
      | nil => simp [plL, szL]
      | cons x xs => rw [szL] at h; have := szE_pos x; omega
    | succ n ih =>
      have h1 : ∀ e : Ex, szE e ≤ n + 1 → (plE e).length = szE e := by
        intro e he
        rw [szE_eq] at he
        rw [plE_eq, szE_eq, List.length_cons, ih.2 e.f2 (by omega)]; omega
      refine ⟨h1, fun l => ?_⟩
      induction l with
      | nil => intro _; simp [plL, szL]
      | cons x xs ihl =>
        intro h
        rw [szL] at h
        rw [plL, szL, List.length_append, h1 x (by omega), ihl (by omega)]
  exact (key (szL l)).2 l (Nat.le_refl _)
theorem length_plE (e : Ex) : (plE e).length = szE e := by rw [plE_eq, szE_eq, List.length_cons, length_plL]; omega
theorem take_snoc {α : Type} {l : List α} {k : Nat} (h : k < l.length) : l.take (k + 1) = l.take k ++ [l[k]] := List.take_succ_eq_append_getElem h
theorem szL_take {l : List Ex} {k : Nat} (h : k < l.length) : szL (l.take (k + 1)) = szL (l.take k) + szE l[k] := by rw [take_snoc h, szL_append]; simp [szL]
theorem plL_take {l : List Ex} {k : Nat} (h : k < l.length) : plL (l.take (k + 1)) = plL (l.take k) ++ plE l[k] := by rw [take_snoc h, plL_append]; simp [plL]
theorem szL_take_le (l : List Ex) (k : Nat) : szL (l.take k) ≤ szL l := by
  conv => rhs; rw [← List.take_append_drop k l, szL_append]
  omega
end Go.Proofs.YtacefdkfbpgedaaGreat.Mine
namespace Go.Proofs.YtacefdkfbpgedaaGreat.Mine
open Go.Proofs.YtacefdkfbpgedaaGreat.PProgSmall
open Go.RowKit Go.Proofs.YtacefdkfbpgedaaGreatW.PrintWords Go.Proofs.YtacefdkfbpgedaaGreatW.PrintLast
set_option linter.unusedVariables false
set_option linter.unusedSimpArgs false
set_option maxHeartbeats 2000000 in
theorem idxE (A : Option Addr) (c : Nat) (xs : List S57) (w : World) (hc : xs.length ≤ c) (R : World → World → Prop) (hR : Rel R) (hr : ∀ W, R w W → Kd.C k57 W A xs.length xs)
    (g : Nat) (lb : Array Value) (eg : ∀ args w, (callFunc g args).run Tryz.prog w = .ok (.enter g args) w) (I T : Nat → World → Prop)
    (hf : ∀ i x cs W, xs[i]? = some x → (k57).K W x cs → (∃ ad, A = some ad ∧ ∀ j u, cs[j]? = some u → W.cell? (ad.add (i * (k57).sz + j)) = some u) → R w W → I i W → Calls Tryz.prog g (#[.agg cs.toArray] ++ lb) W fun e W' => ∃ b : Bool, e = .returned (.bool b) ∧ if b then T i W' else R W W' ∧ I (i + 1) W')
    (h0 : I 0 w) :
    Calls Tryz.prog 91 #[.slice A xs.length c, .func (.func g) #[] lb] w fun e W' => (e = .returned (.int .i64 (-1)) ∧ R w W' ∧ I xs.length W') ∨ ∃ i, i < xs.length ∧ e = .returned (.int .i64 (i : Int)) ∧ T i W' := by
  have hmax : xs.length ≤ 9223372036854775807 := (hr w (hR.refl _)).2.1
  have HR := Aside0.mk hr
  have HF := Aside0.mk hf
  have H0 := Aside0.mk h0
  clear hr hf h0
  go_enter Tryz.func91, Tryz.ntmps91
  go_wp2
  go_loopg [5, 8] xs.length (fun gg _ s8 wr => ∃ kk : Nat, kk ≤ xs.length ∧ xs.length - kk ≤ gg ∧ s8 = .int .i64 kk ∧ Aside0 (I kk wr) ∧ Aside0 (R w wr))
  case atStart => exact ⟨0, Nat.zero_le _, by omega, rfl, H0, ⟨hR.refl _⟩⟩
  case round =>
    obtain ⟨kk, hkk, hg, rfl, IW, FW⟩ := hrel
    by_cases hlt : kk < xs.length
    · have hltz : (kk : Int) < (xs.length : Int) := by omega
      obtain ⟨ad, c0, c1, c2, rfl, hK, hcc, k0, k1, k2⟩ := gett3 rfl (HR.out wr FW.out) kk hlt
      skip
      have hcall := HF.out kk _ _ wr (List.getElem?_eq_getElem hlt) hK ⟨ad, rfl, hcc⟩ FW.out IW.out
      clear hK hcc
      go_wp2_with (go_at_fn g; refine hcall.mono ?_; rintro e w' ⟨b, rfl, hb'⟩; cases b <;> simp only [if_true, Bool.false_eq_true, if_false] at hb')
      · go_roundg (xs.length - (kk + 1))
        case measure => omega
        case rel => exact ⟨kk + 1, by omega, by omega, by go_num, ⟨hb'.2⟩, ⟨hR.trans FW.out hb'.1⟩⟩
      · go_ret
        exact .inr ⟨kk, hlt, rfl, hb'⟩
    · have hltz : ¬ (kk : Int) < (xs.length : Int) := by omega
      have : kk = xs.length := by omega
      subst this
      go_wp2
      go_ret
      exact .inl ⟨rfl, FW.out, IW.out⟩
set_option maxHeartbeats 2000000 in
theorem hasE (A : Option Addr) (c : Nat) (xs : List S57) (w : World) (hc : xs.length ≤ c) (R : World → World → Prop) (hR : Rel R) (hr : ∀ W, R w W → Kd.C k57 W A xs.length xs)
    (g : Nat) (lb : Array Value) (eg : ∀ args w, (callFunc g args).run Tryz.prog w = .ok (.enter g args) w) (I T : Nat → World → Prop)
    (hf : ∀ i x cs W, xs[i]? = some x → (k57).K W x cs → (∃ ad, A = some ad ∧ ∀ j u, cs[j]? = some u → W.cell? (ad.add (i * (k57).sz + j)) = some u) → R w W → I i W → Calls Tryz.prog g (#[.agg cs.toArray] ++ lb) W fun e W' => ∃ b : Bool, e = .returned (.bool b) ∧ if b then T i W' else R W W' ∧ I (i + 1) W')
    (h0 : I 0 w) :
    Calls Tryz.prog 32 #[.slice A xs.length c, .func (.func g) #[] lb] w fun e W' => ∃ b : Bool, e = .returned (.bool b) ∧ if b then ∃ i, i < xs.length ∧ T i W' else R w W' ∧ I xs.length W' := by
  have HC := idxE A c xs w hc R hR hr g lb eg I T hf h0
  clear hr hf h0
  go_enter Tryz.func32, Tryz.ntmps32
  go_wp2_with (go_at_call 91; refine HC.mono ?_; rintro e w' (⟨rfl, hi⟩ | ⟨i, hi, rfl, ht⟩))
  · go_ret
    exact ⟨false, rfl, hi⟩
  · go_ret
    exact ⟨true, by simp, i, hi, ht⟩
set_option maxHeartbeats 2000000 in
theorem ev1E (g : Nat) (lb : Array Value) (eg : ∀ args w, (callFunc g args).run Tryz.prog w = .ok (.enter g args) w) (B : Nat) (W : World) (hB : W.heap[B]? = some (.cells #[.func (.func g) #[] lb] 67 (0, 0))) (c0 c1 c2 : Value) (Y : Bool → World → Prop)
    (hcall : Calls Tryz.prog g (#[.agg #[c0, c1, c2]] ++ lb) (W.alloc (.cells #[c0, c1, c2] 57)) fun e W' => ∃ b : Bool, e = .returned (.bool b) ∧ Y b W') :
    Calls Tryz.prog 166 #[.agg #[c0, c1, c2], .pointer (some ⟨B, 0, none⟩)] W fun e W' => ∃ b : Bool, e = .returned (.bool (!b)) ∧ Y b W' := by
  have hlt := lt_of_block hB
  have k0 := cell_of_one hB
  have H := Lib.hid hB
  clear hB
  have hne : ¬ (B = W.heap.size) := by omega
  go_enter Tryz.func166, Tryz.ntmps166
  go_wp2_with (go_at_fn g; refine hcall.mono ?_; rintro e w' ⟨b, rfl, hb'⟩)
  go_ret
  exact ⟨b, rfl, hb'⟩
set_option maxHeartbeats 2000000 in
theorem evE (A : Option Addr) (c : Nat) (xs : List S57) (w : World) (hc : xs.length ≤ c) (R : World → World → Prop) (hR : Rel R) (hM : ∀ W W' k cs, w.heap.size ≤ k → R W W' → W.heap[k]? = some (.cells cs 67 (0, 0)) → W'.heap[k]? = some (.cells cs 67 (0, 0))) (hr : ∀ W, R w W → Kd.C k57 W A xs.length xs)
    (g : Nat) (lb : Array Value) (eg : ∀ args w, (callFunc g args).run Tryz.prog w = .ok (.enter g args) w) (I T : Nat → World → Prop) (hI : ∀ i W W', I i W → Below W.heap.size W W' → I i W')
    (hf : ∀ i x cs W, xs[i]? = some x → (k57).K W x cs → (∃ ad, A = some ad ∧ ∀ j u, cs[j]? = some u → W.cell? (ad.add (i * (k57).sz + j)) = some u) → R w W → I i W → Calls Tryz.prog g (#[.agg cs.toArray] ++ lb) W fun e W' => ∃ b : Bool, e = .returned (.bool b) ∧ if b then R W W' ∧ I (i + 1) W' else T i W')
    (h0 : I 0 w) :
    Calls Tryz.prog 135 #[.slice A xs.length c, .func (.func g) #[] lb] w fun e W' => ∃ b : Bool, e = .returned (.bool b) ∧ if b then R w W' ∧ I xs.length W' else ∃ i, i < xs.length ∧ T i W' := by
  have hsz : (w.alloc (.cells #[.func (.func g) #[] lb] 67)).heap.size = w.heap.size + 1 := by simp
  have hal := below_alloc1 w (.cells #[.func (.func g) #[] lb] 67)
  have HC := hasE A c xs (w.alloc (.cells #[.func (.func g) #[] lb] 67)) hc R hR (fun W hW => hr W (hR.trans (hR.below hal) hW)) 166 #[.pointer (some ⟨w.heap.size, 0, none⟩)] (enters_of Tryz.func166 (by kernel_rfl) rfl)
    (fun i W => I i W ∧ W.heap[w.heap.size]? = some (.cells #[.func (.func g) #[] lb] 67 (0, 0))) T
    (fun i x cs W hx hK hcc hW hi => by
      obtain ⟨c0, c1, c2, rfl⟩ := len3 ((k57).K_len hK)
      have hal2 : Below W.heap.size W (W.alloc (.cells #[c0, c1, c2] 57)) := by first | exact below_alloc1 _ _ | exact Below.refl _ _
      refine (ev1E (g := g) (lb := lb) (eg := eg) (B := w.heap.size) (W := W) (hB := hi.2) (Y := fun b W' => if b then R (W.alloc (.cells #[c0, c1, c2] 57)) W' ∧ I (i + 1) W' else T i W')
        (hcall := hf i x _ (W.alloc (.cells #[c0, c1, c2] 57)) hx ((k57).K_below hal2 hK) (by obtain ⟨ad, h1, h2⟩ := hcc; exact ⟨ad, h1, fun j u hj => by have h3 := h2 j u hj; exact (hal2.cell (World.block_lt_of_cell? _ _ h3)).trans h3⟩) (hR.trans (hR.trans (hR.below hal) hW) (hR.below hal2)) (hI i W _ hi.1 hal2))).mono ?_
      rintro e W' ⟨b, rfl, hb⟩
      refine ⟨!b, rfl, ?_⟩
      cases b with
      | true =>
        have hfr' : R W W' := hR.trans (hR.below hal2) hb.1
        exact ⟨hfr', hb.2, hM _ _ _ _ (Nat.le_refl _) hfr' hi.2⟩
      | false => exact hb)
    ⟨hI 0 w _ h0 hal, alloc_at _ _⟩
  clear hf
  have H := Lib.hid hsz
  clear hsz
  go_enter Tryz.func135, Tryz.ntmps135
  go_wp2_with (go_at_call 32; refine HC.mono ?_; rintro e w' ⟨b, rfl, hb⟩)
  go_ret
  refine ⟨!b, rfl, ?_⟩
  cases b with
  | true => exact hb
  | false => exact ⟨hR.trans (hR.below hal) hb.1, hb.2.1⟩
set_option maxHeartbeats 2000000 in
theorem idxC (A : Option Addr) (c : Nat) (xs : List S62) (w : World) (hc : xs.length ≤ c) (R : World → World → Prop) (hR : Rel R) (hr : ∀ W, R w W → Kd.C k62 W A xs.length xs)
    (g : Nat) (lb : Array Value) (eg : ∀ args w, (callFunc g args).run Tryz.prog w = .ok (.enter g args) w) (I T : Nat → World → Prop)
    (hf : ∀ i x cs W, xs[i]? = some x → (k62).K W x cs → (∃ ad, A = some ad ∧ ∀ j u, cs[j]? = some u → W.cell? (ad.add (i * (k62).sz + j)) = some u) → R w W → I i W → Calls Tryz.prog g (#[.agg cs.toArray] ++ lb) W fun e W' => ∃ b : Bool, e = .returned (.bool b) ∧ if b then T i W' else R W W' ∧ I (i + 1) W')
    (h0 : I 0 w) :
    Calls Tryz.prog 90 #[.slice A xs.length c, .func (.func g) #[] lb] w fun e W' => (e = .returned (.int .i64 (-1)) ∧ R w W' ∧ I xs.length W') ∨ ∃ i, i < xs.length ∧ e = .returned (.int .i64 (i : Int)) ∧ T i W' := by
  have hmax : xs.length ≤ 9223372036854775807 := (hr w (hR.refl _)).2.1
  have HR := Aside0.mk hr
  have HF := Aside0.mk hf
  have H0 := Aside0.mk h0
  clear hr hf h0
  go_enter Tryz.func90, Tryz.ntmps90
  go_wp2
  go_loopg [5, 8] xs.length (fun gg _ s8 wr => ∃ kk : Nat, kk ≤ xs.length ∧ xs.length - kk ≤ gg ∧ s8 = .int .i64 kk ∧ Aside0 (I kk wr) ∧ Aside0 (R w wr))
  case atStart => exact ⟨0, Nat.zero_le _, by omega, rfl, H0, ⟨hR.refl _⟩⟩
  case round =>
    obtain ⟨kk, hkk, hg, rfl, IW, FW⟩ := hrel
    by_cases hlt : kk < xs.length
    · have hltz : (kk : Int) < (xs.length : Int) := by omega
      obtain ⟨ad, c0, c1, c2, c3, c4, rfl, hK, hcc, k0, k1, k2, k3, k4⟩ := gett5 rfl (HR.out wr FW.out) kk hlt
      skip
      have hcall := HF.out kk _ _ wr (List.getElem?_eq_getElem hlt) hK ⟨ad, rfl, hcc⟩ FW.out IW.out
      clear hK hcc
      go_wp2_with (go_at_fn g; refine hcall.mono ?_; rintro e w' ⟨b, rfl, hb'⟩; cases b <;> simp only [if_true, Bool.false_eq_true, if_false] at hb')
      · go_roundg (xs.length - (kk + 1))
        case measure => omega
        case rel => exact ⟨kk + 1, by omega, by omega, by go_num, ⟨hb'.2⟩, ⟨hR.trans FW.out hb'.1⟩⟩
      · go_ret
        exact .inr ⟨kk, hlt, rfl, hb'⟩
    · have hltz : ¬ (kk : Int) < (xs.length : Int) := by omega
      have : kk = xs.length := by omega
      subst this
      go_wp2
      go_ret
      exact .inl ⟨rfl, FW.out, IW.out⟩
set_option maxHeartbeats 2000000 in
theorem hasC (A : Option Addr) (c : Nat) (xs : List S62) (w : World) (hc : xs.length ≤ c) (R : World → World → Prop) (hR : Rel R) (hr : ∀ W, R w W → Kd.C k62 W A xs.length xs)
    (g : Nat) (lb : Array Value) (eg : ∀ args w, (callFunc g args).run Tryz.prog w = .ok (.enter g args) w) (I T : Nat → World → Prop)
    (hf : ∀ i x cs W, xs[i]? = some x → (k62).K W x cs → (∃ ad, A = some ad ∧ ∀ j u, cs[j]? = some u → W.cell? (ad.add (i * (k62).sz + j)) = some u) → R w W → I i W → Calls Tryz.prog g (#[.agg cs.toArray] ++ lb) W fun e W' => ∃ b : Bool, e = .returned (.bool b) ∧ if b then T i W' else R W W' ∧ I (i + 1) W')
    (h0 : I 0 w) :
    Calls Tryz.prog 30 #[.slice A xs.length c, .func (.func g) #[] lb] w fun e W' => ∃ b : Bool, e = .returned (.bool b) ∧ if b then ∃ i, i < xs.length ∧ T i W' else R w W' ∧ I xs.length W' := by
  have HC := idxC A c xs w hc R hR hr g lb eg I T hf h0
  clear hr hf h0
  go_enter Tryz.func30, Tryz.ntmps30
  go_wp2_with (go_at_call 90; refine HC.mono ?_; rintro e w' (⟨rfl, hi⟩ | ⟨i, hi, rfl, ht⟩))
  · go_ret
    exact ⟨false, rfl, hi⟩
  · go_ret
    exact ⟨true, by simp, i, hi, ht⟩
set_option maxHeartbeats 2000000 in
theorem ev1C (g : Nat) (lb : Array Value) (eg : ∀ args w, (callFunc g args).run Tryz.prog w = .ok (.enter g args) w) (B : Nat) (W : World) (hB : W.heap[B]? = some (.cells #[.func (.func g) #[] lb] 63 (0, 0))) (c0 c1 c2 c3 c4 : Value) (Y : Bool → World → Prop)
    (hcall : Calls Tryz.prog g (#[.agg #[c0, c1, c2, c3, c4]] ++ lb) (W.alloc (.cells #[c0, c1, c2, c3, c4] 62)) fun e W' => ∃ b : Bool, e = .returned (.bool b) ∧ Y b W') :
    Calls Tryz.prog 167 #[.agg #[c0, c1, c2, c3, c4], .pointer (some ⟨B, 0, none⟩)] W fun e W' => ∃ b : Bool, e = .returned (.bool (!b)) ∧ Y b W' := by
  have hlt := lt_of_block hB
  have k0 := cell_of_one hB
  have H := Lib.hid hB
  clear hB
  have hne : ¬ (B = W.heap.size) := by omega
  go_enter Tryz.func167, Tryz.ntmps167
  go_wp2_with (go_at_fn g; refine hcall.mono ?_; rintro e w' ⟨b, rfl, hb'⟩)
  go_ret
  exact ⟨b, rfl, hb'⟩
set_option maxHeartbeats 2000000 in
theorem evC (A : Option Addr) (c : Nat) (xs : List S62) (w : World) (hc : xs.length ≤ c) (R : World → World → Prop) (hR : Rel R) (hM : ∀ W W' k cs, w.heap.size ≤ k → R W W' → W.heap[k]? = some (.cells cs 63 (0, 0)) → W'.heap[k]? = some (.cells cs 63 (0, 0))) (hr : ∀ W, R w W → Kd.C k62 W A xs.length xs)
    (g : Nat) (lb : Array Value) (eg : ∀ args w, (callFunc g args).run Tryz.prog w = .ok (.enter g args) w) (I T : Nat → World → Prop) (hI : ∀ i W W', I i W → Below W.heap.size W W' → I i W')
    (hf : ∀ i x cs W, xs[i]? = some x → (k62).K W x cs → (∃ ad, A = some ad ∧ ∀ j u, cs[j]? = some u → W.cell? (ad.add (i * (k62).sz + j)) = some u) → R w W → I i W → Calls Tryz.prog g (#[.agg cs.toArray] ++ lb) W fun e W' => ∃ b : Bool, e = .returned (.bool b) ∧ if b then R W W' ∧ I (i + 1) W' else T i W')
    (h0 : I 0 w) :
    Calls Tryz.prog 144 #[.slice A xs.length c, .func (.func g) #[] lb] w fun e W' => ∃ b : Bool, e = .returned (.bool b) ∧ if b then R w W' ∧ I xs.length W' else ∃ i, i < xs.length ∧ T i W' := by
  have hsz : (w.alloc (.cells #[.func (.func g) #[] lb] 63)).heap.size = w.heap.size + 1 := by simp
  have hal := below_alloc1 w (.cells #[.func (.func g) #[] lb] 63)
  have HC := hasC A c xs (w.alloc (.cells #[.func (.func g) #[] lb] 63)) hc R hR (fun W hW => hr W (hR.trans (hR.below hal) hW)) 167 #[.pointer (some ⟨w.heap.size, 0, none⟩)] (enters_of Tryz.func167 (by kernel_rfl) rfl)
    (fun i W => I i W ∧ W.heap[w.heap.size]? = some (.cells #[.func (.func g) #[] lb] 63 (0, 0))) T
    (fun i x cs W hx hK hcc hW hi => by
      obtain ⟨c0, c1, c2, c3, c4, rfl⟩ := len5 ((k62).K_len hK)
      have hal2 : Below W.heap.size W (W.alloc (.cells #[c0, c1, c2, c3, c4] 62)) := by first | exact below_alloc1 _ _ | exact Below.refl _ _
      refine (ev1C (g := g) (lb := lb) (eg := eg) (B := w.heap.size) (W := W) (hB := hi.2) (Y := fun b W' => if b then R (W.alloc (.cells #[c0, c1, c2, c3, c4] 62)) W' ∧ I (i + 1) W' else T i W')
        (hcall := hf i x _ (W.alloc (.cells #[c0, c1, c2, c3, c4] 62)) hx ((k62).K_below hal2 hK) (by obtain ⟨ad, h1, h2⟩ := hcc; exact ⟨ad, h1, fun j u hj => by have h3 := h2 j u hj; exact (hal2.cell (World.block_lt_of_cell? _ _ h3)).trans h3⟩) (hR.trans (hR.trans (hR.below hal) hW) (hR.below hal2)) (hI i W _ hi.1 hal2))).mono ?_
      rintro e W' ⟨b, rfl, hb⟩
      refine ⟨!b, rfl, ?_⟩
      cases b with
      | true =>
        have hfr' : R W W' := hR.trans (hR.below hal2) hb.1
        exact ⟨hfr', hb.2, hM _ _ _ _ (Nat.le_refl _) hfr' hi.2⟩
      | false => exact hb)
    ⟨hI 0 w _ h0 hal, alloc_at _ _⟩
  clear hf
  have H := Lib.hid hsz
  clear hsz
  go_enter Tryz.func144, Tryz.ntmps144
  go_wp2_with (go_at_call 30; refine HC.mono ?_; rintro e w' ⟨b, rfl, hb⟩)
  go_ret
  refine ⟨!b, rfl, ?_⟩
  cases b with
  | true => exact hb
  | false => exact ⟨hR.trans (hR.below hal) hb.1, hb.2.1⟩
set_option maxHeartbeats 2000000 in
theorem idxD (A : Option Addr) (c : Nat) (xs : List S59) (w : World) (hc : xs.length ≤ c) (R : World → World → Prop) (hR : Rel R) (hr : ∀ W, R w W → Kd.C k59 W A xs.length xs)
    (g : Nat) (lb : Array Value) (eg : ∀ args w, (callFunc g args).run Tryz.prog w = .ok (.enter g args) w) (I T : Nat → World → Prop)
    (hf : ∀ i x cs W, xs[i]? = some x → (k59).K W x cs → (∃ ad, A = some ad ∧ ∀ j u, cs[j]? = some u → W.cell? (ad.add (i * (k59).sz + j)) = some u) → R w W → I i W → Calls Tryz.prog g (#[.agg cs.toArray] ++ lb) W fun e W' => ∃ b : Bool, e = .returned (.bool b) ∧ if b then T i W' else R W W' ∧ I (i + 1) W')
    (h0 : I 0 w) :
    Calls Tryz.prog 89 #[.slice A xs.length c, .func (.func g) #[] lb] w fun e W' => (e = .returned (.int .i64 (-1)) ∧ R w W' ∧ I xs.length W') ∨ ∃ i, i < xs.length ∧ e = .returned (.int .i64 (i : Int)) ∧ T i W' := by
  have hmax : xs.length ≤ 9223372036854775807 := (hr w (hR.refl _)).2.1
  have HR := Aside0.mk hr
  have HF := Aside0.mk hf
  have H0 := Aside0.mk h0
  clear hr hf h0
  go_enter Tryz.func89, Tryz.ntmps89
  go_wp2
  go_loopg [5, 8] xs.length (fun gg _ s8 wr => ∃ kk : Nat, kk ≤ xs.length ∧ xs.length - kk ≤ gg ∧ s8 = .int .i64 kk ∧ Aside0 (I kk wr) ∧ Aside0 (R w wr))
  case atStart => exact ⟨0, Nat.zero_le _, by omega, rfl, H0, ⟨hR.refl _⟩⟩
  case round =>
    obtain ⟨kk, hkk, hg, rfl, IW, FW⟩ := hrel
    by_cases hlt : kk < xs.length
    · have hltz : (kk : Int) < (xs.length : Int) := by omega
      obtain ⟨ad, c0, c1, c2, c3, c4, c5, rfl, hK, hcc, k0, k1, k2, k3, k4, k5⟩ := gett6 rfl (HR.out wr FW.out) kk hlt
      skip
      have hcall := HF.out kk _ _ wr (List.getElem?_eq_getElem hlt) hK ⟨ad, rfl, hcc⟩ FW.out IW.out
      clear hK hcc
      go_wp2_with (go_at_fn g; refine hcall.mono ?_; rintro e w' ⟨b, rfl, hb'⟩; cases b <;> simp only [if_true, Bool.false_eq_true, if_false] at hb')
      · go_roundg (xs.length - (kk + 1))
        case measure => omega
        case rel => exact ⟨kk + 1, by omega, by omega, by go_num, ⟨hb'.2⟩, ⟨hR.trans FW.out hb'.1⟩⟩
      · go_ret
        exact .inr ⟨kk, hlt, rfl, hb'⟩
    · have hltz : ¬ (kk : Int) < (xs.length : Int) := by omega
      have : kk = xs.length := by omega
      subst this
      go_wp2
      go_ret
      exact .inl ⟨rfl, FW.out, IW.out⟩
set_option maxHeartbeats 2000000 in
theorem hasD (A : Option Addr) (c : Nat) (xs : List S59) (w : World) (hc : xs.length ≤ c) (R : World → World → Prop) (hR : Rel R) (hr : ∀ W, R w W → Kd.C k59 W A xs.length xs)
    (g : Nat) (lb : Array Value) (eg : ∀ args w, (callFunc g args).run Tryz.prog w = .ok (.enter g args) w) (I T : Nat → World → Prop)
    (hf : ∀ i x cs W, xs[i]? = some x → (k59).K W x cs → (∃ ad, A = some ad ∧ ∀ j u, cs[j]? = some u → W.cell? (ad.add (i * (k59).sz + j)) = some u) → R w W → I i W → Calls Tryz.prog g (#[.agg cs.toArray] ++ lb) W fun e W' => ∃ b : Bool, e = .returned (.bool b) ∧ if b then T i W' else R W W' ∧ I (i + 1) W')
    (h0 : I 0 w) :
    Calls Tryz.prog 28 #[.slice A xs.length c, .func (.func g) #[] lb] w fun e W' => ∃ b : Bool, e = .returned (.bool b) ∧ if b then ∃ i, i < xs.length ∧ T i W' else R w W' ∧ I xs.length W' := by
  have HC := idxD A c xs w hc R hR hr g lb eg I T hf h0
  clear hr hf h0
  go_enter Tryz.func28, Tryz.ntmps28
  go_wp2_with (go_at_call 89; refine HC.mono ?_; rintro e w' (⟨rfl, hi⟩ | ⟨i, hi, rfl, ht⟩))
  · go_ret
    exact ⟨false, rfl, hi⟩
  · go_ret
    exact ⟨true, by simp, i, hi, ht⟩
set_option maxHeartbeats 2000000 in
theorem ev1D (g : Nat) (lb : Array Value) (eg : ∀ args w, (callFunc g args).run Tryz.prog w = .ok (.enter g args) w) (B : Nat) (W : World) (hB : W.heap[B]? = some (.cells #[.func (.func g) #[] lb] 68 (0, 0))) (c0 c1 c2 c3 c4 c5 : Value) (Y : Bool → World → Prop)
    (hcall : Calls Tryz.prog g (#[.agg #[c0, c1, c2, c3, c4, c5]] ++ lb) (W.alloc (.cells #[c0, c1, c2, c3, c4, c5] 59)) fun e W' => ∃ b : Bool, e = .returned (.bool b) ∧ Y b W') :
    Calls Tryz.prog 136 #[.agg #[c0, c1, c2, c3, c4, c5], .pointer (some ⟨B, 0, none⟩)] W fun e W' => ∃ b : Bool, e = .returned (.bool (!b)) ∧ Y b W' := by
  have hlt := lt_of_block hB
  have k0 := cell_of_one hB
  have H := Lib.hid hB
  clear hB
  have hne : ¬ (B = W.heap.size) := by omega
  go_enter Tryz.func136, Tryz.ntmps136
  go_wp2_with (go_at_fn g; refine hcall.mono ?_; rintro e w' ⟨b, rfl, hb'⟩)
  go_ret
  exact ⟨b, rfl, hb'⟩
set_option maxHeartbeats 2000000 in
theorem evD (A : Option Addr) (c : Nat) (xs : List S59) (w : World) (hc : xs.length ≤ c) (R : World → World → Prop) (hR : Rel R) (hM : ∀ W W' k cs, w.heap.size ≤ k → R W W' → W.heap[k]? = some (.cells cs 68 (0, 0)) → W'.heap[k]? = some (.cells cs 68 (0, 0))) (hr : ∀ W, R w W → Kd.C k59 W A xs.length xs)
    (g : Nat) (lb : Array Value) (eg : ∀ args w, (callFunc g args).run Tryz.prog w = .ok (.enter g args) w) (I T : Nat → World → Prop) (hI : ∀ i W W', I i W → Below W.heap.size W W' → I i W')
    (hf : ∀ i x cs W, xs[i]? = some x → (k59).K W x cs → (∃ ad, A = some ad ∧ ∀ j u, cs[j]? = some u → W.cell? (ad.add (i * (k59).sz + j)) = some u) → R w W → I i W → Calls Tryz.prog g (#[.agg cs.toArray] ++ lb) W fun e W' => ∃ b : Bool, e = .returned (.bool b) ∧ if b then R W W' ∧ I (i + 1) W' else T i W')
    (h0 : I 0 w) :
    Calls Tryz.prog 86 #[.slice A xs.length c, .func (.func g) #[] lb] w fun e W' => ∃ b : Bool, e = .returned (.bool b) ∧ if b then R w W' ∧ I xs.length W' else ∃ i, i < xs.length ∧ T i W' := by
  have hsz : (w.alloc (.cells #[.func (.func g) #[] lb] 68)).heap.size = w.heap.size + 1 := by simp
  have hal := below_alloc1 w (.cells #[.func (.func g) #[] lb] 68)
  have HC := hasD A c xs (w.alloc (.cells #[.func (.func g) #[] lb] 68)) hc R hR (fun W hW => hr W (hR.trans (hR.below hal) hW)) 136 #[.pointer (some ⟨w.heap.size, 0, none⟩)] (enters_of Tryz.func136 (by kernel_rfl) rfl)
    (fun i W => I i W ∧ W.heap[w.heap.size]? = some (.cells #[.func (.func g) #[] lb] 68 (0, 0))) T
    (fun i x cs W hx hK hcc hW hi => by
      obtain ⟨c0, c1, c2, c3, c4, c5, rfl⟩ := len6 ((k59).K_len hK)
      have hal2 : Below W.heap.size W (W.alloc (.cells #[c0, c1, c2, c3, c4, c5] 59)) := by first | exact below_alloc1 _ _ | exact Below.refl _ _
      refine (ev1D (g := g) (lb := lb) (eg := eg) (B := w.heap.size) (W := W) (hB := hi.2) (Y := fun b W' => if b then R (W.alloc (.cells #[c0, c1, c2, c3, c4, c5] 59)) W' ∧ I (i + 1) W' else T i W')
        (hcall := hf i x _ (W.alloc (.cells #[c0, c1, c2, c3, c4, c5] 59)) hx ((k59).K_below hal2 hK) (by obtain ⟨ad, h1, h2⟩ := hcc; exact ⟨ad, h1, fun j u hj => by have h3 := h2 j u hj; exact (hal2.cell (World.block_lt_of_cell? _ _ h3)).trans h3⟩) (hR.trans (hR.trans (hR.below hal) hW) (hR.below hal2)) (hI i W _ hi.1 hal2))).mono ?_
      rintro e W' ⟨b, rfl, hb⟩
      refine ⟨!b, rfl, ?_⟩
      cases b with
      | true =>
        have hfr' : R W W' := hR.trans (hR.below hal2) hb.1
        exact ⟨hfr', hb.2, hM _ _ _ _ (Nat.le_refl _) hfr' hi.2⟩
      | false => exact hb)
    ⟨hI 0 w _ h0 hal, alloc_at _ _⟩
  clear hf
  have H := Lib.hid hsz
  clear hsz
  go_enter Tryz.func86, Tryz.ntmps86
  go_wp2_with (go_at_call 28; refine HC.mono ?_; rintro e w' ⟨b, rfl, hb⟩)
  go_ret
  refine ⟨!b, rfl, ?_⟩
  cases b with
  | true => exact hb
  | false => exact ⟨hR.trans (hR.below hal) hb.1, hb.2.1⟩
set_option maxHeartbeats 2000000 in
theorem idxS (A : Option Addr) (c : Nat) (xs : List ByteArray) (w : World) (hc : xs.length ≤ c) (R : World → World → Prop) (hR : Rel R) (hr : ∀ W, R w W → Kd.C Kd.string W A xs.length xs)
    (g : Nat) (lb : Array Value) (eg : ∀ args w, (callFunc g args).run Tryz.prog w = .ok (.enter g args) w) (I T : Nat → World → Prop)
    (hf : ∀ i x cs W, xs[i]? = some x → (Kd.string).K W x cs → (∃ ad, A = some ad ∧ ∀ j u, cs[j]? = some u → W.cell? (ad.add (i * (Kd.string).sz + j)) = some u) → R w W → I i W → Calls Tryz.prog g (#[.string x] ++ lb) W fun e W' => ∃ b : Bool, e = .returned (.bool b) ∧ if b then T i W' else R W W' ∧ I (i + 1) W')
    (h0 : I 0 w) :
    Calls Tryz.prog 172 #[.slice A xs.length c, .func (.func g) #[] lb] w fun e W' => (e = .returned (.int .i64 (-1)) ∧ R w W' ∧ I xs.length W') ∨ ∃ i, i < xs.length ∧ e = .returned (.int .i64 (i : Int)) ∧ T i W' := by
  have hmax : xs.length ≤ 9223372036854775807 := (hr w (hR.refl _)).2.1
  have HR := Aside0.mk hr
  have HF := Aside0.mk hf
  have H0 := Aside0.mk h0
  clear hr hf h0
  go_enter Tryz.func172, Tryz.ntmps172
  go_wp2
  go_loopg [5, 8] xs.length (fun gg _ s8 wr => ∃ kk : Nat, kk ≤ xs.length ∧ xs.length - kk ≤ gg ∧ s8 = .int .i64 kk ∧ Aside0 (I kk wr) ∧ Aside0 (R w wr))
  case atStart => exact ⟨0, Nat.zero_le _, by omega, rfl, H0, ⟨hR.refl _⟩⟩
  case round =>
    obtain ⟨kk, hkk, hg, rfl, IW, FW⟩ := hrel
    by_cases hlt : kk < xs.length
    · have hltz : (kk : Int) < (xs.length : Int) := by omega
      obtain ⟨ad, c0, rfl, hK, hcc, k0⟩ := gett1 rfl (HR.out wr FW.out) kk hlt
      obtain rfl : c0 = .string xs[kk] := by simpa [Kd.string, Kd.scalar] using hK
      have hcall := HF.out kk _ _ wr (List.getElem?_eq_getElem hlt) hK ⟨ad, rfl, hcc⟩ FW.out IW.out
      clear hK hcc
      go_wp2_with (go_at_fn g; refine hcall.mono ?_; rintro e w' ⟨b, rfl, hb'⟩; cases b <;> simp only [if_true, Bool.false_eq_true, if_false] at hb')
      · go_roundg (xs.length - (kk + 1))
        case measure => omega
        case rel => exact ⟨kk + 1, by omega, by omega, by go_num, ⟨hb'.2⟩, ⟨hR.trans FW.out hb'.1⟩⟩
      · go_ret
        exact .inr ⟨kk, hlt, rfl, hb'⟩
    · have hltz : ¬ (kk : Int) < (xs.length : Int) := by omega
      have : kk = xs.length := by omega
      subst this
      go_wp2
      go_ret
      exact .inl ⟨rfl, FW.out, IW.out⟩
set_option maxHeartbeats 2000000 in
theorem hasS (A : Option Addr) (c : Nat) (xs : List ByteArray) (w : World) (hc : xs.length ≤ c) (R : World → World → Prop) (hR : Rel R) (hr : ∀ W, R w W → Kd.C Kd.string W A xs.length xs)
    (g : Nat) (lb : Array Value) (eg : ∀ args w, (callFunc g args).run Tryz.prog w = .ok (.enter g args) w) (I T : Nat → World → Prop)
    (hf : ∀ i x cs W, xs[i]? = some x → (Kd.string).K W x cs → (∃ ad, A = some ad ∧ ∀ j u, cs[j]? = some u → W.cell? (ad.add (i * (Kd.string).sz + j)) = some u) → R w W → I i W → Calls Tryz.prog g (#[.string x] ++ lb) W fun e W' => ∃ b : Bool, e = .returned (.bool b) ∧ if b then T i W' else R W W' ∧ I (i + 1) W')
    (h0 : I 0 w) :
    Calls Tryz.prog 157 #[.slice A xs.length c, .func (.func g) #[] lb] w fun e W' => ∃ b : Bool, e = .returned (.bool b) ∧ if b then ∃ i, i < xs.length ∧ T i W' else R w W' ∧ I xs.length W' := by
  have HC := idxS A c xs w hc R hR hr g lb eg I T hf h0
  clear hr hf h0
  go_enter Tryz.func157, Tryz.ntmps157
  go_wp2_with (go_at_call 172; refine HC.mono ?_; rintro e w' (⟨rfl, hi⟩ | ⟨i, hi, rfl, ht⟩))
  · go_ret
    exact ⟨false, rfl, hi⟩
  · go_ret
    exact ⟨true, by simp, i, hi, ht⟩
set_option maxHeartbeats 2000000 in
theorem ev1S (g : Nat) (lb : Array Value) (eg : ∀ args w, (callFunc g args).run Tryz.prog w = .ok (.enter g args) w) (B : Nat) (W : World) (hB : W.heap[B]? = some (.cells #[.func (.func g) #[] lb] 133 (0, 0))) (x : ByteArray) (Y : Bool → World → Prop)
    (hcall : Calls Tryz.prog g (#[.string x] ++ lb) (W) fun e W' => ∃ b : Bool, e = .returned (.bool b) ∧ Y b W') :
    Calls Tryz.prog 168 #[.string x, .pointer (some ⟨B, 0, none⟩)] W fun e W' => ∃ b : Bool, e = .returned (.bool (!b)) ∧ Y b W' := by
  have hlt := lt_of_block hB
  have k0 := cell_of_one hB
  have H := Lib.hid hB
  clear hB
  have hne : ¬ (B = W.heap.size) := by omega
  go_enter Tryz.func168, Tryz.ntmps168
  go_wp2_with (go_at_fn g; refine hcall.mono ?_; rintro e w' ⟨b, rfl, hb'⟩)
  go_ret
  exact ⟨b, rfl, hb'⟩
set_option maxHeartbeats 2000000 in
theorem evS (A : Option Addr) (c : Nat) (xs : List ByteArray) (w : World) (hc : xs.length ≤ c) (R : World → World → Prop) (hR : Rel R) (hM : ∀ W W' k cs, w.heap.size ≤ k → R W W' → W.heap[k]? = some (.cells cs 133 (0, 0)) → W'.heap[k]? = some (.cells cs 133 (0, 0))) (hr : ∀ W, R w W → Kd.C Kd.string W A xs.length xs)
    (g : Nat) (lb : Array Value) (eg : ∀ args w, (callFunc g args).run Tryz.prog w = .ok (.enter g args) w) (I T : Nat → World → Prop) (hI : ∀ i W W', I i W → Below W.heap.size W W' → I i W')
    (hf : ∀ i x cs W, xs[i]? = some x → (Kd.string).K W x cs → (∃ ad, A = some ad ∧ ∀ j u, cs[j]? = some u → W.cell? (ad.add (i * (Kd.string).sz + j)) = some u) → R w W → I i W → Calls Tryz.prog g (#[.string x] ++ lb) W fun e W' => ∃ b : Bool, e = .returned (.bool b) ∧ if b then R W W' ∧ I (i + 1) W' else T i W')
    (h0 : I 0 w) :
    Calls Tryz.prog 148 #[.slice A xs.length c, .func (.func g) #[] lb] w fun e W' => ∃ b : Bool, e = .returned (.bool b) ∧ if b then R w W' ∧ I xs.length W' else ∃ i, i < xs.length ∧ T i W' := by
  have hsz : (w.alloc (.cells #[.func (.func g) #[] lb] 133)).heap.size = w.heap.size + 1 := by simp
  have hal := below_alloc1 w (.cells #[.func (.func g) #[] lb] 133)
  have HC := hasS A c xs (w.alloc (.cells #[.func (.func g) #[] lb] 133)) hc R hR (fun W hW => hr W (hR.trans (hR.below hal) hW)) 168 #[.pointer (some ⟨w.heap.size, 0, none⟩)] (enters_of Tryz.func168 (by kernel_rfl) rfl)
    (fun i W => I i W ∧ W.heap[w.heap.size]? = some (.cells #[.func (.func g) #[] lb] 133 (0, 0))) T
    (fun i x cs W hx hK hcc hW hi => by
      skip
      have hal2 : Below W.heap.size W (W) := by first | exact below_alloc1 _ _ | exact Below.refl _ _
      refine (ev1S (g := g) (lb := lb) (eg := eg) (B := w.heap.size) (W := W) (hB := hi.2) (Y := fun b W' => if b then R (W) W' ∧ I (i + 1) W' else T i W')
        (hcall := hf i x _ (W) hx ((Kd.string).K_below hal2 hK) (by obtain ⟨ad, h1, h2⟩ := hcc; exact ⟨ad, h1, fun j u hj => by have h3 := h2 j u hj; exact (hal2.cell (World.block_lt_of_cell? _ _ h3)).trans h3⟩) (hR.trans (hR.trans (hR.below hal) hW) (hR.below hal2)) (hI i W _ hi.1 hal2))).mono ?_
      rintro e W' ⟨b, rfl, hb⟩
      refine ⟨!b, rfl, ?_⟩
      cases b with
      | true =>
        have hfr' : R W W' := hR.trans (hR.below hal2) hb.1
        exact ⟨hfr', hb.2, hM _ _ _ _ (Nat.le_refl _) hfr' hi.2⟩
      | false => exact hb)
    ⟨hI 0 w _ h0 hal, alloc_at _ _⟩
  clear hf
  have H := Lib.hid hsz
  clear hsz
  go_enter Tryz.func148, Tryz.ntmps148
  go_wp2_with (go_at_call 157; refine HC.mono ?_; rintro e w' ⟨b, rfl, hb⟩)
  go_ret
  refine ⟨!b, rfl, ?_⟩
  cases b with
  | true => exact hb
  | false => exact ⟨hR.trans (hR.below hal) hb.1, hb.2.1⟩
end Go.Proofs.YtacefdkfbpgedaaGreat.Mine
namespace Go.Proofs.YtacefdkfbpgedaaGreat.Mine
open Go.Proofs.YtacefdkfbpgedaaGreat.PProgSmall
open Go.RowKit Go.Proofs.YtacefdkfbpgedaaGreatW.PrintWords Go.Proofs.YtacefdkfbpgedaaGreatW.PrintLast
set_option linter.unusedVariables false
set_option linter.unusedSimpArgs false
def idxB {α : Type} (p : α → Bool) (xs : List α) : Int := if xs.any p then (xs.findIdx p : Nat) else -1
theorem none_snoc {α : Type} {p : α → Bool} {xs : List α} {i : Nat} {x : α} (h : ∀ j y, j < i → xs[j]? = some y → p y = false) (hx : xs[i]? = some x) (hp : p x = false) : ∀ j y, j < i + 1 → xs[j]? = some y → p y = false := by
  intro j y hj hy
  rcases Nat.lt_or_ge j i with hl | hl
  · exact h j y hl hy
  · obtain rfl : j = i := by omega
    rw [hx] at hy; cases hy; exact hp
theorem any_none {α : Type} {p : α → Bool} {xs : List α} (h : ∀ j y, j < xs.length → xs[j]? = some y → p y = false) : xs.any p = false := by
  rw [List.any_eq_false]
  intro x hx
  obtain ⟨i, hi, rfl⟩ := List.getElem_of_mem hx
  rw [h i _ hi (List.getElem?_eq_getElem hi)]; simp
theorem any_some {α : Type} {p : α → Bool} {xs : List α} {i : Nat} {x : α} (hx : xs[i]? = some x) (hp : p x = true) : xs.any p = true := by
  rw [List.any_eq_true]; exact ⟨x, List.mem_of_getElem? hx, hp⟩
theorem idxB_none {α : Type} {p : α → Bool} {xs : List α} (h : ∀ j y, j < xs.length → xs[j]? = some y → p y = false) : idxB p xs = -1 := by
  rw [idxB, any_none h]; rfl
theorem idxB_some {α : Type} {p : α → Bool} {xs : List α} {i : Nat} {x : α} (hx : xs[i]? = some x) (hp : p x = true) (h : ∀ j y, j < i → xs[j]? = some y → p y = false) : idxB p xs = (i : Int) := by
  rw [idxB, any_some hx hp, if_pos rfl]
  have hi := (List.getElem?_eq_some_iff.1 hx).1
  have : xs.findIdx p = i := by
    rw [List.findIdx_eq hi]
    have := (List.getElem?_eq_some_iff.1 hx).2
    refine ⟨by rw [this]; exact hp, fun j hj => h j _ hj (List.getElem?_eq_getElem (by omega))⟩
  rw [this]
def eqL {α β : Type} (p : α → β → Bool) : List α → List β → Bool
  | [], [] => true
  | x :: xs, y :: ys => p x y && eqL p xs ys
  | _, _ => false
theorem eqL_len {α β : Type} {p : α → β → Bool} : ∀ {xs : List α} {ys : List β}, ¬ xs.length = ys.length → eqL p xs ys = false
  | [], [], h => absurd rfl h
  | [], _ :: _, _ => rfl
  | _ :: _, [], _ => rfl
  | x :: xs, y :: ys, h => by
    rw [eqL, eqL_len (xs := xs) (ys := ys) (by simpa using h), Bool.and_false]
theorem eqL_true {α β : Type} {p : α → β → Bool} : ∀ {xs : List α} {ys : List β}, xs.length = ys.length → (∀ j x y, j < xs.length → xs[j]? = some x → ys[j]? = some y → p x y = true) → eqL p xs ys = true
  | [], [], _, _ => rfl
  | [], _ :: _, h, _ => by simp at h
  | _ :: _, [], h, _ => by simp at h
  | x :: xs, y :: ys, h, hp => by
    rw [eqL, hp 0 x y (by simp) rfl rfl, eqL_true (xs := xs) (ys := ys) (by simpa using h) (fun j a b hj ha hb => hp (j + 1) a b (by simpa using hj) (by simpa using ha) (by simpa using hb))]; rfl
theorem eqL_false {α β : Type} {p : α → β → Bool} : ∀ {xs : List α} {ys : List β} {i : Nat} {x : α} {y : β}, xs[i]? = some x → ys[i]? = some y → p x y = false → eqL p xs ys = false
  | [], _, _, _, _, hx, _, _ => by simp at hx
  | _ :: _, [], _, _, _, _, hy, _ => by simp at hy
  | a :: xs, b :: ys, 0, x, y, hx, hy, hp => by
    simp at hx hy; subst hx; subst hy; rw [eqL, hp, Bool.false_and]
  | a :: xs, b :: ys, i + 1, x, y, hx, hy, hp => by
    rw [eqL, eqL_false (xs := xs) (ys := ys) (i := i) (by simpa using hx) (by simpa using hy) hp, Bool.and_false]
theorem hasE_p (A : Option Addr) (c : Nat) (xs : List S57) (w : World) (hc : xs.length ≤ c) (hr : Kd.C k57 w A xs.length xs) (g : Nat) (lb : Array Value) (eg : ∀ args w, (callFunc g args).run Tryz.prog w = .ok (.enter g args) w) (p : S57 → Bool)
    (hf : ∀ x cs W, x ∈ xs → (k57).K W x cs → Below w.heap.size w W → Calls Tryz.prog g (#[.agg cs.toArray] ++ lb) W fun e W' => e = .returned (.bool (p x)) ∧ Below W.heap.size W W') :
    Calls Tryz.prog 32 #[.slice A xs.length c, .func (.func g) #[] lb] w fun e W' => e = .returned (.bool (xs.any p)) ∧ Below w.heap.size w W' := by
  refine (hasE A c xs w hc (Fr NoM) (Fr.rel _) (fun W hW => Kd.C_below hr hW.below0) g lb eg (fun i _ => ∀ j x, j < i → xs[j]? = some x → p x = false) (fun i W' => Below w.heap.size w W' ∧ ∃ x, xs[i]? = some x ∧ p x = true) ?_ (fun j x hj => absurd hj (Nat.not_lt_zero _))).mono ?_
  · intro i x cs W hx hK _ hW hi
    refine (hf x cs W (List.mem_of_getElem? hx) hK hW.below0).mono ?_
    rintro e W' ⟨rfl, hb⟩
    have hbb : Below w.heap.size w W' := hW.below0.trans (hb.mono hW.size)
    refine ⟨p x, rfl, ?_⟩
    cases hp : p x with
    | true => exact ⟨hbb, x, hx, hp⟩
    | false => exact ⟨Fr.of_below _ hb, none_snoc hi hx hp⟩
  · rintro e W' ⟨b, rfl, hb⟩
    cases b with
    | true => obtain ⟨i, _, hfr, x, hx, hp⟩ := hb; exact ⟨by rw [any_some hx hp], hfr⟩
    | false => exact ⟨by rw [any_none hb.2], hb.1.below0⟩
theorem evE_p (A : Option Addr) (c : Nat) (xs : List S57) (w : World) (hc : xs.length ≤ c) (hr : Kd.C k57 w A xs.length xs) (g : Nat) (lb : Array Value) (eg : ∀ args w, (callFunc g args).run Tryz.prog w = .ok (.enter g args) w) (p : S57 → Bool)
    (hf : ∀ x cs W, x ∈ xs → (k57).K W x cs → Below w.heap.size w W → Calls Tryz.prog g (#[.agg cs.toArray] ++ lb) W fun e W' => e = .returned (.bool (p x)) ∧ Below W.heap.size W W') :
    Calls Tryz.prog 135 #[.slice A xs.length c, .func (.func g) #[] lb] w fun e W' => e = .returned (.bool (xs.all p)) ∧ Below w.heap.size w W' := by
  refine (evE A c xs w hc (Fr NoM) (Fr.rel _) (fun W W' k cs _ h hk => h.blk hk (fun x => x)) (fun W hW => Kd.C_below hr hW.below0) g lb eg (fun i _ => ∀ j x, j < i → xs[j]? = some x → (!p x) = false) (fun i W' => Below w.heap.size w W' ∧ ∃ x, xs[i]? = some x ∧ (!p x) = true) (fun _ _ _ h _ => h) ?_ (fun j x hj => absurd hj (Nat.not_lt_zero _))).mono ?_
  · intro i x cs W hx hK _ hW hi
    refine (hf x cs W (List.mem_of_getElem? hx) hK hW.below0).mono ?_
    rintro e W' ⟨rfl, hb⟩
    have hbb : Below w.heap.size w W' := hW.below0.trans (hb.mono hW.size)
    refine ⟨p x, rfl, ?_⟩
    cases hp : p x with
    | false => exact ⟨hbb, x, hx, by simp [hp]⟩
    | true => exact ⟨Fr.of_below _ hb, none_snoc (p := fun x => !p x) hi hx (by simp [hp])⟩
  · rintro e W' ⟨b, rfl, hb⟩
    rw [List.all_eq_not_any_not]
    cases b with
    | false => obtain ⟨i, _, hfr, x, hx, hp⟩ := hb; exact ⟨by rw [any_some hx hp]; rfl, hfr⟩
    | true => exact ⟨by rw [any_none hb.2]; rfl, hb.1.below0⟩
theorem idxC_p (A : Option Addr) (c : Nat) (xs : List S62) (w : World) (hc : xs.length ≤ c) (hr : Kd.C k62 w A xs.length xs) (g : Nat) (lb : Array Value) (eg : ∀ args w, (callFunc g args).run Tryz.prog w = .ok (.enter g args) w) (p : S62 → Bool)
    (hf : ∀ x cs W, x ∈ xs → (k62).K W x cs → Below w.heap.size w W → Calls Tryz.prog g (#[.agg cs.toArray] ++ lb) W fun e W' => e = .returned (.bool (p x)) ∧ Below W.heap.size W W') :
    Calls Tryz.prog 90 #[.slice A xs.length c, .func (.func g) #[] lb] w fun e W' => e = .returned (.int .i64 (idxB p xs)) ∧ Below w.heap.size w W' := by
  refine (idxC A c xs w hc (Fr NoM) (Fr.rel _) (fun W hW => Kd.C_below hr hW.below0) g lb eg (fun i _ => ∀ j x, j < i → xs[j]? = some x → p x = false) (fun i W' => Below w.heap.size w W' ∧ ∃ x, xs[i]? = some x ∧ p x = true ∧ ∀ j x, j < i → xs[j]? = some x → p x = false) ?_ (fun j x hj => absurd hj (Nat.not_lt_zero _))).mono ?_
  · intro i x cs W hx hK _ hW hi
    refine (hf x cs W (List.mem_of_getElem? hx) hK hW.below0).mono ?_
    rintro e W' ⟨rfl, hb⟩
    have hbb : Below w.heap.size w W' := hW.below0.trans (hb.mono hW.size)
    refine ⟨p x, rfl, ?_⟩
    cases hp : p x with
    | true => exact ⟨hbb, x, hx, hp, hi⟩
    | false => exact ⟨Fr.of_below _ hb, none_snoc hi hx hp⟩
  · rintro e W' (⟨rfl, hfr, hi⟩ | ⟨i, hi, rfl, hfr, x, hx, hp, hn⟩)
    · exact ⟨by rw [idxB_none hi], hfr.below0⟩
    · exact ⟨by rw [idxB_some hx hp hn], hfr⟩
theorem hasC_p (A : Option Addr) (c : Nat) (xs : List S62) (w : World) (hc : xs.length ≤ c) (hr : Kd.C k62 w A xs.length xs) (g : Nat) (lb : Array Value) (eg : ∀ args w, (callFunc g args).run Tryz.prog w = .ok (.enter g args) w) (p : S62 → Bool)
    (hf : ∀ x cs W, x ∈ xs → (k62).K W x cs → Below w.heap.size w W → Calls Tryz.prog g (#[.agg cs.toArray] ++ lb) W fun e W' => e = .returned (.bool (p x)) ∧ Below W.heap.size W W') :
    Calls Tryz.prog 30 #[.slice A xs.length c, .func (.func g) #[] lb] w fun e W' => e = .returned (.bool (xs.any p)) ∧ Below w.heap.size w W' := by
  refine (hasC A c xs w hc (Fr NoM) (Fr.rel _) (fun W hW => Kd.C_below hr hW.below0) g lb eg (fun i _ => ∀ j x, j < i → xs[j]? = some x → p x = false) (fun i W' => Below w.heap.size w W' ∧ ∃ x, xs[i]? = some x ∧ p x = true) ?_ (fun j x hj => absurd hj (Nat.not_lt_zero _))).mono ?_
  · intro i x cs W hx hK _ hW hi
    refine (hf x cs W (List.mem_of_getElem? hx) hK hW.below0).mono ?_
    rintro e W' ⟨rfl, hb⟩
    have hbb : Below w.heap.size w W' := hW.below0.trans (hb.mono hW.size)
    refine ⟨p x, rfl, ?_⟩
    cases hp : p x with
    | true => exact ⟨hbb, x, hx, hp⟩
    | false => exact ⟨Fr.of_below _ hb, none_snoc hi hx hp⟩
  · rintro e W' ⟨b, rfl, hb⟩
    cases b with
    | true => obtain ⟨i, _, hfr, x, hx, hp⟩ := hb; exact ⟨by rw [any_some hx hp], hfr⟩
    | false => exact ⟨by rw [any_none hb.2], hb.1.below0⟩
theorem evC_p (A : Option Addr) (c : Nat) (xs : List S62) (w : World) (hc : xs.length ≤ c) (hr : Kd.C k62 w A xs.length xs) (g : Nat) (lb : Array Value) (eg : ∀ args w, (callFunc g args).run Tryz.prog w = .ok (.enter g args) w) (p : S62 → Bool)
    (hf : ∀ x cs W, x ∈ xs → (k62).K W x cs → Below w.heap.size w W → Calls Tryz.prog g (#[.agg cs.toArray] ++ lb) W fun e W' => e = .returned (.bool (p x)) ∧ Below W.heap.size W W') :
    Calls Tryz.prog 144 #[.slice A xs.length c, .func (.func g) #[] lb] w fun e W' => e = .returned (.bool (xs.all p)) ∧ Below w.heap.size w W' := by
  refine (evC A c xs w hc (Fr NoM) (Fr.rel _) (fun W W' k cs _ h hk => h.blk hk (fun x => x)) (fun W hW => Kd.C_below hr hW.below0) g lb eg (fun i _ => ∀ j x, j < i → xs[j]? = some x → (!p x) = false) (fun i W' => Below w.heap.size w W' ∧ ∃ x, xs[i]? = some x ∧ (!p x) = true) (fun _ _ _ h _ => h) ?_ (fun j x hj => absurd hj (Nat.not_lt_zero _))).mono ?_
  · intro i x cs W hx hK _ hW hi
    refine (hf x cs W (List.mem_of_getElem? hx) hK hW.below0).mono ?_
    rintro e W' ⟨rfl, hb⟩
    have hbb : Below w.heap.size w W' := hW.below0.trans (hb.mono hW.size)
    refine ⟨p x, rfl, ?_⟩
    cases hp : p x with
    | false => exact ⟨hbb, x, hx, by simp [hp]⟩
    | true => exact ⟨Fr.of_below _ hb, none_snoc (p := fun x => !p x) hi hx (by simp [hp])⟩
  · rintro e W' ⟨b, rfl, hb⟩
    rw [List.all_eq_not_any_not]
    cases b with
    | false => obtain ⟨i, _, hfr, x, hx, hp⟩ := hb; exact ⟨by rw [any_some hx hp]; rfl, hfr⟩
    | true => exact ⟨by rw [any_none hb.2]; rfl, hb.1.below0⟩
theorem idxD_p (A : Option Addr) (c : Nat) (xs : List S59) (w : World) (hc : xs.length ≤ c) (hr : Kd.C k59 w A xs.length xs) (g : Nat) (lb : Array Value) (eg : ∀ args w, (callFunc g args).run Tryz.prog w = .ok (.enter g args) w) (p : S59 → Bool)
    (hf : ∀ x cs W, x ∈ xs → (k59).K W x cs → Below w.heap.size w W → Calls Tryz.prog g (#[.agg cs.toArray] ++ lb) W fun e W' => e = .returned (.bool (p x)) ∧ Below W.heap.size W W') :
    Calls Tryz.prog 89 #[.slice A xs.length c, .func (.func g) #[] lb] w fun e W' => e = .returned (.int .i64 (idxB p xs)) ∧ Below w.heap.size w W' := by
  refine (idxD A c xs w hc (Fr NoM) (Fr.rel _) (fun W hW => Kd.C_below hr hW.below0) g lb eg (fun i _ => ∀ j x, j < i → xs[j]? = some x → p x = false) (fun i W' => Below w.heap.size w W' ∧ ∃ x, xs[i]? = some x ∧ p x = true ∧ ∀ j x, j < i → xs[j]? = some x → p x = false) ?_ (fun j x hj => absurd hj (Nat.not_lt_zero _))).mono ?_
  · intro i x cs W hx hK _ hW hi
    refine (hf x cs W (List.mem_of_getElem? hx) hK hW.below0).mono ?_
    rintro e W' ⟨rfl, hb⟩
    have hbb : Below w.heap.size w W' := hW.below0.trans (hb.mono hW.size)
    refine ⟨p x, rfl, ?_⟩
    cases hp : p x with
    | true => exact ⟨hbb, x, hx, hp, hi⟩
    | false => exact ⟨Fr.of_below _ hb, none_snoc hi hx hp⟩
  · rintro e W' (⟨rfl, hfr, hi⟩ | ⟨i, hi, rfl, hfr, x, hx, hp, hn⟩)
    · exact ⟨by rw [idxB_none hi], hfr.below0⟩
    · exact ⟨by rw [idxB_some hx hp hn], hfr⟩
theorem hasD_p (A : Option Addr) (c : Nat) (xs : List S59) (w : World) (hc : xs.length ≤ c) (hr : Kd.C k59 w A xs.length xs) (g : Nat) (lb : Array Value) (eg : ∀ args w, (callFunc g args).run Tryz.prog w = .ok (.enter g args) w) (p : S59 → Bool)
    (hf : ∀ x cs W, x ∈ xs → (k59).K W x cs → Below w.heap.size w W → Calls Tryz.prog g (#[.agg cs.toArray] ++ lb) W fun e W' => e = .returned (.bool (p x)) ∧ Below W.heap.size W W') :
    Calls Tryz.prog 28 #[.slice A xs.length c, .func (.func g) #[] lb] w fun e W' => e = .returned (.bool (xs.any p)) ∧ Below w.heap.size w W' := by
  refine (hasD A c xs w hc (Fr NoM) (Fr.rel _) (fun W hW => Kd.C_below hr hW.below0) g lb eg (fun i _ => ∀ j x, j < i → xs[j]? = some x → p x = false) (fun i W' => Below w.heap.size w W' ∧ ∃ x, xs[i]? = some x ∧ p x = true) ?_ (fun j x hj => absurd hj (Nat.not_lt_zero _))).mono ?_
  · intro i x cs W hx hK _ hW hi
    refine (hf x cs W (List.mem_of_getElem? hx) hK hW.below0).mono ?_
    rintro e W' ⟨rfl, hb⟩
    have hbb : Below w.heap.size w W' := hW.below0.trans (hb.mono hW.size)
    refine ⟨p x, rfl, ?_⟩
    cases hp : p x with
    | true => exact ⟨hbb, x, hx, hp⟩
    | false => exact ⟨Fr.of_below _ hb, none_snoc hi hx hp⟩
  · rintro e W' ⟨b, rfl, hb⟩
    cases b with
    | true => obtain ⟨i, _, hfr, x, hx, hp⟩ := hb; exact ⟨by rw [any_some hx hp], hfr⟩
    | false => exact ⟨by rw [any_none hb.2], hb.1.below0⟩
theorem evD_p (A : Option Addr) (c : Nat) (xs : List S59) (w : World) (hc : xs.length ≤ c) (hr : Kd.C k59 w A xs.length xs) (g : Nat) (lb : Array Value) (eg : ∀ args w, (callFunc g args).run Tryz.prog w = .ok (.enter g args) w) (p : S59 → Bool)
    (hf : ∀ x cs W, x ∈ xs → (k59).K W x cs → Below w.heap.size w W → Calls Tryz.prog g (#[.agg cs.toArray] ++ lb) W fun e W' => e = .returned (.bool (p x)) ∧ Below W.heap.size W W') :
    Calls Tryz.prog 86 #[.slice A xs.length c, .func (.func g) #[] lb] w fun e W' => e = .returned (.bool (xs.all p)) ∧ Below w.heap.size w W' := by
  refine (evD A c xs w hc (Fr NoM) (Fr.rel _) (fun W W' k cs _ h hk => h.blk hk (fun x => x)) (fun W hW => Kd.C_below hr hW.below0) g lb eg (fun i _ => ∀ j x, j < i → xs[j]? = some x → (!p x) = false) (fun i W' => Below w.heap.size w W' ∧ ∃ x, xs[i]? = some x ∧ (!p x) = true) (fun _ _ _ h _ => h) ?_ (fun j x hj => absurd hj (Nat.not_lt_zero _))).mono ?_
  · intro i x cs W hx hK _ hW hi
    refine (hf x cs W (List.mem_of_getElem? hx) hK hW.below0).mono ?_
    rintro e W' ⟨rfl, hb⟩
    have hbb : Below w.heap.size w W' := hW.below0.trans (hb.mono hW.size)
    refine ⟨p x, rfl, ?_⟩
    cases hp : p x with
    | false => exact ⟨hbb, x, hx, by simp [hp]⟩
    | true => exact ⟨Fr.of_below _ hb, none_snoc (p := fun x => !p x) hi hx (by simp [hp])⟩
  · rintro e W' ⟨b, rfl, hb⟩
    rw [List.all_eq_not_any_not]
    cases b with
    | false => obtain ⟨i, _, hfr, x, hx, hp⟩ := hb; exact ⟨by rw [any_some hx hp]; rfl, hfr⟩
    | true => exact ⟨by rw [any_none hb.2]; rfl, hb.1.below0⟩
theorem evS_p (A : Option Addr) (c : Nat) (xs : List ByteArray) (w : World) (hc : xs.length ≤ c) (hr : Kd.C Kd.string w A xs.length xs) (g : Nat) (lb : Array Value) (eg : ∀ args w, (callFunc g args).run Tryz.prog w = .ok (.enter g args) w) (p : ByteArray → Bool)
    (hf : ∀ x cs W, x ∈ xs → (Kd.string).K W x cs → Below w.heap.size w W → Calls Tryz.prog g (#[.string x] ++ lb) W fun e W' => e = .returned (.bool (p x)) ∧ Below W.heap.size W W') :
    Calls Tryz.prog 148 #[.slice A xs.length c, .func (.func g) #[] lb] w fun e W' => e = .returned (.bool (xs.all p)) ∧ Below w.heap.size w W' := by
  refine (evS A c xs w hc (Fr NoM) (Fr.rel _) (fun W W' k cs _ h hk => h.blk hk (fun x => x)) (fun W hW => Kd.C_below hr hW.below0) g lb eg (fun i _ => ∀ j x, j < i → xs[j]? = some x → (!p x) = false) (fun i W' => Below w.heap.size w W' ∧ ∃ x, xs[i]? = some x ∧ (!p x) = true) (fun _ _ _ h _ => h) ?_ (fun j x hj => absurd hj (Nat.not_lt_zero _))).mono ?_
  · intro i x cs W hx hK _ hW hi
    refine (hf x cs W (List.mem_of_getElem? hx) hK hW.below0).mono ?_
    rintro e W' ⟨rfl, hb⟩
    have hbb : Below w.heap.size w W' := hW.below0.trans (hb.mono hW.size)
    refine ⟨p x, rfl, ?_⟩
    cases hp : p x with
    | false => exact ⟨hbb, x, hx, by simp [hp]⟩
    | true => exact ⟨Fr.of_below _ hb, none_snoc (p := fun x => !p x) hi hx (by simp [hp])⟩
  · rintro e W' ⟨b, rfl, hb⟩
    rw [List.all_eq_not_any_not]
    cases b with
    | false => obtain ⟨i, _, hfr, x, hx, hp⟩ := hb; exact ⟨by rw [any_some hx hp]; rfl, hfr⟩
    | true => exact ⟨by rw [any_none hb.2]; rfl, hb.1.below0⟩
set_option maxHeartbeats 4000000 in
theorem eqfE (A B : Option Addr) (c d : Nat) (xs ys : List S57) (w : World) (hc : xs.length ≤ c) (hd : ys.length ≤ d) (hr : Kd.C k57 w A xs.length xs) (hs : Kd.C k57 w B ys.length ys) (g : Nat) (lb : Array Value) (eg : ∀ args w, (callFunc g args).run Tryz.prog w = .ok (.enter g args) w) (p : S57 → S57 → Bool)
    (hf : ∀ x y cs ds W, x ∈ xs → y ∈ ys → (k57).K W x cs → (k57).K W y ds → Below w.heap.size w W → Calls Tryz.prog g (#[.agg cs.toArray, .agg ds.toArray] ++ lb) W fun e W' => e = .returned (.bool (p x y)) ∧ Below W.heap.size W W') :
    Calls Tryz.prog 121 #[.slice A xs.length c, .slice B ys.length d, .func (.func g) #[] lb] w fun e W' => e = .returned (.bool (eqL p xs ys)) ∧ Below w.heap.size w W' := by
  have hm1 : xs.length ≤ 9223372036854775807 := hr.2.1
  have hm2 : ys.length ≤ 9223372036854775807 := hs.2.1
  have HR := Aside0.mk hr
  have HS := Aside0.mk hs
  have HF := Aside0.mk hf
  clear hr hs hf
  by_cases hl : xs.length = ys.length
  · have hl1 : ((xs.length : Int) != (ys.length : Int)) = false := by simp only [bne_eq_false_iff_eq]; omega
    have HL := Lib.hid hl
    clear hl
    go_enter Tryz.func121, Tryz.ntmps121
    go_wp2
    go_loopg [7, 8, 9, 17] xs.length (fun gg _ _ _ s17 wr => ∃ kk : Nat, kk ≤ xs.length ∧ xs.length - kk ≤ gg ∧ s17 = .int .i64 kk ∧ Aside0 (∀ j x y, j < kk → xs[j]? = some x → ys[j]? = some y → p x y = true) ∧ Aside0 (Below w.heap.size w wr))
    case atStart => exact ⟨0, Nat.zero_le _, by omega, rfl, ⟨fun j x y hj => absurd hj (Nat.not_lt_zero _)⟩, ⟨Below.refl _ _⟩⟩
    case round =>
      obtain ⟨kk, hkk, hg, rfl, IW, FW⟩ := hrel
      by_cases hlt : kk < xs.length
      · have hltz : (kk : Int) < (xs.length : Int) := by omega
        have hlt2 : kk < ys.length := by have := HL.out; omega
        have hltz2 : (kk : Int) < (ys.length : Int) := by omega
        obtain ⟨ad, c0, c1, c2, rfl, hK, k0, k1, k2⟩ := get3 rfl (Kd.C_below HR.out FW.out) kk hlt
        obtain ⟨A2, a2, e1, _, _⟩ := k57_open hK; obtain ⟨rfl, rfl, rfl⟩ : c0 = _ ∧ c1 = _ ∧ c2 = _ := by simpa using e1
        have q1 : Below wr.heap.size wr (wr.alloc (.cells #[.int .i64 xs[kk].f0, .string xs[kk].f1, .slice A2 xs[kk].f2.length a2] 57)) := below_alloc1 _ _
        obtain ⟨bd, d0, d1, d2, rfl, hK2, l0, l1, l2⟩ := get3 rfl (Kd.C_below HS.out (FW.out.trans (q1.mono FW.out.size))) kk hlt2
        obtain ⟨B2, b2, e2, _, _⟩ := k57_open hK2; obtain ⟨rfl, rfl, rfl⟩ : d0 = _ ∧ d1 = _ ∧ d2 = _ := by simpa using e2
        have q2a : Below (wr.alloc (.cells #[.int .i64 xs[kk].f0, .string xs[kk].f1, .slice A2 xs[kk].f2.length a2] 57)).heap.size (wr.alloc (.cells #[.int .i64 xs[kk].f0, .string xs[kk].f1, .slice A2 xs[kk].f2.length a2] 57)) ((wr.alloc (.cells #[.int .i64 xs[kk].f0, .string xs[kk].f1, .slice A2 xs[kk].f2.length a2] 57)).alloc (.cells #[.int .i64 ys[kk].f0, .string ys[kk].f1, .slice B2 ys[kk].f2.length b2] 57)) := below_alloc1 _ _
        have q2 : Below wr.heap.size wr ((wr.alloc (.cells #[.int .i64 xs[kk].f0, .string xs[kk].f1, .slice A2 xs[kk].f2.length a2] 57)).alloc (.cells #[.int .i64 ys[kk].f0, .string ys[kk].f1, .slice B2 ys[kk].f2.length b2] 57)) := q1.trans ((below_alloc1 _ _).mono q1.size)
        have hcall := HF.out _ _ _ _ ((wr.alloc (.cells #[.int .i64 xs[kk].f0, .string xs[kk].f1, .slice A2 xs[kk].f2.length a2] 57)).alloc (.cells #[.int .i64 ys[kk].f0, .string ys[kk].f1, .slice B2 ys[kk].f2.length b2] 57)) (List.getElem_mem hlt) (List.getElem_mem hlt2) ((k57).K_below q2 hK) ((k57).K_below q2a hK2) (FW.out.trans (q2.mono FW.out.size))
        have Q2 := Aside0.mk q2
        have X1 : xs[kk]? = some xs[kk] := List.getElem?_eq_getElem hlt
        have X2 : ys[kk]? = some ys[kk] := List.getElem?_eq_getElem hlt2
        have HX1 := Lib.hid X1
        have HX2 := Lib.hid X2
        clear hK hK2 q1 q2 q2a X1 X2
        cases hp : p xs[kk] ys[kk] with
        | true =>
          rw [hp] at hcall
          have HP := Lib.hid hp
          clear hp
          go_wp2_with (go_at_fn g; refine hcall.mono ?_; rintro e w' ⟨rfl, hb'⟩)
          go_roundg (xs.length - (kk + 1))
          case measure => omega
          case rel => exact ⟨kk + 1, by omega, by omega, by go_num, ⟨fun j x y hj hx hy => by
            rcases Nat.lt_or_ge j kk with h | h
            · exact IW.out j x y h hx hy
            · obtain rfl : j = kk := by omega
              rw [HX1.out] at hx; rw [HX2.out] at hy
              cases hx; cases hy; exact HP.out⟩, ⟨FW.out.trans ((Q2.out.trans (hb'.mono Q2.out.size)).mono FW.out.size)⟩⟩
        | false =>
          rw [hp] at hcall
          have HP := Lib.hid hp
          clear hp
          go_wp2_with (go_at_fn g; refine hcall.mono ?_; rintro e w' ⟨rfl, hb'⟩)
          go_ret
          exact ⟨retb (eqL_false HX1.out HX2.out HP.out).symm, FW.out.trans ((Q2.out.trans (hb'.mono Q2.out.size)).mono FW.out.size)⟩
      · have hltz : ¬ (kk : Int) < (xs.length : Int) := by omega
        have : kk = xs.length := by omega
        subst this
        go_wp2
        go_ret
        exact ⟨retb (eqL_true HL.out IW.out).symm, FW.out⟩
  · have hl1 : ((xs.length : Int) != (ys.length : Int)) = true := by simp only [bne_iff_ne, ne_eq]; omega
    have HL := Lib.hid hl
    clear hl
    go_enter Tryz.func121, Tryz.ntmps121
    go_wp2
    go_ret
    exact ⟨retb (eqL_len HL.out).symm, Below.refl _ _⟩
end Go.Proofs.YtacefdkfbpgedaaGreat.Mine
namespace Go.Proofs.YtacefdkfbpgedaaGreat.Mine
open Go.Proofs.YtacefdkfbpgedaaGreat.PProgSmall
open Go
set_option linter.unusedVariables false
section
variable {P : Program} {ops : Array Oper} {Q : Exit → Act → World → Prop} {md : Region.Mode} {S : World → Prop} {k : Nat}
def wpAnyK (P : Program) (md : Region.Mode) (ops : Array Oper) (Q : Exit → Act → World → Prop) (S : World → Prop) (k : Nat) : Nat → Array Bool → Act → World → Prop
  | 0, listed, a, w => Region.ready md ops listed = [] ∧ Q .normal a w
  | fuel + 1, listed, a, w =>
    (Region.ready md ops listed = [] → Q .normal a w) ∧
    ∀ i ∈ Region.ready md ops listed, wpOp P ops Q i (fun a' w' => (i ≠ k → S w') ∧ wpAnyK P md ops Q S k fuel (listed.setIfInBounds i true) a' w') a w
theorem wpAny_of_K : ∀ (fuel : Nat) (listed : Array Bool) (a : Act) (w : World), wpAnyK P md ops Q S k fuel listed a w → wpAny P md ops Q fuel listed a w
  | 0, _, _, _, h => h
  | fuel + 1, _, _, _, h => ⟨h.1, fun i hi => wpOp_mono (fun a' w' h' => wpAny_of_K fuel _ a' w' h'.2) (h.2 i hi)⟩
def waitsK (md : Region.Mode) (ops : Array Oper) (k i : Nat) : Bool := ((ops[k]?).map fun o => o.after.any fun e => Region.binds md e && e.on == i).getD false
theorem waitsK_no {i j : Nat} {listed : Array Bool} (h : waitsK md ops k i = true) (hi : i ∈ Region.ready md ops listed) (hj : j ∈ Region.ready md ops listed) : j ≠ k := by
  rintro rfl
  obtain ⟨_, oj, hoj, hall⟩ := mem_ready.1 hj
  obtain ⟨hun, oi, hoi, _⟩ := mem_ready.1 hi
  rw [waitsK, hoj] at h
  simp only [Option.map_some, Option.getD_some, Array.any_eq_true] at h
  obtain ⟨n, hn, he⟩ := h
  simp only [Bool.and_eq_true, beq_iff_eq] at he
  have h1 := hall oj.after[n] (Array.getElem_mem hn) he.1
  rw [he.2] at h1
  rcases Nat.lt_or_ge i listed.size with h' | h'
  · simp [h'] at hun h1; rw [hun] at h1; cases h1
  · simp [Array.getElem?_eq_none h'] at h1
theorem wpAnyK_first {i : Nat} {oi : Oper} {v : Value} (hi : ops[i]? = some oi) (hk : waitsK md ops k i = true) (hsel : ∀ (j : Nat) (o : Oper) cs b, ops[j]? = some o → o.op ≠ .select cs b)
    (hQ : ∀ c a w, Q (.panic c) (a.put oi.dst v) w → Q (.panic c) a w) :
    ∀ (fuel : Nat) (listed : Array Bool) (a : Act) (w : World),
      (∀ j oj, ops[j]? = some oj → j ≠ i → listed.getD j true = false → (∀ e ∈ oj.after, Region.binds md e = true → e.on ≠ i) → oi.apart ops oj = true) →
      i ∈ Region.ready md ops listed → YieldsIf P ops S oi v a → S w →
      wpAnyK P md ops Q S k fuel (listed.setIfInBounds i true) (a.put oi.dst v) w → wpAnyK P md ops Q S k (fuel + 1) listed a w := by
  intro fuel
  induction fuel with
  | zero =>
    intro listed a w _ hr hy hS H
    refine ⟨fun h => (by rw [h] at hr; cases hr), fun j hj => ?_⟩
    by_cases hji : j = i
    · subst hji; exact hy.wpOp hi hS ⟨fun _ => hS, H⟩
    · have := ready_mono hj hji
      rw [H.1] at this
      cases this
  | succ fuel ih =>
    intro listed a w hfree hr hy hS H
    refine ⟨fun h => (by rw [h] at hr; cases hr), fun j hj => ?_⟩
    by_cases hji : j = i
    · subst hji; exact hy.wpOp hi hS ⟨fun _ => hS, H⟩
    · have hjk : j ≠ k := waitsK_no hk hr hj
      have h1 := H.2 j (ready_mono hj hji)
      obtain ⟨hjun, oj, hoj, hall⟩ := mem_ready.1 hj
      have hnot : ∀ e ∈ oj.after, Region.binds md e = true → e.on ≠ i := fun e he hb heq => by
        have h1 := hall e he hb
        have h0 := (mem_ready.1 hr).1
        rw [heq] at h1
        rcases Nat.lt_or_ge i listed.size with h' | h'
        · simp [h'] at h0 h1; rw [h0] at h1; cases h1
        · simp [Array.getElem?_eq_none h'] at h1
      have h2 := wpOp_putIf hoj (hfree j oj hoj hji hjun hnot) (fun cs b => hsel i oi cs b hi) (fun cs b => hsel j oj cs b hoj) hQ hy h1
      have hfree' : ∀ n on, ops[n]? = some on → n ≠ i → (listed.setIfInBounds j true).getD n true = false →
          (∀ e ∈ on.after, Region.binds md e = true → e.on ≠ i) → oi.apart ops on = true := fun n on hn hni hun hno => by
        refine hfree n on hn hni ?_ hno
        by_cases hjn : j = n
        · subst hjn; exact hjun
        · rw [getD_set_ne true hjn] at hun; exact hun
      refine wpOp_mono (fun a' w' h3 => ⟨h3.2.1, ih (listed.setIfInBounds j true) a' w' hfree' (ready_mono hr (Ne.symm hji)) h3.1 (h3.2.1 hjk) ?_⟩) h2
      rw [Array.setIfInBounds_comm _ _ hji]
      exact h3.2.2
theorem wpAnyK_take {i : Nat} {oi : Oper} {v : Value} {fuel : Nat} {listed : Array Bool} {a : Act} {w : World} (hi : ops[i]? = some oi) (hk : waitsK md ops k i = true)
    (hs : Region.noSelect ops = true) (hf : Region.free md ops listed i = true) (hr : (Region.ready md ops listed).contains i = true)
    (hQ : ∀ c a w, Q (.panic c) (a.put oi.dst v) w → Q (.panic c) a w) (hS : S w) (hy : YieldsIf P ops S oi v a)
    (h : wpAnyK P md ops Q S k fuel (listed.setIfInBounds i true) (a.put oi.dst v) w) : wpAnyK P md ops Q S k (fuel + 1) listed a w :=
  wpAnyK_first hi hk (Region.noSelect_spec hs) hQ fuel listed a w (Region.free_spec hi hf) (by simpa using hr) hy hS h
theorem wpAnyK_one {i : Nat} {o : Oper} {fuel : Nat} {listed : Array Bool} {a : Act} {w : World} (hr : Region.ready md ops listed = [i]) (ho : ops[i]? = some o)
    (h : ∀ K' : Act → World → Prop, Shut (∀ a w, (i ≠ k → S w) → wpAnyK P md ops Q S k fuel (listed.setIfInBounds i true) a w → K' a w) → if Region.wanted o (yielded ops a.tmps) = true then Oper.wp P o a w K' Q else K' (a.put o.dst undef) w) :
    wpAnyK P md ops Q S k (fuel + 1) listed a w :=
  ⟨fun h0 => (by rw [h0] at hr; cases hr), fun j hj => by
    rw [hr] at hj
    obtain rfl : j = i := by simpa using hj
    exact wpOp_step ho (fun K' hK => h K' (fun a w hS hW => hK a w ⟨hS, hW⟩))⟩
theorem wpAnyK_done {listed : Array Bool} {a : Act} {w : World} (hr : Region.ready md ops listed = []) (h : Q .normal a w) : ∀ fuel, wpAnyK P md ops Q S k fuel listed a w
  | 0 => ⟨hr, h⟩
  | _ + 1 => ⟨fun _ => h, by rw [hr]; simp⟩
theorem wp_region_K {id : Nat} {a : Act} {w : World} (hm : P.follows .mixedOrders = true)
    (h : wpAnyK P .any ops Q S k ops.size (Array.replicate ops.size false) a w.drew) : (Code.region id ops true).wp P Q a w :=
  wp_region_any hm (wpAny_of_K _ _ _ _ h)
end
end Go.Proofs.YtacefdkfbpgedaaGreat.Mine
namespace Go.Proofs.YtacefdkfbpgedaaGreat.Mine
open Go.Proofs.YtacefdkfbpgedaaGreat.PProgSmall
open Go
set_option linter.unusedVariables false
theorem wpAnyK_two {P : Program} {ops : Array Oper} {Q : Exit → Act → World → Prop} {md : Region.Mode} {S : World → Prop} {k i j : Nat} {oi oj : Oper} {fuel : Nat} {listed : Array Bool} {a : Act} {w : World} (hr : Region.ready md ops listed = [i, j]) (hoi : ops[i]? = some oi) (hoj : ops[j]? = some oj)
    (hi : ∀ K' : Act → World → Prop, Shut (∀ a w, (i ≠ k → S w) → wpAnyK P md ops Q S k fuel (listed.setIfInBounds i true) a w → K' a w) → if Region.wanted oi (yielded ops a.tmps) = true then Oper.wp P oi a w K' Q else K' (a.put oi.dst undef) w)
    (hj : ∀ K' : Act → World → Prop, Shut (∀ a w, (j ≠ k → S w) → wpAnyK P md ops Q S k fuel (listed.setIfInBounds j true) a w → K' a w) → if Region.wanted oj (yielded ops a.tmps) = true then Oper.wp P oj a w K' Q else K' (a.put oj.dst undef) w) :
    wpAnyK P md ops Q S k (fuel + 1) listed a w :=
  ⟨fun h0 => (by rw [h0] at hr; cases hr), fun m hm => by
    rw [hr] at hm
    rcases List.mem_cons.1 hm with h | h
    · subst h
      exact wpOp_step hoi (fun K' hK => hi K' (fun a w hS hW => hK a w ⟨hS, hW⟩))
    · obtain rfl : m = j := by simpa using h
      exact wpOp_step hoj (fun K' hK => hj K' (fun a w hS hW => hK a w ⟨hS, hW⟩))⟩
section
variable {P : Program} {ops : Array Oper} {Q : Exit → Act → World → Prop} {md : Region.Mode} {S : World → Prop} {k : Nat}
end
end Go.Proofs.YtacefdkfbpgedaaGreat.Mine
