/- Index, Contains, once of heads. -/
import Derived.Test.YtacefdkfbpgedaaGreatCC8
import Derived.Deep.DeepMust
import Derived.Test.YtacefdkfbpgedaaGreatCC7
import Derived.Test.YtacefdkfbpgedaaGreatCC1
import Derived.Deep.DeepCutAuto
import Derived.Test.YtacefdkfbpgedaaGreatCC4
import Derived.Test.YtacefdkfbpgedaaGreatCC10
namespace Go.Proofs.YtacefdkfbpgedaaGreat.Mine
open Go.Proofs.YtacefdkfbpgedaaGreat.PProgSmall
open Go.RowKit Go.Shelf Go.Proofs.YtacefdkfbpgedaaGreatW.PrintWords Go.Proofs.YtacefdkfbpgedaaGreatW.PrintLast Go.Proofs.YtacefdkfbpgedaaGreatW.PrintMore
set_option linter.unusedVariables false
set_option linter.unusedSimpArgs false
abbrev He := S113
attribute [local go_sem] max2_int min2_int max_two min_two
theorem eqHd (d : Nat) (w : World) (x0 y0 : ByteArray) (x1 y1 : Int) :
  (Op.equalIn (d + 2) 113 (.agg #[.string x0, .int .i64 x1]) (.agg #[.string y0, .int .i64 y1])).run Tryz.prog w = .ok (x0.toList == y0.toList && (x1 == y1)) w := by
 refine eqA_of Tryz.underlying113 (by kernel_rfl) ?_
 refine eqf_cons (by rfl) (by go_simp; rfl) (by go_simp; rfl) (by go_simp) ?_
 exact eqf_last (by rfl) (by go_simp; rfl) (by go_simp; rfl) (by go_simp)
abbrev OwnHd (W : World) (base : Nat) (v : Value) (l : List He) : Prop := Kd.R k113 113 W base (fun _ => True) v l
end Go.Proofs.YtacefdkfbpgedaaGreat.Mine
namespace Go.Proofs.YtacefdkfbpgedaaGreat.Mine
open Go.Proofs.YtacefdkfbpgedaaGreat.PProgSmall
open Go.RowKit Go.Shelf Go.Proofs.YtacefdkfbpgedaaGreatW.PrintWords Go.Proofs.YtacefdkfbpgedaaGreatW.PrintLast Go.Proofs.YtacefdkfbpgedaaGreatW.PrintMore
set_option linter.unusedVariables false
set_option linter.unusedSimpArgs false
abbrev OwnI (W : World) (base : Nat) (v : Value) (l : List Int) : Prop := Kd.R (Kd.int .i64) 3 W base (fun _ => True) v l
def NewB (w : World) (v v1 : Value) : Prop := ∀ b, v1.ownBlock = some b → v.ownBlock = some b ∨ w.heap.size ≤ b
theorem NewB.refl (w : World) (v : Value) : NewB w v v := fun b h => .inl h
theorem NewB.of {w w3 : World} {v v1 : Value} (h : v1.ownBlock = v.ownBlock ∨ ∃ b, v1.ownBlock = some b ∧ w3.heap.size ≤ b) (hs : w.heap.size ≤ w3.heap.size) : NewB w v v1 := fun b hb => by
 rcases h with h | ⟨c, h, hc⟩
 ·rw [h] at hb; exact .inl hb
 ·rw [h] at hb; cases hb; exact .inr (by omega)
end Go.Proofs.YtacefdkfbpgedaaGreat.Mine
namespace Go.Proofs.YtacefdkfbpgedaaGreat.Mine
open Go.Proofs.YtacefdkfbpgedaaGreat.PProgSmall
open Go.RowKit Go.Shelf Go.Proofs.YtacefdkfbpgedaaGreatW.PrintWords Go.Proofs.YtacefdkfbpgedaaGreatW.PrintLast Go.Proofs.YtacefdkfbpgedaaGreatW.PrintMore
set_option linter.unusedVariables false
set_option linter.unusedSimpArgs false
end Go.Proofs.YtacefdkfbpgedaaGreat.Mine
namespace Go.Proofs.YtacefdkfbpgedaaGreat.Mine
open Go.Proofs.YtacefdkfbpgedaaGreat.PProgSmall
open Go.RowKit Go.Shelf Go.Proofs.YtacefdkfbpgedaaGreatW.PrintWords Go.Proofs.YtacefdkfbpgedaaGreatW.PrintLast Go.Proofs.YtacefdkfbpgedaaGreatW.PrintMore
set_option linter.unusedVariables false
set_option linter.unusedSimpArgs false
def HS (base : Nat) (W : World) (vn vm : Value) (l : List He) : Prop := OwnT W base vn (l.map (·.f0)) ∧ OwnI W base vm (l.map (·.f1))
theorem HS.nil (base : Nat) (W : World) : HS base W (.slice none 0 0) (.slice none 0 0) [] := ⟨Kd.R_nil _ _ _ _ _, Kd.R_nil _ _ _ _ _⟩
theorem HS.below {base : Nat} {W W' : World} {vn vm : Value} {l : List He} (h : HS base W vn vm l) (hb : Below W.heap.size W W') : HS base W' vn vm l := ⟨Kd.R_below h.1 hb, Kd.R_below h.2 hb⟩
theorem HS.lt {base : Nat} {W : World} {vn vm : Value} {l : List He} (h : HS base W vn vm l) : (∀ k, some k = vn.ownBlock → base ≤ k ∧ k < W.heap.size) ∧ (∀ k, some k = vm.ownBlock → base ≤ k ∧ k < W.heap.size) :=
 ⟨fun k hk => by obtain ⟨_, h1, h2, _⟩ := (Kd.R_bound h.1).1 k hk.symm; exact ⟨h1, h2⟩, fun k hk => by obtain ⟨_, h1, h2, _⟩ := (Kd.R_bound h.2).1 k hk.symm; exact ⟨h1, h2⟩⟩
def Dj (ok : Nat → Prop) (v : Value) : Prop := ∀ k, ok k → some k ≠ v.ownBlock
theorem Dj.new {ok : Nat → Prop} {W : World} {v v1 : Value} (h : Dj ok v) (hn : NewB W v v1) (hlt : ∀ k, ok k → k < W.heap.size) : Dj ok v1 := fun k hk he => by
 rcases hn k he.symm with h1 | h1
 ·exact h k hk h1.symm
 ·have := hlt k hk; omega
def StayB (W W' : World) (vn vm : Value) : Prop := ∀ k, k < W.heap.size → some k ≠ vn.ownBlock → some k ≠ vm.ownBlock → W'.heap[k]? = W.heap[k]?
theorem StayB.F {α : Type} {d : Kd α} {W W' : World} {vn vm : Value} (h : StayB W W' vn vm) {ok : Nat → Prop} {A : Option Addr} {n : Nat} {xs : List α} (hF : Kd.F d W ok A n xs) (h1 : Dj ok vn) (h2 : Dj ok vm) : Kd.F d W' ok A n xs := Kd.F_step hF (fun k hk hlt => h k hlt (h1 k hk) (h2 k hk))
theorem StayB.blk {W W' : World} {vn vm : Value} (h : StayB W W' vn vm) {g : Nat} {o : Obj} (hb : W.heap[g]? = some o) (hne : some g ≠ vn.ownBlock ∧ some g ≠ vm.ownBlock) : W'.heap[g]? = some o := (h g (blk_lt hb) hne.1 hne.2).trans hb
end Go.Proofs.YtacefdkfbpgedaaGreat.Mine
namespace Go.Proofs.YtacefdkfbpgedaaGreat.Mine
open Go.Proofs.YtacefdkfbpgedaaGreat.PProgSmall
open Go.RowKit Go.Shelf Go.Proofs.YtacefdkfbpgedaaGreatW.PrintWords Go.Proofs.YtacefdkfbpgedaaGreatW.PrintLast Go.Proofs.YtacefdkfbpgedaaGreatW.PrintMore
set_option linter.unusedVariables false
set_option linter.unusedSimpArgs false
theorem OwnHd.typed {W : World} {base : Nat} {v : Value} {l : List He} (h : OwnHd W base v l) (k : Nat) (hk : v.ownBlock = some k) : base ≤ k ∧ ∃ cs, W.heap[k]? = some (.cells cs 113 (0, 0)) := by
 obtain ⟨inner, ho⟩ := Kd.R_own h
 exact ⟨own_base ho k hk, own_typed ho k hk⟩
theorem OwnHd.notcells {W W' : World} {row : Option Nat} {base : Nat} {v : Value} {l : List He} (h : OwnHd W base v l) (hg : W.grownBy W' row) (hr : ∀ r, row = some r → ∃ o : Obj, W.heap[r]? = some o ∧ o.isCells = false) : OwnHd W' base v l :=
 Kd.R_mono (Kd.R_grown (Kd.R_bound h) hg (fun k hk he => by
  obtain ⟨_, _, _, q, _, cs, hc⟩ := hk
  obtain ⟨o, h1, h2⟩ := hr k he.symm
  rw [hc] at h1; cases h1; cases h2)) (fun _ _ => trivial)
def HdSt (base B : Nat) (W : World) (l : List He) : Prop := ∃ v, Boxed W B 110 v ∧ OwnHd W base v l
theorem HdSt.notcells {base B : Nat} {W W' : World} {row : Option Nat} {l : List He} (h : HdSt base B W l) (hg : W.grownBy W' row) (hr : ∀ r, row = some r → ∃ o : Obj, W.heap[r]? = some o ∧ o.isCells = false) : HdSt base B W' l := by
 obtain ⟨v, h1, h2⟩ := h
 exact ⟨v, Boxed.notcells h1 hg hr, h2.notcells hg hr⟩
theorem HdSt.below {base B : Nat} {W W' : World} {l : List He} (h : HdSt base B W l) (hb : Below W.heap.size W W') : HdSt base B W' l := by
 obtain ⟨v, h1, h2⟩ := h
 exact ⟨v, blk_below h1 hb, Kd.R_below h2 hb⟩
def KH (B : Nat) (W W' : World) : Prop := W.heap.size ≤ W'.heap.size ∧ ∀ k o, k ≠ B → W.heap[k]? = some o → (∀ cs, o ≠ .cells cs 113 (0, 0)) → W'.heap[k]? = some o
theorem KH.refl (B : Nat) (W : World) : KH B W W := ⟨Nat.le_refl _, fun _ _ _ h _ => h⟩
theorem KH.trans {B : Nat} {a b c : World} (h : KH B a b) (k : KH B b c) : KH B a c := ⟨Nat.le_trans h.1 k.1, fun i o hi ho hn => k.2 i o hi (h.2 i o hi ho hn) hn⟩
theorem KH.of_below {B : Nat} {W W' : World} (h : Below W.heap.size W W') : KH B W W' := ⟨h.size, fun k o _ hk _ => (h.block k (blk_lt hk)).trans hk⟩
theorem KH.grownN {B : Nat} {W X Y : World} {row : Option Nat} (h : KH B W X) (hg : X.grownBy Y row) (hr : ∀ r, row = some r → W.heap.size ≤ r) : KH B W Y := ⟨Nat.le_trans h.1 hg.size, fun k o hi ho hn => by
 have h1 := h.2 k o hi ho hn
 exact (hg.block k (blk_lt h1) (fun e => by have := hr k e.symm; have := blk_lt ho; omega)).trans h1⟩
theorem KH.set {B : Nat} {W X : World} (h : KH B W X) (j : Nat) (u : Value) : KH B W (X.setCell ⟨B, j, none⟩ u) := ⟨by have := h.1; simpa [World.setCell] using this, fun k o hi ho hn => (Below.heap_setCell _ _ _ _ hi).trans (h.2 k o hi ho hn)⟩
theorem KH.blk {B : Nat} {W W' : World} (h : KH B W W') {g t : Nat} {cs : Array Value} (hb : W.heap[g]? = some (.cells cs t (0, 0))) (ht : t ≠ 113) (hg : g ≠ B) : W'.heap[g]? = some (.cells cs t (0, 0)) := h.2 g _ hg hb (fun cs' e => by cases e; exact ht rfl)
theorem KH.keeps {B : Nat} {W W' : World} {v : Value} (h : KH B W W') (hb : Boxed W B 110 v) : KeepsBut none W W' := ⟨h.1, fun k o _ hk ho => h.2 k o (fun e => by
  subst e
  rw [show W.heap[k]? = _ from hb] at hk
  cases hk
  rcases ho with ho | ho
  ·cases ho
  ·simp [exO] at ho) hk (fun cs e => by
  subst e
  rcases ho with ho | ho
  ·cases ho
  ·simp [exO] at ho)⟩
theorem HdSt.put {base B : Nat} {W W1 : World} {v v1 : Value} {l : List He} (hb : Boxed W B 110 v) (ho : OwnHd W base v l) (hg : W.grownBy W1 v.ownBlock) {l1 : List He} (h1 : OwnHd W1 base v1 l1) : Boxed W1 B 110 v ∧ HdSt base B (W1.setCell ⟨B, 0, none⟩ v1) l1 := by
 have hb1 : Boxed W1 B 110 v := (hg.block B (blk_lt hb) (fun e => by
  obtain ⟨_, cs, hc⟩ := ho.typed B e.symm
  rw [show W.heap[B]? = _ from hb] at hc
  cases hc)).trans hb
 refine ⟨hb1, v1, hb1.set v1, ?_⟩
 exact Kd.R_mono (Kd.R_set h1 (show W1.heap[B]? = _ from hb1) (fun q hq => by
  have hq' : q ∈ [113] := hq
  rw [List.mem_singleton.1 hq']; decide) 0 v1) (fun _ _ => trivial)
theorem wpAnyK_two {P : Program} {ops : Array Oper} {Q : Exit → Act → World → Prop} {md : Region.Mode} {S : World → Prop} {k i j : Nat} {oi oj : Oper} {fuel : Nat} {listed : Array Bool} {a : Act} {w : World} (hr : Region.ready md ops listed = [i, j]) (hoi : ops[i]? = some oi) (hoj : ops[j]? = some oj)
  (hi : ∀ K' : Act → World → Prop, Shut (∀ a w, (i ≠ k → S w) → wpAnyK P md ops Q S k fuel (listed.setIfInBounds i true) a w → K' a w) → if Region.wanted oi (yielded ops a.tmps) = true then Oper.wp P oi a w K' Q else K' (a.put oi.dst undef) w)
  (hj : ∀ K' : Act → World → Prop, Shut (∀ a w, (j ≠ k → S w) → wpAnyK P md ops Q S k fuel (listed.setIfInBounds j true) a w → K' a w) → if Region.wanted oj (yielded ops a.tmps) = true then Oper.wp P oj a w K' Q else K' (a.put oj.dst undef) w) :
  wpAnyK P md ops Q S k (fuel + 1) listed a w :=
 ⟨fun h0 => (by rw [h0] at hr; cases hr), fun m hm => by
  rw [hr] at hm
  rcases List.mem_cons.1 hm with h | h
  ·subst h
   exact wpOp_step hoi (fun K' hK => hi K' (fun a w hS hW => hK a w ⟨hS, hW⟩))
  ·obtain rfl : m = j := by simpa using h
   exact wpOp_step hoj (fun K' hK => hj K' (fun a w hS hW => hK a w ⟨hS, hW⟩))⟩
theorem R_notcells {α : Type} {d : Kd α} {e : Nat} {W W' : World} {row : Option Nat} {base : Nat} {v : Value} {l : List α} (h : d.R e W base (fun _ => True) v l) (hg : W.grownBy W' row) (hr : ∀ r, row = some r → ∃ o : Obj, W.heap[r]? = some o ∧ o.isCells = false) : d.R e W' base (fun _ => True) v l :=
 Kd.R_mono (Kd.R_grown (Kd.R_bound h) hg (fun k hk he => by
  obtain ⟨_, _, _, q, _, cs, hc⟩ := hk
  obtain ⟨o, h1, h2⟩ := hr k he.symm
  rw [hc] at h1; cases h1; cases h2)) (fun _ _ => trivial)
theorem HS.notcells {base : Nat} {W W' : World} {row : Option Nat} {vn vm : Value} {l : List He} (h : HS base W vn vm l) (hg : W.grownBy W' row) (hr : ∀ r, row = some r → ∃ o : Obj, W.heap[r]? = some o ∧ o.isCells = false) : HS base W' vn vm l := ⟨R_notcells h.1 hg hr, R_notcells h.2 hg hr⟩
end Go.Proofs.YtacefdkfbpgedaaGreat.Mine
namespace Go.Proofs.YtacefdkfbpgedaaGreat.Mine
open Go.Proofs.YtacefdkfbpgedaaGreat.PProgSmall
open Go.RowKit Go.Shelf Go.Proofs.YtacefdkfbpgedaaGreatW.PrintWords Go.Proofs.YtacefdkfbpgedaaGreatW.PrintLast Go.Proofs.YtacefdkfbpgedaaGreatW.PrintMore
set_option linter.unusedVariables false
set_option linter.unusedSimpArgs false
theorem isHead_eq (s : ByteArray) (k : Int) (c : Ca) : (c.f0.toList == s.toList && ((c.f1.length : Int) == k)) = isHead s k c := by
 rw [sEq, isHead]
set_option maxRecDepth 100000 in
set_option maxHeartbeats 2000000 in
theorem c_Pick1 (x : Ca) (cs : List Value) (s : ByteArray) (k : Int) (B1 B2 : Nat) (w : World) (hK : k62.K w x cs) (h1 : w.heap[B1]? = some (.cells #[.string s] 9 (0, 0))) (h2 : w.heap[B2]? = some (.cells #[.int .i64 k] 3 (0, 0))) :
  Calls Tryz.prog 93 #[.agg cs.toArray, .pointer (some ⟨B1, 0, none⟩), .pointer (some ⟨B2, 0, none⟩)] w fun en w' => en = .returned (.bool (isHead s k x)) ∧ Below w.heap.size w w' := by
 obtain ⟨X1, x1, X4, x4, rfl, m1, G1, m4, G4⟩ := k62_open hK
 have hm1 := G1.2.1
 have e1 := cell_of_one h1
 have e2 := cell_of_one h2
 have hl1 := lt_of_block h1
 have hl2 := lt_of_block h2
 have hn1 : ¬ (B1 = w.heap.size) := by omega
 have hn2 : ¬ (B2 = w.heap.size) := by omega
 have hq := fun d (w : World) => eqHd d w x.f0 s (x.f1.length : Int) k
 simp only [isHead_eq] at hq
 clear hK h1 h2 G1 G4 m1 m4
 go_enter Tryz.func93, Tryz.ntmps93
 go_wp2
 go_ret
 exact ⟨rfl, below_alloc1 _ _⟩
set_option maxRecDepth 100000 in
set_option maxHeartbeats 2000000 in
theorem c_Pick (d : De) (cs : List Value) (s : ByteArray) (k : Int) (w : World) (hd : Kd.FK k59 w (fun k => k < w.heap.size) d cs) :
  Calls Tryz.prog 37 #[.agg cs.toArray, .string s, .int .i64 k] w fun en w' => en = .returned (.tuple #[.int .i64 (pickP d s k).1, .int .i64 (pickP d s k).2]) ∧ Below w.heap.size w w' := by
 obtain ⟨A1, c1, A2, c2, A5, c5, rfl, l1, F1, l2, F2, l5, F5⟩ := k59_openF hd
 obtain ⟨W3, hW3⟩ : ∃ W3, ((w.alloc (.cells #[.string d.f0, .slice A1 d.f1.length c1, .slice A2 d.f2.length c2, .int .i64 d.f3.f0, .string d.f3.f1, .slice A5 d.f3.f2.length c5] 59)).alloc (.cells #[.string s] 9)).alloc (.cells #[.int .i64 k] 3) = W3 := ⟨_, rfl⟩
 have q3 : Below w.heap.size w W3 := by rw [← hW3]; exact (below_alloc2 _ _ _).trans ((below_alloc1 _ _).mono (by simp; omega))
 have bD : W3.heap[w.heap.size]? = some (.cells #[.string d.f0, .slice A1 d.f1.length c1, .slice A2 d.f2.length c2, .int .i64 d.f3.f0, .string d.f3.f1, .slice A5 d.f3.f2.length c5] 59 (0, 0)) := by rw [← hW3]; exact blk_alloc (blk_alloc (alloc_at _ _) _) _
 have bS : W3.heap[w.heap.size + 1]? = some (.cells #[.string s] 9 (0, 0)) := by rw [← hW3]; have := alloc_at (w.alloc (.cells #[.string d.f0, .slice A1 d.f1.length c1, .slice A2 d.f2.length c2, .int .i64 d.f3.f0, .string d.f3.f1, .slice A5 d.f3.f2.length c5] 59)) (.cells #[.string s] 9); rw [World.size_alloc] at this; exact blk_alloc this _
 have bK : W3.heap[w.heap.size + 1 + 1]? = some (.cells #[.int .i64 k] 3 (0, 0)) := by rw [← hW3]; have := alloc_at ((w.alloc (.cells #[.string d.f0, .slice A1 d.f1.length c1, .slice A2 d.f2.length c2, .int .i64 d.f3.f0, .string d.f3.f1, .slice A5 d.f3.f2.length c5] 59)).alloc (.cells #[.string s] 9)) (.cells #[.int .i64 k] 3); simpa only [World.size_alloc] using this
 have k2 := (blk_cell bD 2).trans rfl
 have HC := Lib.hid (idxC_p A2 c2 d.f2 W3 l2 (Kd.C_below (Kd.F_now F2) q3) 93 #[.pointer (some ⟨w.heap.size + 1, 0, none⟩), .pointer (some ⟨w.heap.size + 1 + 1, 0, none⟩)] (enters_of Tryz.func93 (by kernel_rfl) rfl) (isHead s k) (fun x cs W _ hK hb => c_Pick1 x cs s k _ _ W hK (blk_below bS hb) (blk_below bK hb)))
 have HW3 := Lib.hid hW3
 have Q := Aside0.mk q3
 obtain ⟨n, hn⟩ : ∃ n, idxB (isHead s k) d.f2 = n := ⟨_, rfl⟩
 have HP := Lib.hid (show pickP d s k = if n < 0 then (0, 6) else (n, 0) by rw [pickP, hn])
 rw [hn] at HC
 clear hd F1 F2 F5 q3 bD bS bK hW3 hn l1 l2 l5
 go_enter Tryz.func37, Tryz.ntmps37
 go_wp2_with fail
 rw [HW3.out]
 go_wp2_with fail
 refine HC.out.mono ?_
 rintro en w' ⟨rfl, hb⟩
 have Q := Aside0.mk (Q.out.trans (hb.mono Q.out.size))
 clear hb k2
 cases hn : decide (n < 0) with
 | true =>
  have hn' : n < 0 := of_decide_eq_true hn
  have HX := Lib.hid (show pickP d s k = (0, 6) by rw [HP.out, if_pos hn'])
  clear hn'
  go_wp2
  go_ret2
  exact ⟨by rw [HX.out]; rfl, Q.out⟩
 | false =>
  have hn' : ¬ n < 0 := of_decide_eq_false hn
  have HX := Lib.hid (show pickP d s k = (n, 0) by rw [HP.out, if_neg hn'])
  clear hn'
  go_wp2
  go_ret2
  exact ⟨by rw [HX.out]; rfl, Q.out⟩
end Go.Proofs.YtacefdkfbpgedaaGreat.Mine
