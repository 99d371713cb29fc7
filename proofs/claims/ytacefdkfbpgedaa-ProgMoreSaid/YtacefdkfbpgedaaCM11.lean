/- What the law clears: rows of texts, expressions, cases and definitions, closed under clearing. -/
import Derived.Test.YtacefdkfbpgedaaCM10
import Derived.Laws.CopyRow
import Derived.Test.YtacefdkfbpgedaaCM8
import Derived.Deep.DeepCutAuto
import Derived.Test.YtacefdkfbpgedaaCM1
namespace Go.Proofs.Ytacefdkfbpgedaa.Mine
open Go.Proofs.Ytacefdkfbpgedaa.PProgExprs
open Go.RowKit Go.Shelf Go.Proofs.YtacefdkfbpgedaaW.PrintWords Go.Proofs.YtacefdkfbpgedaaW.PrintLast Go.Proofs.YtacefdkfbpgedaaW.PrintMore
set_option linter.unusedVariables false
set_option linter.unusedSimpArgs false
inductive Tg where
  | t | e | c | d
inductive Fl where
  | s | i | l (τ : Tg)
def Tg.ty : Tg → Nat
  | .t => 9
  | .e => 24
  | .c => 99
  | .d => 58
def Tg.fl : Tg → List Fl
  | .t => [.s]
  | .e => [.i, .s, .l .e]
  | .c => [.s, .l .t, .i, .s, .l .e]
  | .d => [.s, .l .t, .l .c, .i, .s, .l .e]
def Fl.zero : Fl → Value
  | .s => .string ⟨#[]⟩
  | .i => .int .i64 0
  | .l _ => .slice none 0 0
def Fl.good (p : Tg → Value → Prop) : Fl → Value → Prop
  | .s, u => ∃ s, u = .string s
  | .i, u => ∃ k, u = .int .i64 k
  | .l τ, u => p τ u
theorem Tg.pos (τ : Tg) : 0 < τ.fl.length := by cases τ <;> decide
def Vg (W : World) (base top : Nat) : Nat → Tg → Value → Prop
  | 0, _, v => v = .slice none 0 0
  | m + 1, τ, v => v = .slice none 0 0 ∨ ∃ g n cap cur, v = .slice (some ⟨g, 0, none⟩) n cap ∧ n ≤ 9223372036854775807 ∧ (base ≤ g ∧ g < top) ∧ W.heap[g]? = some (.cells cur τ.ty (0, 0)) ∧
      ∀ j i f, j < n → τ.fl[i]? = some f → ∃ u, cur[j * τ.fl.length + i]? = some u ∧ Fl.good (Vg W base top m) f u
theorem Vg.nil {W : World} {base top : Nat} {τ : Tg} : ∀ {m : Nat}, Vg W base top m τ (.slice none 0 0)
  | 0 => by simp [Vg]
  | m + 1 => by simp [Vg]
theorem Vg.slice {W : World} {base top : Nat} {m : Nat} {τ : Tg} {v : Value} (h : Vg W base top m τ v) : ∃ A n c, v = .slice A n c := by
  cases m with
  | zero => rw [Vg] at h; exact ⟨_, _, _, h⟩
  | succ m =>
    rw [Vg] at h
    rcases h with h | ⟨g, n, cap, cur, h, _⟩
    · exact ⟨_, _, _, h⟩
    · exact ⟨_, _, _, h⟩
theorem Fl.good_mono {p q : Tg → Value → Prop} (h : ∀ τ v, p τ v → q τ v) : ∀ {f : Fl} {u : Value}, Fl.good p f u → Fl.good q f u
  | .s, _, k => k
  | .i, _, k => k
  | .l τ, u, k => h τ u k
theorem Vg.succ {W : World} {base top : Nat} : ∀ {m : Nat} {τ : Tg} {v : Value}, Vg W base top m τ v → Vg W base top (m + 1) τ v
  | 0, τ, v, h => by rw [Vg] at h; subst h; exact Vg.nil
  | m + 1, τ, v, h => by
    rw [Vg] at h ⊢
    rcases h with h | ⟨g, n, cap, cur, h1, h2, h3, h4, h5⟩
    · exact .inl h
    · refine .inr ⟨g, n, cap, cur, h1, h2, h3, h4, fun j i f hj hf => ?_⟩
      obtain ⟨u, a, b⟩ := h5 j i f hj hf
      exact ⟨u, a, Fl.good_mono (fun _ _ h => Vg.succ h) b⟩
theorem Vg.mono {W : World} {base top m k : Nat} {τ : Tg} {v : Value} (h : Vg W base top m τ v) (hk : m ≤ k) : Vg W base top k τ v := by
  obtain ⟨d, rfl⟩ : ∃ d, k = m + d := ⟨k - m, by omega⟩
  clear hk
  induction d with
  | zero => exact h
  | succ d ih => exact ih.succ
def Spd (base top : Nat) (W W' : World) : Prop := Below base W W' ∧ (∀ k, top ≤ k → k < W.heap.size → W'.heap[k]? = W.heap[k]?) ∧ ∀ m τ v, Vg W base top m τ v → Vg W' base top m τ v
theorem Spd.refl (base top : Nat) (W : World) : Spd base top W W := ⟨Below.refl _ _, fun _ _ _ => rfl, fun _ _ _ h => h⟩
theorem Spd.trans {base top : Nat} {W W' W2 : World} (h : Spd base top W W') (k : Spd base top W' W2) : Spd base top W W2 := ⟨h.1.trans k.1, fun i hi hl => (k.2.1 i hi (Nat.lt_of_lt_of_le hl h.1.size)).trans (h.2.1 i hi hl), fun m τ v hv => k.2.2 m τ v (h.2.2 m τ v hv)⟩
theorem Spd.below {base top : Nat} {W W' : World} (hb : Below W.heap.size W W') (hbase : base ≤ W.heap.size) : Spd base top W W' := by
  refine ⟨hb.mono hbase, fun k _ hk => hb.block k hk, fun m => ?_⟩
  induction m with
  | zero => intro τ v h; rw [Vg] at h ⊢; exact h
  | succ m ih =>
    intro τ v h
    rw [Vg] at h ⊢
    rcases h with h | ⟨g, n, cap, cur, h1, h2, h3, h4, h5⟩
    · exact .inl h
    · refine .inr ⟨g, n, cap, cur, h1, h2, h3, blk_below h4 hb, fun j i f hj hf => ?_⟩
      obtain ⟨u, a, b⟩ := h5 j i f hj hf
      exact ⟨u, a, Fl.good_mono ih b⟩
theorem Vg.ofR {α : Type} {d : Kd α} {τ : Tg} {W : World} {base m : Nat} {ok : Nat → Prop} {v : Value} {xs : List α} (hsz : d.sz = τ.fl.length) (hR : d.R τ.ty W base ok v xs)
    (hel : ∀ x ∈ xs, ∀ (ok : Nat → Prop) (cs : List Value), d.M W base ok x cs → ∀ (i : Nat) (f : Fl), τ.fl[i]? = some f → ∃ u, (cs : List Value)[i]? = some u ∧ Fl.good (Vg W base W.heap.size m) f u) : Vg W base W.heap.size (m + 1) τ v := by
  obtain ⟨_, inner, ho, hr⟩ := hR
  rw [Vg]
  rcases ho.2 with ⟨h1, h2⟩ | ⟨g, cap, cur, h1, hb, hg, hcap, hmax, hsz', htake⟩
  · exact .inl h1
  · refine .inr ⟨g, xs.length, cap, cur, h1, by have : maxLen ≤ 9223372036854775807 := (by decide); omega, ⟨hb, blk_lt hg⟩, hg, fun j i f hj hf => ?_⟩
    have hM := hr.2 j _ (List.getElem?_eq_getElem hj)
    obtain ⟨u, hc, hgd⟩ := hel _ (List.getElem_mem hj) _ _ hM i f hf
    refine ⟨u, ?_, hgd⟩
    rw [hsz] at hc
    rw [← htake, List.getElem?_take] at hc
    split at hc
    · rw [List.getElem?_drop, List.getElem?_take] at hc
      split at hc
      · rw [Array.getElem?_toList] at hc; exact hc
      · cases hc
    · cases hc
theorem OwnE.vg {W : World} {base : Nat} : ∀ (m : Nat) {ok : Nat → Prop} {v : Value} {l : List Ex}, szL l ≤ m → Kd.R k24 24 W base ok v l → Vg W base W.heap.size (m + 1) .e v := by
  intro m
  induction m with
  | zero =>
    intro ok v l h hR
    cases l with
    | nil => exact Vg.ofR (τ := .e) rfl hR (fun x hx => by cases hx)
    | cons x xs => rw [szL] at h; have := szE_pos x; omega
  | succ m ih =>
    intro ok v l h hR
    refine Vg.ofR (τ := .e) rfl hR (fun x hx ok cs hM i f hf => ?_)
    obtain ⟨u, rfl, hRu⟩ := k24_openM hM
    have hxs := szL_mem hx
    have hs := szE_eq x
    have hi : i < 3 := (List.getElem?_eq_some_iff.1 hf).1
    obtain rfl | rfl | rfl : i = 0 ∨ i = 1 ∨ i = 2 := by omega
    · simp [Tg.fl] at hf; subst hf; exact ⟨_, rfl, _, rfl⟩
    · simp [Tg.fl] at hf; subst hf; exact ⟨_, rfl, _, rfl⟩
    · simp [Tg.fl] at hf; subst hf; exact ⟨_, rfl, ih (by omega) hRu⟩
end Go.Proofs.Ytacefdkfbpgedaa.Mine
namespace Go.Proofs.Ytacefdkfbpgedaa.Mine
open Go.Proofs.Ytacefdkfbpgedaa.PProgExprs
open Go.RowKit Go.Shelf Go.Proofs.YtacefdkfbpgedaaW.PrintWords Go.Proofs.YtacefdkfbpgedaaW.PrintLast Go.Proofs.YtacefdkfbpgedaaW.PrintMore
set_option linter.unusedVariables false
set_option linter.unusedSimpArgs false
theorem Vg.bound {W : World} {base top m : Nat} {τ : Tg} {v : Value} (h : Vg W base top m τ v) : ∃ A n c, v = .slice A n c ∧ n ≤ 9223372036854775807 := by
  cases m with
  | zero => rw [Vg] at h; exact ⟨_, _, _, h, by omega⟩
  | succ m =>
    rw [Vg] at h
    rcases h with h | ⟨g, n, cap, cur, h, hn, _⟩
    · exact ⟨_, _, _, h, by omega⟩
    · exact ⟨_, _, _, h, hn⟩
theorem Vg.at {W : World} {base top m : Nat} {τ : Tg} {A : Option Addr} {n c : Nat} (h : Vg W base top (m + 1) τ (.slice A n c)) {j : Nat} (hj : j < n) :
    ∃ g cur, A = some ⟨g, 0, none⟩ ∧ (base ≤ g ∧ g < top) ∧ W.heap[g]? = some (.cells cur τ.ty (0, 0)) ∧ ∀ i f, τ.fl[i]? = some f → ∃ u, cur[j * τ.fl.length + i]? = some u ∧ Fl.good (Vg W base top m) f u := by
  rw [Vg] at h
  rcases h with h | ⟨g, n1, cap, cur, h, hn, hg, hb, hel⟩
  · cases h; omega
  · cases h
    exact ⟨g, cur, rfl, hg, hb, fun i f hf => hel j i f hj hf⟩
end Go.Proofs.Ytacefdkfbpgedaa.Mine
namespace Go.Proofs.Ytacefdkfbpgedaa.Mine
open Go.Proofs.Ytacefdkfbpgedaa.PProgExprs
open Go.RowKit Go.Shelf Go.Proofs.YtacefdkfbpgedaaW.PrintWords Go.Proofs.YtacefdkfbpgedaaW.PrintLast Go.Proofs.YtacefdkfbpgedaaW.PrintMore
set_option linter.unusedVariables false
set_option linter.unusedSimpArgs false
set_option maxRecDepth 100000
abbrev PBox (B : Nat) (A : Option Addr) (n c : Nat) (W : World) : Prop := W.heap[B]? = some (.cells #[.slice A n c] 53 (0, 0))
abbrev LrS (W0 : World) (b0 : Nat) (A : Option Addr) (n c : Nat) (W : World) : Prop := Below W0.heap.size W0 W ∧ W.cell? ⟨b0, 0, none⟩ = some (.slice A n c)
theorem LrS.step {W0 : World} {b0 : Nat} {A : Option Addr} {n c : Nat} {W W' : World} (h : LrS W0 b0 A n c W) (hb : Below W.heap.size W W') : LrS W0 b0 A n c W' := ⟨h.1.trans (hb.mono h.1.size), pw_cell_below hb h.2⟩
theorem eqL_refl {α : Type} {p : α → α → Bool} (h : ∀ x, p x x = true) (xs : List α) : eqL p xs xs = true := eqL_true rfl (fun j x y _ hx hy => by rw [hx] at hy; cases hy; exact h x)
theorem sameD_refl (d : De) : sameD d d = true := by
  simp only [sameD, decide_true, Bool.true_and, Bool.and_eq_true]
  exact ⟨sameE_iff.2 rfl, eqL_refl (fun c => by simp [sameC, sameE_iff]) _⟩
theorem sameP_refl (l : List De) : eqL sameD l l = true := eqL_refl sameD_refl l
end Go.Proofs.Ytacefdkfbpgedaa.Mine
namespace Go.Proofs.Ytacefdkfbpgedaa.Mine
open Go.Proofs.Ytacefdkfbpgedaa.PProgExprs
open Go.RowKit Go.Shelf Go.Proofs.YtacefdkfbpgedaaW.PrintWords Go.Proofs.YtacefdkfbpgedaaW.PrintLast Go.Proofs.YtacefdkfbpgedaaW.PrintMore
set_option linter.unusedVariables false
set_option linter.unusedSimpArgs false
set_option maxRecDepth 100000
theorem DefN.new (X : World) (base : Nat) (ok : Nat → Prop) (hb : base ≤ X.heap.size) (hok : ok X.heap.size) : Kd.N k58 58 (X.alloc (.cells #[] 58)) base ok (.slice (some ⟨X.heap.size, 0, none⟩) 0 0) [] := by
  have h : Kd.R k58 58 (X.alloc (.cells #[] 58)) X.heap.size ok (.slice (some ⟨X.heap.size, 0, none⟩) 0 0) [] :=
    ⟨fun k hk => by cases hk; exact hok, [], World.ownsRow_lit (base := X.heap.size) (e := 58) (size := 6) X #[] 0 (Nat.le_refl _) (by simp [maxLen]) (by simp), Reps.none _ _⟩
  exact Kd.R_N (Kd.R_lower h hb)
abbrev ChS (a b : Nat) (A : Option Addr) (n c : Nat) (v0 v1 v2 v3 v4 v5 : Value) (W : World) : Prop := W.cell? ⟨a, 0, none⟩ = some (.slice A n c) ∧ W.cell? ⟨b, 0, none⟩ = some v0 ∧ W.cell? ⟨b, 1, none⟩ = some v1 ∧ W.cell? ⟨b, 2, none⟩ = some v2 ∧ W.cell? ⟨b, 3, none⟩ = some v3 ∧ W.cell? ⟨b, 4, none⟩ = some v4 ∧ W.cell? ⟨b, 5, none⟩ = some v5
theorem ChS.of {a b : Nat} {A : Option Addr} {n c : Nat} {v0 v1 v2 v3 v4 v5 : Value} {W : World} (h : W.heap[a]? = some (.cells #[.slice A n c] 53 (0, 0))) (k : W.heap[b]? = some (.cells #[v0, v1, v2, v3, v4, v5] 58 (0, 0))) : ChS a b A n c v0 v1 v2 v3 v4 v5 W :=
  ⟨(blk_cell h 0).trans rfl, (blk_cell k 0).trans rfl, (blk_cell k 1).trans rfl, (blk_cell k 2).trans rfl, (blk_cell k 3).trans rfl, (blk_cell k 4).trans rfl, (blk_cell k 5).trans rfl⟩
theorem one_def {W : World} {t : Nat} {d : De} {cs : List Value} {ok : Nat → Prop} (h : W.heap[t]? = some (.cells cs.toArray 58 (0, 0))) (hd : Kd.FK k58 W ok d cs) : Kd.F k58 W (fun k => ok k ∨ k = t) (some ⟨t, 0, none⟩) 1 [d] := fun W' hW => by
  have hbl : W'.heap[t]? = some (.cells cs.toArray 58 (0, 0)) := (hW t (.inr rfl) (blk_lt h)).trans h
  have hK : k58.K W' d cs := hd W' (fun k hk hlt => hW k (.inl hk) hlt)
  refine ⟨rfl, by decide, fun _ => ⟨_, rfl, fun j p hj => ?_⟩⟩
  cases j with
  | zero =>
    cases hj
    refine ⟨cs, k58.K_len hK, hK, fun i u hu => ?_⟩
    have e0 : (⟨t, 0, none⟩ : Addr).add (0 * (k58).sz + i) = ⟨t, i, none⟩ := by
      rw [Nat.zero_mul, Nat.zero_add]
      unfold Addr.add; split <;> simp_all
    rw [e0]
    exact (blk_cell hbl i).trans (by simpa using hu)
  | succ j => simp at hj
theorem okP_of {l : List De} (hl : l.length ≤ 100000) (h : ∀ d ∈ l, bigD d = false) : OkP l := by
  have hn : 40 ≤ nmLim := by decide
  refine ⟨hl, fun d hd => bigD_okD (h d hd), fun d hd => ?_, fun d hd => ?_⟩
  · have := (bigD_ok (h d hd)).1; omega
  · have hb := bodies_ok (h d hd)
    have := szL_le hb.2
    have : (bodiesD d).length * 60 ≤ 10 * 60 := Nat.mul_le_mul_right _ hb.1
    omega
def addR (ps : List De) (d : De) : List De × Int := if ps.length = 12 then ([], 2) else if checkP (ps ++ [d]) = 0 then (ps ++ [d], 0) else ([], checkP (ps ++ [d]))
end Go.Proofs.Ytacefdkfbpgedaa.Mine
namespace Go.Proofs.Ytacefdkfbpgedaa.Mine
open Go.Proofs.Ytacefdkfbpgedaa.PProgExprs
open Go.RowKit Go.Shelf Go.Proofs.YtacefdkfbpgedaaW.PrintWords Go.Proofs.YtacefdkfbpgedaaW.PrintLast Go.Proofs.YtacefdkfbpgedaaW.PrintMore
set_option linter.unusedVariables false
set_option linter.unusedSimpArgs false
set_option maxRecDepth 100000
set_option maxHeartbeats 2000000 in
theorem c_CloneD (A : Option Addr) (c : Nat) (l : List De) (w : World) (okF : Nat → Prop) (hF : Kd.F k58 w okF A l.length l) (hlow : ∀ k, okF k → k < w.heap.size) (hc : l.length ≤ c) (hl : l.length ≤ 1000000) :
    Calls Try.prog 88 #[.slice A l.length c] w fun en w' => ∃ v, en = .returned v ∧ Kd.N k58 58 w' w.heap.size (fun k => okF k ∨ w.heap.size ≤ k) v l ∧ Below w.heap.size w w' := by
  have HF := Aside0.mk hF
  cases A with
  | none =>
    have h0 : l = [] := by
      cases l with
      | nil => rfl
      | cons x xs => obtain ⟨ad, _, h, _⟩ := cget (Kd.F_now hF) 0 (by simp); cases h
    subst h0
    clear hF
    have he := @Go.Lib.run_eql_slice_nil Try.prog
    go_enter Try.func88, Try.ntmps88
    go_wp2
    go_ret
    exact ⟨_, rfl, Kd.N_nil _ _ _ _ _, Below.refl _ _⟩
  | some ad =>
    have HN := Lib.hid (DefN.new w w.heap.size (fun k => okF k ∨ w.heap.size ≤ k) (Nat.le_refl _) (.inr (Nat.le_refl _)))
    have HLow := Lib.hid hlow
    clear hF hlow
    have he := @Go.Lib.run_eql_slice_nil Try.prog
    go_enter Try.func88, Try.ntmps88
    go_wp2_with (at_builtin; refine Kd.N_append_rows k58 (w0 := w) w.heap.size rfl (.tmp 5) (.tmp 6) 51 58 _ 112 rfl Try.underlying51 infoDe rfl (by decide) (by decide) (.slice (some ⟨w.heap.size, 0, none⟩) 0 0) [] l (some ad) l.length c (fun k => okF k ∨ w.heap.size ≤ k) okF rfl rfl HN.out (Kd.F_below HF.out (below_alloc1 _ _)) (fun k hk => ⟨.inl hk, fun he => by have h1 := HLow.out k hk; have h2 : k = w.heap.size := (by simpa [Value.ownBlock] using he); omega⟩) (fun k hk => .inr (by rw [World.size_alloc] at hk; omega)) (below_alloc1 _ _) (by simp) (by simp; omega) ?_; intro v1 w1 ho hb _ _; have HO := Aside0.mk ho; clear ho)
    go_ret
    exact ⟨_, rfl, by simpa using HO.out, hb⟩
end Go.Proofs.Ytacefdkfbpgedaa.Mine
namespace Go.Proofs.Ytacefdkfbpgedaa.Mine
open Go.Proofs.Ytacefdkfbpgedaa.PProgExprs
open Go.RowKit Go.Shelf Go.Proofs.YtacefdkfbpgedaaW.PrintWords Go.Proofs.YtacefdkfbpgedaaW.PrintLast Go.Proofs.YtacefdkfbpgedaaW.PrintMore
set_option linter.unusedVariables false
set_option linter.unusedSimpArgs false
set_option maxRecDepth 100000
def addP (ps : List De) (d : De) : List De × Int := if checkP ps = 0 then addR ps d else ([], checkP ps)
set_option maxHeartbeats 8000000 in
theorem c_Add (ps : List De) (d : De) (A : Option Addr) (c : Nat) (cs : List Value) (w : World) (hr : Kd.C k58 w A ps.length ps) (hc : ps.length ≤ c) (hd : Kd.FK k58 w (fun k => k < w.heap.size) d cs) (hl : ps.length ≤ 100) (hb : ∀ x ∈ ps ++ [d], bigD x = false) :
    Calls Try.prog 49 #[.agg #[.slice A ps.length c], .agg cs.toArray] w fun en w' => ∃ v, en = .returned (.tuple #[.agg #[v], .int .i64 (addP ps d).2]) ∧ OwnD w' w.heap.size v (addP ps d).1 ∧ Below w.heap.size w w' := by
  have hF := Kd.C_F k58_heap hr
  have hokp : OkP (ps ++ [d]) := okP_of (by simp; omega) hb
  have hokq : OkP ps := okP_of (by omega) (fun x hx => hb x (by simp [hx]))
  obtain ⟨D1, e1, D2, e2, D5, e5, rfl, _⟩ := k58_openF hd
  have hmd := hr.2.1
  obtain ⟨qs, hqs⟩ : ∃ qs, ps ++ [d] = qs := ⟨_, rfl⟩
  have HQs := Lib.hid hqs
  have hql : qs.length ≤ 101 := by rw [← hqs]; simp; omega
  rw [hqs] at hokp hb
  clear hqs
  obtain ⟨W1, hW1⟩ : ∃ W1, ((w.alloc (.cells #[.slice A ps.length c] 53)).alloc (.cells #[.string d.f0, .slice D1 d.f1.length e1, .slice D2 d.f2.length e2, .int .i64 d.f3.f0, .string d.f3.f1, .slice D5 d.f3.f2.length e5] 58)).alloc (.cells #[.slice none 0 0] 53) = W1 := ⟨_, rfl⟩
  have q1 : Below w.heap.size w W1 := by rw [← hW1]; exact (below_alloc2 _ _ _).trans ((below_alloc1 _ _).mono (by simp; omega))
  have bP : PBox w.heap.size A ps.length c W1 := by rw [← hW1]; exact blk_alloc (blk_alloc (alloc_at _ _) _) _
  have bD : W1.heap[w.heap.size + 1]? = some (.cells #[.string d.f0, .slice D1 d.f1.length e1, .slice D2 d.f2.length e2, .int .i64 d.f3.f0, .string d.f3.f1, .slice D5 d.f3.f2.length e5] 58 (0, 0)) := by rw [← hW1]; have := alloc_at (w.alloc (.cells #[.slice A ps.length c] 53)) (.cells #[.string d.f0, .slice D1 d.f1.length e1, .slice D2 d.f2.length e2, .int .i64 d.f3.f0, .string d.f3.f1, .slice D5 d.f3.f2.length e5] 58); rw [World.size_alloc] at this; exact blk_alloc this _
  have bR : PBox (w.heap.size + 1 + 1) none 0 0 W1 := by rw [← hW1]; have := alloc_at ((w.alloc (.cells #[.slice A ps.length c] 53)).alloc (.cells #[.string d.f0, .slice D1 d.f1.length e1, .slice D2 d.f2.length e2, .int .i64 d.f3.f0, .string d.f3.f1, .slice D5 d.f3.f2.length e5] 58)) (.cells #[.slice none 0 0] 53); simpa only [World.size_alloc] using this
  have z1 : W1.heap.size = w.heap.size + 1 + 1 + 1 := by rw [← hW1]; simp
  have HPs := Aside0.mk hF
  have HD := Aside0.mk hd
  have Q := Aside0.mk q1
  have BP := Aside0.mk bP
  have BD := Aside0.mk bD
  have BR := Aside0.mk bR
  have HW1 := Lib.hid hW1
  have hz1a := Nat.le_of_eq z1
  have hz1b := Nat.le_of_eq z1.symm
  have kP := (blk_cell bP 0).trans rfl
  have HC := Lib.hid (c_Check ps A c W1 (Kd.C_below hr q1) hc hokq)
  obtain ⟨ce, hce⟩ : ∃ ce, checkP ps = ce := ⟨_, rfl⟩
  have HX := Lib.hid (show addP ps d = if ce = 0 then addR ps d else ([], ce) by rw [addP, hce])
  rw [hce] at HC
  clear hF hd hr q1 bP bD bR hW1 z1 hce hokq
  go_enter Try.func49, Try.ntmps49
  go_wp2_with fail
  rw [HW1.out]
  go_wp2_with fail
  refine HC.out.mono ?_
  rintro en w3 ⟨rfl, hb'⟩
  have Q := Aside0.mk (Q.out.trans (hb'.mono Q.out.size))
  have BP := Aside0.mk (blk_below BP.out hb')
  have BD := Aside0.mk (blk_below BD.out hb')
  have BR := Aside0.mk (blk_below BR.out hb')
  have hs3 := hb'.size
  clear hb' kP HC
  have k4 := (blk_cell BR.out 0).trans rfl
  have f4 := blk_frozen BR.out 0
  cases he : (ce != 0) with
  | true =>
    have hne : ¬ ce = 0 := by simpa using he
    have HX2 := Lib.hid (show addP ps d = ([], ce) by rw [HX.out, if_neg hne])
    clear hne
    go_wp2
    have b4 := blk_put BR.out 0 (.slice none 0 0) rfl
    refine bodyPost_ret (results_ct rfl _ _ _ _ _ _ _ rfl b4 Try.underlying53 rfl (by kernel_rfl)) rfl ?_
    rw [HX2.out]
    exact ⟨_, rfl, Kd.R_nil _ _ _ _ _, (Q.out).setCell (by simp only; omega) _⟩
  | false =>
    have hce0 : ce = 0 := by simpa using he
    have HXa := Lib.hid (show addP ps d = addR ps d by rw [HX.out, if_pos hce0])
    subst hce0
    have kP := (blk_cell BP.out 0).trans rfl
    by_cases h12 : ps.length = 12
    · have h12b : ((ps.length : Int) == 12) = true := by rw [beq_iff_eq]; omega
      have HX2 := Lib.hid (show addP ps d = ([], 2) by rw [HXa.out, addR, if_pos h12])
      clear h12
      go_wp2
      have b4 := blk_put BR.out 0 (.slice none 0 0) rfl
      refine bodyPost_ret (results_ct rfl _ _ _ _ _ _ _ rfl b4 Try.underlying53 rfl (by kernel_rfl)) rfl ?_
      rw [HX2.out]
      exact ⟨_, rfl, Kd.R_nil _ _ _ _ _, (Q.out).setCell (by simp only; omega) _⟩
    · have h12b : ((ps.length : Int) == 12) = false := by rw [beq_eq_false_iff_ne]; omega
      have HXb := Lib.hid (show addP ps d = if checkP qs = 0 then (qs, 0) else ([], checkP qs) by rw [HXa.out, addR, if_neg h12, HQs.out])
      clear h12 k4 f4
      obtain ⟨W4, hW4⟩ : ∃ W4, w3.alloc (.cells #[.slice none 0 0] 53) = W4 := ⟨_, rfl⟩
      have q4 : Below w3.heap.size w3 W4 := by rw [← hW4]; exact below_alloc1 _ _
      have z4 : W4.heap.size = w3.heap.size + 1 := by rw [← hW4]; simp
      have BV := Aside0.mk (show PBox w3.heap.size none 0 0 W4 by rw [← hW4]; exact alloc_at _ _)
      have HW4 := Lib.hid hW4
      have BP4 := Aside0.mk (blk_below BP.out q4)
      have BD4 := Aside0.mk (blk_below BD.out q4)
      have BR4 := Aside0.mk (blk_below BR.out q4)
      have Q4 := Aside0.mk (Q.out.trans (q4.mono Q.out.size))
      have hz4a := Nat.le_of_eq z4
      have hz4b := Nat.le_of_eq z4.symm
      clear hW4 q4 z4
      go_upto_region 7 with fail
      rw [HW4.out]
      clear HW4
      go_cut [27, 28, 29] (fun s27 s28 s29 wx => ∃ (A7 : Option Addr) (c7 : Nat), s27 = .slice A7 qs.length c7 ∧ s28 = .int .i64 qs.length ∧ s29 = .int .i64 0 ∧ Aside0 (qs.length ≤ c7 ∧ Kd.F k58 wx (fun k => k < w.heap.size ∨ (W4.heap.size ≤ k ∧ k < wx.heap.size)) A7 qs.length qs) ∧ Aside0 (Below W4.heap.size W4 wx))
      case first =>
        have HCl := Lib.hid (fun X (h : Below W4.heap.size W4 X) => c_CloneD A c ps X (fun k => k < w.heap.size) (Kd.F_below HPs.out (Q4.out.trans (h.mono Q4.out.size))) (fun k hk => Nat.lt_of_lt_of_le hk (Q4.out.trans (h.mono Q4.out.size)).size) hc (by omega))
        obtain ⟨X0, hX⟩ : ∃ X0, W4.drew = X0 := ⟨_, rfl⟩
        have HW := Aside0.mk (show Below W4.heap.size W4 X0 by rw [← hX]; exact below_drew (Below.refl _ _))
        have hSd : (fun W => W.cell? ⟨w.heap.size, 0, none⟩ = some (.slice A ps.length c) ∧ W.cell? ⟨w.heap.size + 1, 0, none⟩ = some (.string d.f0) ∧ W.cell? ⟨w.heap.size + 1, 1, none⟩ = some (.slice D1 d.f1.length e1) ∧ W.cell? ⟨w.heap.size + 1, 2, none⟩ = some (.slice D2 d.f2.length e2) ∧ W.cell? ⟨w.heap.size + 1, 3, none⟩ = some (.int .i64 d.f3.f0) ∧ W.cell? ⟨w.heap.size + 1, 4, none⟩ = some (.string d.f3.f1) ∧ W.cell? ⟨w.heap.size + 1, 5, none⟩ = some (.slice D5 d.f3.f2.length e5)) X0 := ⟨(blk_cell (blk_below BP4.out HW.out) 0).trans rfl, (blk_cell (blk_below BD4.out HW.out) 0).trans rfl, (blk_cell (blk_below BD4.out HW.out) 1).trans rfl, (blk_cell (blk_below BD4.out HW.out) 2).trans rfl, (blk_cell (blk_below BD4.out HW.out) 3).trans rfl, (blk_cell (blk_below BD4.out HW.out) 4).trans rfl, (blk_cell (blk_below BD4.out HW.out) 5).trans rfl⟩
        refine wp_region_K (S := (fun W => W.cell? ⟨w.heap.size, 0, none⟩ = some (.slice A ps.length c) ∧ W.cell? ⟨w.heap.size + 1, 0, none⟩ = some (.string d.f0) ∧ W.cell? ⟨w.heap.size + 1, 1, none⟩ = some (.slice D1 d.f1.length e1) ∧ W.cell? ⟨w.heap.size + 1, 2, none⟩ = some (.slice D2 d.f2.length e2) ∧ W.cell? ⟨w.heap.size + 1, 3, none⟩ = some (.int .i64 d.f3.f0) ∧ W.cell? ⟨w.heap.size + 1, 4, none⟩ = some (.string d.f3.f1) ∧ W.cell? ⟨w.heap.size + 1, 5, none⟩ = some (.slice D5 d.f3.f2.length e5))) (k := 8) (by kernel_rfl) ?_
        change wpAnyK _ _ _ _ _ _ 8 (Array.replicate 8 false) _ _
        rw [hX]
        have hsz := HW.out.size
        clear hX kP
        refine wpAnyK_takeS (i := 0) (v := ?_) rfl (by kernel_rfl) (by kernel_rfl) (by kernel_rfl) (by kernel_rfl) (fun _ _ _ h => h) hSd (Or.inl ⟨by rfl, ?_⟩) ?_
        rotate_left 1
        (intro w hSw; (try dsimp only at hSw); go_simp; try (with_reducible rfl))
        (try simp only [List.getElem_toArray, List.getElem_cons_succ, List.getElem_cons_zero]); (try dsimp only [Act.put]); (try simp only [List.setIfInBounds_toArray, List.set_cons_zero, List.set_cons_succ])
        refine wpAnyK_takeS (i := 1) (v := ?_) rfl (by kernel_rfl) (by kernel_rfl) (by kernel_rfl) (by kernel_rfl) (fun _ _ _ h => h) hSd (Or.inl ⟨by rfl, ?_⟩) ?_
        rotate_left 1
        (intro w hSw; (try dsimp only at hSw); go_simp; try (with_reducible rfl))
        (try simp only [List.getElem_toArray, List.getElem_cons_succ, List.getElem_cons_zero]); (try dsimp only [Act.put]); (try simp only [List.setIfInBounds_toArray, List.set_cons_zero, List.set_cons_succ])
        refine wpAnyK_takeS (i := 3) (v := ?_) rfl (by kernel_rfl) (by kernel_rfl) (by kernel_rfl) (by kernel_rfl) (fun _ _ _ h => h) hSd (Or.inl ⟨by rfl, ?_⟩) ?_
        rotate_left 1
        (intro w hSw; (try dsimp only at hSw); go_simp; try (with_reducible rfl))
        (try simp only [List.getElem_toArray, List.getElem_cons_succ, List.getElem_cons_zero]); (try dsimp only [Act.put]); (try simp only [List.setIfInBounds_toArray, List.set_cons_zero, List.set_cons_succ])
        refine wpAnyK_takeS (i := 7) (v := ?_) rfl (by kernel_rfl) (by kernel_rfl) (by kernel_rfl) (by kernel_rfl) (fun _ _ _ h => h) hSd (Or.inl ⟨by rfl, ?_⟩) ?_
        rotate_left 1
        (intro w hSw; (try dsimp only at hSw); go_simp; try (with_reducible rfl))
        (try simp only [List.getElem_toArray, List.getElem_cons_succ, List.getElem_cons_zero]); (try dsimp only [Act.put]); (try simp only [List.setIfInBounds_toArray, List.set_cons_zero, List.set_cons_succ])
        refine wpAnyK_two (i := 2) (j := 4) (by kernel_rfl) rfl rfl (fun K hK => ?_) (fun K hK => ?_)
        · skip
          go_simp
          go_at_call 88
          (with_reducible refine (HCl.out X0 HW.out).mono ?_)
          rintro e X1 ⟨v, rfl, hN, hb'⟩
          obtain ⟨A3, c3, rfl⟩ := Kd.N_slice hN
          have HN := Aside0.mk (Kd.N_mono hN (ok' := fun k => k < w.heap.size ∨ W4.heap.size ≤ k) (fun k hk => hk.imp id (Nat.le_trans HW.out.size)))
          have HW := Aside0.mk (HW.out.trans (hb'.mono HW.out.size))
          have hsz := hb'.size
          clear hN hb'
          have hSd : (fun W => W.cell? ⟨w.heap.size, 0, none⟩ = some (.slice A ps.length c) ∧ W.cell? ⟨w.heap.size + 1, 0, none⟩ = some (.string d.f0) ∧ W.cell? ⟨w.heap.size + 1, 1, none⟩ = some (.slice D1 d.f1.length e1) ∧ W.cell? ⟨w.heap.size + 1, 2, none⟩ = some (.slice D2 d.f2.length e2) ∧ W.cell? ⟨w.heap.size + 1, 3, none⟩ = some (.int .i64 d.f3.f0) ∧ W.cell? ⟨w.heap.size + 1, 4, none⟩ = some (.string d.f3.f1) ∧ W.cell? ⟨w.heap.size + 1, 5, none⟩ = some (.slice D5 d.f3.f2.length e5)) X1 := ⟨(blk_cell (blk_below BP4.out HW.out) 0).trans rfl, (blk_cell (blk_below BD4.out HW.out) 0).trans rfl, (blk_cell (blk_below BD4.out HW.out) 1).trans rfl, (blk_cell (blk_below BD4.out HW.out) 2).trans rfl, (blk_cell (blk_below BD4.out HW.out) 3).trans rfl, (blk_cell (blk_below BD4.out HW.out) 4).trans rfl, (blk_cell (blk_below BD4.out HW.out) 5).trans rfl⟩
          refine hK.out _ _ (fun _ => hSd) ?_
          clear hK
          refine wpAnyK_one (i := 4) (by kernel_rfl) rfl (fun K hK => ?_)
          go_simp
          obtain ⟨X2, hY⟩ : ∃ X2, X1.alloc (.cells #[.string d.f0, .slice D1 d.f1.length e1, .slice D2 d.f2.length e2, .int .i64 d.f3.f0, .string d.f3.f1, .slice D5 d.f3.f2.length e5] 58) = X2 := ⟨_, rfl⟩
          obtain ⟨p4, hp4⟩ : ∃ p4, X1.heap.size = p4 := ⟨_, rfl⟩
          have hb' : Below X1.heap.size X1 X2 := by rw [← hY]; exact below_alloc1 _ _
          have T4 := Aside0.mk (show X2.heap[p4]? = some (.cells #[.string d.f0, .slice D1 d.f1.length e1, .slice D2 d.f2.length e2, .int .i64 d.f3.f0, .string d.f3.f1, .slice D5 d.f3.f2.length e5] 58 (0, 0)) by rw [← hY, ← hp4]; exact alloc_at _ _)
          have hp4s : p4 < X2.heap.size := by rw [← hY, ← hp4]; simp
          have hp4w : W4.heap.size ≤ p4 := by rw [← hp4]; exact HW.out.size
          have hne4 : some p4 ≠ (Value.slice A3 ps.length c3).ownBlock := fun he => by have := Kd.N_lt HN.out _ he.symm; omega
          have HN := Aside0.mk (Kd.N_below HN.out hb')
          rw [hY, hp4]
          have HW := Aside0.mk (HW.out.trans (hb'.mono HW.out.size))
          have hsz := hb'.size
          clear hb' hY hp4
          have hSd : (fun W => W.cell? ⟨w.heap.size, 0, none⟩ = some (.slice A ps.length c) ∧ W.cell? ⟨w.heap.size + 1, 0, none⟩ = some (.string d.f0) ∧ W.cell? ⟨w.heap.size + 1, 1, none⟩ = some (.slice D1 d.f1.length e1) ∧ W.cell? ⟨w.heap.size + 1, 2, none⟩ = some (.slice D2 d.f2.length e2) ∧ W.cell? ⟨w.heap.size + 1, 3, none⟩ = some (.int .i64 d.f3.f0) ∧ W.cell? ⟨w.heap.size + 1, 4, none⟩ = some (.string d.f3.f1) ∧ W.cell? ⟨w.heap.size + 1, 5, none⟩ = some (.slice D5 d.f3.f2.length e5)) X2 := ⟨(blk_cell (blk_below BP4.out HW.out) 0).trans rfl, (blk_cell (blk_below BD4.out HW.out) 0).trans rfl, (blk_cell (blk_below BD4.out HW.out) 1).trans rfl, (blk_cell (blk_below BD4.out HW.out) 2).trans rfl, (blk_cell (blk_below BD4.out HW.out) 3).trans rfl, (blk_cell (blk_below BD4.out HW.out) 4).trans rfl, (blk_cell (blk_below BD4.out HW.out) 5).trans rfl⟩
          refine hK.out _ _ (fun _ => hSd) ?_
          clear hK
          refine wpAnyK_one (i := 5) (by kernel_rfl) rfl (fun K hK => ?_)
          refine Kd.N_append_rows_step k58 (w0 := X2) X0.heap.size (by rfl) (.tmp 24) (.tmp 26) 51 58 _ 112 rfl Try.underlying51 infoDe rfl (by decide) (by decide) (.slice A3 ps.length c3) ps [d] (some ⟨p4, 0, none⟩) 1 1 (fun k => k < w.heap.size ∨ W4.heap.size ≤ k) (fun k => k < w.heap.size ∨ k = p4) rfl rfl HN.out (one_def T4.out (Kd.FK_below HD.out (Q4.out.trans (HW.out.mono Q4.out.size)))) (fun k hk => ?_) (fun k hk => .inr (by have := HW.out.size; omega)) (Below.refl _ _) (by omega) (by omega) ?_
          · rcases hk with hk | hk
            · exact ⟨.inl hk, fun he => by have := Kd.N_base HN.out _ he.symm; have := Q4.out.size; omega⟩
            · subst hk; exact ⟨.inr (by omega), hne4⟩
          intro v6 X3 hN hB hg hat
          rw [HQs.out] at hN
          obtain ⟨A6, c6, hv6⟩ := Kd.N_slice hN
          subst hv6
          have HN := Aside0.mk hN
          have HW := Aside0.mk (HW.out.trans (hB.mono (by omega)))
          have hsz := hB.size
          clear hN hB hg hat
          have hSd : (fun W => W.cell? ⟨w.heap.size, 0, none⟩ = some (.slice A ps.length c) ∧ W.cell? ⟨w.heap.size + 1, 0, none⟩ = some (.string d.f0) ∧ W.cell? ⟨w.heap.size + 1, 1, none⟩ = some (.slice D1 d.f1.length e1) ∧ W.cell? ⟨w.heap.size + 1, 2, none⟩ = some (.slice D2 d.f2.length e2) ∧ W.cell? ⟨w.heap.size + 1, 3, none⟩ = some (.int .i64 d.f3.f0) ∧ W.cell? ⟨w.heap.size + 1, 4, none⟩ = some (.string d.f3.f1) ∧ W.cell? ⟨w.heap.size + 1, 5, none⟩ = some (.slice D5 d.f3.f2.length e5)) X3 := ⟨(blk_cell (blk_below BP4.out HW.out) 0).trans rfl, (blk_cell (blk_below BD4.out HW.out) 0).trans rfl, (blk_cell (blk_below BD4.out HW.out) 1).trans rfl, (blk_cell (blk_below BD4.out HW.out) 2).trans rfl, (blk_cell (blk_below BD4.out HW.out) 3).trans rfl, (blk_cell (blk_below BD4.out HW.out) 4).trans rfl, (blk_cell (blk_below BD4.out HW.out) 5).trans rfl⟩
          refine hK.out _ _ (fun _ => hSd) ?_
          clear hK
          refine wpAnyK_one (i := 6) (by kernel_rfl) rfl (fun K hK => ?_)
          go_simp
          refine hK.out _ _ (fun _ => hSd) ?_
          clear hK
          refine wpAnyK_done (by kernel_rfl) ?_ _
          go_wp2_with fail
          go_meet
          obtain ⟨_, _, he, hc6, _⟩ := Kd.N_reads HN.out
          cases he
          exact ⟨A6, c6, rfl, rfl, rfl, ⟨hc6, Kd.F_mono (Kd.N_F (Kd.N_bound HN.out)) (fun k hk => hk.1.imp id (fun h => ⟨h, hk.2⟩))⟩, HW⟩
        · skip
          go_simp
          obtain ⟨X1, hY⟩ : ∃ X1, X0.alloc (.cells #[.string d.f0, .slice D1 d.f1.length e1, .slice D2 d.f2.length e2, .int .i64 d.f3.f0, .string d.f3.f1, .slice D5 d.f3.f2.length e5] 58) = X1 := ⟨_, rfl⟩
          obtain ⟨p4, hp4⟩ : ∃ p4, X0.heap.size = p4 := ⟨_, rfl⟩
          have hb' : Below X0.heap.size X0 X1 := by rw [← hY]; exact below_alloc1 _ _
          have T4 := Aside0.mk (show X1.heap[p4]? = some (.cells #[.string d.f0, .slice D1 d.f1.length e1, .slice D2 d.f2.length e2, .int .i64 d.f3.f0, .string d.f3.f1, .slice D5 d.f3.f2.length e5] 58 (0, 0)) by rw [← hY, ← hp4]; exact alloc_at _ _)
          have hp4s : p4 < X1.heap.size := by rw [← hY, ← hp4]; simp
          have hp4w : W4.heap.size ≤ p4 := by rw [← hp4]; exact HW.out.size
          rw [hY, hp4]
          have HW := Aside0.mk (HW.out.trans (hb'.mono HW.out.size))
          have hsz := hb'.size
          clear hb' hY hp4
          have hSd : (fun W => W.cell? ⟨w.heap.size, 0, none⟩ = some (.slice A ps.length c) ∧ W.cell? ⟨w.heap.size + 1, 0, none⟩ = some (.string d.f0) ∧ W.cell? ⟨w.heap.size + 1, 1, none⟩ = some (.slice D1 d.f1.length e1) ∧ W.cell? ⟨w.heap.size + 1, 2, none⟩ = some (.slice D2 d.f2.length e2) ∧ W.cell? ⟨w.heap.size + 1, 3, none⟩ = some (.int .i64 d.f3.f0) ∧ W.cell? ⟨w.heap.size + 1, 4, none⟩ = some (.string d.f3.f1) ∧ W.cell? ⟨w.heap.size + 1, 5, none⟩ = some (.slice D5 d.f3.f2.length e5)) X1 := ⟨(blk_cell (blk_below BP4.out HW.out) 0).trans rfl, (blk_cell (blk_below BD4.out HW.out) 0).trans rfl, (blk_cell (blk_below BD4.out HW.out) 1).trans rfl, (blk_cell (blk_below BD4.out HW.out) 2).trans rfl, (blk_cell (blk_below BD4.out HW.out) 3).trans rfl, (blk_cell (blk_below BD4.out HW.out) 4).trans rfl, (blk_cell (blk_below BD4.out HW.out) 5).trans rfl⟩
          refine hK.out _ _ (fun _ => hSd) ?_
          clear hK
          refine wpAnyK_one (i := 2) (by kernel_rfl) rfl (fun K hK => ?_)
          go_simp
          go_at_call 88
          (with_reducible refine (HCl.out X1 HW.out).mono ?_)
          rintro e X2 ⟨v, rfl, hN, hb'⟩
          obtain ⟨A3, c3, rfl⟩ := Kd.N_slice hN
          have T4 := Aside0.mk (blk_below T4.out hb')
          have hne4 : some p4 ≠ (Value.slice A3 ps.length c3).ownBlock := fun he => by have := Kd.N_base hN _ he.symm; omega
          have HN := Aside0.mk (Kd.N_mono hN (ok' := fun k => k < w.heap.size ∨ W4.heap.size ≤ k) (fun k hk => hk.imp id (Nat.le_trans HW.out.size)))
          have HW := Aside0.mk (HW.out.trans (hb'.mono HW.out.size))
          have hsz := hb'.size
          clear hN hb'
          have hSd : (fun W => W.cell? ⟨w.heap.size, 0, none⟩ = some (.slice A ps.length c) ∧ W.cell? ⟨w.heap.size + 1, 0, none⟩ = some (.string d.f0) ∧ W.cell? ⟨w.heap.size + 1, 1, none⟩ = some (.slice D1 d.f1.length e1) ∧ W.cell? ⟨w.heap.size + 1, 2, none⟩ = some (.slice D2 d.f2.length e2) ∧ W.cell? ⟨w.heap.size + 1, 3, none⟩ = some (.int .i64 d.f3.f0) ∧ W.cell? ⟨w.heap.size + 1, 4, none⟩ = some (.string d.f3.f1) ∧ W.cell? ⟨w.heap.size + 1, 5, none⟩ = some (.slice D5 d.f3.f2.length e5)) X2 := ⟨(blk_cell (blk_below BP4.out HW.out) 0).trans rfl, (blk_cell (blk_below BD4.out HW.out) 0).trans rfl, (blk_cell (blk_below BD4.out HW.out) 1).trans rfl, (blk_cell (blk_below BD4.out HW.out) 2).trans rfl, (blk_cell (blk_below BD4.out HW.out) 3).trans rfl, (blk_cell (blk_below BD4.out HW.out) 4).trans rfl, (blk_cell (blk_below BD4.out HW.out) 5).trans rfl⟩
          refine hK.out _ _ (fun _ => hSd) ?_
          clear hK
          refine wpAnyK_one (i := 5) (by kernel_rfl) rfl (fun K hK => ?_)
          refine Kd.N_append_rows_step k58 (w0 := X2) X1.heap.size (by rfl) (.tmp 24) (.tmp 26) 51 58 _ 112 rfl Try.underlying51 infoDe rfl (by decide) (by decide) (.slice A3 ps.length c3) ps [d] (some ⟨p4, 0, none⟩) 1 1 (fun k => k < w.heap.size ∨ W4.heap.size ≤ k) (fun k => k < w.heap.size ∨ k = p4) rfl rfl HN.out (one_def T4.out (Kd.FK_below HD.out (Q4.out.trans (HW.out.mono Q4.out.size)))) (fun k hk => ?_) (fun k hk => .inr (by have := HW.out.size; omega)) (Below.refl _ _) (by omega) (by omega) ?_
          · rcases hk with hk | hk
            · exact ⟨.inl hk, fun he => by have := Kd.N_base HN.out _ he.symm; have := Q4.out.size; omega⟩
            · subst hk; exact ⟨.inr (by omega), hne4⟩
          intro v6 X3 hN hB hg hat
          rw [HQs.out] at hN
          obtain ⟨A6, c6, hv6⟩ := Kd.N_slice hN
          subst hv6
          have HN := Aside0.mk hN
          have HW := Aside0.mk (HW.out.trans (hB.mono (by omega)))
          have hsz := hB.size
          clear hN hB hg hat
          have hSd : (fun W => W.cell? ⟨w.heap.size, 0, none⟩ = some (.slice A ps.length c) ∧ W.cell? ⟨w.heap.size + 1, 0, none⟩ = some (.string d.f0) ∧ W.cell? ⟨w.heap.size + 1, 1, none⟩ = some (.slice D1 d.f1.length e1) ∧ W.cell? ⟨w.heap.size + 1, 2, none⟩ = some (.slice D2 d.f2.length e2) ∧ W.cell? ⟨w.heap.size + 1, 3, none⟩ = some (.int .i64 d.f3.f0) ∧ W.cell? ⟨w.heap.size + 1, 4, none⟩ = some (.string d.f3.f1) ∧ W.cell? ⟨w.heap.size + 1, 5, none⟩ = some (.slice D5 d.f3.f2.length e5)) X3 := ⟨(blk_cell (blk_below BP4.out HW.out) 0).trans rfl, (blk_cell (blk_below BD4.out HW.out) 0).trans rfl, (blk_cell (blk_below BD4.out HW.out) 1).trans rfl, (blk_cell (blk_below BD4.out HW.out) 2).trans rfl, (blk_cell (blk_below BD4.out HW.out) 3).trans rfl, (blk_cell (blk_below BD4.out HW.out) 4).trans rfl, (blk_cell (blk_below BD4.out HW.out) 5).trans rfl⟩
          refine hK.out _ _ (fun _ => hSd) ?_
          clear hK
          refine wpAnyK_one (i := 6) (by kernel_rfl) rfl (fun K hK => ?_)
          go_simp
          refine hK.out _ _ (fun _ => hSd) ?_
          clear hK
          refine wpAnyK_done (by kernel_rfl) ?_ _
          go_wp2_with fail
          go_meet
          obtain ⟨_, _, he, hc6, _⟩ := Kd.N_reads HN.out
          cases he
          exact ⟨A6, c6, rfl, rfl, rfl, ⟨hc6, Kd.F_mono (Kd.N_F (Kd.N_bound HN.out)) (fun k hk => hk.1.imp id (fun h => ⟨h, hk.2⟩))⟩, HW⟩
      case rest =>
        obtain ⟨A7, c7, rfl, rfl, rfl, F7, HW7⟩ := hcut
        have hm7 := (Kd.F_now F7.out.2).2.1
        have hw7 := HW7.out.size
        have hww := Q4.out.size
        have hw3 := Q.out.size
        have BV7 := Aside0.mk (blk_below BV.out HW7.out)
        have hoq : ∀ x ∈ qs, OkO x := fun x hx => bigD_okO (hb x hx)
        clear kP BV
        go_wp2_with fail
        go_loopg [29] qs.length (fun gg s29 wr => ∃ (kk : Nat) (v : Value), kk ≤ qs.length ∧ qs.length - kk ≤ gg ∧ s29 = .int .i64 kk ∧ Aside0 (OwnD wr wc.heap.size v (qs.take kk)) ∧ Aside0 (Fr (fun k => k = w3.heap.size) wc wr) ∧ Aside0 (wr.heap[w3.heap.size]? = some (.cells #[v] 53 (0, 0))))
        case atStart => exact ⟨0, _, Nat.zero_le _, by omega, rfl, ⟨Kd.R_nil _ _ _ _ _⟩, ⟨Fr.refl _ _⟩, BV7⟩
        case round =>
          obtain ⟨kk, v, hkk, hg, rfl, HO, HB, BV⟩ := hrel
          have hszr := HB.out.size
          by_cases hlt : kk < qs.length
          · have hltz : (kk : Int) < (qs.length : Int) := by omega
            have hFr := Kd.F_step F7.out.2 (fun k hk hkl => HB.out.block k hkl (by rcases hk with hk | hk <;> omega))
            obtain ⟨ad, g0, g1, g2, g3, g4, g5, rfl, hK, hcells, y0, y1, y2, y3, y4, y5⟩ := gett6 rfl (Kd.F_now hFr) kk hlt
            have hFK := elemF hFr kk hlt rfl hcells (fun _ _ _ h => h) (by decide)
            have hmem := List.getElem_mem hlt
            obtain ⟨dd, hdd⟩ : ∃ dd, qs[kk] = dd := ⟨_, rfl⟩
            rw [hdd] at hFK hmem
            obtain ⟨Z1, z1, Z2, z2, Z5, z5, he, _⟩ := k58_openF hFK
            obtain ⟨rfl, rfl, rfl, rfl, rfl, rfl⟩ : g0 = _ ∧ g1 = _ ∧ g2 = _ ∧ g3 = _ ∧ g4 = _ ∧ g5 = _ := by simpa using he
            have HFk := Lib.hid (Kd.FK_mono hFK (ok' := fun k => k < wr.heap.size) (fun k hk => by rcases hk with hk | hk <;> omega))
            have hod := hoq _ hmem
            have HTs := Lib.hid (show qs.take (kk + 1) = qs.take kk ++ [dd] by rw [take_snoc hlt, hdd])
            have hxl : (qs.take kk).length ≤ 100000 := by rw [List.length_take]; omega
            obtain ⟨xs, hxs⟩ : ∃ xs, qs.take kk = xs := ⟨_, rfl⟩
            rw [hxs] at HO HTs hxl
            obtain ⟨A9, c9, hv⟩ := Kd.R_slice HO.out
            subst hv
            clear hFr hK hcells hFK he hdd hxs
            obtain ⟨W0, hW0⟩ : ∃ W0, wr.alloc (.cells #[.string dd.f0, .slice Z1 dd.f1.length z1, .slice Z2 dd.f2.length z2, .int .i64 dd.f3.f0, .string dd.f3.f1, .slice Z5 dd.f3.f2.length z5] 58) = W0 := ⟨_, rfl⟩
            have q0 : Below wr.heap.size wr W0 := by rw [← hW0]; exact below_alloc1 _ _
            have s0 : W0.heap.size = wr.heap.size + 1 := by rw [← hW0]; simp
            have bx : W0.heap[wr.heap.size]? = some (.cells #[.string dd.f0, .slice Z1 dd.f1.length z1, .slice Z2 dd.f2.length z2, .int .i64 dd.f3.f0, .string dd.f3.f1, .slice Z5 dd.f3.f2.length z5] 58 (0, 0)) := by rw [← hW0]; exact alloc_at _ _
            have hnW : wc.heap.size ≤ W0.heap.size := by omega
            have HBX := Aside0.mk (show W0.drew.heap[wr.heap.size]? = _ from bx)
            have HB3 := Aside0.mk (show W0.drew.heap[w3.heap.size]? = _ from blk_below (w1 := W0) BV.out q0)
            have HO0 := Aside0.mk (Kd.R_below (Kd.R_below HO.out q0) (below_drew (Below.refl _ _)))
            have HNx := Lib.hid (show some wr.heap.size ≠ (Value.slice A9 xs.length c9).ownBlock from fun he => by have := ((Kd.R_bound HO.out).1 _ he.symm).2.2.1; omega)
            have HNe := Lib.hid (fun (k : Nat) (hk : W0.heap.size ≤ k) => show True ∧ some k ≠ (Value.slice A9 xs.length c9).ownBlock from ⟨trivial, fun he => by have := ((Kd.R_bound HO.out).1 k he.symm).2.2.1; omega⟩)
            have HNr := Lib.hid (fun (k : Nat) (hk : some k = (Value.slice A9 xs.length c9).ownBlock) => show wc.heap.size ≤ k from ((Kd.R_bound HO.out).1 k hk.symm).2.1)
            have hFK0 : Kd.FK k58 W0.drew (fun k => k < W0.drew.heap.size) dd [.string dd.f0, .slice Z1 dd.f1.length z1, .slice Z2 dd.f2.length z2, .int .i64 dd.f3.f0, .string dd.f3.f1, .slice Z5 dd.f3.f2.length z5] := Kd.FK_mono (Kd.FK_below (Kd.FK_below HFk.out q0) (below_drew (Below.refl _ _))) (fun k hk => by show k < W0.heap.size; omega)
            have HC := Lib.hid (c_own dd _ W0.drew hFK0 hod.c hod.p hod.v hod.b hod.z)
            have HBq := Lib.hid (show Fr (fun k => k = w3.heap.size) wc W0 from HB.out.after_below q0)
            have HHW := Lib.hid hW0
            have hSd : (fun W => OeS wc.heap.size W0 wr.heap.size (.string dd.f0) (.slice Z1 dd.f1.length z1) (.slice Z2 dd.f2.length z2) (.int .i64 dd.f3.f0) (.string dd.f3.f1) (.slice Z5 dd.f3.f2.length z5) W ∧ W.cell? ⟨w3.heap.size, 0, none⟩ = some (.slice A9 xs.length c9)) W0.drew := ⟨OeS.of (below_drew (Below.refl _ _)) (Nat.le_refl _) HBX.out, (blk_cell HB3.out 0).trans rfl⟩
            clear hW0 q0 bx hFK0 HO hod
            go_upto_region 10 with fail
            rw [HHW.out]
            refine wp_region_K (S := fun W => OeS wc.heap.size W0 wr.heap.size (.string dd.f0) (.slice Z1 dd.f1.length z1) (.slice Z2 dd.f2.length z2) (.int .i64 dd.f3.f0) (.string dd.f3.f1) (.slice Z5 dd.f3.f2.length z5) W ∧ W.cell? ⟨w3.heap.size, 0, none⟩ = some (.slice A9 xs.length c9)) (k := 7) (by kernel_rfl) ?_
            change wpAnyK _ _ _ _ _ _ 8 (Array.replicate 8 false) _ _
            refine wpAnyK_take (i := 0) (v := ?_) rfl (by kernel_rfl) (by kernel_rfl) (by kernel_rfl) (by kernel_rfl) (fun _ _ _ h => h) hSd (Or.inl ⟨by rfl, ?_⟩) ?_
            rotate_left 1
            (intro w hSw; (try dsimp only at hSw); go_simp; try (with_reducible rfl))
            (try simp only [List.getElem_toArray, List.getElem_cons_succ, List.getElem_cons_zero]); (try dsimp only [Act.put]); (try simp only [List.setIfInBounds_toArray, List.set_cons_zero, List.set_cons_succ])
            refine wpAnyK_take (i := 1) (v := ?_) rfl (by kernel_rfl) (by kernel_rfl) (by kernel_rfl) (by kernel_rfl) (fun _ _ _ h => h) hSd (Or.inl ⟨by rfl, ?_⟩) ?_
            rotate_left 1
            (intro w hSw; (try dsimp only at hSw); go_simp; try (with_reducible rfl))
            (try simp only [List.getElem_toArray, List.getElem_cons_succ, List.getElem_cons_zero]); (try dsimp only [Act.put]); (try simp only [List.setIfInBounds_toArray, List.set_cons_zero, List.set_cons_succ])
            refine wpAnyK_take (i := 2) (v := ?_) rfl (by kernel_rfl) (by kernel_rfl) (by kernel_rfl) (by kernel_rfl) (fun _ _ _ h => h) hSd (Or.inl ⟨by rfl, ?_⟩) ?_
            rotate_left 1
            (intro w hSw; (try dsimp only at hSw); go_simp; try (with_reducible rfl))
            (try simp only [List.getElem_toArray, List.getElem_cons_succ, List.getElem_cons_zero]); (try dsimp only [Act.put]); (try simp only [List.setIfInBounds_toArray, List.set_cons_zero, List.set_cons_succ])
            refine wpAnyK_one (i := 3) (by kernel_rfl) rfl (fun K hK => ?_)
            go_simp
            go_at_call 79
            (with_reducible refine HC.out.mono ?_)
            rintro e wE ⟨v1, v2, v5, rfl, hT, hCs, hE, hbE⟩
            have HB3 := Aside0.mk (blk_below HB3.out hbE)
            have HBX := Aside0.mk (blk_below HBX.out hbE)
            have k3 := (blk_cell HB3.out 0).trans rfl
            have hbW : Below W0.heap.size W0 wE := (below_drew (Below.refl _ _)).trans hbE
            have hszE : W0.heap.size ≤ wE.heap.size := hbE.size
            have HSb := Lib.hid (hbW.mono hnW)
            have HSf := Lib.hid hbW
            have hSd : (fun W => OeS wc.heap.size W0 wr.heap.size (.string dd.f0) (.slice Z1 dd.f1.length z1) (.slice Z2 dd.f2.length z2) (.int .i64 dd.f3.f0) (.string dd.f3.f1) (.slice Z5 dd.f3.f2.length z5) W ∧ W.cell? ⟨w3.heap.size, 0, none⟩ = some (.slice A9 xs.length c9)) wE := ⟨OeS.of (hbW.mono hnW) hszE HBX.out, k3⟩
            have HO0 := Aside0.mk (Kd.R_below HO0.out hbE)
            obtain ⟨At, ct, ht⟩ := Kd.R_slice hT
            obtain ⟨Ac, cc, hcc⟩ := Kd.R_slice hCs
            obtain ⟨Ae, ce, he⟩ := Kd.R_slice hE
            subst ht
            subst hcc
            subst he
            have HM := Aside0.mk (k58_mkM wE wc.heap.size (fun k => W0.heap.size ≤ k) dd (Kd.R_lower (Kd.R_mono (Kd.R_bound hT) (ok' := fun k => W0.heap.size ≤ k) (fun k hk => hk.2.1)) hnW) (Kd.R_lower (Kd.R_mono (Kd.R_bound hCs) (ok' := fun k => W0.heap.size ≤ k) (fun k hk => hk.2.1)) hnW) (Kd.R_lower (Kd.R_mono (Kd.R_bound hE) (ok' := fun k => W0.heap.size ≤ k) (fun k hk => hk.2.1)) hnW))
            clear hT hCs hE hbE hbW
            refine hK.out _ _ (fun _ => hSd) ?_
            clear hK
            refine wpAnyK_one (i := 4) (by kernel_rfl) rfl (fun K hK => ?_)
            go_simp
            have hSd : (fun W => OeS wc.heap.size W0 wr.heap.size (.string dd.f0) (.slice Z1 dd.f1.length z1) (.slice Z2 dd.f2.length z2) (.int .i64 dd.f3.f0) (.string dd.f3.f1) (.slice Z5 dd.f3.f2.length z5) W ∧ W.cell? ⟨w3.heap.size, 0, none⟩ = some (.slice A9 xs.length c9)) (wE.alloc (.cells #[.string dd.f0, .slice At dd.f1.length ct, .slice Ac dd.f2.length cc, .int .i64 dd.f3.f0, .string dd.f3.f1, .slice Ae dd.f3.f2.length ce] 58)) := ⟨OeS.of (HSb.out.trans ((below_alloc1 _ _).mono (by omega))) (by rw [World.size_alloc]; omega) (blk_alloc HBX.out _), pw_cell_below (below_alloc1 _ _) k3⟩
            refine hK.out _ _ (fun _ => hSd) ?_
            clear hK
            refine wpAnyK_one (i := 5) (by kernel_rfl) rfl (fun K hK => ?_)
            refine Kd.R_append_step k58 (w0 := wE) (W := wE) wc.heap.size (by rfl) (.tmp 34) (.tmp 37) 51 58 _ 112 rfl Try.underlying51 infoDe rfl (by decide) (by decide) (.slice A9 xs.length c9) xs dd [.string dd.f0, .slice At dd.f1.length ct, .slice Ac dd.f2.length cc, .int .i64 dd.f3.f0, .string dd.f3.f1, .slice Ae dd.f3.f2.length ce] (fun _ => True) (fun k => W0.heap.size ≤ k) rfl rfl HM.out HNe.out (fun _ _ => trivial) HO0.out (Below.refl _ _) (by omega) (by omega) ?_
            intro v9 w9 hR9 hB9 hg9 hat9
            have HB9 := Aside0.mk (blk_grown HB3.out hg9 (fun he => by have := HNr.out _ he; omega))
            have HX9 := blk_grown HBX.out hg9 (fun he => HNx.out he)
            have k9 := (blk_cell HB9.out 0).trans rfl
            have f9 := blk_frozen HB9.out 0
            have hSd : (fun W => OeS wc.heap.size W0 wr.heap.size (.string dd.f0) (.slice Z1 dd.f1.length z1) (.slice Z2 dd.f2.length z2) (.int .i64 dd.f3.f0) (.string dd.f3.f1) (.slice Z5 dd.f3.f2.length z5) W ∧ W.cell? ⟨w3.heap.size, 0, none⟩ = some (.slice A9 xs.length c9)) w9 := ⟨OeS.of (HSb.out.trans hB9) (Nat.le_trans hszE hB9.size) HX9, k9⟩
            obtain ⟨Az, cz, hvz⟩ := Kd.R_slice hR9
            rw [show (xs ++ [dd]).length = xs.length + 1 from by simp] at hvz
            subst hvz
            have HR9 := Aside0.mk hR9
            have hs9 := hB9.size
            have HF9 := Lib.hid ((HBq.out.after_below HSf.out).trans (Fr.of_below _ (Below.refl _ _)))
            have HG9 := Lib.hid (show Fr (fun k => k = w3.heap.size) wc w9 from HF9.out.grown hg9 (fun k hk => .inr (HNr.out k hk.symm)))
            clear hR9 hB9 hg9 hat9 HX9
            refine hK.out _ _ (fun _ => hSd) ?_
            clear hK
            refine wpAnyK_take (i := 6) (v := ?_) rfl (by kernel_rfl) (by kernel_rfl) (by kernel_rfl) (by kernel_rfl) (fun _ _ _ h => h) hSd (Or.inl ⟨by rfl, ?_⟩) ?_
            rotate_left 1
            (intro w hSw; (try dsimp only at hSw); go_simp; try (with_reducible rfl))
            (try simp only [List.getElem_toArray, List.getElem_cons_succ, List.getElem_cons_zero]); (try dsimp only [Act.put]); (try simp only [List.setIfInBounds_toArray, List.set_cons_zero, List.set_cons_succ])
            refine wpAnyK_one (i := 7) (by kernel_rfl) rfl (fun K hK => ?_)
            go_simp
            refine hK.out _ _ (fun h => absurd rfl h) ?_
            clear hK hSd
            refine wpAnyK_done (by kernel_rfl) ?_ _
            clear k3
            go_wp2
            go_roundg (qs.length - (kk + 1))
            case measure => omega
            case rel => exact ⟨kk + 1, _, by omega, by omega, by go_num, ⟨by
              rw [HTs.out]
              exact Kd.R_mono (Kd.R_far (Kd.R_mono (Kd.R_bound HR9.out) (ok' := fun k => wc.heap.size ≤ k) (fun k hk => hk.2.1)) (p := ⟨w3.heap.size, 0, none⟩) (fun k hk => by show k ≠ w3.heap.size; omega) _) (fun _ _ => trivial)⟩, ⟨HG9.out.setCell (.inl rfl) _⟩, ⟨blk_put HB9.out 0 _ rfl⟩⟩
          · have : kk = qs.length := by omega
            subst this
            have hOl := HO.out
            rw [List.take_length] at hOl
            obtain ⟨A9, c9, rfl, hc9, hC9⟩ := Kd.R_reads hOl
            have HOl := Aside0.mk hOl
            have k7 := (blk_cell BV.out 0).trans rfl
            obtain ⟨ce, hce⟩ : ∃ ce, checkP qs = ce := ⟨_, rfl⟩
            have HC := Lib.hid (c_Check qs A9 c9 wr hC9 hc9 hokp)
            rw [hce] at HC HXb
            have HBb := Aside0.mk (show Below w3.heap.size W4 wr from (HW7.out.mono (by omega)).trans (HB.out.below (by omega) (fun k hk he => by omega)))
            clear hOl hC9 hce HO HB
            go_wp2_with fail
            refine HC.out.mono ?_
            rintro en w5 ⟨rfl, hb5⟩
            have hs5 := hb5.size
            have HBb := Aside0.mk (HBb.out.trans (hb5.mono (by omega)))
            have BV := Aside0.mk (blk_below BV.out hb5)
            have HOl := Aside0.mk (Kd.R_below HOl.out hb5)
            have BR5 := Aside0.mk (show w5.heap[w.heap.size + 1 + 1]? = _ from (HBb.out.block _ (by omega)).trans BR4.out)
            have Q5 := Aside0.mk (show Below w.heap.size w w5 from Q4.out.trans (HBb.out.mono (by omega)))
            clear hb5 HC k7
            have k7 := (blk_cell BV.out 0).trans rfl
            have k4 := (blk_cell BR5.out 0).trans rfl
            have f4 := blk_frozen BR5.out 0
            cases he : (ce != 0) with
            | true =>
              have hne : ¬ ce = 0 := by simpa using he
              have HX2 := Lib.hid (show addP ps d = ([], ce) by rw [HXb.out, if_neg hne])
              clear hne
              go_wp2
              have b4 := blk_put BR5.out 0 (.slice none 0 0) rfl
              refine bodyPost_ret (results_ct rfl _ _ _ _ _ _ _ rfl b4 Try.underlying53 rfl (by kernel_rfl)) rfl ?_
              rw [HX2.out]
              exact ⟨_, rfl, Kd.R_nil _ _ _ _ _, (Q5.out).setCell (by simp only; omega) _⟩
            | false =>
              have hne : ce = 0 := by simpa using he
              have HX2 := Lib.hid (show addP ps d = (qs, 0) by rw [HXb.out, if_pos hne])
              clear hne
              go_wp2
              have b4 := blk_put BR5.out 0 (.slice A9 qs.length c9) rfl
              refine bodyPost_ret (results_ct rfl _ _ _ _ _ _ _ rfl b4 Try.underlying53 rfl (by kernel_rfl)) rfl ?_
              rw [HX2.out]
              exact ⟨_, rfl, Kd.R_lower (Kd.R_mono (Kd.R_far (Kd.R_mono (Kd.R_bound HOl.out) (ok' := fun k => wc.heap.size ≤ k) (fun k hk => hk.2.1)) (p := ⟨w.heap.size + 1 + 1, 0, none⟩) (fun k hk => by show k ≠ w.heap.size + 1 + 1; omega) _) (fun _ _ => trivial)) (by omega), Q5.out.setCell (by simp only; omega) _⟩
end Go.Proofs.Ytacefdkfbpgedaa.Mine
