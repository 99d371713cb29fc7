/- What the law clears: rows of texts, expressions, cases and definitions, closed under clearing. -/
import Derived.Test.YtacefdkfbpgedaaGreatCC9
import Derived.Laws.CopyRow
import Derived.Test.YtacefdkfbpgedaaGreatCC6
import Derived.Test.YtacefdkfbpgedaaGreatCC8
import Derived.Deep.DeepCutAuto
namespace Go.Proofs.YtacefdkfbpgedaaGreat.Mine
open Go.Proofs.YtacefdkfbpgedaaGreat.PProgSmall
open Go.RowKit Go.Shelf Go.Proofs.YtacefdkfbpgedaaGreatW.PrintWords Go.Proofs.YtacefdkfbpgedaaGreatW.PrintLast Go.Proofs.YtacefdkfbpgedaaGreatW.PrintMore
set_option linter.unusedVariables false
set_option linter.unusedSimpArgs false
inductive Tg where
 | t | e | c | d
inductive Fl where
 | s | i | l (τ : Tg)
def Tg.ty : Tg → Nat
 | .t => 9
 | .e => 57
 | .c => 62
 | .d => 59
def Tg.fl : Tg → List Fl
 | .t => [.s]
 | .e => [.i, .s, .l .e]
 | .c => [.s, .l .t, .i, .s, .l .e]
 | .d => [.s, .l .t, .l .c, .i, .s, .l .e]
def Fl.zero : Fl → Value
 | .s => .string ⟨#[]⟩
 | .i => .int .i64 0
 | .l _ => .slice none 0 0
def Fl.good (p : Tg → Value → Prop) : Fl → Value → Prop
 | .s, u => ∃ s, u = .string s
 | .i, u => ∃ k, u = .int .i64 k
 | .l τ, u => p τ u
theorem Tg.ty_inj {a b : Tg} (h : a.ty = b.ty) : a = b := by cases a <;> cases b <;> first | rfl | exact absurd h (by decide)
theorem Tg.pos (τ : Tg) : 0 < τ.fl.length := by cases τ <;> decide
def Vg (W : World) (base top : Nat) : Nat → Tg → Value → Prop
 | 0, _, v => v = .slice none 0 0
 | m + 1, τ, v => v = .slice none 0 0 ∨ ∃ g n cap cur, v = .slice (some ⟨g, 0, none⟩) n cap ∧ n ≤ 9223372036854775807 ∧ (base ≤ g ∧ g < top) ∧ W.heap[g]? = some (.cells cur τ.ty (0, 0)) ∧
   ∀ j i f, j < n → τ.fl[i]? = some f → ∃ u, cur[j * τ.fl.length + i]? = some u ∧ Fl.good (Vg W base top m) f u
theorem Vg.nil {W : World} {base top : Nat} {τ : Tg} : ∀ {m : Nat}, Vg W base top m τ (.slice none 0 0)
 | 0 => by simp [Vg]
 | m + 1 => by simp [Vg]
theorem Vg.slice {W : World} {base top : Nat} {m : Nat} {τ : Tg} {v : Value} (h : Vg W base top m τ v) : ∃ A n c, v = .slice A n c := by
 cases m with
 | zero => rw [Vg] at h; exact ⟨_, _, _, h⟩
 | succ m =>
  rw [Vg] at h
  rcases h with h | ⟨g, n, cap, cur, h, _⟩
  ·exact ⟨_, _, _, h⟩
  ·exact ⟨_, _, _, h⟩
theorem Fl.good_mono {p q : Tg → Value → Prop} (h : ∀ τ v, p τ v → q τ v) : ∀ {f : Fl} {u : Value}, Fl.good p f u → Fl.good q f u
 | .s, _, k => k
 | .i, _, k => k
 | .l τ, u, k => h τ u k
theorem Fl.good_zero {W : World} {base top m : Nat} : ∀ (f : Fl), Fl.good (Vg W base top m) f f.zero
 | .s => ⟨_, rfl⟩
 | .i => ⟨_, rfl⟩
 | .l τ => Vg.nil
theorem Vg.succ {W : World} {base top : Nat} : ∀ {m : Nat} {τ : Tg} {v : Value}, Vg W base top m τ v → Vg W base top (m + 1) τ v
 | 0, τ, v, h => by rw [Vg] at h; subst h; exact Vg.nil
 | m + 1, τ, v, h => by
  rw [Vg] at h ⊢
  rcases h with h | ⟨g, n, cap, cur, h1, h2, h3, h4, h5⟩
  ·exact .inl h
  ·refine .inr ⟨g, n, cap, cur, h1, h2, h3, h4, fun j i f hj hf => ?_⟩
   obtain ⟨u, a, b⟩ := h5 j i f hj hf
   exact ⟨u, a, Fl.good_mono (fun _ _ h => Vg.succ h) b⟩
theorem Vg.mono {W : World} {base top m k : Nat} {τ : Tg} {v : Value} (h : Vg W base top m τ v) (hk : m ≤ k) : Vg W base top k τ v := by
 obtain ⟨d, rfl⟩ : ∃ d, k = m + d := ⟨k - m, by omega⟩
 clear hk
 induction d with
 | zero => exact h
 | succ d ih => exact ih.succ
def Spd (base top : Nat) (W W' : World) : Prop := Below base W W' ∧ (∀ k, top ≤ k → k < W.heap.size → W'.heap[k]? = W.heap[k]?) ∧ ∀ m τ v, Vg W base top m τ v → Vg W' base top m τ v
theorem Spd.refl (base top : Nat) (W : World) : Spd base top W W := ⟨Below.refl _ _, fun _ _ _ => rfl, fun _ _ _ h => h⟩
theorem Spd.trans {base top : Nat} {W W' W2 : World} (h : Spd base top W W') (k : Spd base top W' W2) : Spd base top W W2 := ⟨h.1.trans k.1, fun i hi hl => (k.2.1 i hi (Nat.lt_of_lt_of_le hl h.1.size)).trans (h.2.1 i hi hl), fun m τ v hv => k.2.2 m τ v (h.2.2 m τ v hv)⟩
theorem Spd.below {base top : Nat} {W W' : World} (hb : Below W.heap.size W W') (hbase : base ≤ W.heap.size) : Spd base top W W' := by
 refine ⟨hb.mono hbase, fun k _ hk => hb.block k hk, fun m => ?_⟩
 induction m with
 | zero => intro τ v h; rw [Vg] at h ⊢; exact h
 | succ m ih =>
  intro τ v h
  rw [Vg] at h ⊢
  rcases h with h | ⟨g, n, cap, cur, h1, h2, h3, h4, h5⟩
  ·exact .inl h
  ·refine .inr ⟨g, n, cap, cur, h1, h2, h3, blk_below h4 hb, fun j i f hj hf => ?_⟩
   obtain ⟨u, a, b⟩ := h5 j i f hj hf
   exact ⟨u, a, Fl.good_mono ih b⟩
theorem Spd.upd {base top : Nat} {W W' : World} {g : Nat} {τ : Tg} {cur0 cur' : Array Value} (h0 : W.heap[g]? = some (.cells cur0 τ.ty (0, 0))) (hg : base ≤ g ∧ g < top) (hb : Below base W W') (ho : ∀ k, k ≠ g → W'.heap[k]? = W.heap[k]?)
  (h' : W'.heap[g]? = some (.cells cur' τ.ty (0, 0))) (hc : ∀ j i f u, τ.fl[i]? = some f → cur0[j * τ.fl.length + i]? = some u → cur'[j * τ.fl.length + i]? = some u ∨ cur'[j * τ.fl.length + i]? = some f.zero) : Spd base top W W' := by
 refine ⟨hb, fun k hk _ => ho k (by omega), fun m => ?_⟩
 induction m with
 | zero => intro τ v h; rw [Vg] at h ⊢; exact h
 | succ m ih =>
  intro τ1 v h
  rw [Vg] at h ⊢
  rcases h with h | ⟨g1, n, cap, cur, h1, h2, h3, h4, h5⟩
  ·exact .inl h
  ·by_cases hgg : g1 = g
   ·subst hgg
    rw [h0] at h4
    injection h4 with h4
    injection h4 with e1 e2
    have e3 := Tg.ty_inj e2
    subst e3
    subst e1
    refine .inr ⟨g1, n, cap, cur', h1, h2, h3, h', fun j i f hj hf => ?_⟩
    obtain ⟨u, a, b⟩ := h5 j i f hj hf
    rcases hc j i f u hf a with h | h
    ·exact ⟨u, h, Fl.good_mono ih b⟩
    ·exact ⟨_, h, Fl.good_zero f⟩
   ·refine .inr ⟨g1, n, cap, cur, h1, h2, h3, (ho g1 hgg).trans h4, fun j i f hj hf => ?_⟩
    obtain ⟨u, a, b⟩ := h5 j i f hj hf
    exact ⟨u, a, Fl.good_mono ih b⟩
def clr (W : World) (g i : Nat) : World := ((W.setCell ⟨g, i, none⟩ (.int .i64 0)).setCell ⟨g, i + 1, none⟩ (.string ⟨#[]⟩)).setCell ⟨g, i + 2, none⟩ (.slice none 0 0)
theorem clr_heap {W : World} {g i : Nat} {cur : Array Value} {t : Nat} (h : W.heap[g]? = some (.cells cur t (0, 0))) : (clr W g i).heap[g]? = some (.cells (((cur.setIfInBounds i (.int .i64 0)).setIfInBounds (i + 1) (.string ⟨#[]⟩)).setIfInBounds (i + 2) (.slice none 0 0)) t (0, 0)) :=
 blk_put (blk_put (blk_put h i _ rfl) (i + 1) _ rfl) (i + 2) _ rfl
theorem clr_far {W : World} {g g' i : Nat} {cur : Array Value} {t : Nat} (h : W.heap[g']? = some (.cells cur t (0, 0))) (hne : g' ≠ g) : (clr W g i).heap[g']? = some (.cells cur t (0, 0)) := blk_far (blk_far (blk_far h hne _) hne _) hne _
theorem clr_ne {W : World} {g i k : Nat} (hne : k ≠ g) : (clr W g i).heap[k]? = W.heap[k]? := by
 unfold clr
 rw [Below.heap_setCell _ _ _ _ (by simp only; omega), Below.heap_setCell _ _ _ _ (by simp only; omega), Below.heap_setCell _ _ _ _ (by simp only; omega)]
theorem Spd.clr {base top : Nat} {W : World} {g j0 : Nat} {cur0 : Array Value} (h0 : W.heap[g]? = some (.cells cur0 57 (0, 0))) (hg : base ≤ g ∧ g < top) : Spd base top W (clr W g (j0 * 3)) := by
 refine Spd.upd (τ := .e) h0 hg ((((Below.refl base W).setCell hg.1 _).setCell hg.1 _).setCell hg.1 _) (fun k hk => clr_ne hk) (clr_heap h0) (fun j i f u hf hu => ?_)
 have hlt := (Array.getElem?_eq_some_iff.1 hu).1
 have hL : Tg.e.fl.length = 3 := rfl
 rw [hL] at hu hlt ⊢
 have hi : i < 3 := (List.getElem?_eq_some_iff.1 hf).1
 by_cases hjj : j = j0
 ·subst hjj
  right
  obtain rfl | rfl | rfl : i = 0 ∨ i = 1 ∨ i = 2 := by omega
  ·simp [Tg.fl] at hf
   subst hf
   simp at hlt
   simp [Array.getElem?_setIfInBounds, hlt, Fl.zero]
  ·simp [Tg.fl] at hf
   subst hf
   simp [Array.getElem?_setIfInBounds, hlt, Fl.zero]
  ·simp [Tg.fl] at hf
   subst hf
   simp [Array.getElem?_setIfInBounds, hlt, Fl.zero]
 ·left
  rw [Array.getElem?_setIfInBounds_ne (by omega), Array.getElem?_setIfInBounds_ne (by omega), Array.getElem?_setIfInBounds_ne (by omega)]
  exact hu
theorem zeroCells_at (zs : List Value) (n j : Nat) (hz : 0 < zs.length) (hj : j < n * zs.length) : (Builtin.zeroCells zs.toArray n).toList[j]? = some (zs[j % zs.length]'(Nat.mod_lt _ hz)) := by
 have hm : j % zs.length < zs.length := Nat.mod_lt _ hz
 simp [Builtin.zeroCells, hj, List.getElem?_eq_getElem hm]
theorem zeroCells_len (zs : List Value) (n : Nat) : (Builtin.zeroCells zs.toArray n).toList.length = n * zs.length := by simp [Builtin.zeroCells]
theorem Fl.one (f : Fl) : f.zero.oneCell' = true := by cases f <;> rfl
theorem run_clear_vg {P : Program} (w : World) (t e ty : TypeId) (τ : Tg) (z : Value) (ht : P.underlying t = some (.slice e)) (hv : ∀ w, (zeroValue e).run P w = .ok z w) (hz : z.cells = (τ.fl.map Fl.zero).toArray) {base top m : Nat} {v : Value}
  (hV : Vg w base top m τ v) : ∃ w', (Builtin.clear_ #[t] ty #[v]).run P w = .ok (.tuple #[]) w' ∧ Spd base top w w' := by
 have hV := hV.succ
 rw [Vg] at hV
 rcases hV with rfl | ⟨g, n, cap, cur, rfl, hn, hg, hbl, hel⟩
 ·exact ⟨w, by simp [Builtin.clear_, run_underlying ht], Spd.refl _ _ _⟩
 ·cases n with
  | zero => exact ⟨w, by simp [Builtin.clear_, run_underlying ht], Spd.refl _ _ _⟩
  | succ n =>
   have hL := τ.pos
   have hlen := zeroCells_len (τ.fl.map Fl.zero) (n + 1)
   rw [List.length_map] at hlen
   have hsz : (n + 1) * τ.fl.length ≤ cur.size := by
    have hlast : τ.fl[τ.fl.length - 1]? = some (τ.fl[τ.fl.length - 1]'(by omega)) := List.getElem?_eq_getElem (by omega)
    obtain ⟨u, hu, _⟩ := hel n (τ.fl.length - 1) _ (by omega) hlast
    have := (Array.getElem?_eq_some_iff.1 hu).1
    rw [Nat.add_mul, Nat.one_mul]
    omega
   have hat := fun j (hj : j < (n + 1) * τ.fl.length) => zeroCells_at (τ.fl.map Fl.zero) (n + 1) j (by simpa using hL) (by simpa using hj)
   have hst := run_storeCells_at P g 0 τ.ty (Builtin.zeroCells (τ.fl.map Fl.zero).toArray (n + 1)).toList 0 cur w hbl (by omega) (by
    intro v hv'
    obtain ⟨j, hj, rfl⟩ := List.mem_iff_getElem.1 hv'
    have h := hat j (by omega)
    rw [List.getElem?_eq_getElem hj] at h
    injection h with h
    rw [h, List.getElem_map]
    exact Fl.one _)
   simp only [Nat.add_zero, List.take_zero, List.nil_append, Nat.zero_add] at hst
   refine ⟨_, by simp [Builtin.clear_, run_underlying ht, hv, hz, hst]; rfl, ?_⟩
   refine Spd.upd (τ := τ) hbl hg ⟨rfl, rfl, rfl, by simp [World.setRow], fun k hk => setRow_other _ _ _ _ (by omega)⟩ (fun k hk => setRow_other _ _ _ _ hk) (setRow_heap _ _ _ _ _ _ hbl) (fun j i f u hf hu => ?_)
   rw [List.getElem?_toArray]
   have hi : i < τ.fl.length := (List.getElem?_eq_some_iff.1 hf).1
   by_cases hlt : j * τ.fl.length + i < (n + 1) * τ.fl.length
   ·right
    rw [List.getElem?_append_left (by omega), hat _ hlt]
    congr 1
    have hmod : (j * τ.fl.length + i) % τ.fl.length = i := by rw [Nat.mul_comm, Nat.mul_add_mod, Nat.mod_eq_of_lt hi]
    have h2 := (List.getElem?_eq_some_iff.1 hf).2
    simp only [List.length_map, List.getElem_map, hmod, h2]
   ·left
    rw [List.getElem?_append_right (by omega), List.getElem?_drop]
    simp only [Array.length_toList] at hlen ⊢
    have he : (Builtin.zeroCells (τ.fl.map Fl.zero).toArray (n + 1)).size + (j * τ.fl.length + i - (Builtin.zeroCells (τ.fl.map Fl.zero).toArray (n + 1)).size) = j * τ.fl.length + i := by omega
    rw [he, Array.getElem?_toList]
    exact hu
theorem wpList_clear_vg {P : Program} {w : World} {ops : Array Oper} {rest : List Oper} {o : Oper} {a : Act} {Q : Exit → Act → World → Prop} (hgd : o.guard = none) (d : Operand) (t e : TypeId) (τ : Tg) (z v : Value)
  (ho : o.op = .call { callee := .builtin .clear, args := #[d], argTypes := #[t] }) (hdst : o.dst = none) (hd : a.eval d = v)
  (ht : P.underlying t = some (.slice e)) (hv : ∀ w, (zeroValue e).run P w = .ok z w) (hz : z.cells = (τ.fl.map Fl.zero).toArray) {base top m : Nat} (hV : Vg w base top m τ v)
  (h : ∀ w', Spd base top w w' → wpList P ops Q rest a w') : wpList P ops Q (o :: rest) a w := by
 refine wpList_plain hgd fun K hK => ?_
 obtain ⟨w', hrun, hS⟩ := run_clear_vg (P := P) w t e o.type τ z ht hv hz hV
 unfold Oper.wp
 simp [execOp, ho, resolve, invoke, builtin, hd, hrun, Result.andThen, hdst]
 have h2 := h w' hS
 have hp : a.put o.dst (.tuple #[]) = a := by rw [hdst]; rfl
 rw [← hp] at h2
 exact hK _ _ h2
theorem Vg.ofR {α : Type} {d : Kd α} {τ : Tg} {W : World} {base m : Nat} {ok : Nat → Prop} {v : Value} {xs : List α} (hsz : d.sz = τ.fl.length) (hR : d.R τ.ty W base ok v xs)
  (hel : ∀ x ∈ xs, ∀ (ok : Nat → Prop) (cs : List Value), d.M W base ok x cs → ∀ (i : Nat) (f : Fl), τ.fl[i]? = some f → ∃ u, (cs : List Value)[i]? = some u ∧ Fl.good (Vg W base W.heap.size m) f u) : Vg W base W.heap.size (m + 1) τ v := by
 obtain ⟨_, inner, ho, hr⟩ := hR
 rw [Vg]
 rcases ho.2 with ⟨h1, h2⟩ | ⟨g, cap, cur, h1, hb, hg, hcap, hmax, hsz', htake⟩
 ·exact .inl h1
 ·refine .inr ⟨g, xs.length, cap, cur, h1, by have : maxLen ≤ 9223372036854775807 := (by decide); omega, ⟨hb, blk_lt hg⟩, hg, fun j i f hj hf => ?_⟩
  have hM := hr.2 j _ (List.getElem?_eq_getElem hj)
  obtain ⟨u, hc, hgd⟩ := hel _ (List.getElem_mem hj) _ _ hM i f hf
  refine ⟨u, ?_, hgd⟩
  rw [hsz] at hc
  rw [← htake, List.getElem?_take] at hc
  split at hc
  ·rw [List.getElem?_drop, List.getElem?_take] at hc
   split at hc
   ·rw [Array.getElem?_toList] at hc; exact hc
   ·cases hc
  ·cases hc
theorem OwnE.vg {W : World} {base : Nat} : ∀ (m : Nat) {ok : Nat → Prop} {v : Value} {l : List Ex}, szL l ≤ m → Kd.R k57 57 W base ok v l → Vg W base W.heap.size (m + 1) .e v := by
 intro m
 induction m with
 | zero =>
  intro ok v l h hR
  cases l with
  | nil => exact Vg.ofR (τ := .e) rfl hR (fun x hx => by cases hx)
  | cons x xs => rw [szL] at h; have := szE_pos x; omega
 | succ m ih =>
  intro ok v l h hR
  refine Vg.ofR (τ := .e) rfl hR (fun x hx ok cs hM i f hf => ?_)
  obtain ⟨u, rfl, hRu⟩ := k57_openM hM
  have hxs := szL_mem hx
  have hs := szE_eq x
  have hi : i < 3 := (List.getElem?_eq_some_iff.1 hf).1
  obtain rfl | rfl | rfl : i = 0 ∨ i = 1 ∨ i = 2 := by omega
  ·simp [Tg.fl] at hf; subst hf; exact ⟨_, rfl, _, rfl⟩
  ·simp [Tg.fl] at hf; subst hf; exact ⟨_, rfl, _, rfl⟩
  ·simp [Tg.fl] at hf; subst hf; exact ⟨_, rfl, ih (by omega) hRu⟩
theorem vg_txt {W : World} {base m : Nat} {ok : Nat → Prop} {v : Value} {l : List ByteArray} (hR : Kd.R Kd.string 9 W base ok v l) : Vg W base W.heap.size (m + 1) .t v := by
 refine Vg.ofR (τ := .t) rfl hR (fun x hx ok cs hM i f hf => ?_)
 have hi : i < 1 := (List.getElem?_eq_some_iff.1 hf).1
 obtain rfl : i = 0 := by omega
 have hcs : cs = [.string x] := hM
 subst hcs
 simp [Tg.fl] at hf; subst hf; exact ⟨_, rfl, _, rfl⟩
theorem vg_case {W : World} {base m : Nat} {ok : Nat → Prop} {v : Value} {l : List Ca} (hm : ∀ x ∈ l, szE x.f2 ≤ m) (hR : Kd.R k62 62 W base ok v l) : Vg W base W.heap.size (m + 2) .c v := by
 refine Vg.ofR (τ := .c) rfl hR (fun x hx ok cs hM i f hf => ?_)
 obtain ⟨v1, v4, rfl, h1, h4⟩ := k62_openM hM
 have hs := szE_eq x.f2
 have hxm := hm x hx
 have hi : i < 5 := (List.getElem?_eq_some_iff.1 hf).1
 obtain rfl | rfl | rfl | rfl | rfl : i = 0 ∨ i = 1 ∨ i = 2 ∨ i = 3 ∨ i = 4 := by omega
 ·simp [Tg.fl] at hf; subst hf; exact ⟨_, rfl, _, rfl⟩
 ·simp [Tg.fl] at hf; subst hf; exact ⟨_, rfl, vg_txt h1⟩
 ·simp [Tg.fl] at hf; subst hf; exact ⟨_, rfl, _, rfl⟩
 ·simp [Tg.fl] at hf; subst hf; exact ⟨_, rfl, _, rfl⟩
 ·simp [Tg.fl] at hf; subst hf; exact ⟨_, rfl, OwnE.vg m (by omega) h4⟩
theorem vg_def {W : World} {base m : Nat} {ok : Nat → Prop} {v : Value} {l : List De} (hm : ∀ x ∈ l, szE x.f3 ≤ m ∧ ∀ c ∈ x.f2, szE c.f2 ≤ m) (hR : Kd.R k59 59 W base ok v l) : Vg W base W.heap.size (m + 3) .d v := by
 refine Vg.ofR (τ := .d) rfl hR (fun x hx ok cs hM i f hf => ?_)
 obtain ⟨v1, v2, v5, rfl, h1, h2, h5⟩ := k59_openM hM
 have hs := szE_eq x.f3
 have hxm := hm x hx
 have hi : i < 6 := (List.getElem?_eq_some_iff.1 hf).1
 obtain rfl | rfl | rfl | rfl | rfl | rfl : i = 0 ∨ i = 1 ∨ i = 2 ∨ i = 3 ∨ i = 4 ∨ i = 5 := by omega
 ·simp [Tg.fl] at hf; subst hf; exact ⟨_, rfl, _, rfl⟩
 ·simp [Tg.fl] at hf; subst hf; exact ⟨_, rfl, vg_txt h1⟩
 ·simp [Tg.fl] at hf; subst hf; exact ⟨_, rfl, vg_case hxm.2 h2⟩
 ·simp [Tg.fl] at hf; subst hf; exact ⟨_, rfl, _, rfl⟩
 ·simp [Tg.fl] at hf; subst hf; exact ⟨_, rfl, _, rfl⟩
 ·simp [Tg.fl] at hf; subst hf; exact ⟨_, rfl, (OwnE.vg (m + 1) (by omega) h5)⟩
end Go.Proofs.YtacefdkfbpgedaaGreat.Mine
namespace Go.Proofs.YtacefdkfbpgedaaGreat.Mine
open Go.Proofs.YtacefdkfbpgedaaGreat.PProgSmall
open Go.RowKit Go.Shelf Go.Proofs.YtacefdkfbpgedaaGreatW.PrintWords Go.Proofs.YtacefdkfbpgedaaGreatW.PrintLast Go.Proofs.YtacefdkfbpgedaaGreatW.PrintMore
set_option linter.unusedVariables false
set_option linter.unusedSimpArgs false
theorem Vg.bound {W : World} {base top m : Nat} {τ : Tg} {v : Value} (h : Vg W base top m τ v) : ∃ A n c, v = .slice A n c ∧ n ≤ 9223372036854775807 := by
 cases m with
 | zero => rw [Vg] at h; exact ⟨_, _, _, h, by omega⟩
 | succ m =>
  rw [Vg] at h
  rcases h with h | ⟨g, n, cap, cur, h, hn, _⟩
  ·exact ⟨_, _, _, h, by omega⟩
  ·exact ⟨_, _, _, h, hn⟩
theorem Vg.at {W : World} {base top m : Nat} {τ : Tg} {A : Option Addr} {n c : Nat} (h : Vg W base top (m + 1) τ (.slice A n c)) {j : Nat} (hj : j < n) :
  ∃ g cur, A = some ⟨g, 0, none⟩ ∧ (base ≤ g ∧ g < top) ∧ W.heap[g]? = some (.cells cur τ.ty (0, 0)) ∧ ∀ i f, τ.fl[i]? = some f → ∃ u, cur[j * τ.fl.length + i]? = some u ∧ Fl.good (Vg W base top m) f u := by
 rw [Vg] at h
 rcases h with h | ⟨g, n1, cap, cur, h, hn, hg, hb, hel⟩
 ·cases h; omega
 ·cases h
  exact ⟨g, cur, rfl, hg, hb, fun i f hf => hel j i f hj hf⟩
set_option maxRecDepth 100000 in
set_option maxHeartbeats 4000000 in
theorem c_Spoil (base top : Nat) : ∀ (m : Nat) (k : Int) (s : ByteArray) (v : Value) (w : World), Vg w base top m .e v → base ≤ w.heap.size → top ≤ w.heap.size →
  Calls Tryz.prog 73 #[.agg #[.int .i64 k, .string s, v]] w fun en w' => en = .returned (.tuple #[]) ∧ Spd base top w w' := by
 intro m
 induction m with
 | zero =>
  intro k s v w hv hb ht
  rw [Vg] at hv
  subst hv
  have q := Spd.below (top := top) (below_alloc1 w (.cells #[.int .i64 k, .string s, .slice none 0 0] 57)) hb
  go_enter Tryz.func73, Tryz.ntmps73
  go_wp2
  go_loopg [6, 2] 0 (fun gg s6 _ wr => s6 = .int .i64 0 ∧ Aside0 (Spd base top w wr))
  case atStart => exact ⟨rfl, ⟨q⟩⟩
  case round =>
   obtain ⟨rfl, HQ⟩ := hrel
   go_wp2
   (try simp only [Exit.inBlock, Exit.then]); first | refine bodyPost_ret (results_none rfl _ _ _) rfl ?_ | refine bodyPost_end (results_none rfl _ _ _) rfl ?_
   exact ⟨rfl, HQ.out⟩
 | succ m ih =>
  intro k s v w hv hb ht
  obtain ⟨A, n, cap, rfl, hn⟩ := hv.bound
  have Q0 := Aside0.mk (Spd.below (top := top) (below_alloc1 w (.cells #[.int .i64 k, .string s, .slice A n cap] 57)) hb)
  have B0 := Aside0.mk (alloc_at w (.cells #[.int .i64 k, .string s, .slice A n cap] 57))
  have HV := Aside0.mk hv
  clear hv
  go_enter Tryz.func73, Tryz.ntmps73
  go_wp2
  go_loopg [6, 2] n (fun gg s6 _ wr => ∃ kk : Nat, kk ≤ n ∧ n - kk ≤ gg ∧ s6 = .int .i64 kk ∧ Aside0 (Spd base top w wr) ∧ Aside0 (wr.heap[w.heap.size]? = some (.cells #[.int .i64 k, .string s, .slice A n cap] 57 (0, 0))))
  case atStart => exact ⟨0, Nat.zero_le _, by omega, rfl, Q0, B0⟩
  case round =>
   obtain ⟨kk, hkk, hgg, rfl, HQ, HB⟩ := hrel
   have b2 := (blk_cell HB.out 2).trans rfl
   by_cases hlt : kk < n
   ·have hltz : (kk : Int) < (n : Int) := by omega
    obtain ⟨g, cur1, rfl, hg, hbl1, hel1⟩ := (HQ.out.2.2 _ _ _ HV.out).at hlt
    obtain ⟨_, x0, k1, rfl⟩ := hel1 0 .i rfl
    obtain ⟨_, x1, s1, rfl⟩ := hel1 1 .s rfl
    obtain ⟨u1, x2, hu⟩ := hel1 2 (.l .e) rfl
    have hu : Vg wr base top m .e u1 := hu
    obtain ⟨Au, nu, cu, rfl⟩ := hu.slice
    have k0 : wr.cell? ⟨g, kk * 3, none⟩ = some (.int .i64 k1) := (blk_cell hbl1 (kk * 3)).trans x0
    have k1' : wr.cell? ⟨g, kk * 3 + 1, none⟩ = some (.string s1) := (blk_cell hbl1 (kk * 3 + 1)).trans x1
    have k2 : wr.cell? ⟨g, kk * 3 + 2, none⟩ = some (.slice Au nu cu) := (blk_cell hbl1 (kk * 3 + 2)).trans x2
    have hsz := HQ.out.1.size
    have HC := Lib.hid (ih k1 s1 _ wr hu (by omega) (by omega))
    clear hel1 hu x0 x1 x2 hbl1
    go_wp2_with fail
    refine HC.out.mono ?_
    rintro en w5 ⟨rfl, hS⟩
    have hb5 := hS.1.size
    have Q5 := Aside0.mk (HQ.out.trans hS)
    obtain ⟨g2, cur2, he, hg2, hbl2, hel2⟩ := (Q5.out.2.2 _ _ _ HV.out).at hlt
    obtain rfl : g = g2 := by simpa using he
    obtain ⟨_, y0, k3, rfl⟩ := hel2 0 .i rfl
    obtain ⟨_, y1, s3, rfl⟩ := hel2 1 .s rfl
    obtain ⟨u3, y2, _⟩ := hel2 2 (.l .e) rfl
    have z0 : w5.cell? ⟨g, kk * 3, none⟩ = some (.int .i64 k3) := (blk_cell hbl2 (kk * 3)).trans y0
    have z1 : w5.cell? ⟨g, kk * 3 + 1, none⟩ = some (.string s3) := (blk_cell hbl2 (kk * 3 + 1)).trans y1
    have z2 : w5.cell? ⟨g, kk * 3 + 2, none⟩ = some u3 := (blk_cell hbl2 (kk * 3 + 2)).trans y2
    have fz := fun i => blk_frozen hbl2 i
    have HB5 := Aside0.mk ((hS.2.1 w.heap.size ht (blk_lt HB.out)).trans HB.out)
    have b5 := (blk_cell HB5.out 2).trans rfl
    have Q6 := Aside0.mk (Q5.out.trans (Spd.clr (j0 := kk) hbl2 hg))
    have HB6 := Aside0.mk (clr_far (g := g) (i := kk * 3) HB5.out (by omega))
    clear hel2 y0 y1 y2 hbl2 hS b2 he hg2
    go_wp2_with fail
    go_roundg (n - (kk + 1))
    case measure => omega
    case rel => exact ⟨kk + 1, by omega, by omega, by go_num, Q6, HB6⟩
   ·have : kk = n := by omega
    subst this
    go_wp2
    (try simp only [Exit.inBlock, Exit.then]); first | refine bodyPost_ret (results_none rfl _ _ _) rfl ?_ | refine bodyPost_end (results_none rfl _ _ _) rfl ?_
    exact ⟨rfl, HQ.out⟩
theorem zero_str (w : World) : (zeroValue 9).run Tryz.prog w = .ok (.string ⟨#[]⟩) w := by kernel_rfl
theorem zero_Case (w : World) : (zeroValue 62).run Tryz.prog w = .ok (.agg #[.string ⟨#[]⟩, .slice none 0 0, .int .i64 0, .string ⟨#[]⟩, .slice none 0 0]) w := by kernel_rfl
theorem zero_Def (w : World) : (zeroValue 59).run Tryz.prog w = .ok (.agg #[.string ⟨#[]⟩, .slice none 0 0, .slice none 0 0, .int .i64 0, .string ⟨#[]⟩, .slice none 0 0]) w := by kernel_rfl
set_option maxRecDepth 100000 in
set_option maxHeartbeats 8000000 in
theorem c_spoilt (base top m : Nat) (v : Value) (w : World) (hv : Vg w base top (m + 3) .d v) (hb : base ≤ w.heap.size) (ht : top ≤ w.heap.size) :
  Calls Tryz.prog 22 #[.agg #[v]] w fun en w' => en = .returned (.tuple #[]) ∧ Spd base top w w' := by
 obtain ⟨A, n, cap, rfl, hn⟩ := hv.bound
 obtain ⟨W1, hW1⟩ : ∃ W1, w.alloc (.cells #[.slice A n cap] 24) = W1 := ⟨_, rfl⟩
 have q1 : Spd base top w W1 := by rw [← hW1]; exact Spd.below (below_alloc1 _ _) hb
 have b1 : W1.heap[w.heap.size]? = some (.cells #[.slice A n cap] 24 (0, 0)) := by rw [← hW1]; exact alloc_at _ _
 have z1 : W1.heap.size = w.heap.size + 1 := by rw [← hW1]; simp
 have Q1 := Aside0.mk q1
 have B1 := Aside0.mk b1
 have HV := Aside0.mk (q1.2.2 _ _ _ hv)
 have HW1 := Lib.hid hW1
 have kP := (blk_cell b1 0).trans rfl
 clear hv q1 b1 hW1
 go_enter Tryz.func22, Tryz.ntmps22
 go_wp2_with fail
 rw [HW1.out]
 go_wp2
 clear kP
 go_loopg [9] n (fun gg s9 wr => ∃ kk : Nat, kk ≤ n ∧ n - kk ≤ gg ∧ s9 = .int .i64 kk ∧ Aside0 (Spd base top W1 wr))
 case atStart => exact ⟨0, Nat.zero_le _, by omega, rfl, ⟨Spd.refl _ _ _⟩⟩
 case round =>
  obtain ⟨kk, hkk, hgg, rfl, HQ⟩ := hrel
  have hszr := HQ.out.1.size
  have KP := Aside0.mk ((HQ.out.2.1 w.heap.size ht (by omega)).trans B1.out)
  by_cases hlt : kk < n
  ·have hltz : (kk : Int) < (n : Int) := by omega
   obtain ⟨g, cur1, rfl, hg, hbl, hel⟩ := (HQ.out.2.2 _ _ _ HV.out).at hlt
   obtain ⟨_, x0, s0, rfl⟩ := hel 0 .s rfl
   obtain ⟨v1, x1, h1⟩ := hel 1 (.l .t) rfl
   obtain ⟨v2, x2, h2⟩ := hel 2 (.l .c) rfl
   obtain ⟨_, x3, k3, rfl⟩ := hel 3 .i rfl
   obtain ⟨_, x4, s4, rfl⟩ := hel 4 .s rfl
   obtain ⟨v5, x5, h5⟩ := hel 5 (.l .e) rfl
   have h1 : Vg wr base top (m + 2) .t v1 := h1
   have h2 : Vg wr base top (m + 2) .c v2 := h2
   have h5 : Vg wr base top (m + 2) .e v5 := h5
   obtain ⟨D1, n1, c1, rfl⟩ := h1.slice
   obtain ⟨Ac, nc, cc, rfl⟩ := h2.slice
   obtain ⟨D5, n5, c5, rfl⟩ := h5.slice
   have y0 : wr.cell? ⟨g, kk * 6, none⟩ = some (.string s0) := (blk_cell hbl (kk * 6)).trans x0
   have y1 : wr.cell? ⟨g, kk * 6 + 1, none⟩ = some (.slice D1 n1 c1) := (blk_cell hbl (kk * 6 + 1)).trans x1
   have y2 : wr.cell? ⟨g, kk * 6 + 2, none⟩ = some (.slice Ac nc cc) := (blk_cell hbl (kk * 6 + 2)).trans x2
   have y3 : wr.cell? ⟨g, kk * 6 + 3, none⟩ = some (.int .i64 k3) := (blk_cell hbl (kk * 6 + 3)).trans x3
   have y4 : wr.cell? ⟨g, kk * 6 + 4, none⟩ = some (.string s4) := (blk_cell hbl (kk * 6 + 4)).trans x4
   have y5 : wr.cell? ⟨g, kk * 6 + 5, none⟩ = some (.slice D5 n5 c5) := (blk_cell hbl (kk * 6 + 5)).trans x5
   obtain ⟨W2, hW2⟩ : ∃ W2, wr.alloc (.cells #[.string s0, .slice D1 n1 c1, .slice Ac nc cc, .int .i64 k3, .string s4, .slice D5 n5 c5] 59) = W2 := ⟨_, rfl⟩
   have q2 : Spd base top wr W2 := by rw [← hW2]; exact Spd.below (below_alloc1 _ _) (by omega)
   have b2 : W2.heap[wr.heap.size]? = some (.cells #[.string s0, .slice D1 n1 c1, .slice Ac nc cc, .int .i64 k3, .string s4, .slice D5 n5 c5] 59 (0, 0)) := by rw [← hW2]; exact alloc_at _ _
   have z2 : W2.heap.size = wr.heap.size + 1 := by rw [← hW2]; simp
   have HV1 := Aside0.mk (q2.2.2 _ _ _ h1)
   have HV2 := Aside0.mk (q2.2.2 _ _ _ h2)
   have HV5 := Aside0.mk (q2.2.2 _ _ _ h5)
   have Q2 := Aside0.mk (HQ.out.trans q2)
   have B2 := Aside0.mk b2
   have HW2 := Lib.hid hW2
   have k1 := (blk_cell B2.out 1).trans rfl
   clear hel x0 x1 x2 x3 x4 x5 h1 h2 h5 hbl q2 b2 hW2
   go_upto_region 4 with fail
   rw [HW2.out]
   go_wp2_with (refine wpList_clear_vg rfl (.tmp 14) 30 9 .t (.string ⟨#[]⟩) (.slice D1 n1 c1) rfl rfl rfl Tryz.underlying30 zero_str rfl HV1.out ?_)
   intro w4 hS4
   have hs4 := hS4.1.size
   have B4 := Aside0.mk ((hS4.2.1 wr.heap.size (by omega) (by omega)).trans B2.out)
   have Q4 := Aside0.mk (Q2.out.trans hS4)
   have HV4 := Aside0.mk (hS4.2.2 _ _ _ HV2.out)
   have m3 := (blk_cell B4.out 3).trans rfl
   have m4 := (blk_cell B4.out 4).trans rfl
   have m5 := (blk_cell B4.out 5).trans rfl
   have HC := Lib.hid (c_Spoil base top (m + 2) k3 s4 (.slice D5 n5 c5) w4 (hS4.2.2 _ _ _ HV5.out) (by omega) (by omega))
   clear k1 hS4 y0 y1 y2 y3 y4 y5
   go_wp2_with fail
   refine HC.out.mono ?_
   rintro en w5 ⟨rfl, hS5⟩
   have hs5 := hS5.1.size
   have B5 := Aside0.mk ((hS5.2.1 wr.heap.size (by omega) (by omega)).trans B4.out)
   have Q5 := Aside0.mk (Q4.out.trans hS5)
   have HV6 := Aside0.mk (hS5.2.2 _ _ _ HV4.out)
   have hnc : nc ≤ 9223372036854775807 := by obtain ⟨_, _, _, hcv, hnc⟩ := HV6.out.bound; cases hcv; exact hnc
   have n2 := (blk_cell B5.out 2).trans rfl
   clear m3 m4 m5 hS5
   go_wp2_with fail
   go_loopg [21] nc (fun gg s21 wc => ∃ jj : Nat, jj ≤ nc ∧ nc - jj ≤ gg ∧ s21 = .int .i64 jj ∧ Aside0 (Spd base top w5 wc))
   case atStart => exact ⟨0, Nat.zero_le _, by omega, rfl, ⟨Spd.refl _ _ _⟩⟩
   case round =>
    rename World => wc
    obtain ⟨jj, hjj, hgj, rfl, HQc⟩ := hrel
    have hszc := HQc.out.1.size
    by_cases hltj : jj < nc
    ·have hltjz : (jj : Int) < (nc : Int) := by omega
     obtain ⟨gc, cur2, rfl, hgc, hblc, helc⟩ := (HQc.out.2.2 _ _ _ HV6.out).at hltj
     obtain ⟨_, x0, t0, rfl⟩ := helc 0 .s rfl
     obtain ⟨u1, x1, h1⟩ := helc 1 (.l .t) rfl
     obtain ⟨_, x2, t2, rfl⟩ := helc 2 .i rfl
     obtain ⟨_, x3, t3, rfl⟩ := helc 3 .s rfl
     obtain ⟨u4, x4, h4⟩ := helc 4 (.l .e) rfl
     have h1 : Vg wc base top (m + 1) .t u1 := h1
     have h4 : Vg wc base top (m + 1) .e u4 := h4
     obtain ⟨E1, p1, q1, rfl⟩ := h1.slice
     obtain ⟨E4, p4, q4, rfl⟩ := h4.slice
     have y0 : wc.cell? ⟨gc, jj * 5, none⟩ = some (.string t0) := (blk_cell hblc (jj * 5)).trans x0
     have y1 : wc.cell? ⟨gc, jj * 5 + 1, none⟩ = some (.slice E1 p1 q1) := (blk_cell hblc (jj * 5 + 1)).trans x1
     have y2 : wc.cell? ⟨gc, jj * 5 + 2, none⟩ = some (.int .i64 t2) := (blk_cell hblc (jj * 5 + 2)).trans x2
     have y3 : wc.cell? ⟨gc, jj * 5 + 3, none⟩ = some (.string t3) := (blk_cell hblc (jj * 5 + 3)).trans x3
     have y4 : wc.cell? ⟨gc, jj * 5 + 4, none⟩ = some (.slice E4 p4 q4) := (blk_cell hblc (jj * 5 + 4)).trans x4
     obtain ⟨W3, hW3⟩ : ∃ W3, wc.alloc (.cells #[.string t0, .slice E1 p1 q1, .int .i64 t2, .string t3, .slice E4 p4 q4] 62) = W3 := ⟨_, rfl⟩
     have q3 : Spd base top wc W3 := by rw [← hW3]; exact Spd.below (below_alloc1 _ _) (by omega)
     have b3 : W3.heap[wc.heap.size]? = some (.cells #[.string t0, .slice E1 p1 q1, .int .i64 t2, .string t3, .slice E4 p4 q4] 62 (0, 0)) := by rw [← hW3]; exact alloc_at _ _
     have z3 : W3.heap.size = wc.heap.size + 1 := by rw [← hW3]; simp
     have HU1 := Aside0.mk (q3.2.2 _ _ _ h1)
     have HU4 := Aside0.mk (q3.2.2 _ _ _ h4)
     have Q3 := Aside0.mk (HQc.out.trans q3)
     have B3 := Aside0.mk b3
     have HW3 := Lib.hid hW3
     have k1 := (blk_cell B3.out 1).trans rfl
     clear helc x0 x1 x2 x3 x4 h1 h4 hblc q3 b3 hW3 n2
     go_upto_region 9 with fail
     rw [HW3.out]
     go_wp2_with (refine wpList_clear_vg rfl (.tmp 26) 30 9 .t (.string ⟨#[]⟩) (.slice E1 p1 q1) rfl rfl rfl Tryz.underlying30 zero_str rfl HU1.out ?_)
     intro w6 hS6
     have hs6 := hS6.1.size
     have B6 := Aside0.mk ((hS6.2.1 wc.heap.size (by omega) (by omega)).trans B3.out)
     have Q6 := Aside0.mk (Q3.out.trans hS6)
     have m2 := (blk_cell B6.out 2).trans rfl
     have m3 := (blk_cell B6.out 3).trans rfl
     have m4 := (blk_cell B6.out 4).trans rfl
     have HC2 := Lib.hid (c_Spoil base top (m + 1) t2 t3 (.slice E4 p4 q4) w6 (hS6.2.2 _ _ _ HU4.out) (by omega) (by omega))
     clear k1 hS6 y0 y1 y2 y3 y4
     go_wp2_with fail
     refine HC2.out.mono ?_
     rintro en w7 ⟨rfl, hS7⟩
     have Q7 := Aside0.mk (Q6.out.trans hS7)
     clear m2 m3 m4 hS7
     go_wp2_with fail
     go_roundg (nc - (jj + 1))
     case measure => omega
     case rel => exact ⟨jj + 1, by omega, by omega, by go_num, Q7⟩
    ·have : jj = nc := by omega
     subst this
     have Bc := Aside0.mk ((HQc.out.2.1 wr.heap.size (by omega) (by omega)).trans B5.out)
     have n3 := (blk_cell Bc.out 2).trans rfl
     have HV7 := Aside0.mk (HQc.out.2.2 _ _ _ HV6.out)
     have Q8 := Aside0.mk (Q5.out.trans HQc.out)
     clear n2
     go_wp2_with (refine wpList_clear_vg rfl (.tmp 32) 54 62 .c _ (.slice Ac jj cc) rfl rfl rfl Tryz.underlying54 zero_Case rfl HV7.out ?_)
     intro w9 hS9
     have Q9 := Aside0.mk (Q8.out.trans hS9)
     clear hS9 n3
     go_wp2_with fail
     go_roundg (n - (kk + 1))
     case measure => omega
     case rel => exact ⟨kk + 1, by omega, by omega, by go_num, Q9⟩
  ·have : kk = n := by omega
   subst this
   have n3 := (blk_cell KP.out 0).trans rfl
   have HV7 := Aside0.mk (HQ.out.2.2 _ _ _ HV.out)
   go_wp2_with (refine wpList_clear_vg rfl (.tmp 35) 22 59 .d _ (.slice A kk cap) rfl rfl rfl Tryz.underlying22 zero_Def rfl HV7.out ?_)
   intro w9 hS9
   have Q9 := Aside0.mk (Q1.out.trans (HQ.out.trans hS9))
   clear hS9 n3
   go_wp2_with fail
   (try simp only [Exit.inBlock, Exit.then]); first | refine bodyPost_ret (results_none rfl _ _ _) rfl ?_ | refine bodyPost_end (results_none rfl _ _ _) rfl ?_
   exact ⟨rfl, Q9.out⟩
end Go.Proofs.YtacefdkfbpgedaaGreat.Mine
namespace Go.Proofs.YtacefdkfbpgedaaGreat.Mine
open Go.Proofs.YtacefdkfbpgedaaGreat.PProgSmall
open Go.RowKit Go.Shelf Go.Proofs.YtacefdkfbpgedaaGreatW.PrintWords Go.Proofs.YtacefdkfbpgedaaGreatW.PrintLast Go.Proofs.YtacefdkfbpgedaaGreatW.PrintMore
set_option linter.unusedVariables false
set_option linter.unusedSimpArgs false
set_option maxRecDepth 100000
theorem bound_cases (l : List Ca) : ∃ m, ∀ c ∈ l, szE c.f2 ≤ m := by
 induction l with
 | nil => exact ⟨0, fun c hc => by cases hc⟩
 | cons x xs ih =>
  obtain ⟨m, hm⟩ := ih
  refine ⟨m + szE x.f2, fun c hc => ?_⟩
  rcases List.mem_cons.1 hc with rfl | h
  ·omega
  ·have := hm c h; omega
theorem bound_defs (l : List De) : ∃ m, ∀ x ∈ l, szE x.f3 ≤ m ∧ ∀ c ∈ x.f2, szE c.f2 ≤ m := by
 induction l with
 | nil => exact ⟨0, fun c hc => by cases hc⟩
 | cons x xs ih =>
  obtain ⟨m, hm⟩ := ih
  obtain ⟨k, hk⟩ := bound_cases x.f2
  refine ⟨m + k + szE x.f3, fun y hy => ?_⟩
  rcases List.mem_cons.1 hy with rfl | h
  ·exact ⟨by omega, fun c hc => by have := hk c hc; omega⟩
  ·exact ⟨by have := (hm y h).1; omega, fun c hc => by have := (hm y h).2 c hc; omega⟩
abbrev PBox (B : Nat) (A : Option Addr) (n c : Nat) (W : World) : Prop := W.heap[B]? = some (.cells #[.slice A n c] 24 (0, 0))
abbrev LrS (W0 : World) (b0 : Nat) (A : Option Addr) (n c : Nat) (W : World) : Prop := Below W0.heap.size W0 W ∧ W.cell? ⟨b0, 0, none⟩ = some (.slice A n c)
theorem LrS.step {W0 : World} {b0 : Nat} {A : Option Addr} {n c : Nat} {W W' : World} (h : LrS W0 b0 A n c W) (hb : Below W.heap.size W W') : LrS W0 b0 A n c W' := ⟨h.1.trans (hb.mono h.1.size), pw_cell_below hb h.2⟩
theorem eqL_refl {α : Type} {p : α → α → Bool} (h : ∀ x, p x x = true) (xs : List α) : eqL p xs xs = true := eqL_true rfl (fun j x y _ hx hy => by rw [hx] at hy; cases hy; exact h x)
theorem sameD_refl (d : De) : sameD d d = true := by
 simp only [sameD, decide_true, Bool.true_and, Bool.and_eq_true]
 exact ⟨sameE_iff.2 rfl, eqL_refl (fun c => by simp [sameC, sameE_iff]) _⟩
theorem sameP_refl (l : List De) : eqL sameD l l = true := eqL_refl sameD_refl l
end Go.Proofs.YtacefdkfbpgedaaGreat.Mine
namespace Go.Proofs.YtacefdkfbpgedaaGreat.Mine
open Go.Proofs.YtacefdkfbpgedaaGreat.PProgSmall
open Go.RowKit Go.Shelf Go.Proofs.YtacefdkfbpgedaaGreatW.PrintWords Go.Proofs.YtacefdkfbpgedaaGreatW.PrintLast Go.Proofs.YtacefdkfbpgedaaGreatW.PrintMore
set_option linter.unusedVariables false
set_option linter.unusedSimpArgs false
def isHead (s : ByteArray) (k : Int) (c : Ca) : Bool := decide (c.f0 = s) && ((c.f1.length : Int) == k)
def pickP (d : De) (s : ByteArray) (k : Int) : Int × Int := if idxB (isHead s k) d.f2 < 0 then (0, 6) else (idxB (isHead s k) d.f2, 0)
set_option maxRecDepth 100000 in
set_option maxHeartbeats 4000000 in
theorem c_rPick (d : De) (cs : List Value) (s : ByteArray) (k : Int) (w : World) (hd : Kd.FK k59 w (fun k => k < w.heap.size) d cs) :
  Calls Tryz.prog 52 #[.agg cs.toArray, .string s, .int .i64 k] w fun en w' => en = .returned (.tuple #[.int .i64 (pickP d s k).1, .int .i64 (pickP d s k).2]) ∧ Below w.heap.size w w' := by
 obtain ⟨A1, c1, A2, c2, A5, c5, rfl, l1, F1, l2, F2, l5, F5⟩ := k59_openF hd
 have hm1 := (Kd.F_now F1).2.1
 have hm2 := (Kd.F_now F2).2.1
 have hm5 := (Kd.F_now F5).2.1
 have HF1 := Aside0.mk F1
 have HF2 := Aside0.mk F2
 have HF5 := Aside0.mk F5
 have HL := Lib.hid (And.intro l1 (And.intro l2 l5))
 obtain ⟨W1, hW1⟩ : ∃ W1, w.alloc (.cells #[.string d.f0, .slice A1 d.f1.length c1, .slice A2 d.f2.length c2, .int .i64 d.f3.f0, .string d.f3.f1, .slice A5 d.f3.f2.length c5] 59) = W1 := ⟨_, rfl⟩
 have b0 : W1.heap[w.heap.size]? = some (.cells #[.string d.f0, .slice A1 d.f1.length c1, .slice A2 d.f2.length c2, .int .i64 d.f3.f0, .string d.f3.f1, .slice A5 d.f3.f2.length c5] 59 (0, 0)) := by rw [← hW1]; exact alloc_at _ _
 have q0 : Below w.heap.size w W1 := by rw [← hW1]; exact below_alloc1 _ _
 have zW1 : W1.heap.size = w.heap.size + 1 := by rw [← hW1]; simp
 have B0 := Aside0.mk b0
 have Q0 := Aside0.mk q0
 have Z0 := Lib.hid zW1
 have HW1 := Lib.hid hW1
 have HD := Aside0.mk hd
 clear hd F1 F2 F5 b0 q0 zW1 hW1 l1 l2 l5
 have k0 := (blk_cell B0.out 0).trans rfl
 have k1 := (blk_cell B0.out 1).trans rfl
 have k2 := (blk_cell B0.out 2).trans rfl
 have k3 := (blk_cell B0.out 3).trans rfl
 have k4 := (blk_cell B0.out 4).trans rfl
 have k5 := (blk_cell B0.out 5).trans rfl
 go_enter Tryz.func52, Tryz.ntmps52
 go_wp2_with fail
 rw [HW1.out]
 go_wp2
 clear k0 k1 k2 k3 k4 k5
 go_loopg [8] d.f2.length (fun gg s8 wr => ∃ kk : Nat, kk ≤ d.f2.length ∧ d.f2.length - kk ≤ gg ∧ s8 = .int .i64 kk ∧ Aside0 (∀ j x, j < kk → d.f2[j]? = some x → isHead s k x = false) ∧ W1 = wr)
 case atStart => exact ⟨0, Nat.zero_le _, by omega, rfl, ⟨fun j x h => absurd h (Nat.not_lt_zero _)⟩, rfl⟩
 case round =>
  obtain ⟨kk, hkk, hg, rfl, HA, rfl⟩ := hrel
  have k0 := (blk_cell B0.out 0).trans rfl
  have k1 := (blk_cell B0.out 1).trans rfl
  have k2 := (blk_cell B0.out 2).trans rfl
  have k3 := (blk_cell B0.out 3).trans rfl
  have k4 := (blk_cell B0.out 4).trans rfl
  have k5 := (blk_cell B0.out 5).trans rfl
  by_cases hlt : kk < d.f2.length
  ·have hltz : (kk : Int) < (d.f2.length : Int) := by omega
   obtain ⟨ad, y0, y1, y2, y3, y4, rfl, hK, e0, e1, e2, e3, e4⟩ := get5 rfl (Kd.C_below (Kd.F_now HF2.out) Q0.out) kk hlt
   obtain ⟨X1, x1, X4, x4, he, m1, G1, m4, G4⟩ := k62_open hK
   obtain ⟨rfl, rfl, rfl, rfl, rfl⟩ : y0 = _ ∧ y1 = _ ∧ y2 = _ ∧ y3 = _ ∧ y4 = _ := by simpa using he
   have hmx := G1.2.1
   have HX1 := Lib.hid (show d.f2[kk]? = some d.f2[kk] from List.getElem?_eq_getElem hlt)
   obtain ⟨ca, hca⟩ : ∃ ca, d.f2[kk] = ca := ⟨_, rfl⟩
   rw [hca] at e0 e1 HX1 hmx
   clear hK he G1 G4 m1 m4 hca
   by_cases hn : ca.f0 = s
   ·have hnb : (ca.f0.toList == s.toList) = true := by rw [sEq]; simpa using hn
    cases t2 : ((ca.f1.length : Int) == k) with
    | true =>
     have hp : isHead s k ca = true := by simp only [isHead, hn, t2, decide_true, Bool.and_self]
     have HP := Lib.hid hp
     clear hn hp
     go_wp2
     go_ret2
     have hi := idxB_some HX1.out HP.out HA.out
     have hpk : pickP d s k = ((kk : Int), 0) := by rw [pickP, hi, if_neg (by omega)]
     exact ⟨by rw [hpk]; rfl, Q0.out⟩
    | false =>
     have HP := Lib.hid (show isHead s k ca = false by simp only [isHead, t2, Bool.and_false])
     clear hn
     go_wp2
     go_roundg (d.f2.length - (kk + 1))
     case measure => omega
     case rel => exact ⟨kk + 1, by omega, by omega, by go_num, ⟨none_snoc HA.out HX1.out HP.out⟩, rfl⟩
   ·have hnb : (ca.f0.toList == s.toList) = false := by rw [sEq]; simpa using hn
    have HP := Lib.hid (show isHead s k ca = false by simp only [isHead, decide_eq_false hn, Bool.false_and])
    clear hn
    go_wp2
    go_roundg (d.f2.length - (kk + 1))
    case measure => omega
    case rel => exact ⟨kk + 1, by omega, by omega, by go_num, ⟨none_snoc HA.out HX1.out HP.out⟩, rfl⟩
  ·have : kk = d.f2.length := by omega
   subst this
   go_wp2
   go_ret2
   have hi := idxB_none HA.out
   have hpk : pickP d s k = (0, 6) := by rw [pickP, hi, if_pos (by omega)]
   exact ⟨by rw [hpk]; rfl, Q0.out⟩
end Go.Proofs.YtacefdkfbpgedaaGreat.Mine
