/- What the law clears: rows of texts, expressions, cases and definitions, closed under clearing. -/
import Derived.Test.YtacefdkfbpgedaaGreatQ9
import Derived.Laws.CopyRow
import Derived.Test.YtacefdkfbpgedaaGreatQ6
import Derived.Test.YtacefdkfbpgedaaGreatQ8
import Derived.Deep.DeepCutAuto
namespace Go.Proofs.YtacefdkfbpgedaaGreat.Mine
open Go.Proofs.YtacefdkfbpgedaaGreat.PProgSmall
open Go.RowKit Go.Shelf Go.Proofs.YtacefdkfbpgedaaGreatW.PrintWords Go.Proofs.YtacefdkfbpgedaaGreatW.PrintLast Go.Proofs.YtacefdkfbpgedaaGreatW.PrintMore
set_option linter.unusedVariables false
set_option linter.unusedSimpArgs false
inductive Tg where
  | t | e | c | d
inductive Fl where
  | s | i | l (τ : Tg)
def Tg.ty : Tg → Nat
  | .t => 9
  | .e => 57
  | .c => 62
  | .d => 59
def Tg.fl : Tg → List Fl
  | .t => [.s]
  | .e => [.i, .s, .l .e]
  | .c => [.s, .l .t, .i, .s, .l .e]
  | .d => [.s, .l .t, .l .c, .i, .s, .l .e]
def Fl.zero : Fl → Value
  | .s => .string ⟨#[]⟩
  | .i => .int .i64 0
  | .l _ => .slice none 0 0
def Fl.good (p : Tg → Value → Prop) : Fl → Value → Prop
  | .s, u => ∃ s, u = .string s
  | .i, u => ∃ k, u = .int .i64 k
  | .l τ, u => p τ u
theorem Tg.ty_inj {a b : Tg} (h : a.ty = b.ty) : a = b := by cases a <;> cases b <;> first | rfl | exact absurd h (by decide)
theorem Tg.pos (τ : Tg) : 0 < τ.fl.length := by cases τ <;> decide
def Vg (W : World) (base top : Nat) : Nat → Tg → Value → Prop
  | 0, _, v => v = .slice none 0 0
  | m + 1, τ, v => v = .slice none 0 0 ∨ ∃ g n cap cur, v = .slice (some ⟨g, 0, none⟩) n cap ∧ n ≤ 9223372036854775807 ∧ (base ≤ g ∧ g < top) ∧ W.heap[g]? = some (.cells cur τ.ty (0, 0)) ∧
      ∀ j i f, j < n → τ.fl[i]? = some f → ∃ u, cur[j * τ.fl.length + i]? = some u ∧ Fl.good (Vg W base top m) f u
theorem Vg.nil {W : World} {base top : Nat} {τ : Tg} : ∀ {m : Nat}, Vg W base top m τ (.slice none 0 0)
  | 0 => by simp [Vg]
  | m + 1 => by simp [Vg]
theorem Vg.slice {W : World} {base top : Nat} {m : Nat} {τ : Tg} {v : Value} (h : Vg W base top m τ v) : ∃ A n c, v = .slice A n c := by
  cases m with
  | zero => rw [Vg] at h; exact ⟨_, _, _, h⟩
  | succ m =>
    rw [Vg] at h
    rcases h with h | ⟨g, n, cap, cur, h, _⟩
    · exact ⟨_, _, _, h⟩
    · exact ⟨_, _, _, h⟩
theorem Fl.good_mono {p q : Tg → Value → Prop} (h : ∀ τ v, p τ v → q τ v) : ∀ {f : Fl} {u : Value}, Fl.good p f u → Fl.good q f u
  | .s, _, k => k
  | .i, _, k => k
  | .l τ, u, k => h τ u k
theorem Fl.good_zero {W : World} {base top m : Nat} : ∀ (f : Fl), Fl.good (Vg W base top m) f f.zero
  | .s => ⟨_, rfl⟩
  | .i => ⟨_, rfl⟩
  | .l τ => Vg.nil
theorem Vg.succ {W : World} {base top : Nat} : ∀ {m : Nat} {τ : Tg} {v : Value}, Vg W base top m τ v → Vg W base top (m + 1) τ v
  | 0, τ, v, h => by rw [Vg] at h; subst h; exact Vg.nil
  | m + 1, τ, v, h => by
    rw [Vg] at h ⊢
    rcases h with h | ⟨g, n, cap, cur, h1, h2, h3, h4, h5⟩
    · exact .inl h
    · refine .inr ⟨g, n, cap, cur, h1, h2, h3, h4, fun j i f hj hf => ?_⟩
      obtain ⟨u, a, b⟩ := h5 j i f hj hf
      exact ⟨u, a, Fl.good_mono (fun _ _ h => Vg.succ h) b⟩
theorem Vg.mono {W : World} {base top m k : Nat} {τ : Tg} {v : Value} (h : Vg W base top m τ v) (hk : m ≤ k) : Vg W base top k τ v := by
  obtain ⟨d, rfl⟩ : ∃ d, k = m + d := ⟨k - m, by omega⟩
  clear hk
  induction d with
  | zero => exact h
  | succ d ih => exact ih.succ
def Spd (base top : Nat) (W W' : World) : Prop := Below base W W' ∧ (∀ k, top ≤ k → k < W.heap.size → W'.heap[k]? = W.heap[k]?) ∧ ∀ m τ v, Vg W base top m τ v → Vg W' base top m τ v
theorem Spd.refl (base top : Nat) (W : World) : Spd base top W W := ⟨Below.refl _ _, fun _ _ _ => rfl, fun _ _ _ h => h⟩
theorem Spd.trans {base top : Nat} {W W' W2 : World} (h : Spd base top W W') (k : Spd base top W' W2) : Spd base top W W2 := ⟨h.1.trans k.1, fun i hi hl => (k.2.1 i hi (Nat.lt_of_lt_of_le hl h.1.size)).trans (h.2.1 i hi hl), fun m τ v hv => k.2.2 m τ v (h.2.2 m τ v hv)⟩
theorem Spd.below {base top : Nat} {W W' : World} (hb : Below W.heap.size W W') (hbase : base ≤ W.heap.size) : Spd base top W W' := by
  refine ⟨hb.mono hbase, fun k _ hk => hb.block k hk, fun m => ?_⟩
  induction m with
  | zero => intro τ v h; rw [Vg] at h ⊢; exact h
  | succ m ih =>
    intro τ v h
    rw [Vg] at h ⊢
    rcases h with h | ⟨g, n, cap, cur, h1, h2, h3, h4, h5⟩
    · exact .inl h
    · refine .inr ⟨g, n, cap, cur, h1, h2, h3, blk_below h4 hb, fun j i f hj hf => ?_⟩
      obtain ⟨u, a, b⟩ := h5 j i f hj hf
      exact ⟨u, a, Fl.good_mono ih b⟩
theorem Spd.upd {base top : Nat} {W W' : World} {g : Nat} {τ : Tg} {cur0 cur' : Array Value} (h0 : W.heap[g]? = some (.cells cur0 τ.ty (0, 0))) (hg : base ≤ g ∧ g < top) (hb : Below base W W') (ho : ∀ k, k ≠ g → W'.heap[k]? = W.heap[k]?)
    (h' : W'.heap[g]? = some (.cells cur' τ.ty (0, 0))) (hc : ∀ j i f u, τ.fl[i]? = some f → cur0[j * τ.fl.length + i]? = some u → cur'[j * τ.fl.length + i]? = some u ∨ cur'[j * τ.fl.length + i]? = some f.zero) : Spd base top W W' := by
  refine ⟨hb, fun k hk _ => ho k (by omega), fun m => ?_⟩
  induction m with
  | zero => intro τ v h; rw [Vg] at h ⊢; exact h
  | succ m ih =>
    intro τ1 v h
    rw [Vg] at h ⊢
    rcases h with h | ⟨g1, n, cap, cur, h1, h2, h3, h4, h5⟩
    · exact .inl h
    · by_cases hgg : g1 = g
      · subst hgg
        rw [h0] at h4
        injection h4 with h4
        injection h4 with e1 e2
        have e3 := Tg.ty_inj e2
        subst e3
        subst e1
        refine .inr ⟨g1, n, cap, cur', h1, h2, h3, h', fun j i f hj hf => ?_⟩
        obtain ⟨u, a, b⟩ := h5 j i f hj hf
        rcases hc j i f u hf a with h | h
        · exact ⟨u, h, Fl.good_mono ih b⟩
        · exact ⟨_, h, Fl.good_zero f⟩
      · refine .inr ⟨g1, n, cap, cur, h1, h2, h3, (ho g1 hgg).trans h4, fun j i f hj hf => ?_⟩
        obtain ⟨u, a, b⟩ := h5 j i f hj hf
        exact ⟨u, a, Fl.good_mono ih b⟩
def clr (W : World) (g i : Nat) : World := ((W.setCell ⟨g, i, none⟩ (.int .i64 0)).setCell ⟨g, i + 1, none⟩ (.string ⟨#[]⟩)).setCell ⟨g, i + 2, none⟩ (.slice none 0 0)
theorem clr_heap {W : World} {g i : Nat} {cur : Array Value} {t : Nat} (h : W.heap[g]? = some (.cells cur t (0, 0))) : (clr W g i).heap[g]? = some (.cells (((cur.setIfInBounds i (.int .i64 0)).setIfInBounds (i + 1) (.string ⟨#[]⟩)).setIfInBounds (i + 2) (.slice none 0 0)) t (0, 0)) :=
  blk_put (blk_put (blk_put h i _ rfl) (i + 1) _ rfl) (i + 2) _ rfl
theorem clr_far {W : World} {g g' i : Nat} {cur : Array Value} {t : Nat} (h : W.heap[g']? = some (.cells cur t (0, 0))) (hne : g' ≠ g) : (clr W g i).heap[g']? = some (.cells cur t (0, 0)) := blk_far (blk_far (blk_far h hne _) hne _) hne _
theorem clr_ne {W : World} {g i k : Nat} (hne : k ≠ g) : (clr W g i).heap[k]? = W.heap[k]? := by
  unfold clr
  rw [Below.heap_setCell _ _ _ _ (by simp only; omega), Below.heap_setCell _ _ _ _ (by simp only; omega), Below.heap_setCell _ _ _ _ (by simp only; omega)]
theorem Spd.clr {base top : Nat} {W : World} {g j0 : Nat} {cur0 : Array Value} (h0 : W.heap[g]? = some (.cells cur0 57 (0, 0))) (hg : base ≤ g ∧ g < top) : Spd base top W (clr W g (j0 * 3)) := by
  refine Spd.upd (τ := .e) h0 hg ((((Below.refl base W).setCell hg.1 _).setCell hg.1 _).setCell hg.1 _) (fun k hk => clr_ne hk) (clr_heap h0) (fun j i f u hf hu => ?_)
  have hlt := (Array.getElem?_eq_some_iff.1 hu).1
  have hL : Tg.e.fl.length = 3 := rfl
  rw [hL] at hu hlt ⊢
  have hi : i < 3 := (List.getElem?_eq_some_iff.1 hf).1
  by_cases hjj : j = j0
  · subst hjj
    right
    obtain rfl | rfl | rfl : i = 0 ∨ i = 1 ∨ i = 2 := by omega
    · simp [Tg.fl] at hf
      subst hf
      simp at hlt
      simp [Array.getElem?_setIfInBounds, hlt, Fl.zero]
    · simp [Tg.fl] at hf
      subst hf
      simp [Array.getElem?_setIfInBounds, hlt, Fl.zero]
    · simp [Tg.fl] at hf
      subst hf
      simp [Array.getElem?_setIfInBounds, hlt, Fl.zero]
  · left
    rw [Array.getElem?_setIfInBounds_ne (by omega), Array.getElem?_setIfInBounds_ne (by omega), Array.getElem?_setIfInBounds_ne (by omega)]
    exact hu
theorem zeroCells_at (zs : List Value) (n j : Nat) (hz : 0 < zs.length) (hj : j < n * zs.length) : (Builtin.zeroCells zs.toArray n).toList[j]? = some (zs[j % zs.length]'(Nat.mod_lt _ hz)) := by
  have hm : j % zs.length < zs.length := Nat.mod_lt _ hz
  simp [Builtin.zeroCells, hj, List.getElem?_eq_getElem hm]
theorem zeroCells_len (zs : List Value) (n : Nat) : (Builtin.zeroCells zs.toArray n).toList.length = n * zs.length := by simp [Builtin.zeroCells]
theorem Fl.one (f : Fl) : f.zero.oneCell' = true := by cases f <;> rfl
theorem run_clear_vg {P : Program} (w : World) (t e ty : TypeId) (τ : Tg) (z : Value) (ht : P.underlying t = some (.slice e)) (hv : ∀ w, (zeroValue e).run P w = .ok z w) (hz : z.cells = (τ.fl.map Fl.zero).toArray) {base top m : Nat} {v : Value}
    (hV : Vg w base top m τ v) : ∃ w', (Builtin.clear_ #[t] ty #[v]).run P w = .ok (.tuple #[]) w' ∧ Spd base top w w' := by
  have hV := hV.succ
  rw [Vg] at hV
  rcases hV with rfl | ⟨g, n, cap, cur, rfl, hn, hg, hbl, hel⟩
  · exact ⟨w, by simp [Builtin.clear_, run_underlying ht], Spd.refl _ _ _⟩
  · cases n with
    | zero => exact ⟨w, by simp [Builtin.clear_, run_underlying ht], Spd.refl _ _ _⟩
    | succ n =>
      have hL := τ.pos
      have hlen := zeroCells_len (τ.fl.map Fl.zero) (n + 1)
      rw [List.length_map] at hlen
      have hsz : (n + 1) * τ.fl.length ≤ cur.size := by
        have hlast : τ.fl[τ.fl.length - 1]? = some (τ.fl[τ.fl.length - 1]'(by omega)) := List.getElem?_eq_getElem (by omega)
        obtain ⟨u, hu, _⟩ := hel n (τ.fl.length - 1) _ (by omega) hlast
        have := (Array.getElem?_eq_some_iff.1 hu).1
        rw [Nat.add_mul, Nat.one_mul]
        omega
      have hat := fun j (hj : j < (n + 1) * τ.fl.length) => zeroCells_at (τ.fl.map Fl.zero) (n + 1) j (by simpa using hL) (by simpa using hj)
      have hst := run_storeCells_at P g 0 τ.ty (Builtin.zeroCells (τ.fl.map Fl.zero).toArray (n + 1)).toList 0 cur w hbl (by omega) (by
        intro v hv'
        obtain ⟨j, hj, rfl⟩ := List.mem_iff_getElem.1 hv'
        have h := hat j (by omega)
        rw [List.getElem?_eq_getElem hj] at h
        injection h with h
        rw [h, List.getElem_map]
        exact Fl.one _)
      simp only [Nat.add_zero, List.take_zero, List.nil_append, Nat.zero_add] at hst
      refine ⟨_, by simp [Builtin.clear_, run_underlying ht, hv, hz, hst]; rfl, ?_⟩
      refine Spd.upd (τ := τ) hbl hg ⟨rfl, rfl, rfl, by simp [World.setRow], fun k hk => setRow_other _ _ _ _ (by omega)⟩ (fun k hk => setRow_other _ _ _ _ hk) (setRow_heap _ _ _ _ _ _ hbl) (fun j i f u hf hu => ?_)
      rw [List.getElem?_toArray]
      have hi : i < τ.fl.length := (List.getElem?_eq_some_iff.1 hf).1
      by_cases hlt : j * τ.fl.length + i < (n + 1) * τ.fl.length
      · right
        rw [List.getElem?_append_left (by omega), hat _ hlt]
        congr 1
        have hmod : (j * τ.fl.length + i) % τ.fl.length = i := by rw [Nat.mul_comm, Nat.mul_add_mod, Nat.mod_eq_of_lt hi]
        have h2 := (List.getElem?_eq_some_iff.1 hf).2
        simp only [List.length_map, List.getElem_map, hmod, h2]
      · left
        rw [List.getElem?_append_right (by omega), List.getElem?_drop]
        simp only [Array.length_toList] at hlen ⊢
        have he : (Builtin.zeroCells (τ.fl.map Fl.zero).toArray (n + 1)).size + (j * τ.fl.length + i - (Builtin.zeroCells (τ.fl.map Fl.zero).toArray (n + 1)).size) = j * τ.fl.length + i := by omega
        rw [he, Array.getElem?_toList]
        exact hu
theorem wpList_clear_vg {P : Program} {w : World} {ops : Array Oper} {rest : List Oper} {o : Oper} {a : Act} {Q : Exit → Act → World → Prop} (hgd : o.guard = none) (d : Operand) (t e : TypeId) (τ : Tg) (z v : Value)
    (ho : o.op = .call { callee := .builtin .clear, args := #[d], argTypes := #[t] }) (hdst : o.dst = none) (hd : a.eval d = v)
    (ht : P.underlying t = some (.slice e)) (hv : ∀ w, (zeroValue e).run P w = .ok z w) (hz : z.cells = (τ.fl.map Fl.zero).toArray) {base top m : Nat} (hV : Vg w base top m τ v)
    (h : ∀ w', Spd base top w w' → wpList P ops Q rest a w') : wpList P ops Q (o :: rest) a w := by
  refine wpList_plain hgd fun K hK => ?_
  obtain ⟨w', hrun, hS⟩ := run_clear_vg (P := P) w t e o.type τ z ht hv hz hV
  unfold Oper.wp
  simp [execOp, ho, resolve, invoke, builtin, hd, hrun, Result.andThen, hdst]
  have h2 := h w' hS
  have hp : a.put o.dst (.tuple #[]) = a := by rw [hdst]; rfl
  rw [← hp] at h2
  exact hK _ _ h2
theorem Vg.ofR {α : Type} {d : Kd α} {τ : Tg} {W : World} {base m : Nat} {ok : Nat → Prop} {v : Value} {xs : List α} (hsz : d.sz = τ.fl.length) (hR : d.R τ.ty W base ok v xs)
    (hel : ∀ x ∈ xs, ∀ (ok : Nat → Prop) (cs : List Value), d.M W base ok x cs → ∀ (i : Nat) (f : Fl), τ.fl[i]? = some f → ∃ u, (cs : List Value)[i]? = some u ∧ Fl.good (Vg W base W.heap.size m) f u) : Vg W base W.heap.size (m + 1) τ v := by
  obtain ⟨_, inner, ho, hr⟩ := hR
  rw [Vg]
  rcases ho.2 with ⟨h1, h2⟩ | ⟨g, cap, cur, h1, hb, hg, hcap, hmax, hsz', htake⟩
  · exact .inl h1
  · refine .inr ⟨g, xs.length, cap, cur, h1, by have : maxLen ≤ 9223372036854775807 := (by decide); omega, ⟨hb, blk_lt hg⟩, hg, fun j i f hj hf => ?_⟩
    have hM := hr.2 j _ (List.getElem?_eq_getElem hj)
    obtain ⟨u, hc, hgd⟩ := hel _ (List.getElem_mem hj) _ _ hM i f hf
    refine ⟨u, ?_, hgd⟩
    rw [hsz] at hc
    rw [← htake, List.getElem?_take] at hc
    split at hc
    · rw [List.getElem?_drop, List.getElem?_take] at hc
      split at hc
      · rw [Array.getElem?_toList] at hc; exact hc
      · cases hc
    · cases hc
theorem OwnE.vg {W : World} {base : Nat} : ∀ (m : Nat) {ok : Nat → Prop} {v : Value} {l : List Ex}, szL l ≤ m → Kd.R k57 57 W base ok v l → Vg W base W.heap.size (m + 1) .e v := by
  intro m
  induction m with
  | zero =>
    intro ok v l h hR
    cases l with
    | nil => exact Vg.ofR (τ := .e) rfl hR (fun x hx => by cases hx)
    | cons x xs => rw [szL] at h; have := szE_pos x; omega
  | succ m ih =>
    intro ok v l h hR
    refine Vg.ofR (τ := .e) rfl hR (fun x hx ok cs hM i f hf => ?_)
    obtain ⟨u, rfl, hRu⟩ := k57_openM hM
    have hxs := szL_mem hx
    have hs := szE_eq x
    have hi : i < 3 := (List.getElem?_eq_some_iff.1 hf).1
    obtain rfl | rfl | rfl : i = 0 ∨ i = 1 ∨ i = 2 := by omega
    · simp [Tg.fl] at hf; subst hf; exact ⟨_, rfl, _, rfl⟩
    · simp [Tg.fl] at hf; subst hf; exact ⟨_, rfl, _, rfl⟩
    · simp [Tg.fl] at hf; subst hf; exact ⟨_, rfl, ih (by omega) hRu⟩
theorem vg_txt {W : World} {base m : Nat} {ok : Nat → Prop} {v : Value} {l : List ByteArray} (hR : Kd.R Kd.string 9 W base ok v l) : Vg W base W.heap.size (m + 1) .t v := by
  refine Vg.ofR (τ := .t) rfl hR (fun x hx ok cs hM i f hf => ?_)
  have hi : i < 1 := (List.getElem?_eq_some_iff.1 hf).1
  obtain rfl : i = 0 := by omega
  have hcs : cs = [.string x] := hM
  subst hcs
  simp [Tg.fl] at hf; subst hf; exact ⟨_, rfl, _, rfl⟩
theorem vg_case {W : World} {base m : Nat} {ok : Nat → Prop} {v : Value} {l : List Ca} (hm : ∀ x ∈ l, szE x.f2 ≤ m) (hR : Kd.R k62 62 W base ok v l) : Vg W base W.heap.size (m + 2) .c v := by
  refine Vg.ofR (τ := .c) rfl hR (fun x hx ok cs hM i f hf => ?_)
  obtain ⟨v1, v4, rfl, h1, h4⟩ := k62_openM hM
  have hs := szE_eq x.f2
  have hxm := hm x hx
  have hi : i < 5 := (List.getElem?_eq_some_iff.1 hf).1
  obtain rfl | rfl | rfl | rfl | rfl : i = 0 ∨ i = 1 ∨ i = 2 ∨ i = 3 ∨ i = 4 := by omega
  · simp [Tg.fl] at hf; subst hf; exact ⟨_, rfl, _, rfl⟩
  · simp [Tg.fl] at hf; subst hf; exact ⟨_, rfl, vg_txt h1⟩
  · simp [Tg.fl] at hf; subst hf; exact ⟨_, rfl, _, rfl⟩
  · simp [Tg.fl] at hf; subst hf; exact ⟨_, rfl, _, rfl⟩
  · simp [Tg.fl] at hf; subst hf; exact ⟨_, rfl, OwnE.vg m (by omega) h4⟩
theorem vg_def {W : World} {base m : Nat} {ok : Nat → Prop} {v : Value} {l : List De} (hm : ∀ x ∈ l, szE x.f3 ≤ m ∧ ∀ c ∈ x.f2, szE c.f2 ≤ m) (hR : Kd.R k59 59 W base ok v l) : Vg W base W.heap.size (m + 3) .d v := by
  refine Vg.ofR (τ := .d) rfl hR (fun x hx ok cs hM i f hf => ?_)
  obtain ⟨v1, v2, v5, rfl, h1, h2, h5⟩ := k59_openM hM
  have hs := szE_eq x.f3
  have hxm := hm x hx
  have hi : i < 6 := (List.getElem?_eq_some_iff.1 hf).1
  obtain rfl | rfl | rfl | rfl | rfl | rfl : i = 0 ∨ i = 1 ∨ i = 2 ∨ i = 3 ∨ i = 4 ∨ i = 5 := by omega
  · simp [Tg.fl] at hf; subst hf; exact ⟨_, rfl, _, rfl⟩
  · simp [Tg.fl] at hf; subst hf; exact ⟨_, rfl, vg_txt h1⟩
  · simp [Tg.fl] at hf; subst hf; exact ⟨_, rfl, vg_case hxm.2 h2⟩
  · simp [Tg.fl] at hf; subst hf; exact ⟨_, rfl, _, rfl⟩
  · simp [Tg.fl] at hf; subst hf; exact ⟨_, rfl, _, rfl⟩
  · simp [Tg.fl] at hf; subst hf; exact ⟨_, rfl, (OwnE.vg (m + 1) (by omega) h5)⟩
end Go.Proofs.YtacefdkfbpgedaaGreat.Mine
namespace Go.Proofs.YtacefdkfbpgedaaGreat.Mine
open Go.Proofs.YtacefdkfbpgedaaGreat.PProgSmall
open Go.RowKit Go.Shelf Go.Proofs.YtacefdkfbpgedaaGreatW.PrintWords Go.Proofs.YtacefdkfbpgedaaGreatW.PrintLast Go.Proofs.YtacefdkfbpgedaaGreatW.PrintMore
set_option linter.unusedVariables false
set_option linter.unusedSimpArgs false
theorem Vg.bound {W : World} {base top m : Nat} {τ : Tg} {v : Value} (h : Vg W base top m τ v) : ∃ A n c, v = .slice A n c ∧ n ≤ 9223372036854775807 := by
  cases m with
  | zero => rw [Vg] at h; exact ⟨_, _, _, h, by omega⟩
  | succ m =>
    rw [Vg] at h
    rcases h with h | ⟨g, n, cap, cur, h, hn, _⟩
    · exact ⟨_, _, _, h, by omega⟩
    · exact ⟨_, _, _, h, hn⟩
theorem Vg.at {W : World} {base top m : Nat} {τ : Tg} {A : Option Addr} {n c : Nat} (h : Vg W base top (m + 1) τ (.slice A n c)) {j : Nat} (hj : j < n) :
    ∃ g cur, A = some ⟨g, 0, none⟩ ∧ (base ≤ g ∧ g < top) ∧ W.heap[g]? = some (.cells cur τ.ty (0, 0)) ∧ ∀ i f, τ.fl[i]? = some f → ∃ u, cur[j * τ.fl.length + i]? = some u ∧ Fl.good (Vg W base top m) f u := by
  rw [Vg] at h
  rcases h with h | ⟨g, n1, cap, cur, h, hn, hg, hb, hel⟩
  · cases h; omega
  · cases h
    exact ⟨g, cur, rfl, hg, hb, fun i f hf => hel j i f hj hf⟩
set_option maxRecDepth 100000 in
set_option maxHeartbeats 4000000 in
theorem c_Spoil (base top : Nat) : ∀ (m : Nat) (k : Int) (s : ByteArray) (v : Value) (w : World), Vg w base top m .e v → base ≤ w.heap.size → top ≤ w.heap.size →
    Calls Tryz.prog 73 #[.agg #[.int .i64 k, .string s, v]] w fun en w' => en = .returned (.tuple #[]) ∧ Spd base top w w' := by
  intro m
  induction m with
  | zero =>
    intro k s v w hv hb ht
    rw [Vg] at hv
    subst hv
    have q := Spd.below (top := top) (below_alloc1 w (.cells #[.int .i64 k, .string s, .slice none 0 0] 57)) hb
    go_enter Tryz.func73, Tryz.ntmps73
    go_wp2
    go_loopg [6, 2] 0 (fun gg s6 _ wr => s6 = .int .i64 0 ∧ Aside0 (Spd base top w wr))
    case atStart => exact ⟨rfl, ⟨q⟩⟩
    case round =>
      obtain ⟨rfl, HQ⟩ := hrel
      go_wp2
      (try simp only [Exit.inBlock, Exit.then]); first | refine bodyPost_ret (results_none rfl _ _ _) rfl ?_ | refine bodyPost_end (results_none rfl _ _ _) rfl ?_
      exact ⟨rfl, HQ.out⟩
  | succ m ih =>
    intro k s v w hv hb ht
    obtain ⟨A, n, cap, rfl, hn⟩ := hv.bound
    have Q0 := Aside0.mk (Spd.below (top := top) (below_alloc1 w (.cells #[.int .i64 k, .string s, .slice A n cap] 57)) hb)
    have B0 := Aside0.mk (alloc_at w (.cells #[.int .i64 k, .string s, .slice A n cap] 57))
    have HV := Aside0.mk hv
    clear hv
    go_enter Tryz.func73, Tryz.ntmps73
    go_wp2
    go_loopg [6, 2] n (fun gg s6 _ wr => ∃ kk : Nat, kk ≤ n ∧ n - kk ≤ gg ∧ s6 = .int .i64 kk ∧ Aside0 (Spd base top w wr) ∧ Aside0 (wr.heap[w.heap.size]? = some (.cells #[.int .i64 k, .string s, .slice A n cap] 57 (0, 0))))
    case atStart => exact ⟨0, Nat.zero_le _, by omega, rfl, Q0, B0⟩
    case round =>
      obtain ⟨kk, hkk, hgg, rfl, HQ, HB⟩ := hrel
      have b2 := (blk_cell HB.out 2).trans rfl
      by_cases hlt : kk < n
      · have hltz : (kk : Int) < (n : Int) := by omega
        obtain ⟨g, cur1, rfl, hg, hbl1, hel1⟩ := (HQ.out.2.2 _ _ _ HV.out).at hlt
        obtain ⟨_, x0, k1, rfl⟩ := hel1 0 .i rfl
        obtain ⟨_, x1, s1, rfl⟩ := hel1 1 .s rfl
        obtain ⟨u1, x2, hu⟩ := hel1 2 (.l .e) rfl
        have hu : Vg wr base top m .e u1 := hu
        obtain ⟨Au, nu, cu, rfl⟩ := hu.slice
        have k0 : wr.cell? ⟨g, kk * 3, none⟩ = some (.int .i64 k1) := (blk_cell hbl1 (kk * 3)).trans x0
        have k1' : wr.cell? ⟨g, kk * 3 + 1, none⟩ = some (.string s1) := (blk_cell hbl1 (kk * 3 + 1)).trans x1
        have k2 : wr.cell? ⟨g, kk * 3 + 2, none⟩ = some (.slice Au nu cu) := (blk_cell hbl1 (kk * 3 + 2)).trans x2
        have hsz := HQ.out.1.size
        have HC := Lib.hid (ih k1 s1 _ wr hu (by omega) (by omega))
        clear hel1 hu x0 x1 x2 hbl1
        go_wp2_with fail
        refine HC.out.mono ?_
        rintro en w5 ⟨rfl, hS⟩
        have hb5 := hS.1.size
        have Q5 := Aside0.mk (HQ.out.trans hS)
        obtain ⟨g2, cur2, he, hg2, hbl2, hel2⟩ := (Q5.out.2.2 _ _ _ HV.out).at hlt
        obtain rfl : g = g2 := by simpa using he
        obtain ⟨_, y0, k3, rfl⟩ := hel2 0 .i rfl
        obtain ⟨_, y1, s3, rfl⟩ := hel2 1 .s rfl
        obtain ⟨u3, y2, _⟩ := hel2 2 (.l .e) rfl
        have z0 : w5.cell? ⟨g, kk * 3, none⟩ = some (.int .i64 k3) := (blk_cell hbl2 (kk * 3)).trans y0
        have z1 : w5.cell? ⟨g, kk * 3 + 1, none⟩ = some (.string s3) := (blk_cell hbl2 (kk * 3 + 1)).trans y1
        have z2 : w5.cell? ⟨g, kk * 3 + 2, none⟩ = some u3 := (blk_cell hbl2 (kk * 3 + 2)).trans y2
        have fz := fun i => blk_frozen hbl2 i
        have HB5 := Aside0.mk ((hS.2.1 w.heap.size ht (blk_lt HB.out)).trans HB.out)
        have b5 := (blk_cell HB5.out 2).trans rfl
        have Q6 := Aside0.mk (Q5.out.trans (Spd.clr (j0 := kk) hbl2 hg))
        have HB6 := Aside0.mk (clr_far (g := g) (i := kk * 3) HB5.out (by omega))
        clear hel2 y0 y1 y2 hbl2 hS b2 he hg2
        go_wp2_with fail
        go_roundg (n - (kk + 1))
        case measure => omega
        case rel => exact ⟨kk + 1, by omega, by omega, by go_num, Q6, HB6⟩
      · have : kk = n := by omega
        subst this
        go_wp2
        (try simp only [Exit.inBlock, Exit.then]); first | refine bodyPost_ret (results_none rfl _ _ _) rfl ?_ | refine bodyPost_end (results_none rfl _ _ _) rfl ?_
        exact ⟨rfl, HQ.out⟩
theorem zero_str (w : World) : (zeroValue 9).run Tryz.prog w = .ok (.string ⟨#[]⟩) w := by kernel_rfl
theorem zero_Case (w : World) : (zeroValue 62).run Tryz.prog w = .ok (.agg #[.string ⟨#[]⟩, .slice none 0 0, .int .i64 0, .string ⟨#[]⟩, .slice none 0 0]) w := by kernel_rfl
theorem zero_Def (w : World) : (zeroValue 59).run Tryz.prog w = .ok (.agg #[.string ⟨#[]⟩, .slice none 0 0, .slice none 0 0, .int .i64 0, .string ⟨#[]⟩, .slice none 0 0]) w := by kernel_rfl
set_option maxRecDepth 100000 in
set_option maxHeartbeats 8000000 in
theorem c_spoilt (base top m : Nat) (v : Value) (w : World) (hv : Vg w base top (m + 3) .d v) (hb : base ≤ w.heap.size) (ht : top ≤ w.heap.size) :
    Calls Tryz.prog 22 #[.agg #[v]] w fun en w' => en = .returned (.tuple #[]) ∧ Spd base top w w' := by
  obtain ⟨A, n, cap, rfl, hn⟩ := hv.bound
  obtain ⟨W1, hW1⟩ : ∃ W1, w.alloc (.cells #[.slice A n cap] 24) = W1 := ⟨_, rfl⟩
  have q1 : Spd base top w W1 := by rw [← hW1]; exact Spd.below (below_alloc1 _ _) hb
  have b1 : W1.heap[w.heap.size]? = some (.cells #[.slice A n cap] 24 (0, 0)) := by rw [← hW1]; exact alloc_at _ _
  have z1 : W1.heap.size = w.heap.size + 1 := by rw [← hW1]; simp
  have Q1 := Aside0.mk q1
  have B1 := Aside0.mk b1
  have HV := Aside0.mk (q1.2.2 _ _ _ hv)
  have HW1 := Lib.hid hW1
  have kP := (blk_cell b1 0).trans rfl
  clear hv q1 b1 hW1
  go_enter Tryz.func22, Tryz.ntmps22
  go_wp2_with fail
  rw [HW1.out]
  go_wp2
  clear kP
  go_loopg [9] n (fun gg s9 wr => ∃ kk : Nat, kk ≤ n ∧ n - kk ≤ gg ∧ s9 = .int .i64 kk ∧ Aside0 (Spd base top W1 wr))
  case atStart => exact ⟨0, Nat.zero_le _, by omega, rfl, ⟨Spd.refl _ _ _⟩⟩
  case round =>
    obtain ⟨kk, hkk, hgg, rfl, HQ⟩ := hrel
    have hszr := HQ.out.1.size
    have KP := Aside0.mk ((HQ.out.2.1 w.heap.size ht (by omega)).trans B1.out)
    by_cases hlt : kk < n
    · have hltz : (kk : Int) < (n : Int) := by omega
      obtain ⟨g, cur1, rfl, hg, hbl, hel⟩ := (HQ.out.2.2 _ _ _ HV.out).at hlt
      obtain ⟨_, x0, s0, rfl⟩ := hel 0 .s rfl
      obtain ⟨v1, x1, h1⟩ := hel 1 (.l .t) rfl
      obtain ⟨v2, x2, h2⟩ := hel 2 (.l .c) rfl
      obtain ⟨_, x3, k3, rfl⟩ := hel 3 .i rfl
      obtain ⟨_, x4, s4, rfl⟩ := hel 4 .s rfl
      obtain ⟨v5, x5, h5⟩ := hel 5 (.l .e) rfl
      have h1 : Vg wr base top (m + 2) .t v1 := h1
      have h2 : Vg wr base top (m + 2) .c v2 := h2
      have h5 : Vg wr base top (m + 2) .e v5 := h5
      obtain ⟨D1, n1, c1, rfl⟩ := h1.slice
      obtain ⟨Ac, nc, cc, rfl⟩ := h2.slice
      obtain ⟨D5, n5, c5, rfl⟩ := h5.slice
      have y0 : wr.cell? ⟨g, kk * 6, none⟩ = some (.string s0) := (blk_cell hbl (kk * 6)).trans x0
      have y1 : wr.cell? ⟨g, kk * 6 + 1, none⟩ = some (.slice D1 n1 c1) := (blk_cell hbl (kk * 6 + 1)).trans x1
      have y2 : wr.cell? ⟨g, kk * 6 + 2, none⟩ = some (.slice Ac nc cc) := (blk_cell hbl (kk * 6 + 2)).trans x2
      have y3 : wr.cell? ⟨g, kk * 6 + 3, none⟩ = some (.int .i64 k3) := (blk_cell hbl (kk * 6 + 3)).trans x3
      have y4 : wr.cell? ⟨g, kk * 6 + 4, none⟩ = some (.string s4) := (blk_cell hbl (kk * 6 + 4)).trans x4
      have y5 : wr.cell? ⟨g, kk * 6 + 5, none⟩ = some (.slice D5 n5 c5) := (blk_cell hbl (kk * 6 + 5)).trans x5
      obtain ⟨W2, hW2⟩ : ∃ W2, wr.alloc (.cells #[.string s0, .slice D1 n1 c1, .slice Ac nc cc, .int .i64 k3, .string s4, .slice D5 n5 c5] 59) = W2 := ⟨_, rfl⟩
      have q2 : Spd base top wr W2 := by rw [← hW2]; exact Spd.below (below_alloc1 _ _) (by omega)
      have b2 : W2.heap[wr.heap.size]? = some (.cells #[.string s0, .slice D1 n1 c1, .slice Ac nc cc, .int .i64 k3, .string s4, .slice D5 n5 c5] 59 (0, 0)) := by rw [← hW2]; exact alloc_at _ _
      have z2 : W2.heap.size = wr.heap.size + 1 := by rw [← hW2]; simp
      have HV1 := Aside0.mk (q2.2.2 _ _ _ h1)
      have HV2 := Aside0.mk (q2.2.2 _ _ _ h2)
      have HV5 := Aside0.mk (q2.2.2 _ _ _ h5)
      have Q2 := Aside0.mk (HQ.out.trans q2)
      have B2 := Aside0.mk b2
      have HW2 := Lib.hid hW2
      have k1 := (blk_cell B2.out 1).trans rfl
      clear hel x0 x1 x2 x3 x4 x5 h1 h2 h5 hbl q2 b2 hW2
      go_upto_region 4 with fail
      rw [HW2.out]
      go_wp2_with (refine wpList_clear_vg rfl (.tmp 14) 30 9 .t (.string ⟨#[]⟩) (.slice D1 n1 c1) rfl rfl rfl Tryz.underlying30 zero_str rfl HV1.out ?_)
      intro w4 hS4
      have hs4 := hS4.1.size
      have B4 := Aside0.mk ((hS4.2.1 wr.heap.size (by omega) (by omega)).trans B2.out)
      have Q4 := Aside0.mk (Q2.out.trans hS4)
      have HV4 := Aside0.mk (hS4.2.2 _ _ _ HV2.out)
      have m3 := (blk_cell B4.out 3).trans rfl
      have m4 := (blk_cell B4.out 4).trans rfl
      have m5 := (blk_cell B4.out 5).trans rfl
      have HC := Lib.hid (c_Spoil base top (m + 2) k3 s4 (.slice D5 n5 c5) w4 (hS4.2.2 _ _ _ HV5.out) (by omega) (by omega))
      clear k1 hS4 y0 y1 y2 y3 y4 y5
      go_wp2_with fail
      refine HC.out.mono ?_
      rintro en w5 ⟨rfl, hS5⟩
      have hs5 := hS5.1.size
      have B5 := Aside0.mk ((hS5.2.1 wr.heap.size (by omega) (by omega)).trans B4.out)
      have Q5 := Aside0.mk (Q4.out.trans hS5)
      have HV6 := Aside0.mk (hS5.2.2 _ _ _ HV4.out)
      have hnc : nc ≤ 9223372036854775807 := by obtain ⟨_, _, _, hcv, hnc⟩ := HV6.out.bound; cases hcv; exact hnc
      have n2 := (blk_cell B5.out 2).trans rfl
      clear m3 m4 m5 hS5
      go_wp2_with fail
      go_loopg [21] nc (fun gg s21 wc => ∃ jj : Nat, jj ≤ nc ∧ nc - jj ≤ gg ∧ s21 = .int .i64 jj ∧ Aside0 (Spd base top w5 wc))
      case atStart => exact ⟨0, Nat.zero_le _, by omega, rfl, ⟨Spd.refl _ _ _⟩⟩
      case round =>
        rename World => wc
        obtain ⟨jj, hjj, hgj, rfl, HQc⟩ := hrel
        have hszc := HQc.out.1.size
        by_cases hltj : jj < nc
        · have hltjz : (jj : Int) < (nc : Int) := by omega
          obtain ⟨gc, cur2, rfl, hgc, hblc, helc⟩ := (HQc.out.2.2 _ _ _ HV6.out).at hltj
          obtain ⟨_, x0, t0, rfl⟩ := helc 0 .s rfl
          obtain ⟨u1, x1, h1⟩ := helc 1 (.l .t) rfl
          obtain ⟨_, x2, t2, rfl⟩ := helc 2 .i rfl
          obtain ⟨_, x3, t3, rfl⟩ := helc 3 .s rfl
          obtain ⟨u4, x4, h4⟩ := helc 4 (.l .e) rfl
          have h1 : Vg wc base top (m + 1) .t u1 := h1
          have h4 : Vg wc base top (m + 1) .e u4 := h4
          obtain ⟨E1, p1, q1, rfl⟩ := h1.slice
          obtain ⟨E4, p4, q4, rfl⟩ := h4.slice
          have y0 : wc.cell? ⟨gc, jj * 5, none⟩ = some (.string t0) := (blk_cell hblc (jj * 5)).trans x0
          have y1 : wc.cell? ⟨gc, jj * 5 + 1, none⟩ = some (.slice E1 p1 q1) := (blk_cell hblc (jj * 5 + 1)).trans x1
          have y2 : wc.cell? ⟨gc, jj * 5 + 2, none⟩ = some (.int .i64 t2) := (blk_cell hblc (jj * 5 + 2)).trans x2
          have y3 : wc.cell? ⟨gc, jj * 5 + 3, none⟩ = some (.string t3) := (blk_cell hblc (jj * 5 + 3)).trans x3
          have y4 : wc.cell? ⟨gc, jj * 5 + 4, none⟩ = some (.slice E4 p4 q4) := (blk_cell hblc (jj * 5 + 4)).trans x4
          obtain ⟨W3, hW3⟩ : ∃ W3, wc.alloc (.cells #[.string t0, .slice E1 p1 q1, .int .i64 t2, .string t3, .slice E4 p4 q4] 62) = W3 := ⟨_, rfl⟩
          have q3 : Spd base top wc W3 := by rw [← hW3]; exact Spd.below (below_alloc1 _ _) (by omega)
          have b3 : W3.heap[wc.heap.size]? = some (.cells #[.string t0, .slice E1 p1 q1, .int .i64 t2, .string t3, .slice E4 p4 q4] 62 (0, 0)) := by rw [← hW3]; exact alloc_at _ _
          have z3 : W3.heap.size = wc.heap.size + 1 := by rw [← hW3]; simp
          have HU1 := Aside0.mk (q3.2.2 _ _ _ h1)
          have HU4 := Aside0.mk (q3.2.2 _ _ _ h4)
          have Q3 := Aside0.mk (HQc.out.trans q3)
          have B3 := Aside0.mk b3
          have HW3 := Lib.hid hW3
          have k1 := (blk_cell B3.out 1).trans rfl
          clear helc x0 x1 x2 x3 x4 h1 h4 hblc q3 b3 hW3 n2
          go_upto_region 9 with fail
          rw [HW3.out]
          go_wp2_with (refine wpList_clear_vg rfl (.tmp 26) 30 9 .t (.string ⟨#[]⟩) (.slice E1 p1 q1) rfl rfl rfl Tryz.underlying30 zero_str rfl HU1.out ?_)
          intro w6 hS6
          have hs6 := hS6.1.size
          have B6 := Aside0.mk ((hS6.2.1 wc.heap.size (by omega) (by omega)).trans B3.out)
          have Q6 := Aside0.mk (Q3.out.trans hS6)
          have m2 := (blk_cell B6.out 2).trans rfl
          have m3 := (blk_cell B6.out 3).trans rfl
          have m4 := (blk_cell B6.out 4).trans rfl
          have HC2 := Lib.hid (c_Spoil base top (m + 1) t2 t3 (.slice E4 p4 q4) w6 (hS6.2.2 _ _ _ HU4.out) (by omega) (by omega))
          clear k1 hS6 y0 y1 y2 y3 y4
          go_wp2_with fail
          refine HC2.out.mono ?_
          rintro en w7 ⟨rfl, hS7⟩
          have Q7 := Aside0.mk (Q6.out.trans hS7)
          clear m2 m3 m4 hS7
          go_wp2_with fail
          go_roundg (nc - (jj + 1))
          case measure => omega
          case rel => exact ⟨jj + 1, by omega, by omega, by go_num, Q7⟩
        · have : jj = nc := by omega
          subst this
          have Bc := Aside0.mk ((HQc.out.2.1 wr.heap.size (by omega) (by omega)).trans B5.out)
          have n3 := (blk_cell Bc.out 2).trans rfl
          have HV7 := Aside0.mk (HQc.out.2.2 _ _ _ HV6.out)
          have Q8 := Aside0.mk (Q5.out.trans HQc.out)
          clear n2
          go_wp2_with (refine wpList_clear_vg rfl (.tmp 32) 54 62 .c _ (.slice Ac jj cc) rfl rfl rfl Tryz.underlying54 zero_Case rfl HV7.out ?_)
          intro w9 hS9
          have Q9 := Aside0.mk (Q8.out.trans hS9)
          clear hS9 n3
          go_wp2_with fail
          go_roundg (n - (kk + 1))
          case measure => omega
          case rel => exact ⟨kk + 1, by omega, by omega, by go_num, Q9⟩
    · have : kk = n := by omega
      subst this
      have n3 := (blk_cell KP.out 0).trans rfl
      have HV7 := Aside0.mk (HQ.out.2.2 _ _ _ HV.out)
      go_wp2_with (refine wpList_clear_vg rfl (.tmp 35) 22 59 .d _ (.slice A kk cap) rfl rfl rfl Tryz.underlying22 zero_Def rfl HV7.out ?_)
      intro w9 hS9
      have Q9 := Aside0.mk (Q1.out.trans (HQ.out.trans hS9))
      clear hS9 n3
      go_wp2_with fail
      (try simp only [Exit.inBlock, Exit.then]); first | refine bodyPost_ret (results_none rfl _ _ _) rfl ?_ | refine bodyPost_end (results_none rfl _ _ _) rfl ?_
      exact ⟨rfl, Q9.out⟩
end Go.Proofs.YtacefdkfbpgedaaGreat.Mine
namespace Go.Proofs.YtacefdkfbpgedaaGreat.Mine
open Go.Proofs.YtacefdkfbpgedaaGreat.PProgSmall
open Go.RowKit Go.Shelf Go.Proofs.YtacefdkfbpgedaaGreatW.PrintWords Go.Proofs.YtacefdkfbpgedaaGreatW.PrintLast Go.Proofs.YtacefdkfbpgedaaGreatW.PrintMore
set_option linter.unusedVariables false
set_option linter.unusedSimpArgs false
set_option maxRecDepth 100000
theorem bound_cases (l : List Ca) : ∃ m, ∀ c ∈ l, szE c.f2 ≤ m := by
  induction l with
  | nil => exact ⟨0, fun c hc => by cases hc⟩
  | cons x xs ih =>
    obtain ⟨m, hm⟩ := ih
    refine ⟨m + szE x.f2, fun c hc => ?_⟩
    rcases List.mem_cons.1 hc with rfl | h
    · omega
    · have := hm c h; omega
theorem bound_defs (l : List De) : ∃ m, ∀ x ∈ l, szE x.f3 ≤ m ∧ ∀ c ∈ x.f2, szE c.f2 ≤ m := by
  induction l with
  | nil => exact ⟨0, fun c hc => by cases hc⟩
  | cons x xs ih =>
    obtain ⟨m, hm⟩ := ih
    obtain ⟨k, hk⟩ := bound_cases x.f2
    refine ⟨m + k + szE x.f3, fun y hy => ?_⟩
    rcases List.mem_cons.1 hy with rfl | h
    · exact ⟨by omega, fun c hc => by have := hk c hc; omega⟩
    · exact ⟨by have := (hm y h).1; omega, fun c hc => by have := (hm y h).2 c hc; omega⟩
abbrev PBox (B : Nat) (A : Option Addr) (n c : Nat) (W : World) : Prop := W.heap[B]? = some (.cells #[.slice A n c] 24 (0, 0))
abbrev LrS (W0 : World) (b0 : Nat) (A : Option Addr) (n c : Nat) (W : World) : Prop := Below W0.heap.size W0 W ∧ W.cell? ⟨b0, 0, none⟩ = some (.slice A n c)
theorem LrS.step {W0 : World} {b0 : Nat} {A : Option Addr} {n c : Nat} {W W' : World} (h : LrS W0 b0 A n c W) (hb : Below W.heap.size W W') : LrS W0 b0 A n c W' := ⟨h.1.trans (hb.mono h.1.size), pw_cell_below hb h.2⟩
theorem eqL_refl {α : Type} {p : α → α → Bool} (h : ∀ x, p x x = true) (xs : List α) : eqL p xs xs = true := eqL_true rfl (fun j x y _ hx hy => by rw [hx] at hy; cases hy; exact h x)
theorem sameD_refl (d : De) : sameD d d = true := by
  simp only [sameD, decide_true, Bool.true_and, Bool.and_eq_true]
  exact ⟨sameE_iff.2 rfl, eqL_refl (fun c => by simp [sameC, sameE_iff]) _⟩
theorem sameP_refl (l : List De) : eqL sameD l l = true := eqL_refl sameD_refl l
theorem OwnS.foot {W : World} {base : Nat} {v : Value} {l : List ByteArray} (h : OwnS W base v l) : ∃ A c, v = .slice A l.length c ∧ l.length ≤ c ∧ Kd.F Kd.string W (fun k => base ≤ k) A l.length l := by
  obtain ⟨A, c, rfl, hc, _⟩ := h.reads
  exact ⟨A, c, rfl, hc, Kd.R_F (Kd.R_of_own h (fun k hk => own_base h k hk))⟩
set_option maxHeartbeats 4000000 in
theorem c_lawReachBig (defs : List De) (A : Option Addr) (c : Nat) (s : ByteArray) (w : World) (hr : Kd.C k59 w A defs.length defs) (hc : defs.length ≤ c) (hn : ∀ d ∈ defs, nmD d) (hbig : (bigP defs || decide ((40 : Int) < (s.size : Int))) = true) :
    Calls Tryz.prog 3 #[.agg #[.slice A defs.length c], .string s] w fun en w' => en = .returned (.bool true) ∧ Below w.heap.size w w' := by
  obtain ⟨W1, hW1⟩ : ∃ W1, w.alloc (.cells #[.slice A defs.length c] 24) = W1 := ⟨_, rfl⟩
  have q1 : Below w.heap.size w W1 := by rw [← hW1]; exact below_alloc1 _ _
  have bP : W1.heap[w.heap.size]? = some (.cells #[.slice A defs.length c] 24 (0, 0)) := by rw [← hW1]; exact alloc_at _ _
  have z1 : W1.heap.size = w.heap.size + 1 := by rw [← hW1]; simp
  have hmd := hr.2.1
  have HF := Lib.hid (Kd.C_F k59_heap hr)
  have HR := Lib.hid hr
  have Q := Aside0.mk q1
  have B := Aside0.mk bP
  have HW1 := Lib.hid hW1
  have HZ1 := Lib.hid z1
  clear hr q1 bP hW1 z1
  have kP := (blk_cell B.out 0).trans rfl
  have HB := Lib.hid (c_Big defs A c W1 (Kd.C_below HR.out Q.out) hc hn)
  cases h1 : bigP defs with
  | true =>
    rw [h1] at HB
    go_enter Tryz.func3, Tryz.ntmps3
    go_wp2_with fail
    rw [HW1.out]
    go_wp2_with fail
    refine HB.out.mono ?_
    rintro en w2 ⟨rfl, hb⟩
    have Q := Aside0.mk (Q.out.trans (hb.mono Q.out.size))
    clear hb
    go_wp2_with fail
    refine (c_awake _).mono ?_
    rintro en w3 ⟨rfl, hb⟩
    go_wp2
    go_ret
    exact ⟨rfl, Q.out.trans (hb.mono Q.out.size)⟩
  | false =>
    rw [h1] at HB
    rw [h1, Bool.false_or] at hbig
    go_enter Tryz.func3, Tryz.ntmps3
    go_wp2_with fail
    rw [HW1.out]
    go_wp2_with fail
    refine HB.out.mono ?_
    rintro en w2 ⟨rfl, hb⟩
    have Q := Aside0.mk (Q.out.trans (hb.mono Q.out.size))
    clear hb
    go_wp2_with fail
    refine (c_awake _).mono ?_
    rintro en w3 ⟨rfl, hb⟩
    go_wp2
    go_ret
    exact ⟨rfl, Q.out.trans (hb.mono Q.out.size)⟩
end Go.Proofs.YtacefdkfbpgedaaGreat.Mine
namespace Go.Proofs.YtacefdkfbpgedaaGreat.Mine
open Go.Proofs.YtacefdkfbpgedaaGreat.PProgSmall
open Go.RowKit Go.Shelf Go.Proofs.YtacefdkfbpgedaaGreatW.PrintWords Go.Proofs.YtacefdkfbpgedaaGreatW.PrintLast Go.Proofs.YtacefdkfbpgedaaGreatW.PrintMore
set_option linter.unusedVariables false
set_option linter.unusedSimpArgs false
set_option maxRecDepth 100000
set_option maxHeartbeats 8000000 in
theorem c_lawReachSmall (defs : List De) (A : Option Addr) (c : Nat) (s : ByteArray) (w : World) (hr : Kd.C k59 w A defs.length defs) (hc : defs.length ≤ c) (hn : ∀ d ∈ defs, nmD d) (hbig : bigP defs = false) (hs40 : decide ((40 : Int) < (s.size : Int)) = false) :
    Calls Tryz.prog 3 #[.agg #[.slice A defs.length c], .string s] w fun en w' => en = .returned (.bool true) ∧ Below w.heap.size w w' := by
  have hok := bigP_okP hbig
  have hoo := bigP_okO hbig
  have hlen := (bigP_ok hbig).1
  obtain ⟨W1, hW1⟩ : ∃ W1, w.alloc (.cells #[.slice A defs.length c] 24) = W1 := ⟨_, rfl⟩
  have q1 : Below w.heap.size w W1 := by rw [← hW1]; exact below_alloc1 _ _
  have bP : W1.heap[w.heap.size]? = some (.cells #[.slice A defs.length c] 24 (0, 0)) := by rw [← hW1]; exact alloc_at _ _
  have z1 : W1.heap.size = w.heap.size + 1 := by rw [← hW1]; simp
  have hmd := hr.2.1
  have HF := Lib.hid (Kd.C_F k59_heap hr)
  have HR := Lib.hid hr
  have Q := Aside0.mk q1
  have B := Aside0.mk bP
  have HW1 := Lib.hid hW1
  have HZ1 := Lib.hid z1
  clear hr q1 bP hW1 z1
  have kP := (blk_cell B.out 0).trans rfl
  have HB := Lib.hid (c_Big defs A c W1 (Kd.C_below HR.out Q.out) hc hn)
  rw [hbig] at HB
  go_enter Tryz.func3, Tryz.ntmps3
  go_wp2_with fail
  rw [HW1.out]
  go_wp2_with fail
  refine HB.out.mono ?_
  rintro en w2 ⟨rfl, hb⟩
  have Q := Aside0.mk (Q.out.trans (hb.mono Q.out.size))
  have B := Aside0.mk (blk_below B.out hb)
  clear hb HB kP
  have kP := (blk_cell B.out 0).trans rfl
  have HO := Lib.hid (c_Own defs A c w2 (Kd.C_below HR.out Q.out) hc (by omega) hoo)
  go_wp2_with fail
  refine HO.out.mono ?_
  rintro en w3 ⟨vo, rfl, ho, hb⟩
  obtain ⟨Ao, co, rfl, hco, hCo⟩ := Kd.R_reads ho
  have Q := Aside0.mk (Q.out.trans (hb.mono Q.out.size))
  have B := Aside0.mk (blk_below B.out hb)
  have O := Aside0.mk hCo
  clear hb ho hCo HO kP
  obtain ⟨W4, hW4⟩ : ∃ W4, w3.alloc (.cells #[.slice Ao defs.length co] 24) = W4 := ⟨_, rfl⟩
  have hb : Below w3.heap.size w3 W4 := by rw [← hW4]; exact below_alloc1 _ _
  have BO := Aside0.mk (show PBox w3.heap.size Ao defs.length co W4 by rw [← hW4]; exact alloc_at _ _)
  have hz4 : W4.heap.size = w3.heap.size + 1 := by rw [← hW4]; simp
  have Q := Aside0.mk (Q.out.trans (hb.mono Q.out.size))
  have B := Aside0.mk (blk_below B.out hb)
  have O := Aside0.mk (Kd.C_below O.out hb)
  have HW4 := Lib.hid hW4
  have kP := (blk_cell B.out 0).trans rfl
  clear hb hW4
  have HN := Lib.hid (c_rNamed defs A c s W4 (Kd.C_below HR.out Q.out) hc hok)
  go_upto_region 4 with fail
  rw [HW4.out]
  clear HW4
  go_wp2_with fail
  refine HN.out.mono ?_
  rintro en w5 ⟨rfl, hb⟩
  have Q := Aside0.mk (Q.out.trans (hb.mono Q.out.size))
  have B := Aside0.mk (blk_below B.out hb)
  have BO := Aside0.mk (blk_below BO.out hb)
  have O := Aside0.mk (Kd.C_below O.out hb)
  have hz5 := hb.size
  have hwl5 := Q.out.size
  clear hb HN kP
  have Q5 := Q
  have B5 := B
  have BO5 := BO
  have O5 := O
  obtain ⟨W6, hW6⟩ : ∃ W6, w5.alloc (.cells #[.slice none 0 0] 24) = W6 := ⟨_, rfl⟩
  have hb : Below w5.heap.size w5 W6 := by rw [← hW6]; exact below_alloc1 _ _
  have BX := Aside0.mk (show PBox w5.heap.size none 0 0 W6 by rw [← hW6]; exact alloc_at _ _)
  have hz6 : W6.heap.size = w5.heap.size + 1 := by rw [← hW6]; simp
  have Q := Aside0.mk (Q.out.trans (hb.mono Q.out.size))
  have B := Aside0.mk (blk_below B.out hb)
  have BO := Aside0.mk (blk_below BO.out hb)
  have O := Aside0.mk (Kd.C_below O.out hb)
  have HW6 := Lib.hid hW6
  have Q56 := Aside0.mk hb
  clear hb hW6
  obtain ⟨fp, hfp⟩ : ∃ fp, (findP defs s).1 = fp := ⟨_, rfl⟩
  obtain ⟨cl, hcl⟩ : ∃ cl, callsP defs s = cl := ⟨_, rfl⟩
  obtain ⟨rl, hrl⟩ : ∃ rl, reachE defs s = rl := ⟨_, rfl⟩
  obtain ⟨ol, hol⟩ : ∃ ol, onlyE defs s = ol := ⟨_, rfl⟩
  have HNm := Lib.hid (And.intro hfp (And.intro hcl (And.intro hrl hol)))
  clear hfp hcl hrl hol
  obtain ⟨fe, hfe⟩ : ∃ fe, (findP defs s).2 = fe := ⟨_, rfl⟩
  rw [hfe]
  go_upto_if 33 with fail
  rw [HW6.out]
  clear HW6
  go_cut [7, 8, 9] (fun s7 s8 s9 wx => ∃ A8 c8 A9 c9 Ax cx, s7 = .int .i64 fp ∧ s8 = .slice A8 cl.length c8 ∧ s9 = .slice A9 rl.length c9 ∧ Aside0 (cl.length ≤ c8 ∧ Kd.C Kd.string wx A8 cl.length cl) ∧ Aside0 (rl.length ≤ c9 ∧ Kd.C Kd.string wx A9 rl.length rl) ∧ Aside0 (ol.length ≤ cx ∧ Kd.C k59 wx Ax ol.length ol) ∧ Aside0 (PBox w5.heap.size Ax ol.length cx wx) ∧ Aside0 (Below w5.heap.size W6 wx))
  case first =>
    cases hf0 : (fe == 0) with
    | false =>
      have hne : (findP defs s).2 ≠ 0 := by rw [hfe]; intro h; rw [h] at hf0; exact absurd hf0 (by decide)
      have HNo := Lib.hid (find_no hne)
      clear hfe hne
      go_wp2_with fail
      go_meet
      obtain ⟨h1, h2, h3, h4⟩ := HNo.out
      obtain ⟨g1, g2, g3, g4⟩ := HNm.out
      rw [← g1, ← g2, ← g3, ← g4, h1, h2, h3, h4]
      exact ⟨none, 0, none, 0, none, 0, rfl, rfl, rfl, ⟨Nat.le_refl _, Kd.C_nil _ _⟩, ⟨Nat.le_refl _, Kd.C_nil _ _⟩, ⟨Nat.le_refl _, Kd.C_nil _ _⟩, BX, ⟨Below.refl _ _⟩⟩
    | true =>
      have hne : (findP defs s).2 = 0 := by rw [hfe]; simpa using hf0
      have HYes := Lib.hid (find_yes hne)
      obtain ⟨hck, hnd, -⟩ := HYes.out
      have HFi := Lib.hid (fun W (h : Below W6.heap.size W6 W) => c_rFind defs A c s W (Kd.C_below HR.out (Q.out.trans (h.mono Q.out.size))) hc)
      have HCa := Lib.hid (fun W (h : Below W6.heap.size W6 W) => c_rCalls defs A c s W (Kd.C_below HR.out (Q.out.trans (h.mono Q.out.size))) hc hok hnd)
      have HRe := Lib.hid (fun W (h : Below W6.heap.size W6 W) => c_rReach defs A c s W (Kd.C_below HR.out (Q.out.trans (h.mono Q.out.size))) hc hok hck hnd)
      have HOn := Lib.hid (fun W (h : Below W6.heap.size W6 W) => c_rOnlyF defs A c s W _ (Kd.F_below HF.out (Q.out.trans (h.mono Q.out.size))) (fun k hk => Nat.lt_of_lt_of_le hk (Q.out.trans (h.mono Q.out.size)).size) hc hok hck hnd)
      have hSd : (fun W => LrS W6 w.heap.size A defs.length c W) W6.drew := ⟨below_drew (Below.refl _ _), (blk_cell (show W6.drew.heap[w.heap.size]? = _ from B.out) 0).trans rfl⟩
      have BXd := Aside0.mk (show PBox w5.heap.size none 0 0 W6.drew from BX.out)
      clear hfe hne
      go_upto_region 9 with fail
      refine wp_region_K (S := fun W => LrS W6 w.heap.size A defs.length c W) (k := 15) (by kernel_rfl) ?_
      change wpAnyK _ _ _ _ _ _ 16 (Array.replicate 16 false) _ _
      refine wpAnyK_take (i := 0) (v := ?_) rfl (by kernel_rfl) (by kernel_rfl) (by kernel_rfl) (by kernel_rfl) (fun _ _ _ h => h) hSd (Or.inl ⟨by rfl, ?_⟩) ?_
      rotate_left 1
      (intro w hSw; (try dsimp only at hSw); go_simp; try (with_reducible rfl))
      (try dsimp only [Act.put]); (try simp only [List.setIfInBounds_toArray, List.set_cons_zero, List.set_cons_succ])
      refine wpAnyK_take (i := 1) (v := ?_) rfl (by kernel_rfl) (by kernel_rfl) (by kernel_rfl) (by kernel_rfl) (fun _ _ _ h => h) hSd (Or.inl ⟨by rfl, ?_⟩) ?_
      rotate_left 1
      (intro w hSw; (try dsimp only at hSw); go_simp; try (with_reducible rfl))
      (try dsimp only [Act.put]); (try simp only [List.setIfInBounds_toArray, List.set_cons_zero, List.set_cons_succ])
      refine wpAnyK_take (i := 3) (v := ?_) rfl (by kernel_rfl) (by kernel_rfl) (by kernel_rfl) (by kernel_rfl) (fun _ _ _ h => h) hSd (Or.inl ⟨by rfl, ?_⟩) ?_
      rotate_left 1
      (intro w hSw; (try dsimp only at hSw); go_simp; try (with_reducible rfl))
      (try dsimp only [Act.put]); (try simp only [List.setIfInBounds_toArray, List.set_cons_zero, List.set_cons_succ])
      refine wpAnyK_take (i := 4) (v := ?_) rfl (by kernel_rfl) (by kernel_rfl) (by kernel_rfl) (by kernel_rfl) (fun _ _ _ h => h) hSd (Or.inl ⟨by rfl, ?_⟩) ?_
      rotate_left 1
      (intro w hSw; (try dsimp only at hSw); go_simp; try (with_reducible rfl))
      (try dsimp only [Act.put]); (try simp only [List.setIfInBounds_toArray, List.set_cons_zero, List.set_cons_succ])
      refine wpAnyK_take (i := 6) (v := ?_) rfl (by kernel_rfl) (by kernel_rfl) (by kernel_rfl) (by kernel_rfl) (fun _ _ _ h => h) hSd (Or.inl ⟨by rfl, ?_⟩) ?_
      rotate_left 1
      (intro w hSw; (try dsimp only at hSw); go_simp; try (with_reducible rfl))
      (try dsimp only [Act.put]); (try simp only [List.setIfInBounds_toArray, List.set_cons_zero, List.set_cons_succ])
      refine wpAnyK_take (i := 7) (v := ?_) rfl (by kernel_rfl) (by kernel_rfl) (by kernel_rfl) (by kernel_rfl) (fun _ _ _ h => h) hSd (Or.inl ⟨by rfl, ?_⟩) ?_
      rotate_left 1
      (intro w hSw; (try dsimp only at hSw); go_simp; try (with_reducible rfl))
      (try dsimp only [Act.put]); (try simp only [List.setIfInBounds_toArray, List.set_cons_zero, List.set_cons_succ])
      refine wpAnyK_take (i := 9) (v := ?_) rfl (by kernel_rfl) (by kernel_rfl) (by kernel_rfl) (by kernel_rfl) (fun _ _ _ h => h) hSd (Or.inl ⟨by rfl, ?_⟩) ?_
      rotate_left 1
      (intro w hSw; (try dsimp only at hSw); go_simp; try (with_reducible rfl))
      (try dsimp only [Act.put]); (try simp only [List.setIfInBounds_toArray, List.set_cons_zero, List.set_cons_succ])
      refine wpAnyK_take (i := 10) (v := ?_) rfl (by kernel_rfl) (by kernel_rfl) (by kernel_rfl) (by kernel_rfl) (fun _ _ _ h => h) hSd (Or.inl ⟨by rfl, ?_⟩) ?_
      rotate_left 1
      (intro w hSw; (try dsimp only at hSw); go_simp; try (with_reducible rfl))
      (try dsimp only [Act.put]); (try simp only [List.setIfInBounds_toArray, List.set_cons_zero, List.set_cons_succ])
      refine wpAnyK_one (i := 2) (by kernel_rfl) rfl (fun K hK => ?_)
      go_simp
      go_at_call 12
      (with_reducible refine (HFi.out _ hSd.1).mono ?_)
      rintro e wE ⟨rfl, hb⟩
      have hSd : (fun W => LrS W6 w.heap.size A defs.length c W) wE := hSd.step hb
      have BXd := Aside0.mk (blk_below BXd.out hb)
      clear hb
      refine hK.out _ _ (fun _ => hSd) ?_
      clear hK
      refine wpAnyK_one (i := 5) (by kernel_rfl) rfl (fun K hK => ?_)
      go_simp
      go_at_call 13
      (with_reducible refine (HCa.out _ hSd.1).mono ?_)
      rintro e wF ⟨v8, rfl, ho, hb⟩
      obtain ⟨A8, c8, rfl, hc8, hC8⟩ := OwnS.foot ho
      have X8 := Aside0.mk (And.intro hc8 (Kd.F_mono hC8 (ok' := fun k => W6.heap.size ≤ k) (fun k hk => Nat.le_trans hSd.1.size hk)))
      have hSd : (fun W => LrS W6 w.heap.size A defs.length c W) wF := hSd.step hb
      have BXd := Aside0.mk (blk_below BXd.out hb)
      clear hb ho hc8 hC8
      refine hK.out _ _ (fun _ => hSd) ?_
      clear hK
      refine wpAnyK_one (i := 8) (by kernel_rfl) rfl (fun K hK => ?_)
      go_simp
      go_at_call 14
      (with_reducible refine (HRe.out _ hSd.1).mono ?_)
      rintro e wG ⟨v9, rfl, ho, hb⟩
      obtain ⟨A9, c9, rfl, hc9, hC9⟩ := OwnS.foot ho
      have X8 := Aside0.mk (And.intro X8.out.1 (Kd.F_below X8.out.2 hb))
      have X9 := Aside0.mk (And.intro hc9 (Kd.F_mono hC9 (ok' := fun k => W6.heap.size ≤ k) (fun k hk => Nat.le_trans hSd.1.size hk)))
      have hSd : (fun W => LrS W6 w.heap.size A defs.length c W) wG := hSd.step hb
      have BXd := Aside0.mk (blk_below BXd.out hb)
      clear hb ho hc9 hC9
      refine hK.out _ _ (fun _ => hSd) ?_
      clear hK
      refine wpAnyK_one (i := 11) (by kernel_rfl) rfl (fun K hK => ?_)
      go_simp
      go_at_call 15
      (with_reducible refine (HOn.out _ hSd.1).mono ?_)
      rintro e wH ⟨Ax, cx, rfl, hcx, hCx, hb⟩
      have X8 := Aside0.mk (And.intro X8.out.1 (Kd.F_below X8.out.2 hb))
      have X9 := Aside0.mk (And.intro X9.out.1 (Kd.F_below X9.out.2 hb))
      have hwl := Q.out.size
      have XX := Aside0.mk (And.intro hcx (Kd.F_mono hCx (ok' := fun k => k < w.heap.size ∨ W6.heap.size ≤ k) (fun k hk => hk.imp id (Nat.le_trans hSd.1.size))))
      have hSd : (fun W => LrS W6 w.heap.size A defs.length c W) wH := hSd.step hb
      have BXd := Aside0.mk (blk_below BXd.out hb)
      have HQH := Lib.hid hSd.1
      have hzz := hSd.1.size
      have k10 := (blk_cell BXd.out 0).trans rfl
      have f10 := blk_frozen BXd.out 0
      clear hb hcx hCx
      refine hK.out _ _ (fun _ => hSd) ?_
      clear hK
      refine wpAnyK_one (i := 12) (by kernel_rfl) rfl (fun K hK => ?_)
      go_simp
      refine hK.out _ _ (fun _ => hSd) ?_
      clear hK
      refine wpAnyK_one (i := 13) (by kernel_rfl) rfl (fun K hK => ?_)
      go_simp
      refine hK.out _ _ (fun _ => hSd) ?_
      clear hK
      refine wpAnyK_one (i := 14) (by kernel_rfl) rfl (fun K hK => ?_)
      go_simp
      refine hK.out _ _ (fun _ => hSd) ?_
      clear hK
      refine wpAnyK_one (i := 15) (by kernel_rfl) rfl (fun K hK => ?_)
      go_simp
      refine hK.out _ _ (fun h => absurd rfl h) ?_
      clear hK hSd
      refine wpAnyK_done (by kernel_rfl) ?_ _
      clear k10 f10
      go_wp2_with fail
      go_meet
      obtain ⟨-, -, h1, h2, h3, h4⟩ := HYes.out
      obtain ⟨g1, g2, g3, g4⟩ := HNm.out
      rw [← g1, ← g2, ← g3, ← g4, h1, h2, h3, h4]
      have hst : ∀ (k : Nat) (u : Value), k ≠ w5.heap.size → (wH.setCell ⟨w5.heap.size, 0, none⟩ u).heap[k]? = wH.heap[k]? := fun k u hk => Below.heap_setCell _ _ _ _ hk
      exact ⟨A8, c8, A9, c9, Ax, cx, rfl, rfl, rfl, ⟨X8.out.1, Kd.F_now (Kd.F_step X8.out.2 (fun k hk _ => hst k _ (by omega)))⟩, ⟨X9.out.1, Kd.F_now (Kd.F_step X9.out.2 (fun k hk _ => hst k _ (by omega)))⟩, ⟨XX.out.1, Kd.F_now (Kd.F_step XX.out.2 (fun k hk _ => hst k _ (by rcases hk with hk | hk <;> omega)))⟩, ⟨blk_put BXd.out 0 _ rfl⟩, ⟨(show Below w5.heap.size W6 wH from HQH.out.mono (by omega)).setCell (Nat.le_refl _) _⟩⟩
  case rest =>
    obtain ⟨A8, c8, A9, c9, Ax, cx, rfl, rfl, rfl, X8, X9, XX, BX, HBc⟩ := hcut
    have hb : Below w5.heap.size w5 wc := Q56.out.trans HBc.out
    have Q := Aside0.mk (Q5.out.trans (hb.mono Q5.out.size))
    have B := Aside0.mk (blk_below B5.out hb)
    have BO := Aside0.mk (blk_below BO5.out hb)
    have O := Aside0.mk (Kd.C_below O5.out hb)
    have hsc := hb.size
    clear hb Q5 B5 BO5 O5 Q56 HBc
    have kO := (blk_cell BO.out 0).trans rfl
    have HC := Lib.hid (c_Find defs Ao co s wc O.out hco hok)
    rw [hfe, HNm.out.1] at HC
    go_wp2_with fail
    refine HC.out.mono ?_
    rintro en w10 ⟨rfl, hb⟩
    have hs10 := hb.size
    have Q := Aside0.mk (Q.out.trans (hb.mono Q.out.size))
    have B := Aside0.mk (blk_below B.out hb)
    have BO := Aside0.mk (blk_below BO.out hb)
    have BX := Aside0.mk (blk_below BX.out hb)
    have O := Aside0.mk (Kd.C_below O.out hb)
    have X8 := Aside0.mk (And.intro X8.out.1 (Kd.C_below X8.out.2 hb))
    have X9 := Aside0.mk (And.intro X9.out.1 (Kd.C_below X9.out.2 hb))
    have XX := Aside0.mk (And.intro XX.out.1 (Kd.C_below XX.out.2 hb))
    clear hb HC kO
    have kO := (blk_cell BO.out 0).trans rfl
    have HC := Lib.hid (c_Calls defs Ao co s w10 O.out hco hok)
    rw [hfe, HNm.out.2.1] at HC
    go_wp2_with fail
    refine HC.out.mono ?_
    rintro en w11 ⟨v13, rfl, ho, hb⟩
    obtain ⟨A13, c13, rfl, hc13, hC13⟩ := OwnS.reads ho
    have Y8 := Aside0.mk (And.intro hc13 hC13)
    have hs11 := hb.size
    have Q := Aside0.mk (Q.out.trans (hb.mono Q.out.size))
    have B := Aside0.mk (blk_below B.out hb)
    have BO := Aside0.mk (blk_below BO.out hb)
    have BX := Aside0.mk (blk_below BX.out hb)
    have O := Aside0.mk (Kd.C_below O.out hb)
    have X8 := Aside0.mk (And.intro X8.out.1 (Kd.C_below X8.out.2 hb))
    have X9 := Aside0.mk (And.intro X9.out.1 (Kd.C_below X9.out.2 hb))
    have XX := Aside0.mk (And.intro XX.out.1 (Kd.C_below XX.out.2 hb))
    clear hb HC kO ho hc13 hC13
    have kO := (blk_cell BO.out 0).trans rfl
    have HC := Lib.hid (c_Reach defs Ao co s w11 O.out hco hok)
    rw [hfe, HNm.out.2.2.1] at HC
    go_wp2_with fail
    refine HC.out.mono ?_
    rintro en w12 ⟨v15, rfl, ho, hb⟩
    obtain ⟨A15, c15, rfl, hc15, hC15⟩ := OwnS.reads ho
    have Y9 := Aside0.mk (And.intro hc15 hC15)
    have Y8 := Aside0.mk (And.intro Y8.out.1 (Kd.C_below Y8.out.2 hb))
    have hs12 := hb.size
    have Q := Aside0.mk (Q.out.trans (hb.mono Q.out.size))
    have B := Aside0.mk (blk_below B.out hb)
    have BO := Aside0.mk (blk_below BO.out hb)
    have BX := Aside0.mk (blk_below BX.out hb)
    have O := Aside0.mk (Kd.C_below O.out hb)
    have X8 := Aside0.mk (And.intro X8.out.1 (Kd.C_below X8.out.2 hb))
    have X9 := Aside0.mk (And.intro X9.out.1 (Kd.C_below X9.out.2 hb))
    have XX := Aside0.mk (And.intro XX.out.1 (Kd.C_below XX.out.2 hb))
    clear hb HC kO ho hc15 hC15
    have kO := (blk_cell BO.out 0).trans rfl
    have HC := Lib.hid (c_Only defs Ao co s w12 O.out hco hok hoo)
    rw [hfe, HNm.out.2.2.2] at HC
    have Q12 := Q
    have B12 := B
    have BO12 := BO
    have O12 := O
    go_wp2_with fail
    refine HC.out.mono ?_
    rintro en w13 ⟨v17, rfl, ho, hb⟩
    obtain ⟨A17, c17, rfl, hc17, hC17⟩ := Kd.R_reads ho
    have OX := Aside0.mk ho
    have YX := Aside0.mk (And.intro hc17 hC17)
    have Y8 := Aside0.mk (And.intro Y8.out.1 (Kd.C_below Y8.out.2 hb))
    have Y9 := Aside0.mk (And.intro Y9.out.1 (Kd.C_below Y9.out.2 hb))
    have Q13 := Aside0.mk hb
    have Q := Aside0.mk (Q.out.trans (hb.mono Q.out.size))
    have B := Aside0.mk (blk_below B.out hb)
    have BO := Aside0.mk (blk_below BO.out hb)
    have BX := Aside0.mk (blk_below BX.out hb)
    have O := Aside0.mk (Kd.C_below O.out hb)
    have X8 := Aside0.mk (And.intro X8.out.1 (Kd.C_below X8.out.2 hb))
    have X9 := Aside0.mk (And.intro X9.out.1 (Kd.C_below X9.out.2 hb))
    have XX := Aside0.mk (And.intro XX.out.1 (Kd.C_below XX.out.2 hb))
    clear hb HC kO ho hc17 hC17
    obtain ⟨W14, hW14⟩ : ∃ W14, w13.alloc (.cells #[.slice A17 ol.length c17] 24) = W14 := ⟨_, rfl⟩
    have hb : Below w13.heap.size w13 W14 := by rw [← hW14]; exact below_alloc1 _ _
    have B17 := Aside0.mk (show PBox w13.heap.size A17 ol.length c17 W14 by rw [← hW14]; exact alloc_at _ _)
    have Q := Aside0.mk (Q.out.trans (hb.mono Q.out.size))
    have B := Aside0.mk (blk_below B.out hb)
    have BO := Aside0.mk (blk_below BO.out hb)
    have BX := Aside0.mk (blk_below BX.out hb)
    have O := Aside0.mk (Kd.C_below O.out hb)
    have X8 := Aside0.mk (And.intro X8.out.1 (Kd.C_below X8.out.2 hb))
    have X9 := Aside0.mk (And.intro X9.out.1 (Kd.C_below X9.out.2 hb))
    have XX := Aside0.mk (And.intro XX.out.1 (Kd.C_below XX.out.2 hb))
    have OX := Aside0.mk (Kd.R_below OX.out hb)
    have YX := Aside0.mk (And.intro YX.out.1 (Kd.C_below YX.out.2 hb))
    have Y8 := Aside0.mk (And.intro Y8.out.1 (Kd.C_below Y8.out.2 hb))
    have Y9 := Aside0.mk (And.intro Y9.out.1 (Kd.C_below Y9.out.2 hb))
    have Q13 := Aside0.mk (Q13.out.trans (hb.mono Q13.out.size))
    have HW14 := Lib.hid hW14
    clear hb hW14
    have hff : (fe != fe) = false := by simp
    have hpp : (fp != fp) = false := by simp
    have HC := Lib.hid (c_EqS A13 A8 c13 c8 cl cl W14 Y8.out.2 Y8.out.1 X8.out.2 X8.out.1)
    rw [decide_eq_true rfl] at HC
    go_upto_region 14 with fail
    rw [HW14.out]
    clear HW14
    go_wp2_with fail
    refine HC.out.mono ?_
    rintro en w15 ⟨rfl, hb⟩
    have Q := Aside0.mk (Q.out.trans (hb.mono Q.out.size))
    have B := Aside0.mk (blk_below B.out hb)
    have BO := Aside0.mk (blk_below BO.out hb)
    have BX := Aside0.mk (blk_below BX.out hb)
    have O := Aside0.mk (Kd.C_below O.out hb)
    have X8 := Aside0.mk (And.intro X8.out.1 (Kd.C_below X8.out.2 hb))
    have X9 := Aside0.mk (And.intro X9.out.1 (Kd.C_below X9.out.2 hb))
    have XX := Aside0.mk (And.intro XX.out.1 (Kd.C_below XX.out.2 hb))
    have B17 := Aside0.mk (blk_below B17.out hb)
    have OX := Aside0.mk (Kd.R_below OX.out hb)
    have YX := Aside0.mk (And.intro YX.out.1 (Kd.C_below YX.out.2 hb))
    have Y9 := Aside0.mk (And.intro Y9.out.1 (Kd.C_below Y9.out.2 hb))
    have Q13 := Aside0.mk (Q13.out.trans (hb.mono Q13.out.size))
    clear hb HC Y8
    have HC := Lib.hid (c_EqS A15 A9 c15 c9 rl rl w15 Y9.out.2 Y9.out.1 X9.out.2 X9.out.1)
    rw [decide_eq_true rfl] at HC
    go_wp2_with fail
    refine HC.out.mono ?_
    rintro en w16 ⟨rfl, hb⟩
    have Q := Aside0.mk (Q.out.trans (hb.mono Q.out.size))
    have B := Aside0.mk (blk_below B.out hb)
    have BO := Aside0.mk (blk_below BO.out hb)
    have BX := Aside0.mk (blk_below BX.out hb)
    have O := Aside0.mk (Kd.C_below O.out hb)
    have X8 := Aside0.mk (And.intro X8.out.1 (Kd.C_below X8.out.2 hb))
    have X9 := Aside0.mk (And.intro X9.out.1 (Kd.C_below X9.out.2 hb))
    have XX := Aside0.mk (And.intro XX.out.1 (Kd.C_below XX.out.2 hb))
    have B17 := Aside0.mk (blk_below B17.out hb)
    have OX := Aside0.mk (Kd.R_below OX.out hb)
    have YX := Aside0.mk (And.intro YX.out.1 (Kd.C_below YX.out.2 hb))
    have Q13 := Aside0.mk (Q13.out.trans (hb.mono Q13.out.size))
    clear hb HC Y9
    have kX := (blk_cell BX.out 0).trans rfl
    have k17 := (blk_cell B17.out 0).trans rfl
    have HC := Lib.hid (c_rSameP ol ol A17 Ax c17 cx w16 YX.out.2 YX.out.1 XX.out.2 XX.out.1)
    rw [sameP_refl] at HC
    go_wp2_with fail
    refine HC.out.mono ?_
    rintro en w17 ⟨rfl, hb⟩
    clear kX k17
    have B17 := Aside0.mk (blk_below B17.out hb)
    have OX := Aside0.mk (Kd.R_below OX.out hb)
    have Q13 := Aside0.mk (Q13.out.trans (hb.mono Q13.out.size))
    clear hb HC YX XX X8 X9 BX Q B BO O
    obtain ⟨mm, hmm⟩ := bound_defs ol
    have hvg := vg_def hmm OX.out
    have k17 := (blk_cell B17.out 0).trans rfl
    have HC := Lib.hid (c_spoilt w12.heap.size w17.heap.size mm _ w17 hvg Q13.out.size (Nat.le_refl _))
    clear hvg hmm OX
    go_wp2_with fail
    clear k17
    refine HC.out.mono ?_
    rintro en w18 ⟨rfl, hsp⟩
    have hb := Q13.out.trans hsp.1
    have Q := Aside0.mk (Q12.out.trans (hb.mono Q12.out.size))
    have B := Aside0.mk (blk_below B12.out hb)
    have BO := Aside0.mk (blk_below BO12.out hb)
    have O := Aside0.mk (Kd.C_below O12.out hb)
    clear hb hsp HC Q13 Q12 B12 BO12 O12
    have kP := (blk_cell B.out 0).trans rfl
    have kO := (blk_cell BO.out 0).trans rfl
    have HC := Lib.hid (c_rSameP defs defs Ao A co c w18 O.out hco (Kd.C_below HR.out Q.out) hc)
    rw [sameP_refl] at HC
    go_wp2_with fail
    clear kP kO
    refine HC.out.mono ?_
    rintro en w19 ⟨rfl, hb⟩
    have Q := Aside0.mk (Q.out.trans (hb.mono Q.out.size))
    clear hb HC
    go_wp2_with fail
    refine (c_awake _).mono ?_
    rintro en w20 ⟨rfl, hb⟩
    go_wp2
    go_ret
    exact ⟨rfl, Q.out.trans (hb.mono Q.out.size)⟩
end Go.Proofs.YtacefdkfbpgedaaGreat.Mine
