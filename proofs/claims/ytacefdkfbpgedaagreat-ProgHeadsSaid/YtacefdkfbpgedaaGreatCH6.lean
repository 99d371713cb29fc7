/- Expressions that are made: OwnExpr of both sides. -/
import Derived.Test.YtacefdkfbpgedaaGreatCH4
import Derived.Deep.RegionLaw
import Derived.Laws.CopyRow
import Derived.Laws.MakeOwn
import Derived.Deep.RegionHeld3
import Derived.Test.YtacefdkfbpgedaaGreatCH5
import Derived.Test.YtacefdkfbpgedaaGreatCH3
namespace Go.Proofs.YtacefdkfbpgedaaGreat.Mine
open Go.Proofs.YtacefdkfbpgedaaGreat.PProgSmall
open Go.RowKit Go.Shelf Go.Proofs.YtacefdkfbpgedaaGreatW.PrintWords Go.Proofs.YtacefdkfbpgedaaGreatW.PrintLast Go.Proofs.YtacefdkfbpgedaaGreatW.PrintMore
set_option linter.unusedVariables false
set_option linter.unusedSimpArgs false
theorem szL_len : ∀ l : List Ex, l.length ≤ szL l
  | [] => by simp [szL]
  | x :: xs => by have := szL_len xs; have := szE_pos x; simp only [szL, List.length_cons]; omega
abbrev OwnE (W : World) (base : Nat) (v : Value) (l : List Ex) : Prop := Kd.R k57 57 W base (fun _ => True) v l
theorem OwnE.lower {W : World} {base b : Nat} {v : Value} {l : List Ex} (h : OwnE W base v l) (hb : b ≤ base) : OwnE W b v l := Kd.R_lower h hb
theorem OwnE.set {W : World} {base : Nat} {v : Value} {l : List Ex} (h : OwnE W base v l) {g : Nat} (hg : g < base) (j : Nat) (u : Value) : OwnE (W.setCell ⟨g, j, none⟩ u) base v l :=
  Kd.R_mono (Kd.R_far (Kd.R_mono (Kd.R_bound h) (ok' := fun k => base ≤ k) (fun k hk => hk.2.1)) (p := ⟨g, j, none⟩) (fun k hk => by have : base ≤ k := hk; simp only [ne_eq]; omega) u) (fun _ _ => trivial)
end Go.Proofs.YtacefdkfbpgedaaGreat.Mine
namespace Go.Proofs.YtacefdkfbpgedaaGreat.Mine
open Go.Proofs.YtacefdkfbpgedaaGreat.PProgSmall
open Go.RowKit Go.Shelf Go.Proofs.YtacefdkfbpgedaaGreatW.PrintWords Go.Proofs.YtacefdkfbpgedaaGreatW.PrintLast Go.Proofs.YtacefdkfbpgedaaGreatW.PrintMore
set_option linter.unusedVariables false
set_option linter.unusedSimpArgs false
theorem run_copy_sz {P : Program} (w : World) (dT sT ty elem : TypeId) (g n dCap c size : Nat) (A : Option Addr) (cur : Array Value) (t : TypeId) (cs : List Value)
    (hu : P.underlying dT = some (.slice elem)) (hs : (P.info? elem).map (·.size) = some size) (hg : w.heap[g]? = some (.cells cur t (0, 0))) (hn : cs.length = n * size)
    (hsrc : 0 < cs.length → ∃ ad, A = some ad ∧ ∀ j v, cs[j]? = some v → w.cell? (ad.add j) = some v) (hfit : cs.length = cur.size) (h1 : ∀ v ∈ cs, v.oneCell' = true) :
    (Builtin.copy_ #[dT, sT] ty #[.slice (some ⟨g, 0, none⟩) n dCap, .slice A n c]).run P w = .ok (goInt n) (w.setRow g cs.toArray) := by
  cases hq : P.info? elem with
  | none => simp [hq] at hs
  | some i =>
    have hi : i.size = size := by simpa [hq] using hs
    have hst := run_storeCells_at P g 0 t cs 0 cur w hg (by simp [hfit]) h1
    have hsz : cur.toList.length = cs.length := by simp [hfit]
    simp only [Nat.zero_add, List.take_zero, List.nil_append, List.drop_of_length_le (Nat.le_of_eq hsz), List.append_nil] at hst
    cases A with
    | none =>
      have h0 : cs = [] := by
        cases cs with
        | nil => rfl
        | cons x xs => obtain ⟨ad, h, _⟩ := hsrc (by simp); cases h
      subst h0
      simp [Builtin.copy_, run_underlying hu, Builtin.lenOf, Builtin.firstCells, sizeOf, typeInfo, hq, hi, hst]
    | some a =>
      have hl : (loadCells a (n * size)).run P w = .ok cs.toArray w := by
        rw [← hn]
        refine run_loadCells_list (P := P) w a cs (fun j v hv => ?_)
        obtain ⟨ad, h, hc⟩ := hsrc (by have := (List.getElem?_eq_some_iff.1 hv).1; omega)
        cases h
        exact hc j v hv
      simp [Builtin.copy_, run_underlying hu, Builtin.lenOf, Builtin.firstCells, sizeOf, typeInfo, hq, hi, hl, hst]
theorem wpList_copy_sz {P : Program} {w : World} {ops : Array Oper} {rest : List Oper} {o : Oper} {a : Act} {Q : Exit → Act → World → Prop} (hgd : o.guard = none) (d s : Operand) (dT sT : TypeId)
    (ho : o.op = .call { callee := .builtin .copy, args := #[d, s], argTypes := #[dT, sT] }) (elem : TypeId) (g n dCap c size : Nat) (A : Option Addr) (cur : Array Value) (t : TypeId) (cs : List Value)
    (hd : a.eval d = .slice (some ⟨g, 0, none⟩) n dCap) (hs0 : a.eval s = .slice A n c)
    (hu : P.underlying dT = some (.slice elem)) (hs : (P.info? elem).map (·.size) = some size) (hg : w.heap[g]? = some (.cells cur t (0, 0))) (hn : cs.length = n * size)
    (hsrc : 0 < cs.length → ∃ ad, A = some ad ∧ ∀ j v, cs[j]? = some v → w.cell? (ad.add j) = some v) (hfit : cs.length = cur.size) (h1 : ∀ v ∈ cs, v.oneCell' = true)
    (h : wpList P ops Q rest (a.put o.dst (goInt n)) (w.setRow g cs.toArray)) : wpList P ops Q (o :: rest) a w := by
  refine wpList_plain hgd fun K hK => ?_
  have hrun := run_copy_sz (P := P) w dT sT o.type elem g n dCap c size A cur t cs hu hs hg hn hsrc hfit h1
  unfold Oper.wp
  simp [execOp, ho, resolve, invoke, builtin, hd, hs0, hrun, Result.andThen]
  exact hK _ _ h
def PartE (w0 W : World) (base : Nat) (xs : List Ex) (kk : Nat) (cur : Array Value) : Prop :=
  cur.size = xs.length * 3 ∧ ∀ j (h : j < xs.length), ∃ v, cur[j * 3]? = some (.int .i64 xs[j].f0) ∧ cur[j * 3 + 1]? = some (.string xs[j].f1) ∧ cur[j * 3 + 2]? = some v ∧
    if j < kk then OwnE W base v xs[j].f2 else ∃ A c, v = .slice A xs[j].f2.length c ∧ xs[j].f2.length ≤ c ∧ Kd.C k57 w0 A xs[j].f2.length xs[j].f2
theorem PartE.below {w0 W W' : World} {base : Nat} {xs : List Ex} {kk : Nat} {cur : Array Value} (h : PartE w0 W base xs kk cur) (hb : Below W.heap.size W W') : PartE w0 W' base xs kk cur := by
  refine ⟨h.1, fun j hj => ?_⟩
  obtain ⟨v, h0, h1, h2, h3⟩ := h.2 j hj
  refine ⟨v, h0, h1, h2, ?_⟩
  split
  · next hl => rw [if_pos hl] at h3; exact Kd.R_below h3 hb
  · next hl => rw [if_neg hl] at h3; exact h3
theorem PartE.get {w0 W : World} {base : Nat} {xs : List Ex} {kk : Nat} {cur : Array Value} (h : PartE w0 W base xs kk cur) (hb : Below w0.heap.size w0 W) (j : Nat) (hj : j < xs.length) : ∃ A c, cur[j * 3]? = some (.int .i64 xs[j].f0) ∧ cur[j * 3 + 1]? = some (.string xs[j].f1) ∧ cur[j * 3 + 2]? = some (.slice A xs[j].f2.length c) ∧ xs[j].f2.length ≤ c ∧ Kd.C k57 W A xs[j].f2.length xs[j].f2 := by
  obtain ⟨v, h0, h1, h2, h3⟩ := h.2 j hj
  split at h3
  · obtain ⟨A, c, rfl, hc, hr⟩ := Kd.R_reads h3; exact ⟨A, c, h0, h1, h2, hc, hr⟩
  · obtain ⟨A, c, rfl, hc, hr⟩ := h3; exact ⟨A, c, h0, h1, h2, hc, Kd.C_below hr hb⟩
theorem cells_of_C {W : World} {A : Option Addr} {xs : List Ex} (h : Kd.C k57 W A xs.length xs) (base : Nat) : ∃ cs : List Value, cs.length = xs.length * 3 ∧ (0 < cs.length → ∃ ad, A = some ad ∧ ∀ j v, cs[j]? = some v → W.cell? (ad.add j) = some v) ∧ (∀ v ∈ cs, v.oneCell' = true) ∧ PartE W W base xs 0 cs.toArray := by
  by_cases h0 : xs = []
  · subst h0
    exact ⟨[], rfl, fun h => by simp at h, fun v h => by simp at h, rfl, fun j h => by simp at h⟩
  have hpos : 0 < xs.length := List.length_pos_iff.2 h0
  obtain ⟨ad, c, rfl, _⟩ := cget h 0 hpos
  have key : ∀ i (hi : i < xs.length), ∃ A2 a2, W.cell? (ad.add (i * 3)) = some (.int .i64 xs[i].f0) ∧ W.cell? (ad.add (i * 3 + 1)) = some (.string xs[i].f1) ∧ W.cell? (ad.add (i * 3 + 2)) = some (.slice A2 xs[i].f2.length a2) ∧ xs[i].f2.length ≤ a2 ∧ Kd.C k57 W A2 xs[i].f2.length xs[i].f2 := by
    intro i hi
    obtain ⟨ad', cs, he, hl, hK, hc⟩ := cget h i hi
    cases he
    obtain ⟨A2, a2, rfl, hl2, hr2⟩ := k57_open hK
    exact ⟨A2, a2, hc 0 _ rfl, hc 1 _ rfl, hc 2 _ rfl, hl2, hr2⟩
  have at_ : ∀ j, j < xs.length * 3 → ∃ u, W.cell? (ad.add j) = some u ∧ u.oneCell' = true := by
    intro j hj
    have h3 : j / 3 < xs.length := by omega
    obtain ⟨A2, a2, k0, k1, k2, _⟩ := key (j / 3) h3
    have hm : j = j / 3 * 3 ∨ j = j / 3 * 3 + 1 ∨ j = j / 3 * 3 + 2 := by omega
    rcases hm with hm | hm | hm
    · rw [← hm] at k0; exact ⟨_, k0, rfl⟩
    · rw [← hm] at k1; exact ⟨_, k1, rfl⟩
    · rw [← hm] at k2; exact ⟨_, k2, rfl⟩
  have get : ∀ j, j < xs.length * 3 → ((List.range (xs.length * 3)).map (fun j => (W.cell? (ad.add j)).getD undef))[j]? = W.cell? (ad.add j) := by
    intro j hj
    obtain ⟨u, hu, _⟩ := at_ j hj
    rw [List.getElem?_map, List.getElem?_range hj]
    simp [hu]
  refine ⟨(List.range (xs.length * 3)).map (fun j => (W.cell? (ad.add j)).getD undef), by simp, fun _ => ⟨ad, rfl, fun j v hv => ?_⟩, fun v hv => ?_, by simp, fun j hj => ?_⟩
  · have hj : j < xs.length * 3 := by have := (List.getElem?_eq_some_iff.1 hv).1; simpa using this
    rw [get j hj] at hv; exact hv
  · obtain ⟨j, hj, rfl⟩ := List.mem_map.1 hv
    obtain ⟨u, hu, h1⟩ := at_ j (List.mem_range.1 hj)
    rw [hu]; exact h1
  · obtain ⟨A2, a2, k0, k1, k2, hl, hr⟩ := key j hj
    simp only [List.getElem?_toArray]
    exact ⟨_, (get _ (by omega)).trans k0, (get _ (by omega)).trans k1, (get _ (by omega)).trans k2, by rw [if_neg (Nat.not_lt_zero _)]; exact ⟨A2, a2, rfl, hl, hr⟩⟩
theorem PartE.step {w0 W : World} {base : Nat} {xs : List Ex} {kk : Nat} {cur : Array Value} (h : PartE w0 W base xs kk cur) (hk : kk < xs.length) {v : Value} (hv : OwnE W base v xs[kk].f2) : PartE w0 W base xs (kk + 1) (((cur.setIfInBounds (kk * 3) (.int .i64 xs[kk].f0)).setIfInBounds (kk * 3 + 1) (.string xs[kk].f1)).setIfInBounds (kk * 3 + 2) v) := by
  refine ⟨by simp [h.1], fun j hj => ?_⟩
  have hsz := h.1
  by_cases hjk : j = kk
  · subst hjk
    refine ⟨v, ?_, ?_, ?_, by rw [if_pos (by omega)]; exact hv⟩
    · rw [Array.getElem?_setIfInBounds, if_neg (by omega), Array.getElem?_setIfInBounds, if_neg (by omega), Array.getElem?_setIfInBounds, if_pos rfl, if_pos (by omega)]
    · rw [Array.getElem?_setIfInBounds, if_neg (by omega), Array.getElem?_setIfInBounds, if_pos rfl, if_pos (by simp; omega)]
    · rw [Array.getElem?_setIfInBounds, if_pos rfl, if_pos (by simp; omega)]
  · obtain ⟨u, h0, h1, h2, h3⟩ := h.2 j hj
    refine ⟨u, ?_, ?_, ?_, ?_⟩
    · rw [Array.getElem?_setIfInBounds, if_neg (by omega), Array.getElem?_setIfInBounds, if_neg (by omega), Array.getElem?_setIfInBounds, if_neg (by omega)]; exact h0
    · rw [Array.getElem?_setIfInBounds, if_neg (by omega), Array.getElem?_setIfInBounds, if_neg (by omega), Array.getElem?_setIfInBounds, if_neg (by omega)]; exact h1
    · rw [Array.getElem?_setIfInBounds, if_neg (by omega), Array.getElem?_setIfInBounds, if_neg (by omega), Array.getElem?_setIfInBounds, if_neg (by omega)]; exact h2
    · by_cases hl : j < kk
      · rw [if_pos hl] at h3; rw [if_pos (by omega)]; exact h3
      · rw [if_neg hl] at h3; rw [if_neg (by omega)]; exact h3
theorem PartE.done {w0 W : World} {base g : Nat} {xs : List Ex} {cur : Array Value} (h : PartE w0 W (g + 1) xs xs.length cur) (hg : W.heap[g]? = some (.cells cur 57 (0, 0))) (hb : base ≤ g) (hm : xs.length ≤ 1000000) : OwnE W base (.slice (some ⟨g, 0, none⟩) xs.length xs.length) xs := by
  have hsz : cur.size = xs.length * k57.sz := h.1
  refine ⟨fun _ _ => trivial, cur.toList, ⟨by simpa using hsz, .inr ⟨g, xs.length, cur, rfl, hb, hg, Nat.le_refl _, by simp [maxLen]; omega, hsz, ?_⟩⟩, ⟨by simpa using hsz, fun j p hj => ?_⟩⟩
  · rw [← hsz]; exact List.take_of_length_le (by simp)
  · obtain ⟨hjl, rfl⟩ := List.getElem?_eq_some_iff.1 hj
    obtain ⟨v, h0, h1, h2, h3⟩ := h.2 j hjl
    rw [if_pos hjl] at h3
    have hM := k57_mkM W base (fun k => True ∧ some k ≠ (Value.slice (some ⟨g, 0, none⟩) xs.length xs.length).ownBlock) xs[j] (Kd.R_lower (Kd.R_mono (Kd.R_bound h3) (fun k hk => ⟨trivial, fun he => by have h5 := hk.2.1; simp only [Value.ownBlock, Option.some.injEq] at he; omega⟩)) (by omega))
    have : (cur.toList.drop (j * 3)).take 3 = [.int .i64 xs[j].f0, .string xs[j].f1, v] := by
      apply List.ext_getElem?
      intro i
      match i with
      | 0 => simpa [List.getElem?_take, List.getElem?_drop] using h0
      | 1 => simpa [List.getElem?_take, List.getElem?_drop] using h1
      | 2 => simpa [List.getElem?_take, List.getElem?_drop] using h2
      | i + 3 => simp [List.getElem?_take]; omega
    rw [show k57.sz = 3 from rfl, this]
    exact hM
theorem PartE.set {w0 W : World} {base g j : Nat} {u : Value} {xs : List Ex} {kk : Nat} {cur : Array Value} (h : PartE w0 W base xs kk cur) (hg : g < base) : PartE w0 (W.setCell ⟨g, j, none⟩ u) base xs kk cur := by
  refine ⟨h.1, fun i hi => ?_⟩
  obtain ⟨v, h0, h1, h2, h3⟩ := h.2 i hi
  refine ⟨v, h0, h1, h2, ?_⟩
  split
  · next hl => rw [if_pos hl] at h3; exact OwnE.set h3 hg _ _
  · next hl => rw [if_neg hl] at h3; exact h3
theorem PartE.world {w0 W W' : World} {base : Nat} {xs : List Ex} {cur : Array Value} (h : PartE w0 W base xs 0 cur) : PartE w0 W' base xs 0 cur :=
  ⟨h.1, fun i hi => by obtain ⟨v, h0, h1, h2, h3⟩ := h.2 i hi; exact ⟨v, h0, h1, h2, by rw [if_neg (Nat.not_lt_zero _)] at h3 ⊢; exact h3⟩⟩
set_option maxRecDepth 100000 in
set_option maxHeartbeats 4000000 in
theorem c_ownExpr (n : Nat) : ∀ (e : Ex) (A : Option Addr) (c : Nat) (w : World), szE e ≤ n → szE e ≤ 1000000 → Kd.C k57 w A e.f2.length e.f2 → e.f2.length ≤ c →
    Calls Tryz.prog 124 #[.agg #[.int .i64 e.f0, .string e.f1, .slice A e.f2.length c]] w fun en w' => ∃ v, en = .returned (.agg #[.int .i64 e.f0, .string e.f1, v]) ∧ OwnE w' w.heap.size v e.f2 ∧ Below w.heap.size w w' := by
  induction n with
  | zero => intro e A c w h; exact absurd h (by have := szE_pos e; omega)
  | succ n ih =>
    intro e A c w hn hn2 hr hc
    have hm := hr.2.1
    have hsz := szE_eq e
    have h1 : szL e.f2 ≤ n := by omega
    have h2 : szL e.f2 ≤ 1000000 := by omega
    have h3 := szL_len e.f2
    obtain ⟨cs, hcl, hcs, hc1, hP⟩ := cells_of_C hr (w.heap.size + 1 + 1 + 1)
    obtain ⟨i0, hi0, hzz⟩ := Option.map_eq_some_iff.1 infoEx
    simp only [Prod.mk.injEq] at hzz
    have hmk := fun (W : World) => run_make W 55 57 i0 _ Tryz.underlying55 hi0 hzz.1 .i64 .i64 (e.f2.length : Int) (e.f2.length : Int) (by omega) (by omega) (by rw [hzz.2.2]; omega) (by omega)
    simp only [Int.toNat_natCast, hzz.2.1] at hmk
    obtain ⟨W1, hW1⟩ : ∃ W1, ((w.alloc (.cells #[.int .i64 e.f0, .string e.f1, .slice A e.f2.length c] 57)).alloc (.cells #[.int .i64 0, .string ⟨#[]⟩, .slice none 0 0] 57)) = W1 := ⟨_, rfl⟩
    have z1 : W1.heap.size = w.heap.size + 1 + 1 := by rw [← hW1]; simp
    have q1 : Below w.heap.size w W1 := by rw [← hW1]; exact below_alloc2 _ _ _
    have b0 : W1.heap[w.heap.size]? = some (.cells #[.int .i64 e.f0, .string e.f1, .slice A e.f2.length c] 57 (0, 0)) := by rw [← hW1]; exact blk_alloc (alloc_at _ _) _
    have b1 : W1.heap[w.heap.size + 1]? = some (.cells #[.int .i64 0, .string ⟨#[]⟩, .slice none 0 0] 57 (0, 0)) := by rw [← hW1]; have := alloc_at (w.alloc (.cells #[.int .i64 e.f0, .string e.f1, .slice A e.f2.length c] 57)) (.cells #[.int .i64 0, .string ⟨#[]⟩, .slice none 0 0] 57); simpa using this
    have hzc : (Value.agg #[.int .i64 0, .string ⟨#[]⟩, .slice none 0 0]).cells.size = 3 := rfl
    obtain ⟨mk, hmkd⟩ : ∃ mk, madeCells (Value.agg #[.int .i64 0, .string ⟨#[]⟩, .slice none 0 0]).cells (e.f2.length * 3) = mk := ⟨_, rfl⟩
    have hmks : mk.size = e.f2.length * 3 := by rw [← hmkd]; exact size_madeCells _ _
    rw [hmkd] at hmk
    have HQ := Aside0.mk q1
    have B0 := Aside0.mk b0
    have B1 := Aside0.mk b1
    have HW1 := Aside0.mk hW1
    have HZ1 := Aside0.mk z1
    have HCS := Aside0.mk hcs
    have HC1 := Aside0.mk hc1
    have HP := Aside0.mk hP
    have HR := Aside0.mk hr
    clear hn hn2 hsz hzz hi0 hmkd hzc hr hcs hc1 hP b0 b1 q1 z1 hW1
    have hsi : (Tryz.prog.info? 57).map (·.size) = some 3 := by kernel_rfl
    have hg1 : (((w.alloc (.cells #[.int .i64 e.f0, .string e.f1, .slice A e.f2.length c] 57)).alloc (.cells #[.int .i64 0, .string ⟨#[]⟩, .slice none 0 0] 57)).alloc (.cells mk 57)).heap[w.heap.size + 1 + 1]? = some (.cells mk 57 (0, 0)) := by rw [HW1.out, ← HZ1.out]; exact alloc_at _ _
    have hq1 : Below w.heap.size w (((w.alloc (.cells #[.int .i64 e.f0, .string e.f1, .slice A e.f2.length c] 57)).alloc (.cells #[.int .i64 0, .string ⟨#[]⟩, .slice none 0 0] 57)).alloc (.cells mk 57)) := by rw [HW1.out]; exact HQ.out.trans ((below_alloc1 _ _).mono HQ.out.size)
    have HG1 := Aside0.mk hg1
    have HQ1 := Aside0.mk hq1
    clear hg1 hq1
    go_enter Tryz.func124, Tryz.ntmps124
    go_wp2_with (refine wpList_copy_sz rfl (.tmp 9) (.tmp 11) 55 55 rfl 57 (w.heap.size + 1 + 1) e.f2.length e.f2.length c 3 A mk 57 cs rfl rfl Tryz.underlying55 hsi HG1.out hcl (fun hp => by obtain ⟨ad, ha, hc⟩ := HCS.out hp; exact ⟨ad, ha, fun j v hv => pw_cell_below HQ1.out (hc j v hv)⟩) (hcl.trans hmks.symm) HC1.out ?_)
    obtain ⟨W2, hW2⟩ : ∃ W2, (((w.alloc (.cells #[.int .i64 e.f0, .string e.f1, .slice A e.f2.length c] 57)).alloc (.cells #[.int .i64 0, .string ⟨#[]⟩, .slice none 0 0] 57)).alloc (.cells mk 57)).setRow (w.heap.size + 1 + 1) cs.toArray = W2 := ⟨_, rfl⟩
    have g2 : W2.heap[w.heap.size + 1 + 1]? = some (.cells cs.toArray 57 (0, 0)) := by rw [← hW2]; exact setRow_heap _ _ _ _ _ _ HG1.out
    have c2 : W2.heap[w.heap.size]? = some (.cells #[.int .i64 e.f0, .string e.f1, .slice A e.f2.length c] 57 (0, 0)) := by rw [← hW2, setRow_other _ _ _ _ (by omega), HW1.out]; exact blk_alloc B0.out _
    have d2 : W2.heap[w.heap.size + 1]? = some (.cells #[.int .i64 0, .string ⟨#[]⟩, .slice none 0 0] 57 (0, 0)) := by rw [← hW2, setRow_other _ _ _ _ (by omega), HW1.out]; exact blk_alloc B1.out _
    have q2 : Below w.heap.size w W2 := by rw [← hW2]; exact HQ1.out.trans ⟨rfl, rfl, rfl, by simp [World.setRow], fun k hk => setRow_other _ _ _ _ (by omega)⟩
    have z2 : w.heap.size + 1 + 1 < W2.heap.size := blk_lt g2
    rw [hW2]
    have G2 := Aside0.mk g2
    have C2 := Aside0.mk c2
    have D2 := Aside0.mk d2
    have Q2 := Aside0.mk q2
    clear g2 c2 d2 q2 hW2 HG1 HQ1 HW1 HZ1 B0 B1 HQ hmk
    go_loopg [15] e.f2.length (fun gg s14 wr => ∃ (kk : Nat) (cur : Array Value), kk ≤ e.f2.length ∧ e.f2.length - kk ≤ gg ∧ s14 = .int .i64 kk ∧ Aside0 (PartE w wr (w.heap.size + 1 + 1 + 1) e.f2 kk cur) ∧ Aside0 (Below w.heap.size w wr) ∧ Aside0 (wr.heap[w.heap.size + 1 + 1]? = some (.cells cur 57 (0, 0))) ∧ Aside0 (wr.heap[w.heap.size]? = some (.cells #[.int .i64 e.f0, .string e.f1, .slice A e.f2.length c] 57 (0, 0))) ∧ Aside0 (wr.heap[w.heap.size + 1]? = some (.cells #[.int .i64 0, .string ⟨#[]⟩, .slice none 0 0] 57 (0, 0))))
    case atStart => exact ⟨0, _, Nat.zero_le _, by omega, rfl, ⟨HP.out.world⟩, Q2, G2, C2, D2⟩
    case round =>
      obtain ⟨kk, cur, hkk, hg, rfl, HP, HB, GB, CB, DB⟩ := hrel
      by_cases hlt : kk < e.f2.length
      · have hltz : (kk : Int) < (e.f2.length : Int) := by omega
        obtain ⟨A2, a2, u0, u1, u2, hl2, hi2⟩ := HP.out.get HB.out kk hlt
        have k0 := (blk_cell GB.out (kk * 3)).trans u0
        have k1 := (blk_cell GB.out (kk * 3 + 1)).trans u1
        have k2 := (blk_cell GB.out (kk * 3 + 2)).trans u2
        have hmem : e.f2[kk] ∈ e.f2 := List.getElem_mem hlt
        have hle := szL_mem hmem
        have HC := Lib.hid (ih e.f2[kk] A2 a2 wr (by omega) (by omega) hi2 hl2)
        clear hi2 hl2 hmem u0 u1 u2
        have hne : some (w.heap.size + 1 + 1) ≠ none := by simp
        go_wp2_with fail
        refine HC.out.mono ?_
        rintro en w' ⟨v, rfl, hO, hb⟩
        obtain ⟨Av, cv, rfl⟩ := Kd.R_slice hO
        have gb := blk_below GB.out hb
        have HPs := HP.out.1
        have x0 : w'.cell? ⟨w.heap.size + 1 + 1, kk * 3, none⟩ = some _ := pw_cell_below hb k0
        have x1 : w'.cell? ⟨w.heap.size + 1 + 1, kk * 3 + 1, none⟩ = some _ := pw_cell_below hb k1
        have x2 : w'.cell? ⟨w.heap.size + 1 + 1, kk * 3 + 2, none⟩ = some _ := pw_cell_below hb k2
        have fg := fun i => blk_frozen gb i
        have hlw := blk_lt GB.out
        have hP2 := (HP.out.below hb).step hlt (Kd.R_lower hO (by omega))
        have HP2 := Aside0.mk hP2
        have HB2 := Aside0.mk (HB.out.trans (hb.mono HB.out.size))
        have GB2 := Aside0.mk gb
        have CB2 := Aside0.mk (blk_below CB.out hb)
        have DB2 := Aside0.mk (blk_below DB.out hb)
        clear hb hO gb hP2
        go_wp2
        go_roundg (e.f2.length - (kk + 1))
        case measure => omega
        case rel => exact ⟨kk + 1, _, by omega, by omega, by go_num, ⟨((HP2.out.set (by omega)).set (by omega)).set (by omega)⟩, ⟨((HB2.out.setCell (by simp; omega) _).setCell (by simp; omega) _).setCell (by simp; omega) _⟩, ⟨blk_put (blk_put (blk_put GB2.out _ _ rfl) _ _ rfl) _ _ rfl⟩, ⟨blk_far (blk_far (blk_far CB2.out (by simp; omega) _) (by simp; omega) _) (by simp; omega) _⟩, ⟨blk_far (blk_far (blk_far DB2.out (by simp) _) (by simp) _) (by simp) _⟩⟩
      · have : kk = e.f2.length := by omega
        subst this
        have c0 := (blk_cell CB.out 0).trans rfl
        have c1 := (blk_cell CB.out 1).trans rfl
        have c2 := (blk_cell CB.out 2).trans rfl
        have fc := fun i => blk_frozen CB.out i
        have d0 := (blk_cell DB.out 0).trans rfl
        have d1 := (blk_cell DB.out 1).trans rfl
        have d2 := (blk_cell DB.out 2).trans rfl
        have fd := fun i => blk_frozen DB.out i
        go_wp2
        have hO := PartE.done (base := w.heap.size + 1 + 1) HP.out GB.out (Nat.le_refl _) (by omega)
        have b4 := blk_put (blk_put (blk_put (blk_far DB.out (p := ⟨w.heap.size, 2, none⟩) (by simp) (.slice (some ⟨w.heap.size + 1 + 1, 0, none⟩) e.f2.length e.f2.length)) 0 (.int .i64 e.f0) rfl) 1 (.string e.f1) rfl) 2 (.slice (some ⟨w.heap.size + 1 + 1, 0, none⟩) e.f2.length e.f2.length) rfl
        refine bodyPost_ret (results_single rfl (.cell _ _ _ _ _ rfl b4 Tryz.underlying57 rfl rfl .nil)) rfl ?_
        exact ⟨_, rfl, Kd.R_lower (OwnE.set (OwnE.set (OwnE.set (OwnE.set hO (by omega) _ _) (by omega) _ _) (by omega) _ _) (by omega) _ _) (by omega), (((HB.out.setCell (by simp) _).setCell (by simp) _).setCell (by simp) _).setCell (by simp) _⟩
end Go.Proofs.YtacefdkfbpgedaaGreat.Mine
namespace Go.Proofs.YtacefdkfbpgedaaGreat.Mine
open Go.Proofs.YtacefdkfbpgedaaGreat.PProgSmall
open Go.RowKit Go.Shelf Go.Proofs.YtacefdkfbpgedaaGreatW.PrintWords Go.Proofs.YtacefdkfbpgedaaGreatW.PrintLast Go.Proofs.YtacefdkfbpgedaaGreatW.PrintMore
set_option linter.unusedVariables false
set_option linter.unusedSimpArgs false
def pickE (vars : List ByteArray) (bys : List Ex) (s : ByteArray) : Ex := bys.getD (vars.findIdx fun x => decide (x = s)) z57
def isV (vars : List ByteArray) (k : Int) (s : ByteArray) : Bool := decide (k = 1) && vars.any fun x => decide (x = s)
mutual
/-- The same, with a size that is counted on, and nothing more put when it is above 24. -/
def subE (vars : List ByteArray) (bys : List Ex) : Ex → Nat → Ex × Nat
  | ⟨k, s, l⟩, n => if isV vars k s then (pickE vars bys s, n + szE (pickE vars bys s)) else (⟨k, s, (subL vars bys l (n + 1)).1⟩, (subL vars bys l (n + 1)).2)
def subL (vars : List ByteArray) (bys : List Ex) : List Ex → Nat → List Ex × Nat
  | [], n => ([], n)
  | x :: xs, n => if n ≤ 24 then ((subE vars bys x n).1 :: (subL vars bys xs (subE vars bys x n).2).1, (subL vars bys xs (subE vars bys x n).2).2) else subL vars bys xs n
end
section
variable {vars : List ByteArray} {bys : List Ex}
theorem subE_eq (e : Ex) (n : Nat) : subE vars bys e n = if isV vars e.f0 e.f1 then (pickE vars bys e.f1, n + szE (pickE vars bys e.f1)) else (⟨e.f0, e.f1, (subL vars bys e.f2 (n + 1)).1⟩, (subL vars bys e.f2 (n + 1)).2) := by cases e; simp [subE]
theorem subL_big (l : List Ex) (n : Nat) (h : ¬ n ≤ 24) : subL vars bys l n = ([], n) := by
  induction l with
  | nil => simp [subL]
  | cons x xs ih => rw [subL, if_neg h, ih]
theorem subL_yes (x : Ex) (xs : List Ex) (n : Nat) (h : n ≤ 24) : subL vars bys (x :: xs) n = ((subE vars bys x n).1 :: (subL vars bys xs (subE vars bys x n).2).1, (subL vars bys xs (subE vars bys x n).2).2) := by rw [subL, if_pos h]
theorem subL_snoc (l : List Ex) (x : Ex) : ∀ n, (subL vars bys l n).2 ≤ 24 → subL vars bys (l ++ [x]) n = ((subL vars bys l n).1 ++ [(subE vars bys x (subL vars bys l n).2).1], (subE vars bys x (subL vars bys l n).2).2) := by
  induction l with
  | nil => intro n h; rw [subL] at h; simp only [List.nil_append]; rw [subL_yes _ _ _ h, subL, subL]; rfl
  | cons y ys ih =>
    intro n h
    by_cases hn : n ≤ 24
    · rw [subL_yes _ _ _ hn] at h
      rw [List.cons_append, subL_yes _ _ _ hn, ih _ h, subL_yes _ _ _ hn]
      rfl
    · rw [subL_big _ _ hn] at h; exact absurd h hn
theorem subL_snoc' (l : List Ex) (x : Ex) : ∀ n, ¬ (subL vars bys l n).2 ≤ 24 → subL vars bys (l ++ [x]) n = subL vars bys l n := by
  induction l with
  | nil => intro n h; rw [subL] at h; simp only [List.nil_append]; rw [subL_big _ _ h, subL]
  | cons y ys ih =>
    intro n h
    by_cases hn : n ≤ 24
    · rw [subL_yes _ _ _ hn] at h
      rw [List.cons_append, subL_yes _ _ _ hn, ih _ h, subL_yes _ _ _ hn]
    · rw [subL_big _ _ hn, subL_big _ _ hn]
theorem subL_len (l : List Ex) : ∀ n, (subL vars bys l n).1.length ≤ l.length := by
  induction l with
  | nil => intro n; simp [subL]
  | cons y ys ih =>
    intro n
    by_cases hn : n ≤ 24
    · rw [subL_yes _ _ _ hn]; have := ih (subE vars bys y n).2; simp only [List.length_cons]; omega
    · rw [subL_big _ _ hn]; simp
end
theorem idxB_getD {vars : List ByteArray} {s : ByteArray} (h : vars.any (fun x => decide (x = s)) = true) : idxB (fun x => decide (x = s)) vars = ((vars.findIdx fun x => decide (x = s) : Nat) : Int) ∧ (vars.findIdx fun x => decide (x = s)) < vars.length := by
  refine ⟨by rw [idxB, if_pos h], ?_⟩
  rw [List.findIdx_lt_length]
  simpa using h
structure PutBox (Bv Bs Bb Bp : Nat) (Av : Option Addr) (nv cv : Nat) (Ab : Option Addr) (nb cb : Nat) (s : Nat) (W : World) : Prop where
  v : W.heap[Bv]? = some (.cells #[.slice Av nv cv] 30 (0, 0))
  s : W.heap[Bs]? = some (.cells #[.int .i64 (s : Int)] 3 (0, 0))
  b : W.heap[Bb]? = some (.cells #[.slice Ab nb cb] 55 (0, 0))
  p : W.heap[Bp]? = some (.cells #[.func (.func 122) #[] #[.pointer (some ⟨Bv, 0, none⟩), .pointer (some ⟨Bs, 0, none⟩), .pointer (some ⟨Bb, 0, none⟩), .pointer (some ⟨Bp, 0, none⟩)]] 132 (0, 0))
theorem OwnE.fr {W W' : World} {base Bs : Nat} {v : Value} {l : List Ex} (h : OwnE W base v l) (hf : Fr (fun k => k = Bs) W W') (hB : Bs < base) : OwnE W' base v l :=
  Kd.R_mono (Kd.R_step (Kd.R_mono (Kd.R_bound h) (ok' := fun k => base ≤ k) (fun k hk => hk.2.1)) (fun k hk hlt => hf.block k hlt (by have : base ≤ k := hk; omega))) (fun _ _ => trivial)
theorem PutBox.below {Bv Bs Bb Bp : Nat} {Av : Option Addr} {nv cv : Nat} {Ab : Option Addr} {nb cb s : Nat} {W W' : World} (h : PutBox Bv Bs Bb Bp Av nv cv Ab nb cb s W) (hb : Below W.heap.size W W') : PutBox Bv Bs Bb Bp Av nv cv Ab nb cb s W' :=
  ⟨blk_below h.v hb, blk_below h.s hb, blk_below h.b hb, blk_below h.p hb⟩
theorem PutBox.grown {Bv Bs Bb Bp : Nat} {Av : Option Addr} {nv cv : Nat} {Ab : Option Addr} {nb cb s : Nat} {W W' : World} {row : Option Nat} (h : PutBox Bv Bs Bb Bp Av nv cv Ab nb cb s W) (hg : W.grownBy W' row) (h1 : some Bv ≠ row) (h2 : some Bs ≠ row) (h3 : some Bb ≠ row) (h4 : some Bp ≠ row) : PutBox Bv Bs Bb Bp Av nv cv Ab nb cb s W' :=
  ⟨blk_grown h.v hg h1, blk_grown h.s hg h2, blk_grown h.b hg h3, blk_grown h.p hg h4⟩
abbrev XP (g Bv Bs Bb Bp : Nat) (k : Int) (s : ByteArray) (v : Value) (W : World) : Prop := W.cell? ⟨g, 0, none⟩ = some (.int .i64 k) ∧ W.cell? ⟨g, 1, none⟩ = some (.string s) ∧ W.cell? ⟨g, 2, none⟩ = some v ∧ W.cell? ⟨Bp, 0, none⟩ = some (.func (.func 122) #[] #[.pointer (some ⟨Bv, 0, none⟩), .pointer (some ⟨Bs, 0, none⟩), .pointer (some ⟨Bb, 0, none⟩), .pointer (some ⟨Bp, 0, none⟩)])
theorem XP.of {g Bv Bs Bb Bp : Nat} {k : Int} {s : ByteArray} {v : Value} {W : World} (h : W.heap[g]? = some (.cells #[.int .i64 k, .string s, v] 57 (0, 0))) (hp : W.heap[Bp]? = some (.cells #[.func (.func 122) #[] #[.pointer (some ⟨Bv, 0, none⟩), .pointer (some ⟨Bs, 0, none⟩), .pointer (some ⟨Bb, 0, none⟩), .pointer (some ⟨Bp, 0, none⟩)]] 132 (0, 0))) : XP g Bv Bs Bb Bp k s v W :=
  ⟨(blk_cell h 0).trans rfl, (blk_cell h 1).trans rfl, (blk_cell h 2).trans rfl, (blk_cell hp 0).trans rfl⟩
theorem PutBox.far {Bv Bs Bb Bp : Nat} {Av : Option Addr} {nv cv : Nat} {Ab : Option Addr} {nb cb s : Nat} {W : World} (h : PutBox Bv Bs Bb Bp Av nv cv Ab nb cb s W) {g : Nat} (h1 : Bv ≠ g) (h2 : Bs ≠ g) (h3 : Bb ≠ g) (h4 : Bp ≠ g) (j : Nat) (u : Value) : PutBox Bv Bs Bb Bp Av nv cv Ab nb cb s (W.setCell ⟨g, j, none⟩ u) :=
  ⟨blk_far h.v h1 _, blk_far h.s h2 _, blk_far h.b h3 _, blk_far h.p h4 _⟩
theorem PutBox.put {Bv Bs Bb Bp : Nat} {Av : Option Addr} {nv cv : Nat} {Ab : Option Addr} {nb cb s : Nat} {W : World} (h : PutBox Bv Bs Bb Bp Av nv cv Ab nb cb s W) (hv : Bv ≠ Bs) (hb : Bb ≠ Bs) (hp : Bp ≠ Bs) (s' : Nat) : PutBox Bv Bs Bb Bp Av nv cv Ab nb cb s' (W.setCell ⟨Bs, 0, none⟩ (.int .i64 (s' : Int))) :=
  ⟨blk_far h.v hv _, blk_put h.s 0 _ rfl, blk_far h.b hb _, blk_far h.p hp _⟩
theorem C_int1 (W : World) (x : Int) (t : Nat) : Kd.C (Kd.int .i64) (W.alloc (.cells #[.int .i64 x] t)) (some ⟨W.heap.size, 0, none⟩) [x].length [x] := by
  refine ⟨rfl, by simp, fun _ => ⟨_, rfl, fun j p hj => ?_⟩⟩
  match j, hj with
  | 0, hj =>
    simp at hj; subst hj
    exact ⟨[.int .i64 x], rfl, rfl, fun i u hu => by
      match i, hu with
      | 0, hu => simp at hu; subst hu; rw [add_plain]; exact (blk_cell (alloc_at W (.cells #[.int .i64 x] t)) 0).trans rfl⟩
set_option maxRecDepth 100000 in
set_option maxHeartbeats 4000000 in
theorem c_put (vars : List ByteArray) (bys : List Ex) (Av Ab : Option Addr) (cv cb : Nat) (n0 Bv Bs Bb Bp : Nat) (w0 : World) (hn0 : n0 ≤ w0.heap.size) (hvl : vars.length ≤ cv) (hbl : bys.length ≤ cb) (hbv : bys.length = vars.length) (hBs : n0 ≤ Bs) (hvs : Bv ≠ Bs) (hbs : Bb ≠ Bs) (hps : Bp ≠ Bs)
    (hV : Kd.F Kd.string w0 (fun k => k < n0) Av vars.length vars) (hB : Kd.F k57 w0 (fun k => k < n0) Ab bys.length bys) (hbz : ∀ x ∈ bys, szE x ≤ 1000000) (n : Nat) :
    ∀ (e : Ex) (A : Option Addr) (c : Nat) (s : Nat) (w : World), szE e ≤ n → szE e ≤ 1000000 → s ≤ 24 → Below n0 w0 w → PutBox Bv Bs Bb Bp Av vars.length cv Ab bys.length cb s w → Kd.F k57 w (fun k => k < n0) A e.f2.length e.f2 → e.f2.length ≤ c →
    Calls Tryz.prog 122 #[.agg #[.int .i64 e.f0, .string e.f1, .slice A e.f2.length c], .pointer (some ⟨Bv, 0, none⟩), .pointer (some ⟨Bs, 0, none⟩), .pointer (some ⟨Bb, 0, none⟩), .pointer (some ⟨Bp, 0, none⟩)] w fun en w' =>
      ∃ v, en = .returned (.agg #[.int .i64 (subE vars bys e s).1.f0, .string (subE vars bys e s).1.f1, v]) ∧ OwnE w' w.heap.size v (subE vars bys e s).1.f2 ∧ PutBox Bv Bs Bb Bp Av vars.length cv Ab bys.length cb (subE vars bys e s).2 w' ∧ Fr (fun k => k = Bs) w w' ∧ (subE vars bys e s).2 ≤ 1000024 := by
  induction n with
  | zero => intro e A c s w h; exact absurd h (by have := szE_pos e; omega)
  | succ n ih =>
    intro e A c s w hn hn2 hs hb0 hbox hr hc
    have hm := (Kd.F_now hr).2.1
    have hsz := szE_eq e
    have h1 : szL e.f2 ≤ n := by omega
    have h2 : szL e.f2 ≤ 1000000 := by omega
    have h3 := szL_len e.f2
    have hq := subE_eq (vars := vars) (bys := bys) e s
    have lv := blk_lt hbox.v
    have ls := blk_lt hbox.s
    have lb := blk_lt hbox.b
    have lp := blk_lt hbox.p
    obtain ⟨W1, hW1⟩ : ∃ W1, ((w.alloc (.cells #[.int .i64 e.f0, .string e.f1, .slice A e.f2.length c] 57)).alloc (.cells #[.int .i64 0, .string ⟨#[]⟩, .slice none 0 0] 57)) = W1 := ⟨_, rfl⟩
    have z1 : W1.heap.size = w.heap.size + 1 + 1 := by rw [← hW1]; simp
    have q1 : Below w.heap.size w W1 := by rw [← hW1]; exact below_alloc2 _ _ _
    have b0 : W1.heap[w.heap.size]? = some (.cells #[.int .i64 e.f0, .string e.f1, .slice A e.f2.length c] 57 (0, 0)) := by rw [← hW1]; exact blk_alloc (alloc_at _ _) _
    have b1 : W1.heap[w.heap.size + 1]? = some (.cells #[.int .i64 0, .string ⟨#[]⟩, .slice none 0 0] 57 (0, 0)) := by rw [← hW1]; have := alloc_at (w.alloc (.cells #[.int .i64 e.f0, .string e.f1, .slice A e.f2.length c] 57)) (.cells #[.int .i64 0, .string ⟨#[]⟩, .slice none 0 0] 57); simpa using this
    have k0 := (blk_cell b0 0).trans rfl
    have k1 := (blk_cell b0 1).trans rfl
    have k2 := (blk_cell b0 2).trans rfl
    have kv := (blk_cell (blk_below hbox.v q1) 0).trans rfl
    have HIx := Lib.hid (fun W (hb : Below W1.heap.size W1 W) => c_IndexS Av cv vars e.f1 W (Kd.F_now (Kd.F_step hV (fun k hk hlt => ((hb0.trans ((q1.trans (hb.mono q1.size)).mono (by omega))).block k hk)))) hvl)
    have HW1 := Aside0.mk hW1
    have HB0 := Aside0.mk hb0
    have HBX := Aside0.mk hbox
    have HR := Aside0.mk hr
    have HQ := Lib.hid hq
    have BB0 := Aside0.mk b0
    have BB1 := Aside0.mk b1
    have QQ1 := Aside0.mk q1
    clear hn hn2 hsz hq hr hbox hb0 b0 b1 q1
    go_enter Tryz.func122, Tryz.ntmps122
    go_wp2_with fail
    refine (HIx.out _ (Below.refl _ _)).mono ?_
    rintro en w' ⟨rfl, hw'⟩
    rw [hw']
    clear hw' w'
    cases hv : isV vars e.f0 e.f1 with
    | true =>
      have hv2 := hv
      simp only [isV, Bool.and_eq_true, decide_eq_true_iff] at hv2
      obtain ⟨f1, hany⟩ := hv2
      obtain ⟨hix, hil⟩ := idxB_getD hany
      obtain ⟨ix, hixd⟩ : ∃ ix, (vars.findIdx fun x => decide (x = e.f1)) = ix := ⟨_, rfl⟩
      rw [hixd] at hix hil
      have hib : ix < bys.length := by omega
      have hp : pickE vars bys e.f1 = bys[ix] := by rw [pickE, hixd, List.getD_eq_getElem?_getD, List.getElem?_eq_getElem hib]; rfl
      have hk1 : (e.f0 == 1) = true := by simpa using f1
      have hge : decide (0 ≤ idxB (fun x => decide (x = e.f1)) vars) = true := by rw [hix]; simp
      have hixz : (ix : Int) < (bys.length : Int) := by omega
      have hHP := Lib.hid hp
      have hHV := Lib.hid hv
      clear hany hp hv
      rw [hix]
      rw [hix] at hge
      obtain ⟨ad, y0, y1, y2, rfl, hK, x0, x1, x2⟩ := get3 rfl (Kd.F_now (Kd.F_step hB (fun k hk hlt => ((HB0.out.trans (QQ1.out.mono (by omega))).block k hk)))) ix hib
      obtain ⟨A2, a2, rfl, rfl, rfl, hl2, hi2⟩ := kE_cells hK
      have hszb := hbz _ (List.getElem_mem hib)
      have PB := HBX.out.below QQ1.out
      have kS := (blk_cell PB.s 0).trans rfl
      have kB := (blk_cell PB.b 0).trans rfl
      have HS := Lib.hid (fun W (hb : Below W1.heap.size W1 W) => c_Size _ bys[ix] A2 a2 W (Nat.le_refl _) hszb (Kd.C_below hi2 hb) hl2)
      have HT := Lib.hid (fun W => c_total (s : Int) (some ⟨W.heap.size, 0, none⟩) 1 [(szE bys[ix] : Int)] (W.alloc (.cells #[.int .i64 (szE bys[ix] : Int)] 3)) (C_int1 W _ _) (Nat.le_refl _) (by omega) (by simp) (by simp [sumI]; omega))
      simp only [List.length_cons, List.length_nil, Nat.zero_add, sumI, List.foldl_cons, List.foldl_nil, Int.zero_add] at HT
      have HO := Lib.hid (fun W (hb : Below W1.heap.size W1 W ∨ True) (hi : Kd.C k57 W A2 bys[ix].f2.length bys[ix].f2) => c_ownExpr _ bys[ix] A2 a2 W (Nat.le_refl _) hszb hi hl2)
      have HI2 := Aside0.mk hi2
      have HPB := Aside0.mk PB
      have hd := below_drew (Below.refl W1.heap.size W1)
      clear hK hi2 hl2 PB
      go_wp2_with fail
      go_region_law (first | (go_simp; go_at_call 60; refine (HS.out _ (by first | exact hd | exact Below.refl _ _ | assumption)).mono ?_; rintro en w2 ⟨rfl, hb2⟩; have hb3 : Below W1.heap.size W1 w2 := hd.trans (hb2.mono (Nat.le_refl _)); have kS2 := pw_cell_below hb3 kS; have kS2o := fun o => pw_cell_below (below_alloc1 w2 o) kS2) | (go_simp; go_at_call 114; refine (HT.out w2).mono ?_; rintro en w3 ⟨rfl, hb4⟩; have hb5 : Below W1.heap.size W1 w3 := hb3.trans ((below_alloc1 w2 (.cells #[.int .i64 (szE bys[ix] : Int)] 3)).trans (hb4.mono (by simp)) |>.mono hb3.size); have PB3 := HPB.out.below hb5; have kS3 := (blk_cell PB3.s 0).trans rfl; have fS3 := blk_frozen PB3.s 0))
      all_goals
        have hs' : ((s : Int) + (szE bys[ix] : Int)) = ((s + szE bys[ix] : Nat) : Int) := by simp
        have hFr : Fr (fun k => k = Bs) w (w3.setCell ⟨Bs, 0, none⟩ (.int .i64 ((s : Int) + (szE bys[ix] : Int)))) := Fr.setCell (M := fun k => k = Bs) (Fr.of_below _ (QQ1.out.trans (hb5.mono QQ1.out.size))) (p := ⟨Bs, 0, none⟩) (.inl rfl) _
        have PB4 := PB3.put hvs hbs hps (s + szE bys[ix])
        have b14 := blk_far (blk_below BB1.out hb5) (p := ⟨Bs, 0, none⟩) (by simp only; omega) (.int .i64 ((s : Int) + (szE bys[ix] : Int)))
        rw [← hs'] at PB4
        obtain ⟨W4, hW4⟩ : ∃ W4, w3.setCell ⟨Bs, 0, none⟩ (.int .i64 ((s : Int) + (szE bys[ix] : Int))) = W4 := ⟨_, rfl⟩
        rw [hW4] at PB4 hFr b14 ⊢
        clear hb5 PB3 kS3 fS3 hW4 hb2 hb3 hb4 kS2 kS2o kS kB
        have hb04 : Below n0 w0 W4 := HB0.out.trans (hFr.below (by omega) (fun k hk => by omega))
        obtain ⟨ad', y0, y1, y2, he, hK, x0', x1', x2'⟩ := get3 rfl (Kd.F_now (Kd.F_step hB (fun k hk hlt => hb04.block k hk))) ix hib
        cases he
        obtain ⟨A3, a3, rfl, rfl, rfl, hl3, hi3⟩ := kE_cells hK
        have kB4 := (blk_cell PB4.b 0).trans rfl
        have HO4 := Lib.hid (c_ownExpr _ bys[ix] A3 a3 W4 (Nat.le_refl _) hszb hi3 hl3)
        have HF4 := Aside0.mk hFr
        have P4 := Aside0.mk PB4
        have B14 := Aside0.mk b14
        clear hK hi3 hl3 hFr PB4 b14 hb04 x0 x1 x2
        go_wp2_with fail
        refine HO4.out.mono ?_
        rintro en w5 ⟨v, rfl, hO5, hb5⟩
        obtain ⟨A5, c5, rfl⟩ := Kd.R_slice hO5
        have b15 := blk_below B14.out hb5
        have d0 := (blk_cell b15 0).trans rfl
        have d1 := (blk_cell b15 1).trans rfl
        have d2 := (blk_cell b15 2).trans rfl
        have fd := fun i => blk_frozen b15 i
        have hs4 := HF4.out.size
        have B15 := Aside0.mk b15
        have HO5 := Aside0.mk hO5
        have PB5 := Aside0.mk (P4.out.below hb5)
        have HF5 := Aside0.mk (HF4.out.after_below hb5)
        have hl4 := blk_lt B14.out
        clear b15 hO5 hb5
        dsimp only
        go_wp2
        have b6 := blk_put (blk_put (blk_put B15.out 0 (.int .i64 bys[ix].f0) rfl) 1 (.string bys[ix].f1) rfl) 2 (.slice A5 bys[ix].f2.length c5) rfl
        have ns : Bs ≠ w.heap.size + 1 := by omega
        have hval : subE vars bys e s = (bys[ix], s + szE bys[ix]) := by rw [HQ.out, if_pos hHV.out, hHP.out]
        have hss : ((s : Int) + (szE bys[ix] : Int)) = ((s + szE bys[ix] : Nat) : Int) := by simp
        have PB6 := PB5.out
        rw [hval]
        refine bodyPost_ret (results_single rfl (.cell _ _ _ _ _ rfl b6 Tryz.underlying57 rfl rfl .nil)) rfl ?_
        exact ⟨_, rfl, Kd.R_lower (OwnE.set (OwnE.set (OwnE.set HO5.out (by omega) _ _) (by omega) _ _) (by omega) _ _) hs4,
          ⟨blk_far (blk_far (blk_far PB6.v (by simp only; omega) _) (by simp only; omega) _) (by simp only; omega) _, blk_far (blk_far (blk_far PB6.s (by simp only; omega) _) (by simp only; omega) _) (by simp only; omega) _, blk_far (blk_far (blk_far PB6.b (by simp only; omega) _) (by simp only; omega) _) (by simp only; omega) _, blk_far (blk_far (blk_far PB6.p (by simp only; omega) _) (by simp only; omega) _) (by simp only; omega) _⟩,
          Fr.setCell (Fr.setCell (Fr.setCell HF5.out (.inr (by simp)) _) (.inr (by simp)) _) (.inr (by simp)) _, by simp only; omega⟩
    | false =>
      have hHV := Lib.hid hv
      have PB := HBX.out.below QQ1.out
      have kS := (blk_cell PB.s 0).trans rfl
      have fS := blk_frozen PB.s 0
      have HT := Lib.hid (fun W => c_total (s : Int) (some ⟨W.heap.size, 0, none⟩) 1 [(1 : Int)] (W.alloc (.cells #[.int .i64 1] 3)) (C_int1 W _ _) (Nat.le_refl _) (by omega) (by simp) (by simp [sumI]; omega))
      simp only [List.length_cons, List.length_nil, Nat.zero_add, sumI, List.foldl_cons, List.foldl_nil, Int.zero_add] at HT
      have HPB := Aside0.mk PB
      have hval : subE vars bys e s = (⟨e.f0, e.f1, (subL vars bys e.f2 (s + 1)).1⟩, (subL vars bys e.f2 (s + 1)).2) := by rw [HQ.out, hv]; simp
      have hVal := Lib.hid hval
      have hd := below_drew (Below.refl W1.heap.size W1)
      have hcase : ¬ e.f0 = 1 ∨ (e.f0 = 1 ∧ vars.any (fun x => decide (x = e.f1)) = false) := by
        by_cases h : e.f0 = 1
        · right; refine ⟨h, ?_⟩; simpa [isV, h] using hv
        · left; exact h
      clear hv PB hval
      rcases hcase with hne | ⟨f1, hany⟩
      · have hk1 : (e.f0 == 1) = false := by simpa using hne
        clear hne
        have HT1 := Lib.hid (HT.out W1)
        rw [z1] at HT1
        go_wp2_with fail
        refine HT1.out.mono ?_
        rintro en w2 ⟨rfl, hb2⟩
        have hb3 : Below W1.heap.size W1 w2 := (below_alloc1 W1 (.cells #[.int .i64 1] 3)).trans (hb2.mono (by simp))
        have PB2 := HPB.out.below hb3
        have kS2 := (blk_cell PB2.s 0).trans rfl
        have fS2 := blk_frozen PB2.s 0
        have c0 := blk_below BB0.out hb3
        have c1 := blk_below BB1.out hb3
        have hFr2 := QQ1.out.trans (hb3.mono QQ1.out.size)
        have hsz2 := hb3.size
        have e0 := (blk_cell c0 0).trans rfl
        have e1 := (blk_cell c0 1).trans rfl
        have e2 := (blk_cell c0 2).trans rfl
        have ns1 : ¬ (w.heap.size = Bs) := by omega
        have ns2 : ¬ (Bs = w.heap.size) := by omega
        have e2' := fun u o => (blk_cell (blk_alloc (blk_far c0 (p := ⟨Bs, 0, none⟩) (by simp only; omega) u) o) 2).trans rfl
        have C0 := Aside0.mk c0
        have C1 := Aside0.mk c1
        have P2 := Aside0.mk PB2
        have F2 := Aside0.mk hFr2
        clear c0 c1 PB2 hFr2 hb2 hb3
        dsimp only
        go_wp2
        have hs1 : ((s : Int) + 1) = ((s + 1 : Nat) : Int) := by simp
        obtain ⟨W3, hW3⟩ : ∃ W3, (w2.setCell ⟨Bs, 0, none⟩ (.int .i64 ((s : Int) + 1))).alloc (.cells #[.int .i64 e.f0, .string e.f1, .slice none 0 0] 57) = W3 := ⟨_, rfl⟩
        obtain ⟨Bo, hBo⟩ : ∃ Bo, w2.heap.size = Bo := ⟨_, rfl⟩
        have hsz3 : (w2.setCell ⟨Bs, 0, none⟩ (.int .i64 ((s : Int) + 1))).heap.size = Bo := by rw [← hBo]; simp [World.setCell]
        have p3 := (P2.out.put hvs hbs hps (s + 1)).below (below_alloc1 _ (.cells #[.int .i64 e.f0, .string e.f1, .slice none 0 0] 57))
        rw [← hs1, hW3] at p3
        have f3 : Fr (fun k => k = Bs) w W3 := by rw [← hW3]; exact (Fr.setCell (M := fun k => k = Bs) (Fr.of_below _ F2.out) (p := ⟨Bs, 0, none⟩) (.inl rfl) _).alloc _
        have o3 := alloc_at (w2.setCell ⟨Bs, 0, none⟩ (.int .i64 ((s : Int) + 1))) (.cells #[.int .i64 e.f0, .string e.f1, .slice none 0 0] 57)
        have z3 := blk_alloc (blk_far C1.out (p := ⟨Bs, 0, none⟩) (by simp only; omega) (.int .i64 ((s : Int) + 1))) (.cells #[.int .i64 e.f0, .string e.f1, .slice none 0 0] 57)
        rw [hsz3, hW3] at o3
        rw [hW3] at z3 ⊢
        rw [hBo]
        have hBo2 : w.heap.size + 1 < Bo := by omega
        have P3 := Aside0.mk p3
        have F3 := Aside0.mk f3
        have O3 := Aside0.mk o3
        have Z3 := Aside0.mk z3
        have hS1 := Lib.hid hs1
        clear p3 f3 o3 z3 hs1 hsz3 hW3 e2' e0 e1 e2 kS2 fS2 C0 C1 P2 F2
        go_loopg [46] e.f2.length (fun gg s14 wr => ∃ (kk : Nat) (v : Value), kk ≤ e.f2.length ∧ e.f2.length - kk ≤ gg ∧ s14 = .int .i64 kk ∧ Aside0 (OwnE wr (Bo + 1) v (subL vars bys (e.f2.take kk) (s + 1)).1) ∧ (subL vars bys (e.f2.take kk) (s + 1)).2 ≤ 1000024 ∧ Aside0 (PutBox Bv Bs Bb Bp Av vars.length cv Ab bys.length cb (subL vars bys (e.f2.take kk) (s + 1)).2 wr) ∧ Aside0 (Fr (fun k => k = Bs) w wr) ∧ Aside0 (wr.heap[Bo]? = some (.cells #[.int .i64 e.f0, .string e.f1, v] 57 (0, 0))) ∧ Aside0 (wr.heap[w.heap.size + 1]? = some (.cells #[.int .i64 0, .string ⟨#[]⟩, .slice none 0 0] 57 (0, 0))))
        case atStart => exact ⟨0, _, Nat.zero_le _, by omega, rfl, ⟨by rw [List.take_zero, subL]; exact Kd.R_nil _ _ _ _ _⟩, by rw [List.take_zero, subL]; simp only; omega, ⟨by rw [List.take_zero, subL]; exact P3.out⟩, F3, O3, Z3⟩
        case round =>
          obtain ⟨kk, v, hkk, hg, rfl, HO, hle2, PX, FX, OX, ZX⟩ := hrel
          obtain ⟨s', hs'⟩ : ∃ s', (subL vars bys (e.f2.take kk) (s + 1)).2 = s' := ⟨_, rfl⟩
          obtain ⟨xs', hxs'⟩ : ∃ xs', (subL vars bys (e.f2.take kk) (s + 1)).1 = xs' := ⟨_, rfl⟩
          rw [hs'] at hle2 PX
          rw [hxs'] at HO
          have hbX : Below n0 w0 wr := HB0.out.trans (FX.out.below (by have := HB0.out.size; omega) (fun k hk => by omega))
          have kSx := fun o => (blk_cell (blk_alloc PX.out.s o) 0).trans rfl
          have hsw := FX.out.size
          have hbo := blk_lt OX.out
          by_cases hlt : kk < e.f2.length
          · have hltz : (kk : Int) < (e.f2.length : Int) := by omega
            have hFr := Kd.F_step HR.out (fun k hk hl => FX.out.block k hl (by omega))
            obtain ⟨ad, c0, c1, c2, rfl, hK, hcells, x0, x1, x2⟩ := gett3 rfl (Kd.F_now hFr) kk hlt
            obtain ⟨A2, a2, he, hl2, hF2⟩ := k57_openF (elemF hFr kk hlt rfl hcells (fun _ _ _ h => h) (by decide))
            obtain ⟨rfl, rfl, rfl⟩ : c0 = _ ∧ c1 = _ ∧ c2 = _ := by simpa using he
            have hmem : e.f2[kk] ∈ e.f2 := List.getElem_mem hlt
            have hle := szL_mem hmem
            obtain ⟨Av2, cv2, rfl⟩ := Kd.R_slice HO.out
            have hts : e.f2.take (kk + 1) = e.f2.take kk ++ [e.f2[kk]] := take_snoc hlt
            by_cases h24 : s' ≤ 24
            · have h24z : (s' : Int) ≤ 24 := by omega
              have hsub : subL vars bys (e.f2.take (kk + 1)) (s + 1) = (xs' ++ [(subE vars bys e.f2[kk] s').1], (subE vars bys e.f2[kk] s').2) := by rw [hts, subL_snoc _ _ _ (by omega), hs', hxs']
              have hSub := Lib.hid hsub
              obtain ⟨W0, hW0⟩ : ∃ W0, wr.alloc (.cells #[.int .i64 e.f2[kk].f0, .string e.f2[kk].f1, .slice A2 e.f2[kk].f2.length a2] 57) = W0 := ⟨_, rfl⟩
              have q0 : Below wr.heap.size wr W0 := by rw [← hW0]; exact below_alloc1 _ _
              have s0 : W0.heap.size = wr.heap.size + 1 := by rw [← hW0]; simp
              have bx : W0.heap[wr.heap.size]? = some (.cells #[.int .i64 e.f2[kk].f0, .string e.f2[kk].f1, .slice A2 e.f2[kk].f2.length a2] 57 (0, 0)) := by rw [← hW0]; exact alloc_at _ _
              have xb0 := (blk_cell bx 0).trans rfl
              have xb1 := (blk_cell bx 1).trans rfl
              have xb2 := (blk_cell bx 2).trans rfl
              have bo := blk_below OX.out q0
              have o2 := (blk_cell bo 2).trans rfl
              have PX0 := PX.out.below q0
              have kp0 := (blk_cell PX0.p 0).trans rfl
              have kS0 := (blk_cell PX0.s 0).trans rfl
              have hn00 : n0 ≤ wr.heap.size := by have := HB0.out.size; omega
              have HC := Lib.hid (fun W (hb : Below W0.heap.size W0 W) => ih e.f2[kk] A2 a2 s' W (by omega) (by omega) h24 (hbX.trans ((q0.trans (hb.mono q0.size)).mono hn00)) (PX0.below hb) (Kd.F_step hF2 (fun k hk hl => (q0.trans (hb.mono q0.size)).block k hl)) hl2)
              have H0 := Aside0.mk (Kd.R_below HO.out q0)
              have PX1 := Aside0.mk PX0
              have BO := Aside0.mk bo
              have BX := Aside0.mk bx
              have hX0 : XP wr.heap.size Bv Bs Bb Bp e.f2[kk].f0 e.f2[kk].f1 (.slice A2 e.f2[kk].f2.length a2) W0.drew := XP.of (W := W0) bx PX0.p
              have hneX : some wr.heap.size ≠ (Value.slice Av2 xs'.length cv2).ownBlock := fun he => by have := ((Kd.R_bound HO.out).1 _ he.symm).2.2.1; omega
              have Q0 := Aside0.mk q0
              have hxl : xs'.length ≤ 1000000 := by rw [← hxs']; have := subL_len (vars := vars) (bys := bys) (e.f2.take kk) (s + 1); rw [List.length_take] at this; omega
              have hne : ∀ k, W0.heap.size ≤ k → some k ≠ (Value.slice Av2 xs'.length cv2).ownBlock := fun k hk he => by have := ((Kd.R_bound HO.out).1 k he.symm).2.2.1; omega
              have hne2 : some Bo ≠ (Value.slice Av2 xs'.length cv2).ownBlock := fun he => by have := ((Kd.R_bound HO.out).1 _ he.symm).2.1; omega
              have hne3 : some (w.heap.size + 1) ≠ (Value.slice Av2 xs'.length cv2).ownBlock := fun he => by have := ((Kd.R_bound HO.out).1 _ he.symm).2.1; omega
              have hneS : ∀ g, g < Bo → some g ≠ (Value.slice Av2 xs'.length cv2).ownBlock := fun g hg he => by have := ((Kd.R_bound HO.out).1 _ he.symm).2.1; omega
              have hd := below_drew (Below.refl W0.heap.size W0)
              clear hsub hK hcells he hl2 hF2 hmem hFr bx bo PX0 q0
              go_wp2
              try rw [hW0]
              clear hW0
              go_region_law (first | (go_simp; go_at_call 122; refine (HC.out _ (by first | exact hd | exact Below.refl _ _ | assumption)).mono ?_; rintro en w' ⟨v2, rfl, hO2, hP2, hF2, hl2⟩; have hF3 : Fr (fun k => k = Bs) W0 w' := (Fr.of_below _ hd).trans hF2; have hM2 := k57_mkM w' (Bo + 1) (fun k => W0.heap.size ≤ k) (subE vars bys e.f2[kk] s').1 (Kd.R_lower (Kd.R_mono (Kd.R_bound hO2) (fun k hk => hk.2.1)) (show Bo + 1 ≤ W0.heap.size by omega)); have H1 := Aside0.mk (OwnE.fr H0.out hF3 (by omega)); have BO2 := Aside0.mk (hF3.blk BO.out (by omega)); have o3 := (blk_cell BO2.out 2).trans rfl; have o5 := fun o => pw_cell_below (below_alloc1 w' o) o3; have s3 := hF3.size; have ZX2 := Aside0.mk (hF3.blk (blk_below ZX.out Q0.out) (by omega)); have FX2 := Aside0.mk ((FX.out.after_below Q0.out).trans hF3);) | (refine Kd.R_append_step k57 (w0 := w') (Bo + 1) (by rfl) (.tmp 53) (.tmp 57) 55 57 _ 48 rfl Tryz.underlying55 infoEx rfl (by decide) (by decide) (.slice Av2 xs'.length cv2) xs' (subE vars bys e.f2[kk] s').1 [.int .i64 (subE vars bys e.f2[kk] s').1.f0, .string (subE vars bys e.f2[kk] s').1.f1, v2] (fun _ => True) (fun k => W0.heap.size ≤ k) rfl rfl hM2 (fun k hk => ⟨trivial, hne k hk⟩) (fun _ _ => trivial) H1.out (Below.refl _ _) (by omega) (by omega) ?_; intro v1 w3 hR3 hB3 hg3 hat3; have BO3 := Aside0.mk (blk_grown BO2.out hg3 hne2); have o4 := (blk_cell BO3.out 2).trans rfl; have f4 := blk_frozen BO3.out 2; obtain ⟨A5, c5, hv5⟩ := Kd.R_slice hR3; subst hv5; have HR5 := Aside0.mk hR3; have ZX3 := Aside0.mk (blk_grown ZX2.out hg3 hne3); have PX3 := Aside0.mk (PutBox.grown hP2 hg3 (hneS _ (by omega)) (hneS _ (by omega)) (hneS _ (by omega)) (hneS _ (by omega))); have FX3 := Aside0.mk (FX2.out.grown hg3 (fun k hk => .inr (by have := ((Kd.R_bound HO.out).1 k hk).2.1; omega))); clear hR3 hB3 hg3 hat3))
              all_goals
                go_wp2
                go_roundg (e.f2.length - (kk + 1))
                case measure => omega
                case rel => exact ⟨kk + 1, _, by omega, by omega, by go_num, ⟨by rw [hSub.out]; exact OwnE.set HR5.out (by omega) _ _⟩, by rw [hSub.out]; exact hl2, ⟨by rw [hSub.out]; exact PX3.out.far (by omega) (by omega) (by omega) (by omega) _ _⟩, ⟨Fr.setCell FX3.out (.inr (by simp only; omega)) _⟩, ⟨blk_put BO3.out 2 _ (by simp)⟩, ⟨blk_far ZX3.out (by simp only; omega) _⟩⟩
            · have h24z : ¬ (s' : Int) ≤ 24 := by omega
              have hsub : subL vars bys (e.f2.take (kk + 1)) (s + 1) = (xs', s') := by rw [hts, subL_snoc' _ _ _ (by omega), ← hs', ← hxs']
              have hSub := Lib.hid hsub
              clear hsub hK hcells he hl2 hF2 hmem hle hFr
              have q := below_alloc1 wr (.cells #[.int .i64 e.f2[kk].f0, .string e.f2[kk].f1, .slice A2 e.f2[kk].f2.length a2] 57)
              have Q := Aside0.mk q
              clear q
              go_wp2
              go_roundg (e.f2.length - (kk + 1))
              case measure => omega
              case rel => exact ⟨kk + 1, _, by omega, by omega, by go_num, ⟨by rw [hSub.out]; exact Kd.R_below HO.out Q.out⟩, by rw [hSub.out]; exact hle2, ⟨by rw [hSub.out]; exact PX.out.below Q.out⟩, ⟨FX.out.after_below Q.out⟩, ⟨blk_below OX.out Q.out⟩, ⟨blk_below ZX.out Q.out⟩⟩
          · have : kk = e.f2.length := by omega
            subst this
            obtain ⟨Av2, cv2, rfl⟩ := Kd.R_slice HO.out
            have o0 := (blk_cell OX.out 0).trans rfl
            have o1 := (blk_cell OX.out 1).trans rfl
            have o2 := (blk_cell OX.out 2).trans rfl
            have d0 := (blk_cell ZX.out 0).trans rfl
            have d1 := (blk_cell ZX.out 1).trans rfl
            have d2 := (blk_cell ZX.out 2).trans rfl
            have fd := fun i => blk_frozen ZX.out i
            have hT : e.f2.take e.f2.length = e.f2 := List.take_of_length_le (Nat.le_refl _)
            rw [hT] at hs' hxs'
            have hSS := Lib.hid hs'
            have hXX := Lib.hid hxs'
            clear hs' hxs' hT
            go_wp2
            have b6 := blk_put (blk_put (blk_put ZX.out 0 (.int .i64 e.f0) rfl) 1 (.string e.f1) rfl) 2 (.slice Av2 xs'.length cv2) rfl
            have hV2 := hVal.out
            rw [hSS.out, hXX.out] at hV2
            refine bodyPost_ret (results_single rfl (.cell _ _ _ _ _ rfl b6 Tryz.underlying57 rfl rfl .nil)) rfl ?_
            rw [hV2]
            exact ⟨_, rfl, Kd.R_lower (OwnE.set (OwnE.set (OwnE.set HO.out (by omega) _ _) (by omega) _ _) (by omega) _ _) (by omega),
              ((PX.out.far (by omega) (by omega) (by omega) (by omega) _ _).far (by omega) (by omega) (by omega) (by omega) _ _).far (by omega) (by omega) (by omega) (by omega) _ _,
              Fr.setCell (Fr.setCell (Fr.setCell FX.out (.inr (by simp)) _) (.inr (by simp)) _) (.inr (by simp)) _, hle2⟩
      · have hk1 : (e.f0 == 1) = true := by simpa using f1
        have hix : idxB (fun x => decide (x = e.f1)) vars = -1 := by rw [idxB, hany]; rfl
        rw [hix]
        clear hany hix f1
        have HT1 := Lib.hid (HT.out W1)
        rw [z1] at HT1
        go_wp2_with fail
        refine HT1.out.mono ?_
        rintro en w2 ⟨rfl, hb2⟩
        have hb3 : Below W1.heap.size W1 w2 := (below_alloc1 W1 (.cells #[.int .i64 1] 3)).trans (hb2.mono (by simp))
        have PB2 := HPB.out.below hb3
        have kS2 := (blk_cell PB2.s 0).trans rfl
        have fS2 := blk_frozen PB2.s 0
        have c0 := blk_below BB0.out hb3
        have c1 := blk_below BB1.out hb3
        have hFr2 := QQ1.out.trans (hb3.mono QQ1.out.size)
        have hsz2 := hb3.size
        have e0 := (blk_cell c0 0).trans rfl
        have e1 := (blk_cell c0 1).trans rfl
        have e2 := (blk_cell c0 2).trans rfl
        have ns1 : ¬ (w.heap.size = Bs) := by omega
        have ns2 : ¬ (Bs = w.heap.size) := by omega
        have e2' := fun u o => (blk_cell (blk_alloc (blk_far c0 (p := ⟨Bs, 0, none⟩) (by simp only; omega) u) o) 2).trans rfl
        have C0 := Aside0.mk c0
        have C1 := Aside0.mk c1
        have P2 := Aside0.mk PB2
        have F2 := Aside0.mk hFr2
        clear c0 c1 PB2 hFr2 hb2 hb3
        dsimp only
        go_wp2
        have hs1 : ((s : Int) + 1) = ((s + 1 : Nat) : Int) := by simp
        obtain ⟨W3, hW3⟩ : ∃ W3, (w2.setCell ⟨Bs, 0, none⟩ (.int .i64 ((s : Int) + 1))).alloc (.cells #[.int .i64 e.f0, .string e.f1, .slice none 0 0] 57) = W3 := ⟨_, rfl⟩
        obtain ⟨Bo, hBo⟩ : ∃ Bo, w2.heap.size = Bo := ⟨_, rfl⟩
        have hsz3 : (w2.setCell ⟨Bs, 0, none⟩ (.int .i64 ((s : Int) + 1))).heap.size = Bo := by rw [← hBo]; simp [World.setCell]
        have p3 := (P2.out.put hvs hbs hps (s + 1)).below (below_alloc1 _ (.cells #[.int .i64 e.f0, .string e.f1, .slice none 0 0] 57))
        rw [← hs1, hW3] at p3
        have f3 : Fr (fun k => k = Bs) w W3 := by rw [← hW3]; exact (Fr.setCell (M := fun k => k = Bs) (Fr.of_below _ F2.out) (p := ⟨Bs, 0, none⟩) (.inl rfl) _).alloc _
        have o3 := alloc_at (w2.setCell ⟨Bs, 0, none⟩ (.int .i64 ((s : Int) + 1))) (.cells #[.int .i64 e.f0, .string e.f1, .slice none 0 0] 57)
        have z3 := blk_alloc (blk_far C1.out (p := ⟨Bs, 0, none⟩) (by simp only; omega) (.int .i64 ((s : Int) + 1))) (.cells #[.int .i64 e.f0, .string e.f1, .slice none 0 0] 57)
        rw [hsz3, hW3] at o3
        rw [hW3] at z3 ⊢
        rw [hBo]
        have hBo2 : w.heap.size + 1 < Bo := by omega
        have P3 := Aside0.mk p3
        have F3 := Aside0.mk f3
        have O3 := Aside0.mk o3
        have Z3 := Aside0.mk z3
        have hS1 := Lib.hid hs1
        clear p3 f3 o3 z3 hs1 hsz3 hW3 e2' e0 e1 e2 kS2 fS2 C0 C1 P2 F2
        go_loopg [46] e.f2.length (fun gg s14 wr => ∃ (kk : Nat) (v : Value), kk ≤ e.f2.length ∧ e.f2.length - kk ≤ gg ∧ s14 = .int .i64 kk ∧ Aside0 (OwnE wr (Bo + 1) v (subL vars bys (e.f2.take kk) (s + 1)).1) ∧ (subL vars bys (e.f2.take kk) (s + 1)).2 ≤ 1000024 ∧ Aside0 (PutBox Bv Bs Bb Bp Av vars.length cv Ab bys.length cb (subL vars bys (e.f2.take kk) (s + 1)).2 wr) ∧ Aside0 (Fr (fun k => k = Bs) w wr) ∧ Aside0 (wr.heap[Bo]? = some (.cells #[.int .i64 e.f0, .string e.f1, v] 57 (0, 0))) ∧ Aside0 (wr.heap[w.heap.size + 1]? = some (.cells #[.int .i64 0, .string ⟨#[]⟩, .slice none 0 0] 57 (0, 0))))
        case atStart => exact ⟨0, _, Nat.zero_le _, by omega, rfl, ⟨by rw [List.take_zero, subL]; exact Kd.R_nil _ _ _ _ _⟩, by rw [List.take_zero, subL]; simp only; omega, ⟨by rw [List.take_zero, subL]; exact P3.out⟩, F3, O3, Z3⟩
        case round =>
          obtain ⟨kk, v, hkk, hg, rfl, HO, hle2, PX, FX, OX, ZX⟩ := hrel
          obtain ⟨s', hs'⟩ : ∃ s', (subL vars bys (e.f2.take kk) (s + 1)).2 = s' := ⟨_, rfl⟩
          obtain ⟨xs', hxs'⟩ : ∃ xs', (subL vars bys (e.f2.take kk) (s + 1)).1 = xs' := ⟨_, rfl⟩
          rw [hs'] at hle2 PX
          rw [hxs'] at HO
          have hbX : Below n0 w0 wr := HB0.out.trans (FX.out.below (by have := HB0.out.size; omega) (fun k hk => by omega))
          have kSx := fun o => (blk_cell (blk_alloc PX.out.s o) 0).trans rfl
          have hsw := FX.out.size
          have hbo := blk_lt OX.out
          by_cases hlt : kk < e.f2.length
          · have hltz : (kk : Int) < (e.f2.length : Int) := by omega
            have hFr := Kd.F_step HR.out (fun k hk hl => FX.out.block k hl (by omega))
            obtain ⟨ad, c0, c1, c2, rfl, hK, hcells, x0, x1, x2⟩ := gett3 rfl (Kd.F_now hFr) kk hlt
            obtain ⟨A2, a2, he, hl2, hF2⟩ := k57_openF (elemF hFr kk hlt rfl hcells (fun _ _ _ h => h) (by decide))
            obtain ⟨rfl, rfl, rfl⟩ : c0 = _ ∧ c1 = _ ∧ c2 = _ := by simpa using he
            have hmem : e.f2[kk] ∈ e.f2 := List.getElem_mem hlt
            have hle := szL_mem hmem
            obtain ⟨Av2, cv2, rfl⟩ := Kd.R_slice HO.out
            have hts : e.f2.take (kk + 1) = e.f2.take kk ++ [e.f2[kk]] := take_snoc hlt
            by_cases h24 : s' ≤ 24
            · have h24z : (s' : Int) ≤ 24 := by omega
              have hsub : subL vars bys (e.f2.take (kk + 1)) (s + 1) = (xs' ++ [(subE vars bys e.f2[kk] s').1], (subE vars bys e.f2[kk] s').2) := by rw [hts, subL_snoc _ _ _ (by omega), hs', hxs']
              have hSub := Lib.hid hsub
              obtain ⟨W0, hW0⟩ : ∃ W0, wr.alloc (.cells #[.int .i64 e.f2[kk].f0, .string e.f2[kk].f1, .slice A2 e.f2[kk].f2.length a2] 57) = W0 := ⟨_, rfl⟩
              have q0 : Below wr.heap.size wr W0 := by rw [← hW0]; exact below_alloc1 _ _
              have s0 : W0.heap.size = wr.heap.size + 1 := by rw [← hW0]; simp
              have bx : W0.heap[wr.heap.size]? = some (.cells #[.int .i64 e.f2[kk].f0, .string e.f2[kk].f1, .slice A2 e.f2[kk].f2.length a2] 57 (0, 0)) := by rw [← hW0]; exact alloc_at _ _
              have xb0 := (blk_cell bx 0).trans rfl
              have xb1 := (blk_cell bx 1).trans rfl
              have xb2 := (blk_cell bx 2).trans rfl
              have bo := blk_below OX.out q0
              have o2 := (blk_cell bo 2).trans rfl
              have PX0 := PX.out.below q0
              have kp0 := (blk_cell PX0.p 0).trans rfl
              have kS0 := (blk_cell PX0.s 0).trans rfl
              have hn00 : n0 ≤ wr.heap.size := by have := HB0.out.size; omega
              have HC := Lib.hid (fun W (hb : Below W0.heap.size W0 W) => ih e.f2[kk] A2 a2 s' W (by omega) (by omega) h24 (hbX.trans ((q0.trans (hb.mono q0.size)).mono hn00)) (PX0.below hb) (Kd.F_step hF2 (fun k hk hl => (q0.trans (hb.mono q0.size)).block k hl)) hl2)
              have H0 := Aside0.mk (Kd.R_below HO.out q0)
              have PX1 := Aside0.mk PX0
              have BO := Aside0.mk bo
              have BX := Aside0.mk bx
              have hX0 : XP wr.heap.size Bv Bs Bb Bp e.f2[kk].f0 e.f2[kk].f1 (.slice A2 e.f2[kk].f2.length a2) W0.drew := XP.of (W := W0) bx PX0.p
              have hneX : some wr.heap.size ≠ (Value.slice Av2 xs'.length cv2).ownBlock := fun he => by have := ((Kd.R_bound HO.out).1 _ he.symm).2.2.1; omega
              have Q0 := Aside0.mk q0
              have hxl : xs'.length ≤ 1000000 := by rw [← hxs']; have := subL_len (vars := vars) (bys := bys) (e.f2.take kk) (s + 1); rw [List.length_take] at this; omega
              have hne : ∀ k, W0.heap.size ≤ k → some k ≠ (Value.slice Av2 xs'.length cv2).ownBlock := fun k hk he => by have := ((Kd.R_bound HO.out).1 k he.symm).2.2.1; omega
              have hne2 : some Bo ≠ (Value.slice Av2 xs'.length cv2).ownBlock := fun he => by have := ((Kd.R_bound HO.out).1 _ he.symm).2.1; omega
              have hne3 : some (w.heap.size + 1) ≠ (Value.slice Av2 xs'.length cv2).ownBlock := fun he => by have := ((Kd.R_bound HO.out).1 _ he.symm).2.1; omega
              have hneS : ∀ g, g < Bo → some g ≠ (Value.slice Av2 xs'.length cv2).ownBlock := fun g hg he => by have := ((Kd.R_bound HO.out).1 _ he.symm).2.1; omega
              have hd := below_drew (Below.refl W0.heap.size W0)
              clear hsub hK hcells he hl2 hF2 hmem hFr bx bo PX0 q0
              go_wp2
              try rw [hW0]
              clear hW0
              go_region_law (first | (go_simp; go_at_call 122; refine (HC.out _ (by first | exact hd | exact Below.refl _ _ | assumption)).mono ?_; rintro en w' ⟨v2, rfl, hO2, hP2, hF2, hl2⟩; have hF3 : Fr (fun k => k = Bs) W0 w' := (Fr.of_below _ hd).trans hF2; have hM2 := k57_mkM w' (Bo + 1) (fun k => W0.heap.size ≤ k) (subE vars bys e.f2[kk] s').1 (Kd.R_lower (Kd.R_mono (Kd.R_bound hO2) (fun k hk => hk.2.1)) (show Bo + 1 ≤ W0.heap.size by omega)); have H1 := Aside0.mk (OwnE.fr H0.out hF3 (by omega)); have BO2 := Aside0.mk (hF3.blk BO.out (by omega)); have o3 := (blk_cell BO2.out 2).trans rfl; have o5 := fun o => pw_cell_below (below_alloc1 w' o) o3; have s3 := hF3.size; have ZX2 := Aside0.mk (hF3.blk (blk_below ZX.out Q0.out) (by omega)); have FX2 := Aside0.mk ((FX.out.after_below Q0.out).trans hF3);) | (refine Kd.R_append_step k57 (w0 := w') (Bo + 1) (by rfl) (.tmp 53) (.tmp 57) 55 57 _ 48 rfl Tryz.underlying55 infoEx rfl (by decide) (by decide) (.slice Av2 xs'.length cv2) xs' (subE vars bys e.f2[kk] s').1 [.int .i64 (subE vars bys e.f2[kk] s').1.f0, .string (subE vars bys e.f2[kk] s').1.f1, v2] (fun _ => True) (fun k => W0.heap.size ≤ k) rfl rfl hM2 (fun k hk => ⟨trivial, hne k hk⟩) (fun _ _ => trivial) H1.out (Below.refl _ _) (by omega) (by omega) ?_; intro v1 w3 hR3 hB3 hg3 hat3; have BO3 := Aside0.mk (blk_grown BO2.out hg3 hne2); have o4 := (blk_cell BO3.out 2).trans rfl; have f4 := blk_frozen BO3.out 2; obtain ⟨A5, c5, hv5⟩ := Kd.R_slice hR3; subst hv5; have HR5 := Aside0.mk hR3; have ZX3 := Aside0.mk (blk_grown ZX2.out hg3 hne3); have PX3 := Aside0.mk (PutBox.grown hP2 hg3 (hneS _ (by omega)) (hneS _ (by omega)) (hneS _ (by omega)) (hneS _ (by omega))); have FX3 := Aside0.mk (FX2.out.grown hg3 (fun k hk => .inr (by have := ((Kd.R_bound HO.out).1 k hk).2.1; omega))); clear hR3 hB3 hg3 hat3))
              all_goals
                go_wp2
                go_roundg (e.f2.length - (kk + 1))
                case measure => omega
                case rel => exact ⟨kk + 1, _, by omega, by omega, by go_num, ⟨by rw [hSub.out]; exact OwnE.set HR5.out (by omega) _ _⟩, by rw [hSub.out]; exact hl2, ⟨by rw [hSub.out]; exact PX3.out.far (by omega) (by omega) (by omega) (by omega) _ _⟩, ⟨Fr.setCell FX3.out (.inr (by simp only; omega)) _⟩, ⟨blk_put BO3.out 2 _ (by simp)⟩, ⟨blk_far ZX3.out (by simp only; omega) _⟩⟩
            · have h24z : ¬ (s' : Int) ≤ 24 := by omega
              have hsub : subL vars bys (e.f2.take (kk + 1)) (s + 1) = (xs', s') := by rw [hts, subL_snoc' _ _ _ (by omega), ← hs', ← hxs']
              have hSub := Lib.hid hsub
              clear hsub hK hcells he hl2 hF2 hmem hle hFr
              have q := below_alloc1 wr (.cells #[.int .i64 e.f2[kk].f0, .string e.f2[kk].f1, .slice A2 e.f2[kk].f2.length a2] 57)
              have Q := Aside0.mk q
              clear q
              go_wp2
              go_roundg (e.f2.length - (kk + 1))
              case measure => omega
              case rel => exact ⟨kk + 1, _, by omega, by omega, by go_num, ⟨by rw [hSub.out]; exact Kd.R_below HO.out Q.out⟩, by rw [hSub.out]; exact hle2, ⟨by rw [hSub.out]; exact PX.out.below Q.out⟩, ⟨FX.out.after_below Q.out⟩, ⟨blk_below OX.out Q.out⟩, ⟨blk_below ZX.out Q.out⟩⟩
          · have : kk = e.f2.length := by omega
            subst this
            obtain ⟨Av2, cv2, rfl⟩ := Kd.R_slice HO.out
            have o0 := (blk_cell OX.out 0).trans rfl
            have o1 := (blk_cell OX.out 1).trans rfl
            have o2 := (blk_cell OX.out 2).trans rfl
            have d0 := (blk_cell ZX.out 0).trans rfl
            have d1 := (blk_cell ZX.out 1).trans rfl
            have d2 := (blk_cell ZX.out 2).trans rfl
            have fd := fun i => blk_frozen ZX.out i
            have hT : e.f2.take e.f2.length = e.f2 := List.take_of_length_le (Nat.le_refl _)
            rw [hT] at hs' hxs'
            have hSS := Lib.hid hs'
            have hXX := Lib.hid hxs'
            clear hs' hxs' hT
            go_wp2
            have b6 := blk_put (blk_put (blk_put ZX.out 0 (.int .i64 e.f0) rfl) 1 (.string e.f1) rfl) 2 (.slice Av2 xs'.length cv2) rfl
            have hV2 := hVal.out
            rw [hSS.out, hXX.out] at hV2
            refine bodyPost_ret (results_single rfl (.cell _ _ _ _ _ rfl b6 Tryz.underlying57 rfl rfl .nil)) rfl ?_
            rw [hV2]
            exact ⟨_, rfl, Kd.R_lower (OwnE.set (OwnE.set (OwnE.set HO.out (by omega) _ _) (by omega) _ _) (by omega) _ _) (by omega),
              ((PX.out.far (by omega) (by omega) (by omega) (by omega) _ _).far (by omega) (by omega) (by omega) (by omega) _ _).far (by omega) (by omega) (by omega) (by omega) _ _,
              Fr.setCell (Fr.setCell (Fr.setCell FX.out (.inr (by simp)) _) (.inr (by simp)) _) (.inr (by simp)) _, hle2⟩
end Go.Proofs.YtacefdkfbpgedaaGreat.Mine
namespace Go.Proofs.YtacefdkfbpgedaaGreat.Mine
open Go.Proofs.YtacefdkfbpgedaaGreat.PProgSmall
open Go.RowKit Go.Shelf Go.Proofs.YtacefdkfbpgedaaGreatW.PrintWords Go.Proofs.YtacefdkfbpgedaaGreatW.PrintLast Go.Proofs.YtacefdkfbpgedaaGreatW.PrintMore
set_option linter.unusedVariables false
set_option linter.unusedSimpArgs false
abbrev noE : Ex := ⟨0, ⟨#[]⟩, []⟩
def subP (vars : List ByteArray) (bys : List Ex) (e : Ex) : Ex × Int :=
  if vars.length = bys.length then (if twB vars then (noE, 5) else (if (subE vars bys e 0).2 ≤ 24 then ((subE vars bys e 0).1, 0) else (noE, 2))) else (noE, 7)
set_option maxRecDepth 100000 in
set_option maxHeartbeats 4000000 in
theorem c_Subst (e : Ex) (A : Option Addr) (c : Nat) (vars : List ByteArray) (Av : Option Addr) (cv : Nat) (bys : List Ex) (Ab : Option Addr) (cb : Nat) (w : World)
    (hr : Kd.C k57 w A e.f2.length e.f2) (hc : e.f2.length ≤ c) (hv : Kd.C Kd.string w Av vars.length vars) (hcv : vars.length ≤ cv) (hb : Kd.C k57 w Ab bys.length bys) (hcb : bys.length ≤ cb)
    (hs : szE e ≤ 1000000) (hbz : ∀ x ∈ bys, szE x ≤ 1000000) (hvs : ∀ s ∈ vars, s.size ≤ nmLim) (hvl : vars.length < 1000000) :
    Calls Tryz.prog 62 #[.agg #[.int .i64 e.f0, .string e.f1, .slice A e.f2.length c], .slice Av vars.length cv, .slice Ab bys.length cb] w fun en w' =>
      ∃ v, en = .returned (.tuple #[.agg #[.int .i64 (subP vars bys e).1.f0, .string (subP vars bys e).1.f1, v], .int .i64 (subP vars bys e).2]) ∧ OwnE w' w.heap.size v (subP vars bys e).1.f2 ∧ Below w.heap.size w w' := by
  have hm1 := hv.2.1
  have hm2 := hb.2.1
  obtain ⟨W4, hW4⟩ : ∃ W4, (((w.alloc (.cells #[.int .i64 e.f0, .string e.f1, .slice A e.f2.length c] 57)).alloc (.cells #[.slice Av vars.length cv] 30)).alloc (.cells #[.slice Ab bys.length cb] 55)).alloc (.cells #[.int .i64 0, .string ⟨#[]⟩, .slice none 0 0] 57) = W4 := ⟨_, rfl⟩
  have z4 : W4.heap.size = w.heap.size + 1 + 1 + 1 + 1 := by rw [← hW4]; simp
  have q4 : Below w.heap.size w W4 := by rw [← hW4]; exact (below_alloc2 _ _ _).trans ((below_alloc2 _ _ _).mono (by simp; omega))
  have b0 : W4.heap[w.heap.size]? = some (.cells #[.int .i64 e.f0, .string e.f1, .slice A e.f2.length c] 57 (0, 0)) := by rw [← hW4]; exact blk_alloc (blk_alloc (blk_alloc (alloc_at _ _) _) _) _
  have b1 : W4.heap[w.heap.size + 1]? = some (.cells #[.slice Av vars.length cv] 30 (0, 0)) := by rw [← hW4]; have := alloc_at (w.alloc (.cells #[.int .i64 e.f0, .string e.f1, .slice A e.f2.length c] 57)) (.cells #[.slice Av vars.length cv] 30); rw [World.size_alloc] at this; exact blk_alloc (blk_alloc this _) _
  have b2 : W4.heap[w.heap.size + 1 + 1]? = some (.cells #[.slice Ab bys.length cb] 55 (0, 0)) := by rw [← hW4]; have := alloc_at ((w.alloc (.cells #[.int .i64 e.f0, .string e.f1, .slice A e.f2.length c] 57)).alloc (.cells #[.slice Av vars.length cv] 30)) (.cells #[.slice Ab bys.length cb] 55); rw [World.size_alloc, World.size_alloc] at this; exact blk_alloc this _
  have b3 : W4.heap[w.heap.size + 1 + 1 + 1]? = some (.cells #[.int .i64 0, .string ⟨#[]⟩, .slice none 0 0] 57 (0, 0)) := by rw [← hW4]; have := alloc_at (((w.alloc (.cells #[.int .i64 e.f0, .string e.f1, .slice A e.f2.length c] 57)).alloc (.cells #[.slice Av vars.length cv] 30)).alloc (.cells #[.slice Ab bys.length cb] 55)) (.cells #[.int .i64 0, .string ⟨#[]⟩, .slice none 0 0] 57); simpa only [World.size_alloc] using this
  have k1 := (blk_cell b1 0).trans rfl
  have k2 := (blk_cell b2 0).trans rfl
  have d0 := (blk_cell b3 0).trans rfl
  have d1 := (blk_cell b3 1).trans rfl
  have d2 := (blk_cell b3 2).trans rfl
  have fd := fun i => blk_frozen b3 i
  have HT := Lib.hid (c_twice Av cv vars W4 (Kd.C_below hv q4) hcv hvs hvl)
  have HR := Aside0.mk hr
  have HV := Aside0.mk hv
  have HBy := Aside0.mk hb
  have B0 := Aside0.mk b0
  have B1 := Aside0.mk b1
  have B2 := Aside0.mk b2
  have B3 := Aside0.mk b3
  have Q4 := Aside0.mk q4
  have Z4 := Lib.hid z4
  clear hr hv hb b0 b1 b2 b3 q4 z4
  by_cases hl : vars.length = bys.length
  · have hl1 : ((vars.length : Int) != (bys.length : Int)) = false := by simp only [bne_eq_false_iff_eq]; omega
    have HL := Lib.hid hl
    clear hl
    cases ht : twB vars with
    | true =>
      rw [ht] at HT
      have HTt := Lib.hid ht
      clear ht
      go_enter Tryz.func62, Tryz.ntmps62
      go_wp2_with fail
      refine HT.out.mono ?_
      rintro en w5 ⟨rfl, hb5⟩
      have B3' := Aside0.mk (blk_below B3.out hb5)
      have d0' := (blk_cell B3'.out 0).trans rfl
      have d1' := (blk_cell B3'.out 1).trans rfl
      have d2' := (blk_cell B3'.out 2).trans rfl
      have fd' := fun i => blk_frozen B3'.out i
      have Q5 := Aside0.mk (Q4.out.trans (hb5.mono Q4.out.size))
      clear hb5
      go_wp2_with fail
      have b6 := blk_put (blk_put (blk_put B3'.out 0 (.int .i64 0) rfl) 1 (.string ⟨#[]⟩) rfl) 2 (.slice none 0 0) rfl
      refine bodyPost_ret (results_ct rfl _ _ _ _ _ _ _ rfl b6 Tryz.underlying57 rfl (by kernel_rfl)) rfl ?_
      have hsub : subP vars bys e = (noE, 5) := by rw [subP, if_pos HL.out, if_pos HTt.out]
      rw [hsub]
      exact ⟨_, rfl, Kd.R_nil _ _ _ _ _, ((Q5.out.setCell (by simp only; omega) _).setCell (by simp only; omega) _).setCell (by simp only; omega) _⟩
    | false =>
      rw [ht] at HT
      have HTt := Lib.hid ht
      clear ht
      go_enter Tryz.func62, Tryz.ntmps62
      go_wp2_with fail
      refine HT.out.mono ?_
      rintro en w5 ⟨rfl, hb5⟩
      have q5 := Q4.out.trans (hb5.mono Q4.out.size)
      have B0' := Aside0.mk (blk_below B0.out hb5)
      have B1' := Aside0.mk (blk_below B1.out hb5)
      have B2' := Aside0.mk (blk_below B2.out hb5)
      have B3' := Aside0.mk (blk_below B3.out hb5)
      have e0 := fun o o' => (blk_cell (blk_alloc (blk_alloc B0'.out o) o') 0).trans rfl
      have e1 := fun o o' => (blk_cell (blk_alloc (blk_alloc B0'.out o) o') 1).trans rfl
      have e2 := fun o o' => (blk_cell (blk_alloc (blk_alloc B0'.out o) o') 2).trans rfl
      have hs5 := hb5.size
      have Q5 := Aside0.mk q5
      clear hb5 q5
      obtain ⟨W7, hW7⟩ : ∃ W7, (w5.alloc (.cells #[.int .i64 0] 3)).alloc (.cells #[.func (.func 122) #[] #[.pointer (some ⟨w.heap.size + 1, 0, none⟩), .pointer (some ⟨w5.heap.size, 0, none⟩), .pointer (some ⟨w.heap.size + 1 + 1, 0, none⟩), .pointer (some ⟨w5.heap.size + 1, 0, none⟩)]] 132) = W7 := ⟨_, rfl⟩
      have z7 : W7.heap.size = w5.heap.size + 1 + 1 := by rw [← hW7]; simp
      have q57 : Below w5.heap.size w5 W7 := by rw [← hW7]; exact below_alloc2 _ _ _
      have q7 : Below w.heap.size w W7 := Q5.out.trans (q57.mono Q5.out.size)
      have p7 : PutBox (w.heap.size + 1) w5.heap.size (w.heap.size + 1 + 1) (w5.heap.size + 1) Av vars.length cv Ab bys.length cb 0 W7 := by
        refine ⟨blk_below B1'.out q57, ?_, blk_below B2'.out q57, ?_⟩
        · rw [← hW7]; exact blk_alloc (alloc_at _ _) _
        · rw [← hW7]; have := alloc_at (w5.alloc (.cells #[.int .i64 0] 3)) (.cells #[.func (.func 122) #[] #[.pointer (some ⟨w.heap.size + 1, 0, none⟩), .pointer (some ⟨w5.heap.size, 0, none⟩), .pointer (some ⟨w.heap.size + 1 + 1, 0, none⟩), .pointer (some ⟨w5.heap.size + 1, 0, none⟩)]] 132); simpa only [World.size_alloc] using this
      have hsw := Q5.out.size
      have hz4 := Z4.out
      have HC := Lib.hid (c_put vars bys Av Ab cv cb w.heap.size (w.heap.size + 1) w5.heap.size (w.heap.size + 1 + 1) (w5.heap.size + 1) w5 hsw hcv hcb HL.out.symm (by omega) (by omega) (by omega) (by omega) (Kd.F_below (Kd.C_F Kd.heap_string HV.out) Q5.out) (Kd.F_below (Kd.C_F k57_heap HBy.out) Q5.out) hbz _ e A c 0 W7 (Nat.le_refl _) hs (by omega) (q57.mono hsw) p7 (Kd.F_below (Kd.C_F k57_heap HR.out) q7) hc)
      have B37 := Aside0.mk (blk_below B3'.out q57)
      have Q7 := Aside0.mk q7
      have Z7 := Lib.hid z7
      have h57 := q57.size
      have HW7 := Lib.hid hW7
      clear p7 q7 q57 z7 hz4 hW7
      go_wp2_with fail
      rw [HW7.out]
      clear HW7 e0 e1 e2
      refine HC.out.mono ?_
      rintro en w8 ⟨v, rfl, hO8, hP8, hF8, hl8⟩
      obtain ⟨A8, c8, rfl⟩ := Kd.R_slice hO8
      obtain ⟨r, hr⟩ : ∃ r, subE vars bys e 0 = r := ⟨_, rfl⟩
      rw [hr] at hO8 hP8 hl8 ⊢
      have HRr := Lib.hid hr
      have B38 := Aside0.mk (hF8.blk B37.out (by have := Z4.out; omega))
      have r0 := fun o => (blk_cell (blk_alloc B38.out o) 0).trans rfl
      have r1 := fun o => (blk_cell (blk_alloc B38.out o) 1).trans rfl
      have r2 := fun o => (blk_cell (blk_alloc B38.out o) 2).trans rfl
      have rf := fun o i => blk_frozen (blk_alloc B38.out o) i
      have s8 := fun o => (blk_cell (blk_alloc hP8.s o) 0).trans rfl
      have hs8 := hF8.size
      have hz4 := Z4.out
      have hz7 := Z7.out
      have hn1 : ¬ (w8.heap.size = w.heap.size + 1 + 1 + 1) := by omega
      have Q8 := Aside0.mk (hF8.below Q7.out.size (fun k hk => by omega) |> Q7.out.trans)
      have HO8 := Aside0.mk hO8
      have HZ7 := Lib.hid hz7
      clear hr hO8 hP8 hF8 hz7 hz4
      by_cases hle : r.2 ≤ 24
      · have hle2 : decide ((24 : Int) < (r.2 : Int)) = false := decide_eq_false (by omega)
        go_wp2
        have b6 := blk_put (blk_put (blk_put (blk_alloc B38.out (.cells #[.int .i64 r.1.f0, .string r.1.f1, .slice A8 r.1.f2.length c8] 57)) 0 (.int .i64 r.1.f0) rfl) 1 (.string r.1.f1) rfl) 2 (.slice A8 r.1.f2.length c8) rfl
        refine bodyPost_ret (results_ct rfl _ _ _ _ _ _ _ rfl b6 Tryz.underlying57 rfl (by kernel_rfl)) rfl ?_
        have hsub : subP vars bys e = (r.1, 0) := by rw [subP, if_pos HL.out, HTt.out, HRr.out, if_pos hle]; rfl
        rw [hsub]
        have hlow : w.heap.size + 1 + 1 + 1 < W7.heap.size := by have := Z4.out; have := HZ7.out; omega
        have hO := Kd.R_below HO8.out (below_alloc1 w8 (.cells #[.int .i64 r.1.f0, .string r.1.f1, .slice A8 r.1.f2.length c8] 57))
        exact ⟨_, rfl, Kd.R_lower (OwnE.set (OwnE.set (OwnE.set hO hlow _ _) hlow _ _) hlow _ _) (by omega), (((Q8.out.alloc (by omega) _).setCell (by simp only; omega) _).setCell (by simp only; omega) _).setCell (by simp only; omega) _⟩
      · have hle2 : decide ((24 : Int) < (r.2 : Int)) = true := decide_eq_true (by omega)
        go_wp2
        have b6 := blk_put (blk_put (blk_put (blk_alloc B38.out (.cells #[.int .i64 r.1.f0, .string r.1.f1, .slice A8 r.1.f2.length c8] 57)) 0 (.int .i64 0) rfl) 1 (.string ⟨#[]⟩) rfl) 2 (.slice none 0 0) rfl
        refine bodyPost_ret (results_ct rfl _ _ _ _ _ _ _ rfl b6 Tryz.underlying57 rfl (by kernel_rfl)) rfl ?_
        have hsub : subP vars bys e = (noE, 2) := by rw [subP, if_pos HL.out, HTt.out, HRr.out, if_neg hle]; rfl
        rw [hsub]
        have hlow : w.heap.size ≤ w8.heap.size := Q8.out.size
        exact ⟨_, rfl, Kd.R_nil _ _ _ _ _, (((Q8.out.alloc hlow _).setCell (by simp only; omega) _).setCell (by simp only; omega) _).setCell (by simp only; omega) _⟩
  · have hl1 : ((vars.length : Int) != (bys.length : Int)) = true := by simp only [bne_iff_ne, ne_eq]; omega
    have HL := Lib.hid hl
    clear hl
    go_enter Tryz.func62, Tryz.ntmps62
    go_wp2_with fail
    have b6 := blk_put (blk_put (blk_put B3.out 0 (.int .i64 0) rfl) 1 (.string ⟨#[]⟩) rfl) 2 (.slice none 0 0) rfl
    refine bodyPost_ret (results_ct rfl _ _ _ _ _ _ _ rfl b6 Tryz.underlying57 rfl (by kernel_rfl)) rfl ?_
    have hsub : subP vars bys e = (noE, 7) := by rw [subP, if_neg HL.out]
    rw [hsub]
    exact ⟨_, rfl, Kd.R_nil _ _ _ _ _, ((Q4.out.setCell (by simp only; omega) _).setCell (by simp only; omega) _).setCell (by simp only; omega) _⟩
end Go.Proofs.YtacefdkfbpgedaaGreat.Mine
namespace Go.Proofs.YtacefdkfbpgedaaGreat.Mine
open Go.Proofs.YtacefdkfbpgedaaGreat.PProgSmall
open Go.RowKit Go.Shelf Go.Proofs.YtacefdkfbpgedaaGreatW.PrintWords Go.Proofs.YtacefdkfbpgedaaGreatW.PrintLast Go.Proofs.YtacefdkfbpgedaaGreatW.PrintMore
set_option linter.unusedVariables false
set_option linter.unusedSimpArgs false
end Go.Proofs.YtacefdkfbpgedaaGreat.Mine
namespace Go.Proofs.YtacefdkfbpgedaaGreat.Mine
open Go.Proofs.YtacefdkfbpgedaaGreat.PProgSmall
open Go.RowKit Go.Shelf Go.Proofs.YtacefdkfbpgedaaGreatW.PrintWords Go.Proofs.YtacefdkfbpgedaaGreatW.PrintLast Go.Proofs.YtacefdkfbpgedaaGreatW.PrintMore
set_option linter.unusedVariables false
set_option linter.unusedSimpArgs false
theorem leftE_sz (m : Nat) : ∀ (e : Ex) (n : Int), szE e ≤ m → 0 ≤ leftE e n → leftE e n + (szE e : Int) ≤ n := by
  induction m with
  | zero => intro e n h; exact absurd h (by have := szE_pos e; omega)
  | succ m ih =>
    intro e n h h0
    rw [szE_eq] at h ⊢
    rw [leftE_eq] at h0 ⊢
    have key : ∀ (l : List Ex) (n : Int), szL l ≤ m → 0 ≤ leftL l n → leftL l n + (szL l : Int) ≤ n := by
      intro l
      induction l with
      | nil => intro n _ h; simp only [leftL, szL] at h ⊢; omega
      | cons x xs ihx =>
        intro n hs h0
        rw [szL] at hs ⊢
        rw [leftL] at h0 ⊢
        by_cases hn : n ≥ 0
        · rw [if_pos hn] at h0 ⊢
          have h2 := ihx (leftE x n) (by omega) h0
          have h1 := ih x n (by omega) (by omega)
          omega
        · rw [if_neg hn] at h0; omega
    have := key e.f2 (n - (1 + (e.f1.size : Int) / 40)) (by omega) h0
    have h3 : (0 : Int) ≤ (e.f1.size : Int) / 40 := Int.ediv_nonneg (by omega) (by omega)
    omega
theorem bigE_sz {e : Ex} (h : bigE e = false) : szE e ≤ 60 := by
  rw [bigE, decide_eq_false_iff_not] at h
  have := leftE_sz _ e 60 (Nat.le_refl _) (by omega)
  omega
end Go.Proofs.YtacefdkfbpgedaaGreat.Mine
namespace Go.Proofs.YtacefdkfbpgedaaGreat.Mine
open Go.Proofs.YtacefdkfbpgedaaGreat.PProgSmall
open Go.RowKit Go.Shelf Go.Proofs.YtacefdkfbpgedaaGreatW.PrintWords Go.Proofs.YtacefdkfbpgedaaGreatW.PrintLast Go.Proofs.YtacefdkfbpgedaaGreatW.PrintMore
set_option linter.unusedVariables false
set_option linter.unusedSimpArgs false
set_option maxRecDepth 100000
abbrev tOnes : ByteArray := ⟨#[111, 110, 101, 115]⟩
abbrev tTwo : ByteArray := ⟨#[116, 119, 111]⟩
abbrev tMap : ByteArray := ⟨#[109, 97, 112]⟩
abbrev tX : ByteArray := ⟨#[120]⟩
abbrev tP : ByteArray := ⟨#[112]⟩
abbrev tA : ByteArray := ⟨#[97]⟩
abbrev xX : Ex := ⟨1, tX, []⟩
abbrev xA : Ex := ⟨2, tA, []⟩
theorem lists_check : checkP listsP = 0 := by kernel_rfl
theorem lists_calls : callsP listsP tOnes = [tOnes] := by kernel_rfl
theorem lists_find : (findP listsP tOnes).2 = 0 := by kernel_rfl
theorem lists_find2 : (findP listsP tTwo).2 = 0 := by kernel_rfl
theorem lists_reach : reachE listsP tTwo = [tTwo, tMap] := by kernel_rfl
theorem lists_simple : simpleP listsP = false := by kernel_rfl
theorem lists_size : szE lx4 = 3 := by kernel_rfl
theorem lists_subst : subP [tX] [xA] ⟨2, tP, [xX, xX]⟩ = (⟨2, tP, [xA, xA]⟩, 0) := by kernel_rfl
theorem okD_of {d : De} (h : (decide (d.f1.length ≤ 100000) && decide (d.f2.length ≤ 100000) && (d.f2.all fun c => decide (c.f1.length ≤ 100000)) && ((bodiesD d).all fun b => decide (szE b < 1000000)) && (d.f1.all fun s => decide (s.size ≤ nmLim)) && (d.f2.all fun c => decide (c.f0.size ≤ nmLim)) && (d.f2.all fun c => c.f1.all fun s => decide (s.size ≤ nmLim))) = true) : OkD d := by
  simp only [Bool.and_eq_true, List.all_eq_true, decide_eq_true_eq] at h
  obtain ⟨⟨⟨⟨⟨⟨h1, h2⟩, h3⟩, h4⟩, h5⟩, h6⟩, h7⟩ := h
  exact ⟨h1, h2, h3, h4, h5, h6, h7⟩
theorem lists_ok : OkP listsP := by
  refine ⟨by decide, fun d hd => okD_of ?_, fun d hd => ?_, fun d hd => ?_⟩
  · have h : (listsP.all fun d => (decide (d.f1.length ≤ 100000) && decide (d.f2.length ≤ 100000) && (d.f2.all fun c => decide (c.f1.length ≤ 100000)) && ((bodiesD d).all fun b => decide (szE b < 1000000)) && (d.f1.all fun s => decide (s.size ≤ nmLim)) && (d.f2.all fun c => decide (c.f0.size ≤ nmLim)) && (d.f2.all fun c => c.f1.all fun s => decide (s.size ≤ nmLim)))) = true := by kernel_rfl
    exact List.all_eq_true.1 h d hd
  · have h : (listsP.all fun d => decide (d.f0.size ≤ nmLim)) = true := by kernel_rfl
    exact of_decide_eq_true (List.all_eq_true.1 h d hd)
  · have h : (listsP.all fun d => decide (szL (bodiesD d) < 1000000)) = true := by kernel_rfl
    exact of_decide_eq_true (List.all_eq_true.1 h d hd)
abbrev AwS (W0 : World) (Bp : Nat) (ad : Addr) (Bx : Nat) (Az : Option Addr) (cz : Nat) (Z5 : Option Addr) (z5 : Nat) (W : World) : Prop :=
  Below W0.heap.size W0 W ∧ W.cell? ⟨Bp, 0, none⟩ = some (.slice (some ad) 3 3) ∧ W.cell? ⟨Bx, 0, none⟩ = some (.int .i64 2) ∧ W.cell? ⟨Bx, 1, none⟩ = some (.string tP) ∧ W.cell? ⟨Bx, 2, none⟩ = some (.slice Az 2 cz) ∧
  W.cell? ⟨ad.block, ad.off + 3, none⟩ = some (.int .i64 2) ∧ W.cell? ⟨ad.block, ad.off + 4, none⟩ = some (.string ⟨#[99, 111, 110, 115]⟩) ∧ W.cell? ⟨ad.block, ad.off + 5, none⟩ = some (.slice Z5 2 z5)
theorem AwS.step {W0 : World} {Bp : Nat} {ad : Addr} {Bx : Nat} {Az : Option Addr} {cz : Nat} {Z5 : Option Addr} {z5 : Nat} {W W' : World} (h : AwS W0 Bp ad Bx Az cz Z5 z5 W) (hb : Below W.heap.size W W') : AwS W0 Bp ad Bx Az cz Z5 z5 W' := by
  obtain ⟨h0, h1, h2, h3, h4, h5, h6, h7⟩ := h
  exact ⟨h0.trans (hb.mono h0.size), pw_cell_below hb h1, pw_cell_below hb h2, pw_cell_below hb h3, pw_cell_below hb h4, pw_cell_below hb h5, pw_cell_below hb h6, pw_cell_below hb h7⟩
set_option maxHeartbeats 4000000 in
theorem c_awake (w : World) : Calls Tryz.prog 9 #[] w fun en w' => en = .returned (.bool true) ∧ Below w.heap.size w w' := by
  go_enter Tryz.func9, Tryz.ntmps9
  go_wp2_with fail
  refine (c_Lists _).mono ?_
  rintro en w1 ⟨A, rfl, hC, hb1⟩
  obtain ⟨ad, g0, g1, g2, g3, g4, g5, rfl, _, _⟩ := gett6 (xs := listsP) rfl hC 0 (by decide)
  have C := Aside0.mk (Kd.C_below hC (below_alloc1 w1 (.cells #[.slice (some ad) 3 3] 24)))
  have P := Aside0.mk (alloc_at w1 (.cells #[.slice (some ad) 3 3] 24))
  have Q := Aside0.mk (hb1.trans ((below_alloc1 w1 (.cells #[.slice (some ad) 3 3] 24)).mono hb1.size))
  clear hC hb1
  obtain ⟨W2, hW2⟩ : ∃ W2, w1.alloc (.cells #[.slice (some ad) 3 3] 24) = W2 := ⟨_, rfl⟩
  rw [hW2] at C P Q
  have HW2 := Lib.hid hW2
  have kP := (blk_cell P.out 0).trans rfl
  rw [← hW2] at kP
  clear hW2
  have HC := Lib.hid (c_Calls listsP (some ad) 3 tOnes W2 C.out (by decide) lists_ok)
  rw [lists_find, lists_calls] at HC
  go_wp2_with fail
  rw [HW2.out]
  clear kP
  refine HC.out.mono ?_
  rintro en w3 ⟨v, rfl, ho, hb⟩
  obtain ⟨Al, cl, rfl⟩ := own_slice ho
  obtain ⟨_, _, he, hcl, hCl⟩ := OwnS.reads ho
  cases he
  have L := Aside0.mk hCl
  have P := Aside0.mk (blk_below P.out hb)
  have C := Aside0.mk (Kd.C_below C.out hb)
  have Q := Aside0.mk (Q.out.trans (hb.mono Q.out.size))
  clear hb ho hCl HC
  have HC := Lib.hid (c_Simple listsP (some ad) 3 w3 C.out (by decide) lists_ok)
  rw [lists_simple, lists_check] at HC
  have kP := (blk_cell P.out 0).trans rfl
  go_wp2_with fail
  clear kP
  refine HC.out.mono ?_
  rintro en w4 ⟨rfl, hb⟩
  have L := Aside0.mk (Kd.C_below L.out hb)
  have P := Aside0.mk (blk_below P.out hb)
  have C := Aside0.mk (Kd.C_below C.out hb)
  have Q := Aside0.mk (Q.out.trans (hb.mono Q.out.size))
  clear hb HC
  have HC := Lib.hid (c_Reach listsP (some ad) 3 tTwo w4 C.out (by decide) lists_ok)
  rw [lists_find2, lists_reach] at HC
  have kP := (blk_cell P.out 0).trans rfl
  go_wp2_with fail
  clear kP
  refine HC.out.mono ?_
  rintro en w5 ⟨v, rfl, ho, hb⟩
  obtain ⟨Ar, cr, rfl⟩ := own_slice ho
  obtain ⟨_, _, he, hcr, hCr⟩ := OwnS.reads ho
  cases he
  have R := Aside0.mk hCr
  have L := Aside0.mk (Kd.C_below L.out hb)
  have P := Aside0.mk (blk_below P.out hb)
  have C := Aside0.mk (Kd.C_below C.out hb)
  have Q := Aside0.mk (Q.out.trans (hb.mono Q.out.size))
  clear hb ho hCr HC HW2
  go_wp2_with fail
  refine (c_V _ _).mono ?_
  rintro en w6 ⟨rfl, hb⟩
  simp only [encH, List.length_nil]
  have R := Aside0.mk (Kd.C_below R.out hb)
  have L := Aside0.mk (Kd.C_below L.out hb)
  have P := Aside0.mk (blk_below P.out hb)
  have C := Aside0.mk (Kd.C_below C.out hb)
  have Q := Aside0.mk (Q.out.trans (hb.mono Q.out.size))
  clear hb
  go_wp2_with fail
  refine (c_V _ _).mono ?_
  rintro en w7 ⟨rfl, hb⟩
  simp only [encH, List.length_nil]
  have R := Aside0.mk (Kd.C_below R.out hb)
  have L := Aside0.mk (Kd.C_below L.out hb)
  have P := Aside0.mk (blk_below P.out hb)
  have C := Aside0.mk (Kd.C_below C.out hb)
  have Q := Aside0.mk (Q.out.trans (hb.mono Q.out.size))
  clear hb
  obtain ⟨W8, hW8⟩ : ∃ W8, w7.alloc (.cells #[.int .i64 1, .string tX, .slice none 0 0, .int .i64 1, .string tX, .slice none 0 0] 57) = W8 := ⟨_, rfl⟩
  have X := Kd.F_now (F_lit2 (W := w7) (ok := fun _ => True) trivial 57 (k57_mkF _ _ xX (Nat.le_refl _) (Kd.F_nil k57 _ _)) rfl (k57_mkF _ _ xX (Nat.le_refl _) (Kd.F_nil k57 _ _)) rfl)
  have X := Aside0.mk (show Kd.C k57 W8 (some ⟨w7.heap.size, 0, none⟩) 2 [xX, xX] by rw [← hW8]; exact X)
  have hb : Below w7.heap.size w7 W8 := by rw [← hW8]; exact below_alloc1 _ _
  have R := Aside0.mk (Kd.C_below R.out hb)
  have L := Aside0.mk (Kd.C_below L.out hb)
  have P := Aside0.mk (blk_below P.out hb)
  have C := Aside0.mk (Kd.C_below C.out hb)
  have Q := Aside0.mk (Q.out.trans (hb.mono Q.out.size))
  have HW8 := Lib.hid hW8
  clear hb hW8
  go_wp2_with fail
  rw [HW8.out]
  refine (c_M _ _ _ _ _).mono ?_
  rintro en w9 ⟨rfl, hb⟩
  have R := Aside0.mk (Kd.C_below R.out hb)
  have L := Aside0.mk (Kd.C_below L.out hb)
  have P := Aside0.mk (blk_below P.out hb)
  have C := Aside0.mk (Kd.C_below C.out hb)
  have Q := Aside0.mk (Q.out.trans (hb.mono Q.out.size))
  have X := Aside0.mk (Kd.C_below X.out hb)
  clear hb HW8
  obtain ⟨W10, hW10⟩ : ∃ W10, w9.alloc (.cells #[.string tX] 9) = W10 := ⟨_, rfl⟩
  have S := Kd.F_now (F_lit1 (W := w9) (ok := fun _ => True) trivial 9 (show Kd.FK Kd.string _ _ tX [.string tX] from fun _ _ => rfl) rfl)
  have S := Aside0.mk (show Kd.C Kd.string W10 (some ⟨w9.heap.size, 0, none⟩) 1 [tX] by rw [← hW10]; exact S)
  have hb : Below w9.heap.size w9 W10 := by rw [← hW10]; exact below_alloc1 _ _
  have R := Aside0.mk (Kd.C_below R.out hb)
  have L := Aside0.mk (Kd.C_below L.out hb)
  have P := Aside0.mk (blk_below P.out hb)
  have C := Aside0.mk (Kd.C_below C.out hb)
  have Q := Aside0.mk (Q.out.trans (hb.mono Q.out.size))
  have X := Aside0.mk (Kd.C_below X.out hb)
  have HW10 := Lib.hid hW10
  clear hb hW10
  go_wp2_with fail
  rw [HW10.out]
  refine (c_M _ _ _ _ _).mono ?_
  rintro en w11 ⟨rfl, hb⟩
  have R := Aside0.mk (Kd.C_below R.out hb)
  have L := Aside0.mk (Kd.C_below L.out hb)
  have P := Aside0.mk (blk_below P.out hb)
  have C := Aside0.mk (Kd.C_below C.out hb)
  have Q := Aside0.mk (Q.out.trans (hb.mono Q.out.size))
  have X := Aside0.mk (Kd.C_below X.out hb)
  have S := Aside0.mk (Kd.C_below S.out hb)
  clear hb HW10
  obtain ⟨W12, hW12⟩ : ∃ W12, w11.alloc (.cells #[.int .i64 2, .string tA, .slice none 0 0] 57) = W12 := ⟨_, rfl⟩
  have Y := Kd.F_now (F_lit1 (W := w11) (ok := fun _ => True) trivial 57 (k57_mkF _ _ xA (Nat.le_refl _) (Kd.F_nil k57 _ _)) rfl)
  have Y := Aside0.mk (show Kd.C k57 W12 (some ⟨w11.heap.size, 0, none⟩) 1 [xA] by rw [← hW12]; exact Y)
  have hb : Below w11.heap.size w11 W12 := by rw [← hW12]; exact below_alloc1 _ _
  have R := Aside0.mk (Kd.C_below R.out hb)
  have L := Aside0.mk (Kd.C_below L.out hb)
  have P := Aside0.mk (blk_below P.out hb)
  have C := Aside0.mk (Kd.C_below C.out hb)
  have Q := Aside0.mk (Q.out.trans (hb.mono Q.out.size))
  have X := Aside0.mk (Kd.C_below X.out hb)
  have S := Aside0.mk (Kd.C_below S.out hb)
  have HW12 := Lib.hid hW12
  clear hb hW12
  have HC := Lib.hid (c_Subst ⟨2, tP, [xX, xX]⟩ (some ⟨w7.heap.size, 0, none⟩) 2 [tX] (some ⟨w9.heap.size, 0, none⟩) 1 [xA] (some ⟨w11.heap.size, 0, none⟩) 1 W12 X.out (Nat.le_refl _) S.out (Nat.le_refl _) Y.out (Nat.le_refl _) (by decide) (by intro x hx; obtain rfl := List.mem_singleton.1 hx; decide) (by intro x hx; obtain rfl := List.mem_singleton.1 hx; decide) (by decide))
  rw [lists_subst] at HC
  go_wp2_with fail
  rw [HW12.out]
  refine HC.out.mono ?_
  rintro en w13 ⟨v, rfl, ho, hb⟩
  obtain ⟨Az, cz, rfl, hcz, hCz⟩ := Kd.R_reads ho
  have Z := Aside0.mk hCz
  have R := Aside0.mk (Kd.C_below R.out hb)
  have L := Aside0.mk (Kd.C_below L.out hb)
  have P := Aside0.mk (blk_below P.out hb)
  have C := Aside0.mk (Kd.C_below C.out hb)
  have Q := Aside0.mk (Q.out.trans (hb.mono Q.out.size))
  clear hb HW12 ho hCz HC X S Y
  obtain ⟨W14, hW14⟩ : ∃ W14, w13.alloc (.cells #[.int .i64 2, .string tP, .slice Az 2 cz] 57) = W14 := ⟨_, rfl⟩
  have V := Aside0.mk (show W14.heap[w13.heap.size]? = some (.cells #[.int .i64 2, .string tP, .slice Az 2 cz] 57 (0, 0)) by rw [← hW14]; exact alloc_at _ _)
  have hb : Below w13.heap.size w13 W14 := by rw [← hW14]; exact below_alloc1 _ _
  have R := Aside0.mk (Kd.C_below R.out hb)
  have L := Aside0.mk (Kd.C_below L.out hb)
  have P := Aside0.mk (blk_below P.out hb)
  have C := Aside0.mk (Kd.C_below C.out hb)
  have Q := Aside0.mk (Q.out.trans (hb.mono Q.out.size))
  have Z := Aside0.mk (Kd.C_below Z.out hb)
  have HW14 := Lib.hid hW14
  clear hb hW14
  go_wp2_with fail
  rw [HW14.out]
  clear HW14
  obtain ⟨ad', g0, g1, g2, g3, g4, g5, had, hK, _, y0, y1, y2, y3, y4, y5⟩ := gett6 (xs := listsP) rfl C.out 0 (by decide)
  obtain rfl := Option.some.inj had
  obtain ⟨Z1, z1, Z2, z2, Z5, z5, he, _, _, _, _, hl5, hc5⟩ := k59_open hK
  obtain ⟨rfl, rfl, rfl, rfl, rfl, rfl⟩ : g0 = _ ∧ g1 = _ ∧ g2 = _ ∧ g3 = _ ∧ g4 = _ ∧ g5 = _ := by simpa using he
  have hS0 : AwS W14 w1.heap.size ad w13.heap.size Az cz Z5 z5 W14 := by
    refine ⟨Below.refl _ _, (blk_cell P.out 0).trans rfl, (blk_cell V.out 0).trans rfl, (blk_cell V.out 1).trans rfl, (blk_cell V.out 2).trans rfl, ?_, ?_, ?_⟩
    · simpa [Addr.add] using y3
    · simpa [Addr.add] using y4
    · simpa [Addr.add] using y5
  have HCk := Lib.hid (fun W (h : AwS W14 w1.heap.size ad w13.heap.size Az cz Z5 z5 W) => (c_Check listsP (some ad) 3 W (Kd.C_below C.out h.1) (by decide) lists_ok).mono (R' := fun e W' => e = .returned (.int .i64 0) ∧ AwS W14 w1.heap.size ad w13.heap.size Az cz Z5 z5 W') (by rintro e W' ⟨h1, h2⟩; exact ⟨by rw [h1, lists_check], h.step h2⟩))
  have HSz := Lib.hid (fun W (h : AwS W14 w1.heap.size ad w13.heap.size Az cz Z5 z5 W) => (c_Size 10 lx4 Z5 z5 W (by decide) (by decide) (Kd.C_below hc5 h.1) hl5).mono (R' := fun e W' => e = .returned (.int .i64 3) ∧ AwS W14 w1.heap.size ad w13.heap.size Az cz Z5 z5 W') (by rintro e W' ⟨h1, h2⟩; exact ⟨by rw [h1, lists_size]; rfl, h.step h2⟩))
  have HE1 := Lib.hid (fun W (h : AwS W14 w1.heap.size ad w13.heap.size Az cz Z5 z5 W) => (c_EqS Al (some ⟨W.heap.size, 0, none⟩) cl 1 [tOnes] [tOnes] (W.alloc (.cells #[.string tOnes] 9)) (Kd.C_below (Kd.C_below L.out h.1) (below_alloc1 _ _)) hcl (Kd.F_now (F_lit1 (W := W) (ok := fun _ => True) trivial 9 (show Kd.FK Kd.string _ _ tOnes [.string tOnes] from fun _ _ => rfl) rfl)) (Nat.le_refl _)).mono (R' := fun e W' => e = .returned (.bool true) ∧ AwS W14 w1.heap.size ad w13.heap.size Az cz Z5 z5 W') (by rintro e W' ⟨h1, h2⟩; exact ⟨by rw [h1]; simp, (h.step (below_alloc1 _ _)).step h2⟩))
  have HE2 := Lib.hid (fun W (h : AwS W14 w1.heap.size ad w13.heap.size Az cz Z5 z5 W) => (c_EqS Ar (some ⟨W.heap.size, 0, none⟩) cr 2 [tTwo, tMap] [tTwo, tMap] (W.alloc (.cells #[.string tTwo, .string tMap] 9)) (Kd.C_below (Kd.C_below R.out h.1) (below_alloc1 _ _)) hcr (Kd.F_now (F_lit2 (W := W) (ok := fun _ => True) trivial 9 (show Kd.FK Kd.string _ _ tTwo [.string tTwo] from fun _ _ => rfl) rfl (show Kd.FK Kd.string _ _ tMap [.string tMap] from fun _ _ => rfl) rfl)) (Nat.le_refl _)).mono (R' := fun e W' => e = .returned (.bool true) ∧ AwS W14 w1.heap.size ad w13.heap.size Az cz Z5 z5 W') (by rintro e W' ⟨h1, h2⟩; exact ⟨by rw [h1]; simp, (h.step (below_alloc1 _ _)).step h2⟩))
  have HM := Lib.hid (fun W (h : AwS W14 w1.heap.size ad w13.heap.size Az cz Z5 z5 W) => (c_M tA none 0 0 W).mono (R' := fun e W' => e = .returned (.agg #[.int .i64 2, .string tA, .slice none 0 0]) ∧ AwS W14 w1.heap.size ad w13.heap.size Az cz Z5 z5 W') (by rintro e W' ⟨h1, h2⟩; exact ⟨h1, h.step h2⟩))
  have HMp := Lib.hid (fun W (h : AwS W14 w1.heap.size ad w13.heap.size Az cz Z5 z5 W) => (c_M tP (some ⟨W.heap.size, 0, none⟩) 2 2 (W.alloc (.cells #[.int .i64 2, .string tA, .slice none 0 0, .int .i64 2, .string tA, .slice none 0 0] 57))).mono (R' := fun e W' => e = .returned (.agg #[.int .i64 2, .string tP, .slice (some ⟨W.heap.size, 0, none⟩) 2 2]) ∧ Kd.C k57 W' (some ⟨W.heap.size, 0, none⟩) 2 [xA, xA] ∧ AwS W14 w1.heap.size ad w13.heap.size Az cz Z5 z5 W') (by rintro e W' ⟨h1, h2⟩; exact ⟨h1, Kd.C_below (Kd.F_now (F_lit2 (W := W) (ok := fun _ => True) trivial 57 (k57_mkF _ _ xA (Nat.le_refl _) (Kd.F_nil k57 _ _)) rfl (k57_mkF _ _ xA (Nat.le_refl _) (Kd.F_nil k57 _ _)) rfl)) h2, (h.step (below_alloc1 _ _)).step h2⟩))
  have HSm := Lib.hid (fun W B (h : AwS W14 w1.heap.size ad w13.heap.size Az cz Z5 z5 W) (hB : Kd.C k57 W (some ⟨B, 0, none⟩) 2 [xA, xA]) => (c_SameExpr ⟨2, tP, [xA, xA]⟩ ⟨2, tP, [xA, xA]⟩ Az (some ⟨B, 0, none⟩) cz 2 W (Kd.C_below Z.out h.1) hcz hB (Nat.le_refl _) (by decide) (by decide)).mono (R' := fun e W' => e = .returned (.bool true) ∧ AwS W14 w1.heap.size ad w13.heap.size Az cz Z5 z5 W') (by rintro e W' ⟨h1, h2⟩; exact ⟨by rw [h1, sameE_iff.2 rfl], h.step h2⟩))
  clear C L R Z P V hK he y0 y1 y2 y3 y4 y5 hl5 hc5 hcl hcr hcz had
  go_region_held3 (fun W => AwS W14 w1.heap.size ad w13.heap.size Az cz Z5 z5 W) (first | assumption | exact hS0.step (below_drew (Below.refl _ _)) | (refine AwS.step ?_ (below_alloc1 _ _) <;> assumption)) (first | (go_at_call 45; refine (HCk.out _ (by assumption)).mono ?_; rintro e w' ⟨rfl, hS⟩) | (go_at_call 60; refine (HSz.out _ (by assumption)).mono ?_; rintro e w' ⟨rfl, hS⟩) | (go_at_call 20; (with_reducible show Calls _ _ #[.slice Ar 2 cr, _] _ _); refine (HE2.out _ (by assumption)).mono ?_; rintro e w' ⟨rfl, hS⟩) | (go_at_call 20; refine (HE1.out _ (by assumption)).mono ?_; rintro e w' ⟨rfl, hS⟩) | (go_at_call 57; (with_reducible show Calls _ _ #[.string ⟨#[112]⟩, _] _ _); refine (HMp.out _ (by assumption)).mono ?_; rintro e w' ⟨rfl, hcx, hS⟩) | (go_at_call 57; refine (HM.out _ (by assumption)).mono ?_; rintro e w' ⟨rfl, hS⟩) | (go_at_call 63; refine (HSm.out _ _ (by assumption) (by assumption)).mono ?_; rintro e w' ⟨rfl, hS⟩))
  all_goals
    have hlast : Below W14.heap.size W14 _ := (by assumption : AwS W14 w1.heap.size ad w13.heap.size Az cz Z5 z5 _).1
    go_wp2
    go_ret
    exact ⟨rfl, Q.out.trans (hlast.mono Q.out.size)⟩
end Go.Proofs.YtacefdkfbpgedaaGreat.Mine
