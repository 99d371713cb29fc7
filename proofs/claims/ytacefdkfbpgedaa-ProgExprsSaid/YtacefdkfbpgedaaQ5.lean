/- Expressions that are made: OwnExpr of both sides. -/
import Derived.Test.YtacefdkfbpgedaaQ4
import Derived.Deep.RegionLaw
import Derived.Laws.CopyRow
import Derived.Laws.MakeOwn
namespace Go.Proofs.Ytacefdkfbpgedaa.Mine
open Go.Proofs.Ytacefdkfbpgedaa.PProgExprs
open Go.RowKit Go.Shelf Go.Proofs.YtacefdkfbpgedaaW.PrintWords Go.Proofs.YtacefdkfbpgedaaW.PrintLast Go.Proofs.YtacefdkfbpgedaaW.PrintMore
set_option linter.unusedVariables false
set_option linter.unusedSimpArgs false

theorem szL_len : ∀ l : List Ex, l.length ≤ szL l
  | [] => by simp [szL]
  | x :: xs => by have := szL_len xs; have := szE_pos x; simp only [szL, List.length_cons]; omega
/-- A row of expressions of the call's own, in blocks from base on. -/
abbrev OwnE (W : World) (base : Nat) (v : Value) (l : List Ex) : Prop := Kd.R k24 24 W base (fun _ => True) v l
theorem OwnE.lower {W : World} {base b : Nat} {v : Value} {l : List Ex} (h : OwnE W base v l) (hb : b ≤ base) : OwnE W b v l := Kd.R_lower h hb
theorem OwnE.set {W : World} {base : Nat} {v : Value} {l : List Ex} (h : OwnE W base v l) {g : Nat} (hg : g < base) (j : Nat) (u : Value) : OwnE (W.setCell ⟨g, j, none⟩ u) base v l :=
  Kd.R_mono (Kd.R_far (Kd.R_mono (Kd.R_bound h) (ok' := fun k => base ≤ k) (fun k hk => hk.2.1)) (p := ⟨g, j, none⟩) (fun k hk => by have : base ≤ k := hk; simp only [ne_eq]; omega) u) (fun _ _ => trivial)

set_option maxRecDepth 100000 in
set_option maxHeartbeats 4000000 in
theorem c_OwnExpr (n : Nat) : ∀ (e : Ex) (A : Option Addr) (c : Nat) (w : World), szE e ≤ n → szE e ≤ 1000000 → Kd.C k24 w A e.f2.length e.f2 → e.f2.length ≤ c →
    Calls Try.prog 12 #[.agg #[.int .i64 e.f0, .string e.f1, .slice A e.f2.length c]] w fun en w' => ∃ v, en = .returned (.agg #[.int .i64 e.f0, .string e.f1, v]) ∧ OwnE w' w.heap.size v e.f2 ∧ Below w.heap.size w w' := by
  induction n with
  | zero => intro e A c w h; exact absurd h (by have := szE_pos e; omega)
  | succ n ih =>
    intro e A c w hn hn2 hr hc
    have hm := hr.2.1
    have hsz := szE_eq e
    have h1 : szL e.f2 ≤ n := by omega
    have h2 : szL e.f2 ≤ 1000000 := by omega
    have h3 := szL_len e.f2
    obtain ⟨W1, hW1⟩ : ∃ W1, ((w.alloc (.cells #[.int .i64 e.f0, .string e.f1, .slice A e.f2.length c] 24)).alloc (.cells #[.int .i64 0, .string ⟨#[]⟩, .slice none 0 0] 24)) = W1 := ⟨_, rfl⟩
    have z1 : W1.heap.size = w.heap.size + 2 := by rw [← hW1]; simp
    have q1 : Below w.heap.size w W1 := by rw [← hW1]; exact below_alloc2 _ _ _
    have q2 := q1.trans ((below_alloc1 W1 (.cells #[.int .i64 e.f0, .string e.f1, .slice none 0 0] 24)).mono q1.size)
    have b2 := alloc_at W1 (.cells #[.int .i64 e.f0, .string e.f1, .slice none 0 0] 24)
    rw [z1] at b2
    have b1 : W1.heap[w.heap.size + 1]? = some (.cells #[.int .i64 0, .string ⟨#[]⟩, .slice none 0 0] 24 (0, 0)) := by rw [← hW1]; have := alloc_at (w.alloc (.cells #[.int .i64 e.f0, .string e.f1, .slice A e.f2.length c] 24)) (.cells #[.int .i64 0, .string ⟨#[]⟩, .slice none 0 0] 24); simpa using this
    have b3 := blk_alloc b1 (.cells #[.int .i64 e.f0, .string e.f1, .slice none 0 0] 24)
    rw [← hW1] at q2 b2 b3
    have B3 := Aside0.mk b3
    have Q2 := Aside0.mk q2
    have B2 := Aside0.mk b2
    have HR := Aside0.mk hr
    clear hr hn hn2 hsz q1 q2 b2 b1 b3 z1 hW1
    go_enter Try.func12, Try.ntmps12
    go_wp2
    go_loopg [14] e.f2.length (fun gg s14 wr => ∃ (kk : Nat) (v : Value), kk ≤ e.f2.length ∧ e.f2.length - kk ≤ gg ∧ s14 = .int .i64 kk ∧ Aside0 (Kd.R k24 24 wr (w.heap.size + 1 + 1 + 1) (fun _ => True) v (e.f2.take kk)) ∧ Aside0 (Below w.heap.size w wr) ∧ Aside0 (wr.heap[w.heap.size + 1 + 1]? = some (.cells #[.int .i64 e.f0, .string e.f1, v] 24 (0, 0))) ∧ Aside0 (wr.heap[w.heap.size + 1]? = some (.cells #[.int .i64 0, .string ⟨#[]⟩, .slice none 0 0] 24 (0, 0))))
    case atStart => exact ⟨0, _, Nat.zero_le _, by omega, rfl, ⟨Kd.R_nil _ _ _ _ _⟩, Q2, B2, B3⟩
    case round =>
      obtain ⟨kk, v, hkk, hg, rfl, HO, HB, BK, BZ⟩ := hrel
      by_cases hlt : kk < e.f2.length
      · have hltz : (kk : Int) < (e.f2.length : Int) := by omega
        obtain ⟨ad, c0, c1, c2, rfl, hK, k0, k1, k2⟩ := get3 rfl (Kd.C_below HR.out HB.out) kk hlt
        obtain ⟨A2, a2, rfl, rfl, rfl, hl2, hi2⟩ := kE_cells hK
        obtain ⟨Av, cv, rfl⟩ := Kd.R_slice HO.out
        have hTl := List.length_take_of_le hkk
        rw [hTl] at HO BK
        obtain ⟨W0, hW0⟩ : ∃ W0, wr.alloc (.cells #[.int .i64 e.f2[kk].f0, .string e.f2[kk].f1, .slice A2 e.f2[kk].f2.length a2] 24) = W0 := ⟨_, rfl⟩
        have q0 : Below wr.heap.size wr W0 := by rw [← hW0]; exact below_alloc1 _ _
        have s0 : W0.heap.size = wr.heap.size + 1 := by rw [← hW0]; simp
        have bx : W0.heap[wr.heap.size]? = some (.cells #[.int .i64 e.f2[kk].f0, .string e.f2[kk].f1, .slice A2 e.f2[kk].f2.length a2] 24 (0, 0)) := by rw [← hW0]; exact alloc_at _ _
        have x0 := (blk_cell bx 0).trans rfl
        have x1 := (blk_cell bx 1).trans rfl
        have x2 := (blk_cell bx 2).trans rfl
        have bo := blk_below BK.out q0
        have o2 := (blk_cell bo 2).trans rfl
        have hmem : e.f2[kk] ∈ e.f2 := List.getElem_mem hlt
        have hle := szL_mem hmem
        have hsW := HB.out.size
        have hbl := blk_lt BK.out
        have hR0 := Kd.R_below HO.out q0
        have HC := Lib.hid (fun W (hb : Below W0.heap.size W0 W) => ih e.f2[kk] A2 a2 W (by omega) (by omega) (Kd.C_below hi2 (q0.trans (hb.mono q0.size))) hl2)
        have H0 := Aside0.mk hR0
        have BO := Aside0.mk bo
        clear hK hi2 hl2 hmem bx bo hR0
        go_wp2
        try rw [hW0]
        clear hW0
        have hne : ∀ k, W0.heap.size ≤ k → some k ≠ (Value.slice Av kk cv).ownBlock := fun k hk he => by have := ((Kd.R_bound HO.out).1 k he.symm).2.2.1; omega
        have hne2 : some (w.heap.size + 1 + 1) ≠ (Value.slice Av kk cv).ownBlock := fun he => by have := ((Kd.R_bound HO.out).1 _ he.symm).2.1; omega
        have hne3 : some (w.heap.size + 1) ≠ (Value.slice Av kk cv).ownBlock := fun he => by have := ((Kd.R_bound HO.out).1 _ he.symm).2.1; omega
        have hd := below_drew (Below.refl W0.heap.size W0)
        go_region_law (first | (go_simp; go_at_call 12; refine (HC.out _ (by first | exact hd | assumption)).mono ?_; rintro en w' ⟨v2, rfl, hO2, hb2⟩; have hb3 : Below W0.heap.size W0 w' := hd.trans (hb2.mono (Nat.le_refl _)); have hM2 := k24_mkM w' (w.heap.size + 1 + 1 + 1) (fun k => W0.heap.size ≤ k) e.f2[kk] (Kd.R_lower (Kd.R_mono (Kd.R_bound hO2) (fun k hk => hk.2.1)) (show w.heap.size + 1 + 1 + 1 ≤ W0.heap.size by omega)); have H1 := Aside0.mk (Kd.R_below H0.out hb3); have BO2 := Aside0.mk (blk_below BO.out hb3); have o3 := (blk_cell BO2.out 2).trans rfl; have o5 := fun o => pw_cell_below (below_alloc1 w' o) o3; have s3 := hb3.size; have BZ2 := Aside0.mk (blk_below BZ.out (q0.trans (hb3.mono q0.size))); have HB4 := Aside0.mk (HB.out.trans ((q0.trans (hb3.mono q0.size)).mono HB.out.size)); have s4 : w.heap.size ≤ w'.heap.size := by omega) | (refine Kd.R_append_step k24 (w0 := w') (w.heap.size + 1 + 1 + 1) (by rfl) (.tmp 19) (.tmp 22) 22 24 _ 48 rfl Try.underlying22 infoEx rfl (by decide) (by decide) (.slice Av kk cv) (e.f2.take kk) e.f2[kk] [.int .i64 e.f2[kk].f0, .string e.f2[kk].f1, v2] (fun _ => True) (fun k => W0.heap.size ≤ k) rfl rfl hM2 (fun k hk => ⟨trivial, hne k hk⟩) (fun _ _ => trivial) H1.out (Below.refl _ _) (by omega) (by rw [hTl]; omega) ?_; intro v1 w3 hR3 hB3 hg3 hat3; rw [← take_snoc hlt] at hR3; have HB5 := Aside0.mk (HB4.out.trans (hB3.mono (by omega))); have BZ3 := Aside0.mk (blk_grown BZ2.out hg3 hne3); have BO3 := Aside0.mk (blk_grown BO2.out hg3 hne2); have o4 := (blk_cell BO3.out 2).trans rfl; have f4 := blk_frozen BO3.out 2; obtain ⟨A5, c5, hv5⟩ := Kd.R_slice hR3; subst hv5; have HR5 := Aside0.mk hR3; clear hR3 hB3 hg3 hat3))
        all_goals
          go_wp2
          go_roundg (e.f2.length - (kk + 1))
          case measure => omega
          case rel => exact ⟨kk + 1, _, by omega, by omega, by go_num, ⟨OwnE.set HR5.out (by omega) _ _⟩, ⟨HB5.out.setCell (by simp only; omega) _⟩, ⟨blk_put BO3.out 2 _ (by simp)⟩, ⟨blk_far BZ3.out (by simp) _⟩⟩
      · have : kk = e.f2.length := by omega
        subst this
        have o0 := (blk_cell BK.out 0).trans rfl
        have o1 := (blk_cell BK.out 1).trans rfl
        have o2 := (blk_cell BK.out 2).trans rfl
        have z0 := (blk_cell BZ.out 0).trans rfl
        have z1 := (blk_cell BZ.out 1).trans rfl
        have z2 := (blk_cell BZ.out 2).trans rfl
        have fz := fun i => blk_frozen BZ.out i
        obtain ⟨Av, cv, rfl⟩ := Kd.R_slice HO.out
        go_wp2
        have b4 := blk_put (blk_put (blk_put BZ.out 0 (.int .i64 e.f0) rfl) 1 (.string e.f1) rfl) 2 (.slice Av e.f2.length cv) rfl
        have HO4 := HO.out
        rw [List.take_of_length_le (Nat.le_refl _)] at HO4
        refine bodyPost_ret (results_single rfl (.cell _ _ _ _ _ rfl b4 Try.underlying24 rfl rfl .nil)) rfl ?_
        exact ⟨_, rfl, Kd.R_lower (OwnE.set (OwnE.set (OwnE.set HO4 (by omega) _ _) (by omega) _ _) (by omega) _ _) (by omega), ((HB.out.setCell (by simp) _).setCell (by simp) _).setCell (by simp) _⟩
end Go.Proofs.Ytacefdkfbpgedaa.Mine
/- prog's ownExpr. -/
namespace Go.Proofs.Ytacefdkfbpgedaa.Mine
open Go.Proofs.Ytacefdkfbpgedaa.PProgExprs
open Go.RowKit Go.Shelf Go.Proofs.YtacefdkfbpgedaaW.PrintWords Go.Proofs.YtacefdkfbpgedaaW.PrintLast Go.Proofs.YtacefdkfbpgedaaW.PrintMore
set_option linter.unusedVariables false
set_option linter.unusedSimpArgs false

/-- copy over a whole row of the call's own, elements of whatever size. -/
theorem run_copy_sz {P : Program} (w : World) (dT sT ty elem : TypeId) (g n dCap c size : Nat) (A : Option Addr) (cur : Array Value) (t : TypeId) (cs : List Value)
    (hu : P.underlying dT = some (.slice elem)) (hs : (P.info? elem).map (·.size) = some size) (hg : w.heap[g]? = some (.cells cur t (0, 0))) (hn : cs.length = n * size)
    (hsrc : 0 < cs.length → ∃ ad, A = some ad ∧ ∀ j v, cs[j]? = some v → w.cell? (ad.add j) = some v) (hfit : cs.length = cur.size) (h1 : ∀ v ∈ cs, v.oneCell' = true) :
    (Builtin.copy_ #[dT, sT] ty #[.slice (some ⟨g, 0, none⟩) n dCap, .slice A n c]).run P w = .ok (goInt n) (w.setRow g cs.toArray) := by
  cases hq : P.info? elem with
  | none => simp [hq] at hs
  | some i =>
    have hi : i.size = size := by simpa [hq] using hs
    have hst := run_storeCells_at P g 0 t cs 0 cur w hg (by simp [hfit]) h1
    have hsz : cur.toList.length = cs.length := by simp [hfit]
    simp only [Nat.zero_add, List.take_zero, List.nil_append, List.drop_of_length_le (Nat.le_of_eq hsz), List.append_nil] at hst
    cases A with
    | none =>
      have h0 : cs = [] := by
        cases cs with
        | nil => rfl
        | cons x xs => obtain ⟨ad, h, _⟩ := hsrc (by simp); cases h
      subst h0
      simp [Builtin.copy_, run_underlying hu, Builtin.lenOf, Builtin.firstCells, sizeOf, typeInfo, hq, hi, hst]
    | some a =>
      have hl : (loadCells a (n * size)).run P w = .ok cs.toArray w := by
        rw [← hn]
        refine run_loadCells_list (P := P) w a cs (fun j v hv => ?_)
        obtain ⟨ad, h, hc⟩ := hsrc (by have := (List.getElem?_eq_some_iff.1 hv).1; omega)
        cases h
        exact hc j v hv
      simp [Builtin.copy_, run_underlying hu, Builtin.lenOf, Builtin.firstCells, sizeOf, typeInfo, hq, hi, hl, hst]
theorem wpList_copy_sz {P : Program} {w : World} {ops : Array Oper} {rest : List Oper} {o : Oper} {a : Act} {Q : Exit → Act → World → Prop} (hgd : o.guard = none) (d s : Operand) (dT sT : TypeId)
    (ho : o.op = .call { callee := .builtin .copy, args := #[d, s], argTypes := #[dT, sT] }) (elem : TypeId) (g n dCap c size : Nat) (A : Option Addr) (cur : Array Value) (t : TypeId) (cs : List Value)
    (hd : a.eval d = .slice (some ⟨g, 0, none⟩) n dCap) (hs0 : a.eval s = .slice A n c)
    (hu : P.underlying dT = some (.slice elem)) (hs : (P.info? elem).map (·.size) = some size) (hg : w.heap[g]? = some (.cells cur t (0, 0))) (hn : cs.length = n * size)
    (hsrc : 0 < cs.length → ∃ ad, A = some ad ∧ ∀ j v, cs[j]? = some v → w.cell? (ad.add j) = some v) (hfit : cs.length = cur.size) (h1 : ∀ v ∈ cs, v.oneCell' = true)
    (h : wpList P ops Q rest (a.put o.dst (goInt n)) (w.setRow g cs.toArray)) : wpList P ops Q (o :: rest) a w := by
  refine wpList_plain hgd fun K hK => ?_
  have hrun := run_copy_sz (P := P) w dT sT o.type elem g n dCap c size A cur t cs hu hs hg hn hsrc hfit h1
  unfold Oper.wp
  simp [execOp, ho, resolve, invoke, builtin, hd, hs0, hrun, Result.andThen]
  exact hK _ _ h

/-- A row of which the first kk elements are the call's own, from base on; the others are read. -/
def PartE (w0 W : World) (base : Nat) (xs : List Ex) (kk : Nat) (cur : Array Value) : Prop :=
  cur.size = xs.length * 3 ∧ ∀ j (h : j < xs.length), ∃ v, cur[j * 3]? = some (.int .i64 xs[j].f0) ∧ cur[j * 3 + 1]? = some (.string xs[j].f1) ∧ cur[j * 3 + 2]? = some v ∧
    if j < kk then OwnE W base v xs[j].f2 else ∃ A c, v = .slice A xs[j].f2.length c ∧ xs[j].f2.length ≤ c ∧ Kd.C k24 w0 A xs[j].f2.length xs[j].f2
theorem PartE.below {w0 W W' : World} {base : Nat} {xs : List Ex} {kk : Nat} {cur : Array Value} (h : PartE w0 W base xs kk cur) (hb : Below W.heap.size W W') : PartE w0 W' base xs kk cur := by
  refine ⟨h.1, fun j hj => ?_⟩
  obtain ⟨v, h0, h1, h2, h3⟩ := h.2 j hj
  refine ⟨v, h0, h1, h2, ?_⟩
  split
  · next hl => rw [if_pos hl] at h3; exact Kd.R_below h3 hb
  · next hl => rw [if_neg hl] at h3; exact h3
theorem PartE.get {w0 W : World} {base : Nat} {xs : List Ex} {kk : Nat} {cur : Array Value} (h : PartE w0 W base xs kk cur) (hb : Below w0.heap.size w0 W) (j : Nat) (hj : j < xs.length) : ∃ A c, cur[j * 3]? = some (.int .i64 xs[j].f0) ∧ cur[j * 3 + 1]? = some (.string xs[j].f1) ∧ cur[j * 3 + 2]? = some (.slice A xs[j].f2.length c) ∧ xs[j].f2.length ≤ c ∧ Kd.C k24 W A xs[j].f2.length xs[j].f2 := by
  obtain ⟨v, h0, h1, h2, h3⟩ := h.2 j hj
  split at h3
  · obtain ⟨A, c, rfl, hc, hr⟩ := Kd.R_reads h3; exact ⟨A, c, h0, h1, h2, hc, hr⟩
  · obtain ⟨A, c, rfl, hc, hr⟩ := h3; exact ⟨A, c, h0, h1, h2, hc, Kd.C_below hr hb⟩
/-- The cells of a row that is read. -/
theorem cells_of_C {W : World} {A : Option Addr} {xs : List Ex} (h : Kd.C k24 W A xs.length xs) (base : Nat) : ∃ cs : List Value, cs.length = xs.length * 3 ∧ (0 < cs.length → ∃ ad, A = some ad ∧ ∀ j v, cs[j]? = some v → W.cell? (ad.add j) = some v) ∧ (∀ v ∈ cs, v.oneCell' = true) ∧ PartE W W base xs 0 cs.toArray := by
  by_cases h0 : xs = []
  · subst h0
    exact ⟨[], rfl, fun h => by simp at h, fun v h => by simp at h, rfl, fun j h => by simp at h⟩
  have hpos : 0 < xs.length := List.length_pos_iff.2 h0
  obtain ⟨ad, c, rfl, _⟩ := cget h 0 hpos
  have key : ∀ i (hi : i < xs.length), ∃ A2 a2, W.cell? (ad.add (i * 3)) = some (.int .i64 xs[i].f0) ∧ W.cell? (ad.add (i * 3 + 1)) = some (.string xs[i].f1) ∧ W.cell? (ad.add (i * 3 + 2)) = some (.slice A2 xs[i].f2.length a2) ∧ xs[i].f2.length ≤ a2 ∧ Kd.C k24 W A2 xs[i].f2.length xs[i].f2 := by
    intro i hi
    obtain ⟨ad', cs, he, hl, hK, hc⟩ := cget h i hi
    cases he
    obtain ⟨A2, a2, rfl, hl2, hr2⟩ := k24_open hK
    exact ⟨A2, a2, hc 0 _ rfl, hc 1 _ rfl, hc 2 _ rfl, hl2, hr2⟩
  have at_ : ∀ j, j < xs.length * 3 → ∃ u, W.cell? (ad.add j) = some u ∧ u.oneCell' = true := by
    intro j hj
    have h3 : j / 3 < xs.length := by omega
    obtain ⟨A2, a2, k0, k1, k2, _⟩ := key (j / 3) h3
    have hm : j = j / 3 * 3 ∨ j = j / 3 * 3 + 1 ∨ j = j / 3 * 3 + 2 := by omega
    rcases hm with hm | hm | hm
    · rw [← hm] at k0; exact ⟨_, k0, rfl⟩
    · rw [← hm] at k1; exact ⟨_, k1, rfl⟩
    · rw [← hm] at k2; exact ⟨_, k2, rfl⟩
  have get : ∀ j, j < xs.length * 3 → ((List.range (xs.length * 3)).map (fun j => (W.cell? (ad.add j)).getD undef))[j]? = W.cell? (ad.add j) := by
    intro j hj
    obtain ⟨u, hu, _⟩ := at_ j hj
    rw [List.getElem?_map, List.getElem?_range hj]
    simp [hu]
  refine ⟨(List.range (xs.length * 3)).map (fun j => (W.cell? (ad.add j)).getD undef), by simp, fun _ => ⟨ad, rfl, fun j v hv => ?_⟩, fun v hv => ?_, by simp, fun j hj => ?_⟩
  · have hj : j < xs.length * 3 := by have := (List.getElem?_eq_some_iff.1 hv).1; simpa using this
    rw [get j hj] at hv; exact hv
  · obtain ⟨j, hj, rfl⟩ := List.mem_map.1 hv
    obtain ⟨u, hu, h1⟩ := at_ j (List.mem_range.1 hj)
    rw [hu]; exact h1
  · obtain ⟨A2, a2, k0, k1, k2, hl, hr⟩ := key j hj
    simp only [List.getElem?_toArray]
    exact ⟨_, (get _ (by omega)).trans k0, (get _ (by omega)).trans k1, (get _ (by omega)).trans k2, by rw [if_neg (Nat.not_lt_zero _)]; exact ⟨A2, a2, rfl, hl, hr⟩⟩
/-- Element kk has been replaced by one of the call's own. -/
theorem PartE.step {w0 W : World} {base : Nat} {xs : List Ex} {kk : Nat} {cur : Array Value} (h : PartE w0 W base xs kk cur) (hk : kk < xs.length) {v : Value} (hv : OwnE W base v xs[kk].f2) : PartE w0 W base xs (kk + 1) (((cur.setIfInBounds (kk * 3) (.int .i64 xs[kk].f0)).setIfInBounds (kk * 3 + 1) (.string xs[kk].f1)).setIfInBounds (kk * 3 + 2) v) := by
  refine ⟨by simp [h.1], fun j hj => ?_⟩
  have hsz := h.1
  by_cases hjk : j = kk
  · subst hjk
    refine ⟨v, ?_, ?_, ?_, by rw [if_pos (by omega)]; exact hv⟩
    · rw [Array.getElem?_setIfInBounds, if_neg (by omega), Array.getElem?_setIfInBounds, if_neg (by omega), Array.getElem?_setIfInBounds, if_pos rfl, if_pos (by omega)]
    · rw [Array.getElem?_setIfInBounds, if_neg (by omega), Array.getElem?_setIfInBounds, if_pos rfl, if_pos (by simp; omega)]
    · rw [Array.getElem?_setIfInBounds, if_pos rfl, if_pos (by simp; omega)]
  · obtain ⟨u, h0, h1, h2, h3⟩ := h.2 j hj
    refine ⟨u, ?_, ?_, ?_, ?_⟩
    · rw [Array.getElem?_setIfInBounds, if_neg (by omega), Array.getElem?_setIfInBounds, if_neg (by omega), Array.getElem?_setIfInBounds, if_neg (by omega)]; exact h0
    · rw [Array.getElem?_setIfInBounds, if_neg (by omega), Array.getElem?_setIfInBounds, if_neg (by omega), Array.getElem?_setIfInBounds, if_neg (by omega)]; exact h1
    · rw [Array.getElem?_setIfInBounds, if_neg (by omega), Array.getElem?_setIfInBounds, if_neg (by omega), Array.getElem?_setIfInBounds, if_neg (by omega)]; exact h2
    · by_cases hl : j < kk
      · rw [if_pos hl] at h3; rw [if_pos (by omega)]; exact h3
      · rw [if_neg hl] at h3; rw [if_neg (by omega)]; exact h3
/-- All elements are the call's own: so the row is. -/
theorem PartE.done {w0 W : World} {base g : Nat} {xs : List Ex} {cur : Array Value} (h : PartE w0 W (g + 1) xs xs.length cur) (hg : W.heap[g]? = some (.cells cur 24 (0, 0))) (hb : base ≤ g) (hm : xs.length ≤ 1000000) : OwnE W base (.slice (some ⟨g, 0, none⟩) xs.length xs.length) xs := by
  have hsz : cur.size = xs.length * k24.sz := h.1
  refine ⟨fun _ _ => trivial, cur.toList, ⟨by simpa using hsz, .inr ⟨g, xs.length, cur, rfl, hb, hg, Nat.le_refl _, by simp [maxLen]; omega, hsz, ?_⟩⟩, ⟨by simpa using hsz, fun j p hj => ?_⟩⟩
  · rw [← hsz]; exact List.take_of_length_le (by simp)
  · obtain ⟨hjl, rfl⟩ := List.getElem?_eq_some_iff.1 hj
    obtain ⟨v, h0, h1, h2, h3⟩ := h.2 j hjl
    rw [if_pos hjl] at h3
    have hM := k24_mkM W base (fun k => True ∧ some k ≠ (Value.slice (some ⟨g, 0, none⟩) xs.length xs.length).ownBlock) xs[j] (Kd.R_lower (Kd.R_mono (Kd.R_bound h3) (fun k hk => ⟨trivial, fun he => by have h5 := hk.2.1; simp only [Value.ownBlock, Option.some.injEq] at he; omega⟩)) (by omega))
    have : (cur.toList.drop (j * 3)).take 3 = [.int .i64 xs[j].f0, .string xs[j].f1, v] := by
      apply List.ext_getElem?
      intro i
      match i with
      | 0 => simpa [List.getElem?_take, List.getElem?_drop] using h0
      | 1 => simpa [List.getElem?_take, List.getElem?_drop] using h1
      | 2 => simpa [List.getElem?_take, List.getElem?_drop] using h2
      | i + 3 => simp [List.getElem?_take]; omega
    rw [show k24.sz = 3 from rfl, this]
    exact hM
theorem PartE.set {w0 W : World} {base g j : Nat} {u : Value} {xs : List Ex} {kk : Nat} {cur : Array Value} (h : PartE w0 W base xs kk cur) (hg : g < base) : PartE w0 (W.setCell ⟨g, j, none⟩ u) base xs kk cur := by
  refine ⟨h.1, fun i hi => ?_⟩
  obtain ⟨v, h0, h1, h2, h3⟩ := h.2 i hi
  refine ⟨v, h0, h1, h2, ?_⟩
  split
  · next hl => rw [if_pos hl] at h3; exact OwnE.set h3 hg _ _
  · next hl => rw [if_neg hl] at h3; exact h3
theorem PartE.world {w0 W W' : World} {base : Nat} {xs : List Ex} {cur : Array Value} (h : PartE w0 W base xs 0 cur) : PartE w0 W' base xs 0 cur :=
  ⟨h.1, fun i hi => by obtain ⟨v, h0, h1, h2, h3⟩ := h.2 i hi; exact ⟨v, h0, h1, h2, by rw [if_neg (Nat.not_lt_zero _)] at h3 ⊢; exact h3⟩⟩

set_option maxRecDepth 100000 in
set_option maxHeartbeats 4000000 in
theorem c_ownExpr (n : Nat) : ∀ (e : Ex) (A : Option Addr) (c : Nat) (w : World), szE e ≤ n → szE e ≤ 1000000 → Kd.C k24 w A e.f2.length e.f2 → e.f2.length ≤ c →
    Calls Try.prog 64 #[.agg #[.int .i64 e.f0, .string e.f1, .slice A e.f2.length c]] w fun en w' => ∃ v, en = .returned (.agg #[.int .i64 e.f0, .string e.f1, v]) ∧ OwnE w' w.heap.size v e.f2 ∧ Below w.heap.size w w' := by
  induction n with
  | zero => intro e A c w h; exact absurd h (by have := szE_pos e; omega)
  | succ n ih =>
    intro e A c w hn hn2 hr hc
    have hm := hr.2.1
    have hsz := szE_eq e
    have h1 : szL e.f2 ≤ n := by omega
    have h2 : szL e.f2 ≤ 1000000 := by omega
    have h3 := szL_len e.f2
    obtain ⟨cs, hcl, hcs, hc1, hP⟩ := cells_of_C hr (w.heap.size + 1 + 1 + 1)
    obtain ⟨i0, hi0, hzz⟩ := Option.map_eq_some_iff.1 infoEx
    simp only [Prod.mk.injEq] at hzz
    have hmk := fun (W : World) => run_make W 22 24 i0 _ Try.underlying22 hi0 hzz.1 .i64 .i64 (e.f2.length : Int) (e.f2.length : Int) (by omega) (by omega) (by rw [hzz.2.2]; omega) (by omega)
    simp only [Int.toNat_natCast, hzz.2.1] at hmk
    obtain ⟨W1, hW1⟩ : ∃ W1, ((w.alloc (.cells #[.int .i64 e.f0, .string e.f1, .slice A e.f2.length c] 24)).alloc (.cells #[.int .i64 0, .string ⟨#[]⟩, .slice none 0 0] 24)) = W1 := ⟨_, rfl⟩
    have z1 : W1.heap.size = w.heap.size + 1 + 1 := by rw [← hW1]; simp
    have q1 : Below w.heap.size w W1 := by rw [← hW1]; exact below_alloc2 _ _ _
    have b0 : W1.heap[w.heap.size]? = some (.cells #[.int .i64 e.f0, .string e.f1, .slice A e.f2.length c] 24 (0, 0)) := by rw [← hW1]; exact blk_alloc (alloc_at _ _) _
    have b1 : W1.heap[w.heap.size + 1]? = some (.cells #[.int .i64 0, .string ⟨#[]⟩, .slice none 0 0] 24 (0, 0)) := by rw [← hW1]; have := alloc_at (w.alloc (.cells #[.int .i64 e.f0, .string e.f1, .slice A e.f2.length c] 24)) (.cells #[.int .i64 0, .string ⟨#[]⟩, .slice none 0 0] 24); simpa using this
    have hzc : (Value.agg #[.int .i64 0, .string ⟨#[]⟩, .slice none 0 0]).cells.size = 3 := rfl
    obtain ⟨mk, hmkd⟩ : ∃ mk, madeCells (Value.agg #[.int .i64 0, .string ⟨#[]⟩, .slice none 0 0]).cells (e.f2.length * 3) = mk := ⟨_, rfl⟩
    have hmks : mk.size = e.f2.length * 3 := by rw [← hmkd]; exact size_madeCells _ _
    rw [hmkd] at hmk
    have HQ := Aside0.mk q1
    have B0 := Aside0.mk b0
    have B1 := Aside0.mk b1
    have HW1 := Aside0.mk hW1
    have HZ1 := Aside0.mk z1
    have HCS := Aside0.mk hcs
    have HC1 := Aside0.mk hc1
    have HP := Aside0.mk hP
    have HR := Aside0.mk hr
    clear hn hn2 hsz hzz hi0 hmkd hzc hr hcs hc1 hP b0 b1 q1 z1 hW1
    have hsi : (Try.prog.info? 24).map (·.size) = some 3 := by kernel_rfl
    have hg1 : (((w.alloc (.cells #[.int .i64 e.f0, .string e.f1, .slice A e.f2.length c] 24)).alloc (.cells #[.int .i64 0, .string ⟨#[]⟩, .slice none 0 0] 24)).alloc (.cells mk 24)).heap[w.heap.size + 1 + 1]? = some (.cells mk 24 (0, 0)) := by rw [HW1.out, ← HZ1.out]; exact alloc_at _ _
    have hq1 : Below w.heap.size w (((w.alloc (.cells #[.int .i64 e.f0, .string e.f1, .slice A e.f2.length c] 24)).alloc (.cells #[.int .i64 0, .string ⟨#[]⟩, .slice none 0 0] 24)).alloc (.cells mk 24)) := by rw [HW1.out]; exact HQ.out.trans ((below_alloc1 _ _).mono HQ.out.size)
    have HG1 := Aside0.mk hg1
    have HQ1 := Aside0.mk hq1
    clear hg1 hq1
    go_enter Try.func64, Try.ntmps64
    go_wp2_with (refine wpList_copy_sz rfl (.tmp 9) (.tmp 11) 22 22 rfl 24 (w.heap.size + 1 + 1) e.f2.length e.f2.length c 3 A mk 24 cs rfl rfl Try.underlying22 hsi HG1.out hcl (fun hp => by obtain ⟨ad, ha, hc⟩ := HCS.out hp; exact ⟨ad, ha, fun j v hv => pw_cell_below HQ1.out (hc j v hv)⟩) (hcl.trans hmks.symm) HC1.out ?_)
    obtain ⟨W2, hW2⟩ : ∃ W2, (((w.alloc (.cells #[.int .i64 e.f0, .string e.f1, .slice A e.f2.length c] 24)).alloc (.cells #[.int .i64 0, .string ⟨#[]⟩, .slice none 0 0] 24)).alloc (.cells mk 24)).setRow (w.heap.size + 1 + 1) cs.toArray = W2 := ⟨_, rfl⟩
    have g2 : W2.heap[w.heap.size + 1 + 1]? = some (.cells cs.toArray 24 (0, 0)) := by rw [← hW2]; exact setRow_heap _ _ _ _ _ _ HG1.out
    have c2 : W2.heap[w.heap.size]? = some (.cells #[.int .i64 e.f0, .string e.f1, .slice A e.f2.length c] 24 (0, 0)) := by rw [← hW2, setRow_other _ _ _ _ (by omega), HW1.out]; exact blk_alloc B0.out _
    have d2 : W2.heap[w.heap.size + 1]? = some (.cells #[.int .i64 0, .string ⟨#[]⟩, .slice none 0 0] 24 (0, 0)) := by rw [← hW2, setRow_other _ _ _ _ (by omega), HW1.out]; exact blk_alloc B1.out _
    have q2 : Below w.heap.size w W2 := by rw [← hW2]; exact HQ1.out.trans ⟨rfl, rfl, rfl, by simp [World.setRow], fun k hk => setRow_other _ _ _ _ (by omega)⟩
    have z2 : w.heap.size + 1 + 1 < W2.heap.size := blk_lt g2
    rw [hW2]
    have G2 := Aside0.mk g2
    have C2 := Aside0.mk c2
    have D2 := Aside0.mk d2
    have Q2 := Aside0.mk q2
    clear g2 c2 d2 q2 hW2 HG1 HQ1 HW1 HZ1 B0 B1 HQ hmk
    go_loopg [15] e.f2.length (fun gg s14 wr => ∃ (kk : Nat) (cur : Array Value), kk ≤ e.f2.length ∧ e.f2.length - kk ≤ gg ∧ s14 = .int .i64 kk ∧ Aside0 (PartE w wr (w.heap.size + 1 + 1 + 1) e.f2 kk cur) ∧ Aside0 (Below w.heap.size w wr) ∧ Aside0 (wr.heap[w.heap.size + 1 + 1]? = some (.cells cur 24 (0, 0))) ∧ Aside0 (wr.heap[w.heap.size]? = some (.cells #[.int .i64 e.f0, .string e.f1, .slice A e.f2.length c] 24 (0, 0))) ∧ Aside0 (wr.heap[w.heap.size + 1]? = some (.cells #[.int .i64 0, .string ⟨#[]⟩, .slice none 0 0] 24 (0, 0))))
    case atStart => exact ⟨0, _, Nat.zero_le _, by omega, rfl, ⟨HP.out.world⟩, Q2, G2, C2, D2⟩
    case round =>
      obtain ⟨kk, cur, hkk, hg, rfl, HP, HB, GB, CB, DB⟩ := hrel
      by_cases hlt : kk < e.f2.length
      · have hltz : (kk : Int) < (e.f2.length : Int) := by omega
        obtain ⟨A2, a2, u0, u1, u2, hl2, hi2⟩ := HP.out.get HB.out kk hlt
        have k0 := (blk_cell GB.out (kk * 3)).trans u0
        have k1 := (blk_cell GB.out (kk * 3 + 1)).trans u1
        have k2 := (blk_cell GB.out (kk * 3 + 2)).trans u2
        have hmem : e.f2[kk] ∈ e.f2 := List.getElem_mem hlt
        have hle := szL_mem hmem
        have HC := Lib.hid (ih e.f2[kk] A2 a2 wr (by omega) (by omega) hi2 hl2)
        clear hi2 hl2 hmem u0 u1 u2
        have hne : some (w.heap.size + 1 + 1) ≠ none := by simp
        go_wp2_with fail
        refine HC.out.mono ?_
        rintro en w' ⟨v, rfl, hO, hb⟩
        obtain ⟨Av, cv, rfl⟩ := Kd.R_slice hO
        have gb := blk_below GB.out hb
        have HPs := HP.out.1
        have x0 : w'.cell? ⟨w.heap.size + 1 + 1, kk * 3, none⟩ = some _ := pw_cell_below hb k0
        have x1 : w'.cell? ⟨w.heap.size + 1 + 1, kk * 3 + 1, none⟩ = some _ := pw_cell_below hb k1
        have x2 : w'.cell? ⟨w.heap.size + 1 + 1, kk * 3 + 2, none⟩ = some _ := pw_cell_below hb k2
        have fg := fun i => blk_frozen gb i
        have hlw := blk_lt GB.out
        have hP2 := (HP.out.below hb).step hlt (Kd.R_lower hO (by omega))
        have HP2 := Aside0.mk hP2
        have HB2 := Aside0.mk (HB.out.trans (hb.mono HB.out.size))
        have GB2 := Aside0.mk gb
        have CB2 := Aside0.mk (blk_below CB.out hb)
        have DB2 := Aside0.mk (blk_below DB.out hb)
        clear hb hO gb hP2
        go_wp2
        go_roundg (e.f2.length - (kk + 1))
        case measure => omega
        case rel => exact ⟨kk + 1, _, by omega, by omega, by go_num, ⟨((HP2.out.set (by omega)).set (by omega)).set (by omega)⟩, ⟨((HB2.out.setCell (by simp; omega) _).setCell (by simp; omega) _).setCell (by simp; omega) _⟩, ⟨blk_put (blk_put (blk_put GB2.out _ _ rfl) _ _ rfl) _ _ rfl⟩, ⟨blk_far (blk_far (blk_far CB2.out (by simp; omega) _) (by simp; omega) _) (by simp; omega) _⟩, ⟨blk_far (blk_far (blk_far DB2.out (by simp) _) (by simp) _) (by simp) _⟩⟩
      · have : kk = e.f2.length := by omega
        subst this
        have c0 := (blk_cell CB.out 0).trans rfl
        have c1 := (blk_cell CB.out 1).trans rfl
        have c2 := (blk_cell CB.out 2).trans rfl
        have fc := fun i => blk_frozen CB.out i
        have d0 := (blk_cell DB.out 0).trans rfl
        have d1 := (blk_cell DB.out 1).trans rfl
        have d2 := (blk_cell DB.out 2).trans rfl
        have fd := fun i => blk_frozen DB.out i
        go_wp2
        have hO := PartE.done (base := w.heap.size + 1 + 1) HP.out GB.out (Nat.le_refl _) (by omega)
        have b4 := blk_put (blk_put (blk_put (blk_far DB.out (p := ⟨w.heap.size, 2, none⟩) (by simp) (.slice (some ⟨w.heap.size + 1 + 1, 0, none⟩) e.f2.length e.f2.length)) 0 (.int .i64 e.f0) rfl) 1 (.string e.f1) rfl) 2 (.slice (some ⟨w.heap.size + 1 + 1, 0, none⟩) e.f2.length e.f2.length) rfl
        refine bodyPost_ret (results_single rfl (.cell _ _ _ _ _ rfl b4 Try.underlying24 rfl rfl .nil)) rfl ?_
        exact ⟨_, rfl, Kd.R_lower (OwnE.set (OwnE.set (OwnE.set (OwnE.set hO (by omega) _ _) (by omega) _ _) (by omega) _ _) (by omega) _ _) (by omega), (((HB.out.setCell (by simp) _).setCell (by simp) _).setCell (by simp) _).setCell (by simp) _⟩
end Go.Proofs.Ytacefdkfbpgedaa.Mine
