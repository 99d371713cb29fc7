/- ProgExprs answers true for every input, and each argument reads behind the call as it read before. -/
import Derived.Test.YtacefdkfbpgedaaQ15
import Derived.Deep.Slices
import Derived.ChangeArms
import Derived.SizedLaws
import Derived.Test.YtacefdkfbpgedaaQ16
import Derived.Test.YtacefdkfbpgedaaRows
import Derived.WalkKit
import Derived.ProofKit
import Derived.OpenShut
import Derived.ShutString
import Derived.ChangeOld
import Derived.Below
/- The arguments of the law, opened. -/
namespace Go.Proofs.Ytacefdkfbpgedaa.Mine
open Go.Proofs.Ytacefdkfbpgedaa.PProgExprs
open Go.RowKit Go.Shelf Go.ChangeShapes Go.WideShapes Go.Proofs.YtacefdkfbpgedaaW.PrintWords Go.Proofs.YtacefdkfbpgedaaW.PrintLast Go.Proofs.YtacefdkfbpgedaaW.PrintMore
set_option linter.unusedVariables false
set_option linter.unusedSimpArgs false

section
variable {H : Type} {enc : TypeId × Value → H} {w : World} {base : Nat} {spare : Nat → Bool} {held : Bool}
theorem cells_expr : Try.prog.cellsOf 24 = 3 := by kernel_rfl
theorem cells_int : Try.prog.cellsOf 3 = 1 := by kernel_rfl
theorem cells_str : Try.prog.cellsOf 9 = 1 := by kernel_rfl
theorem cells_sExpr : Try.prog.cellsOf 22 = 1 := by kernel_rfl
theorem nmL_all : ∀ {l : List Ex}, (∀ x ∈ l, nmE x) → nmL l
  | [], _ => by simp [nmL]
  | x :: xs, h => by rw [nmL]; exact ⟨h x List.mem_cons_self, nmL_all (fun y hy => h y (List.mem_cons_of_mem _ hy))⟩
theorem weights_mem_all {P : Program} {t : TypeId} {n : Nat} : ∀ {ds : List (DataW H)} {d : DataW H}, d ∈ ds → n ∈ d.weights P t → n ∈ DataW.weightsAll P t ds
  | [], d, h, _ => by simp at h
  | x :: xs, d, h, hn => by
    rw [DataW.weightsAll, List.mem_append]
    rcases List.mem_cons.1 h with rfl | h
    · exact .inl hn
    · exact .inr (weights_mem_all h hn)
/-- A slice of which every element reads. -/
theorem read_rows {α : Type} (z : α) {d : Kd α} {Q : α → Prop} {t e : TypeId} {fuel : Nat} {cs : List Value} {x : DataW H × List MemPlace} (hu : Try.prog.underlying t = some (.slice e)) (hsz : Try.prog.cellsOf e = d.sz)
    (h : DataW.trod enc Try.prog w base spare held fuel t cs = some x)
    (hw : ∀ k ∈ x.1.weights Try.prog t, k ≤ nmLim)
    (hel : ∀ n cs y, n < fuel → DataW.trod enc Try.prog w base spare held n e cs = some y → (∀ k ∈ y.1.weights Try.prog e, k ≤ nmLim) → ∃ x : α, d.K w x cs ∧ Q x) :
    ∃ (l : List α) (A : Option Addr) (c : Nat), cs = [.slice A l.length c] ∧ l.length ≤ c ∧ Kd.C d w A l.length l ∧ ∀ x ∈ l, Q x := by
  rcases DataW.trod_slice hu h with ⟨h0, _⟩ | ⟨a, len, cap, elems, rest, n, hf, hcs, hx, _, hl, hm, hlen, hcell, _⟩
  · exact ⟨[], none, 0, h0, Nat.le_refl _, Kd.C_nil d w, fun x hx => by simp at hx⟩
  · have each : ∀ i, i < len → ∃ x : α, ∃ c : List Value, c.length = d.sz ∧ d.K w x c ∧ (∀ j u, c[j]? = some u → w.cell? (a.add (i * d.sz + j)) = some u) ∧ Q x := by
      intro i hi
      have h1 := hcell i hi
      rw [List.getElem?_eq_getElem (by omega)] at h1
      obtain ⟨c, h2, h3⟩ := Option.bind_eq_some_iff.1 h1
      obtain ⟨_, h4, h5⟩ := World.cells?_some h2
      obtain ⟨x, h6, h7⟩ := hel n c _ (by omega) h3 (fun k hk => hw k (by
        rw [hx]
        simp only [DataW.weights, hu]
        exact List.mem_cons_of_mem _ (List.mem_append.2 (.inl (weights_mem_all (List.mem_map.2 ⟨_, List.getElem_mem (by omega), rfl⟩) hk)))))
      refine ⟨x, c, by rw [h4, hsz], h6, fun j u hu => ?_, h7⟩
      have hj := (List.getElem?_eq_some_iff.1 hu).1
      have h8 := h5 j (by omega)
      rw [hu, hsz] at h8
      rw [← h8, Go.Deep.add_add]
    haveI : Inhabited α := ⟨z⟩
    obtain ⟨f, hf'⟩ := Go.Deep.choose_lt each
    refine ⟨(List.range len).map f, some a, cap, by rw [List.length_map, List.length_range]; exact hcs, by simpa using hl, ⟨rfl, by rw [List.length_map, List.length_range]; have : maxLen ≤ 9223372036854775807 := (by decide); omega, fun _ => ⟨a, rfl, fun j p hj => ?_⟩⟩, fun x hx => ?_⟩
    · obtain ⟨hjl, rfl⟩ := List.getElem?_eq_some_iff.1 hj
      have hjl' : j < len := by simpa using hjl
      obtain ⟨c, g1, g2, g3, _⟩ := hf' j hjl'
      refine ⟨c, g1, ?_, g3⟩
      simpa using g2
    · obtain ⟨i, hi, rfl⟩ := List.mem_map.1 hx
      obtain ⟨c, _, _, _, g⟩ := hf' i (List.mem_range.1 hi)
      exact g
set_option maxRecDepth 100000 in
theorem read_expr : ∀ (fuel : Nat) (cs : List Value) (x : DataW H × List MemPlace), DataW.trod enc Try.prog w base spare held fuel 24 cs = some x → (∀ k ∈ x.1.weights Try.prog 24, k ≤ nmLim) → ∃ e : Ex, k24.K w e cs ∧ nmE e := by
  intro fuel
  induction fuel using Nat.strongRecOn with
  | _ fuel ih =>
    intro cs x h hw
    obtain ⟨xs, n, hf, hx, hl, hlen, hfs⟩ := DataW.trod_struct Try.underlying24 h
    rw [cells_expr] at hl
    match cs, hl with
    | [v0, v1, v2], _ =>
      match xs, hlen with
      | [y0, y1, y2], _ =>
        have hpart : ∀ (j t : Nat) (y : DataW H × List MemPlace), [3, 9, 22][j]? = some t → [y0.1, y1.1, y2.1][j]? = some y.1 → ∀ k ∈ y.1.weights Try.prog t, k ≤ nmLim := fun j t y h1 h2 k hk => hw k (by
          rw [hx]
          simp only [DataW.weights, Try.underlying24]
          exact DataW.weights_mem_each (ts := [3, 9, 22]) h1 h2 k hk)
        have f0 : DataW.trod enc Try.prog w base spare held n 3 (([v0, v1, v2].drop 0).take (Try.prog.cellsOf 3)) = some y0 := hfs 0 _ rfl
        have f1 : DataW.trod enc Try.prog w base spare held n 9 (([v0, v1, v2].drop 1).take (Try.prog.cellsOf 9)) = some y1 := hfs 1 _ rfl
        have f2 : DataW.trod enc Try.prog w base spare held n 22 (([v0, v1, v2].drop 2).take (Try.prog.cellsOf 22)) = some y2 := hfs 2 _ rfl
        rw [cells_int] at f0
        rw [cells_str] at f1
        rw [cells_sExpr] at f2
        obtain ⟨k, hk, _⟩ := DataW.trod_int Try.underlying3 (show DataW.trod enc Try.prog w base spare held n 3 [v0] = some y0 from f0)
        obtain ⟨s, hs, hsx, _⟩ := DataW.trod_string Try.underlying9 (show DataW.trod enc Try.prog w base spare held n 9 [v1] = some y1 from f1)
        obtain ⟨l, A, c, hv, hlc, hC, hq⟩ := read_rows z24 (d := k24) (Q := nmE) Try.underlying22 cells_expr (show DataW.trod enc Try.prog w base spare held n 22 [v2] = some y2 from f2) (hpart 2 _ y2 rfl rfl) (fun m cs' y hm hy hy2 => ih m (by omega) cs' y hy hy2)
        obtain rfl : v0 = _ := by simpa using hk
        obtain rfl : v1 = _ := by simpa using hs
        obtain rfl : v2 = _ := by simpa using hv
        refine ⟨⟨k, s, l⟩, k24_mk w ⟨k, s, l⟩ hlc hC, ?_⟩
        rw [nmE_eq]
        have h1 := hpart 1 _ y1 rfl rfl s.data.toList.length (by rw [hsx]; simp [DataW.weights])
        exact ⟨by simpa using h1, nmL_all hq⟩
end
end Go.Proofs.Ytacefdkfbpgedaa.Mine
namespace Go.Proofs.Ytacefdkfbpgedaa.Mine
open Go.Proofs.Ytacefdkfbpgedaa.PProgExprs
open Go.RowKit Go.Shelf Go.ChangeShapes Go.WideShapes Go.ChangeAt Go.Proofs.YtacefdkfbpgedaaW.PrintWords Go.Proofs.YtacefdkfbpgedaaW.PrintLast Go.Proofs.YtacefdkfbpgedaaW.PrintMore
set_option linter.unusedVariables false
set_option linter.unusedSimpArgs false

theorem c_law (e : Ex) (A : Option Addr) (c : Nat) (vars : List ByteArray) (Av : Option Addr) (cv : Nat) (bys : List Ex) (Ab : Option Addr) (cb : Nat) (w : World)
    (hr : Kd.C k24 w A e.f2.length e.f2) (hc : e.f2.length ≤ c) (hv : Kd.C Kd.string w Av vars.length vars) (hcv : vars.length ≤ cv) (hb : Kd.C k24 w Ab bys.length bys) (hcb : bys.length ≤ cb) (hn : nmE e) (hnb : ∀ x ∈ bys, nmE x) :
    Calls Try.prog 3 #[.agg #[.int .i64 e.f0, .string e.f1, .slice A e.f2.length c], .slice Av vars.length cv, .slice Ab bys.length cb] w fun en w' => en = .returned (.bool true) ∧ Below w.heap.size w w' := by
  cases h : bigL e vars bys with
  | true => exact c_lawBig e A c vars Av cv bys Ab cb w hr hc hv hcv hb hcb hn hnb h
  | false => exact c_lawSmall e A c vars Av cv bys Ab cb w hr hc hv hcv hb hcb hn hnb h
theorem own : ownKnob Try.prog.godebug = none := by kernel_rfl
theorem laidOut : laidOutB Try.prog = true := by kernel_rfl
set_option maxRecDepth 100000 in
theorem lifted (os : Os) (started : os.Started) (H : Type) (enc : TypeId × Value → H) :
    ReturnsInHanded {} Try.checked os 3 .any (Rows.progExprsSpec.pre6 enc Try.prog Try.f3 Rows.progExprsRow.domain false) (Rows.progExprsSpec.post enc Try.prog Try.f3 false true false false) := by
  refine returnsInHanded_of_change_sized (C := Try.checked) own started (by kernel_rfl) Try.func3
    (ChangeSpec.witness6 (enc := enc) (C := Try.checked) false ⟨#[], #[.agg #[.int .i64 0, .string ByteArray.empty, .slice none 0 0], .slice none 0 0, .slice none 0 0], []⟩ 8 (by kernel_rfl) (by kernel_rfl) (by kernel_rfl) (by kernel_rfl)) ?_
  intro W base args ds gs before hval0 hW hcnd hsz0 _
  have hsz : (DataW.weightsEach Try.prog (Try.f3.params.toList ++ Rows.progExprsSpec.plain.varTypes Try.prog) (ds ++ gs)).all (· ≤ reachBytes) = true := hsz0
  have hval : ∀ (j : Nat) t v, Try.f3.params[j]? = some t → args[j]? = some v → Value.okWide Try.prog W .any base t v := hval0
  have hW' := hW
  obtain ⟨p, q, hA0, hV, rfl, hfz, hnd⟩ := hW
  have hA : DataW.TrodAll enc Try.prog W 0 (fun _ => true) true Try.f3.params.toList args.toList ds p := hA0
  rw [Try.params3] at hA hval hsz
  obtain ⟨v0, vs0, d0, ds0, p0, q0, hargs, rfl, rfl, h0, r0⟩ := trodAll_cons hA
  obtain ⟨v1, vs1, d1, ds1, p1, q1, rfl, rfl, rfl, h1, r1⟩ := trodAll_cons r0
  obtain ⟨v2, vs2, d2, ds2, p2, q2, rfl, rfl, rfl, h2, r2⟩ := trodAll_cons r1
  obtain ⟨rfl, rfl, rfl⟩ := trodAll_nil r2
  obtain rfl : args = #[v0, v1, v2] := by cases args; simp_all
  obtain ⟨rfl, rfl⟩ := trodVars_none hV
  obtain ⟨cs0, rfl, hcs0⟩ := okWide_struct Try.underlying24 (hval 0 24 v0 rfl rfl)
  obtain ⟨A1, n1, c1, rfl⟩ := okWide_slice Try.underlying25 (hval 1 25 v1 rfl rfl)
  obtain ⟨A2, n2, c2, rfl⟩ := okWide_slice Try.underlying22 (hval 2 22 v2 rfl rfl)
  have k0 := h0
  have k1 := h1
  have k2 := h2
  have lt0 : ∀ x ∈ p0, x.block < W.heap.size := by obtain ⟨m, hm⟩ := k0; exact DataW.trod_lt m _ _ _ hm
  have lt1 : ∀ x ∈ p1, x.block < W.heap.size := by obtain ⟨m, hm⟩ := k1; exact DataW.trod_lt m _ _ _ hm
  have lt2 : ∀ x ∈ p2, x.block < W.heap.size := by obtain ⟨m, hm⟩ := k2; exact DataW.trod_lt m _ _ _ hm
  obtain ⟨m0, t0⟩ := h0
  obtain ⟨m1, t1⟩ := h1
  obtain ⟨m2, t2⟩ := h2
  have hw : ∀ (j t : Nat) d, [24, 25, 22][j]? = some t → [d0, d1, d2][j]? = some d → ∀ k ∈ d.weights Try.prog t, k ≤ nmLim := fun j t d h1 h2 k hk => by
    have hj : j < 3 := (List.getElem?_eq_some_iff.1 h1).1
    have h := List.all_eq_true.1 hsz k (DataW.weights_mem_each (j := j) (t := t) (d := d) (by
      rw [List.getElem?_append_left (by simpa using hj)]; simpa using h1) (by
      rw [List.getElem?_append_left (by simpa using hj)]; simpa using h2) k hk)
    exact Nat.le_trans (of_decide_eq_true h) (by decide)
  obtain ⟨e, hK, hn⟩ := read_expr m0 _ _ t0 (hw 0 _ _ rfl rfl)
  obtain ⟨A0, c0, hcs, hl0, hC0⟩ := k24_open hK
  obtain ⟨vars, Av, cv, hv1, hlv, hCv, _⟩ := read_rows ByteArray.empty (d := Kd.string) (Q := fun _ => True) Try.underlying25 cells_str t1 (hw 1 _ _ rfl rfl) (fun n cs y _ hy _ => by
    obtain ⟨s, hs, _, _⟩ := DataW.trod_string Try.underlying9 hy
    exact ⟨s, hs, trivial⟩)
  obtain ⟨bys, Ab, cb, hv2, hlb, hCb, hnb⟩ := read_rows z24 (d := k24) (Q := nmE) Try.underlying22 cells_expr t2 (hw 2 _ _ rfl rfl) (fun n cs y _ hy hy2 => read_expr n cs y hy hy2)
  simp [Value.cells] at hv1 hv2
  obtain ⟨rfl, rfl, rfl⟩ := hv1
  obtain ⟨rfl, rfl, rfl⟩ := hv2
  obtain rfl : cs0 = #[.int .i64 e.f0, .string e.f1, .slice A0 e.f2.length c0] := by
    have h : cs0.toList = _ := hcs
    cases cs0; simp_all
  clear hA0 hval0
  refine (c_law e A0 c0 vars A1 c1 bys A2 c2 W hC0 hl0 hCv hlv hCb hlb hn hnb).mono fun en W' ⟨he, bel⟩ => ?_
  subst he
  exact ⟨_, rfl, _, _, _, [], _, [], hW', trodAll_mk1 (shut_bool Try.underlying4 _), (trodAll_cons_mk (Below.trod laidOut (by kernel_rfl) (of_decide_eq_true (by kernel_rfl)) k0 bel lt0) (trodAll_cons_mk (Below.trod laidOut (by kernel_rfl) (of_decide_eq_true (by kernel_rfl)) k1 bel lt1) (trodAll_cons_mk (Below.trod laidOut (by kernel_rfl) (of_decide_eq_true (by kernel_rfl)) k2 bel lt2) trodAll_mk0))), rfl, bel.frame _, fun h => by cases h⟩
theorem over : Rows.progExprsRow.holds Try.pinned (OpenSpec.ofChange Rows.progExprsSpec) :=
  OpenClaim.holds_of_wide 3 Try.f3 rfl rfl rfl rfl rfl rfl rfl ⟨rfl, rfl, rfl, rfl, rfl⟩ rfl rfl rfl rfl rfl (by kernel_rfl) Try.func3 (by kernel_rfl)
    (of_decide_eq_true (by kernel_rfl)) (by unfold Func.isWrapper; first | (rw [if_pos (by decide +kernel)]; kernel_rfl) | (rw [if_neg (by decide +kernel)]; exact ⟨rfl, rfl⟩))
    (fun os started H enc _ => lifted os started H enc)
theorem proved : Rows.ProgExprsSaid := over
#print axioms proved
end Go.Proofs.Ytacefdkfbpgedaa.Mine
namespace Go.Proofs.Ytacefdkfbpgedaa
/-- The row, under a short name, for the claim. -/
theorem progExprs_holds : Rows.ProgExprsSaid := Mine.proved
end Go.Proofs.Ytacefdkfbpgedaa
