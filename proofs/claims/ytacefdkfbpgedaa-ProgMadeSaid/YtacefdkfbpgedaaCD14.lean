/- ProgMade answers true for every input, and each argument reads behind the call as it read before. -/
import Derived.Test.YtacefdkfbpgedaaCD4
import Derived.Deep.Slices
import Derived.ChangeArms
import Derived.SizedLaws
import Derived.Test.YtacefdkfbpgedaaCD13
import Derived.Test.YtacefdkfbpgedaaRows
import Derived.WalkKit
import Derived.ProofKit
import Derived.OpenShut
import Derived.ShutString
import Derived.ChangeOld
import Derived.Below
namespace Go.Proofs.Ytacefdkfbpgedaa.Mine
open Go.Proofs.Ytacefdkfbpgedaa.PProgExprs
open Go.RowKit Go.Shelf Go.ChangeShapes Go.WideShapes Go.Proofs.YtacefdkfbpgedaaW.PrintWords Go.Proofs.YtacefdkfbpgedaaW.PrintLast Go.Proofs.YtacefdkfbpgedaaW.PrintMore
set_option linter.unusedVariables false
set_option linter.unusedSimpArgs false
section
variable {H : Type} {enc : TypeId × Value → H} {w : World} {base : Nat} {spare : Nat → Bool} {held : Bool}
theorem weights_mem_all {P : Program} {t : TypeId} {n : Nat} : ∀ {ds : List (DataW H)} {d : DataW H}, d ∈ ds → n ∈ d.weights P t → n ∈ DataW.weightsAll P t ds
  | [], d, h, _ => by simp at h
  | x :: xs, d, h, hn => by
    rw [DataW.weightsAll, List.mem_append]
    rcases List.mem_cons.1 h with rfl | h
    · exact .inl hn
    · exact .inr (weights_mem_all h hn)
theorem read_rows {α : Type} (z : α) {d : Kd α} {Q : α → Prop} {t e : TypeId} {fuel : Nat} {cs : List Value} {x : DataW H × List MemPlace} (hu : Try.prog.underlying t = some (.slice e)) (hsz : Try.prog.cellsOf e = d.sz)
    (h : DataW.trod enc Try.prog w base spare held fuel t cs = some x)
    (hw : ∀ k ∈ x.1.weights Try.prog t, k ≤ nmLim)
    (hel : ∀ n cs y, n < fuel → DataW.trod enc Try.prog w base spare held n e cs = some y → (∀ k ∈ y.1.weights Try.prog e, k ≤ nmLim) → ∃ x : α, d.K w x cs ∧ Q x) :
    ∃ (l : List α) (A : Option Addr) (c : Nat), cs = [.slice A l.length c] ∧ l.length ≤ c ∧ Kd.C d w A l.length l ∧ ∀ x ∈ l, Q x := by
  rcases DataW.trod_slice hu h with ⟨h0, _⟩ | ⟨a, len, cap, elems, rest, n, hf, hcs, hx, _, hl, hm, hlen, hcell, _⟩
  · exact ⟨[], none, 0, h0, Nat.le_refl _, Kd.C_nil d w, fun x hx => by simp at hx⟩
  · have each : ∀ i, i < len → ∃ x : α, ∃ c : List Value, c.length = d.sz ∧ d.K w x c ∧ (∀ j u, c[j]? = some u → w.cell? (a.add (i * d.sz + j)) = some u) ∧ Q x := by
      intro i hi
      have h1 := hcell i hi
      rw [List.getElem?_eq_getElem (by omega)] at h1
      obtain ⟨c, h2, h3⟩ := Option.bind_eq_some_iff.1 h1
      obtain ⟨_, h4, h5⟩ := World.cells?_some h2
      obtain ⟨x, h6, h7⟩ := hel n c _ (by omega) h3 (fun k hk => hw k (by
        rw [hx]
        simp only [DataW.weights, hu]
        exact List.mem_cons_of_mem _ (List.mem_append.2 (.inl (weights_mem_all (List.mem_map.2 ⟨_, List.getElem_mem (by omega), rfl⟩) hk)))))
      refine ⟨x, c, by rw [h4, hsz], h6, fun j u hu => ?_, h7⟩
      have hj := (List.getElem?_eq_some_iff.1 hu).1
      have h8 := h5 j (by omega)
      rw [hu, hsz] at h8
      rw [← h8, Go.Deep.add_add]
    haveI : Inhabited α := ⟨z⟩
    obtain ⟨f, hf'⟩ := Go.Deep.choose_lt each
    refine ⟨(List.range len).map f, some a, cap, by rw [List.length_map, List.length_range]; exact hcs, by simpa using hl, ⟨rfl, by rw [List.length_map, List.length_range]; have : maxLen ≤ 9223372036854775807 := (by decide); omega, fun _ => ⟨a, rfl, fun j p hj => ?_⟩⟩, fun x hx => ?_⟩
    · obtain ⟨hjl, rfl⟩ := List.getElem?_eq_some_iff.1 hj
      have hjl' : j < len := by simpa using hjl
      obtain ⟨c, g1, g2, g3, _⟩ := hf' j hjl'
      refine ⟨c, g1, ?_, g3⟩
      simpa using g2
    · obtain ⟨i, hi, rfl⟩ := List.mem_map.1 hx
      obtain ⟨c, _, _, _, g⟩ := hf' i (List.mem_range.1 hi)
      exact g
end
end Go.Proofs.Ytacefdkfbpgedaa.Mine
namespace Go.Proofs.Ytacefdkfbpgedaa.Mine
open Go.Proofs.Ytacefdkfbpgedaa.PProgExprs
open Go.RowKit Go.Shelf Go.ChangeShapes Go.WideShapes Go.ChangeAt Go.Proofs.YtacefdkfbpgedaaW.PrintWords Go.Proofs.YtacefdkfbpgedaaW.PrintLast Go.Proofs.YtacefdkfbpgedaaW.PrintMore
set_option linter.unusedVariables false
set_option linter.unusedSimpArgs false
theorem cells_u8 : Try.prog.cellsOf 5 = 1 := by kernel_rfl
theorem okWide_u8 {P : Program} {w : World} {r : Reach} {base t : Nat} {v : Value} (ht : P.underlying t = some (.int .u8)) (h : Value.okWide P w r base t v) : ∃ n : Nat, n < 256 ∧ v = .int .u8 (n : Int) := by
  obtain ⟨m, rfl⟩ := okWide_int ht h
  simp [Value.okWide, ht, Cell.okWide, Cell.ok, IntKind.has, IntKind.min, IntKind.max, IntKind.bits, IntKind.signed] at h
  exact ⟨m.toNat, by omega, by rw [Int.toNat_of_nonneg (by omega)]⟩
theorem own : ownKnob Try.prog.godebug = none := by kernel_rfl
theorem laidOut : laidOutB Try.prog = true := by kernel_rfl
set_option maxRecDepth 100000 in
theorem lifted (os : Os) (started : os.Started) (H : Type) (enc : TypeId × Value → H) :
    ReturnsInHanded {} Try.checked os 5 .any (Rows.progMadeSpec.pre6 enc Try.prog Try.f5 Rows.progMadeRow.domain false) (Rows.progMadeSpec.post enc Try.prog Try.f5 false true false false) := by
  refine returnsInHanded_of_change_sized (C := Try.checked) own started (by kernel_rfl) Try.func5
    (ChangeSpec.witness6 (enc := enc) (C := Try.checked) false ⟨#[], #[.slice none 0 0, .int .u8 0], []⟩ 8 (by kernel_rfl) (by kernel_rfl) (by kernel_rfl) (by kernel_rfl)) ?_
  intro W base args ds gs before hval0 hW hcnd hsz0 _
  have hsz : (DataW.weightsEach Try.prog (Try.f5.params.toList ++ Rows.progMadeSpec.plain.varTypes Try.prog) (ds ++ gs)).all (· ≤ reachBytes) = true := hsz0
  have hval : ∀ (j : Nat) t v, Try.f5.params[j]? = some t → args[j]? = some v → Value.okWide Try.prog W .any base t v := hval0
  have hW' := hW
  obtain ⟨p, q, hA0, hV, rfl, hfz, hnd⟩ := hW
  have hA : DataW.TrodAll enc Try.prog W 0 (fun _ => true) true Try.f5.params.toList args.toList ds p := hA0
  rw [Try.params5] at hA hval hsz
  obtain ⟨v0, vs0, d0, ds0, p0, q0, hargs, rfl, rfl, h0, r0⟩ := trodAll_cons hA
  obtain ⟨v1, vs1, d1, ds1, p1, q1, rfl, rfl, rfl, h1, r1⟩ := trodAll_cons r0
  obtain ⟨rfl, rfl, rfl⟩ := trodAll_nil r1
  obtain rfl : args = #[v0, v1] := by cases args; simp_all
  obtain ⟨rfl, rfl⟩ := trodVars_none hV
  obtain ⟨A1, n1, c1, rfl⟩ := okWide_slice Try.underlying42 (hval 0 42 v0 rfl rfl)
  obtain ⟨num, hnum, rfl⟩ := okWide_u8 Try.underlying5 (hval 1 5 v1 rfl rfl)
  have k0 := h0
  have k1 := h1
  have lt0 : ∀ x ∈ p0, x.block < W.heap.size := by obtain ⟨m, hm⟩ := k0; exact DataW.trod_lt m _ _ _ hm
  have lt1 : ∀ x ∈ p1, x.block < W.heap.size := by obtain ⟨m, hm⟩ := k1; exact DataW.trod_lt m _ _ _ hm
  obtain ⟨m0, t0⟩ := h0
  obtain ⟨m1, t1⟩ := h1
  have hw : ∀ (j t : Nat) d, [42, 5][j]? = some t → [d0, d1][j]? = some d → ∀ k ∈ d.weights Try.prog t, k ≤ nmLim := fun j t d h1 h2 k hk => by
    have hj : j < 2 := (List.getElem?_eq_some_iff.1 h1).1
    have h := List.all_eq_true.1 hsz k (DataW.weights_mem_each (j := j) (t := t) (d := d) (by
      rw [List.getElem?_append_left (by simpa using hj)]; simpa using h1) (by
      rw [List.getElem?_append_left (by simpa using hj)]; simpa using h2) k hk)
    exact Nat.le_trans (of_decide_eq_true h) (by decide)
  obtain ⟨zs, Az, cz, hv1, hlz, hCz, _⟩ := read_rows (0 : Int) (d := Kd.int .u8) (Q := fun _ => True) Try.underlying42 cells_u8 t0 (hw 0 _ _ rfl rfl) (fun n cs y _ hy _ => by
    obtain ⟨s, hs, _, _⟩ := DataW.trod_int Try.underlying5 hy
    exact ⟨s, hs, trivial⟩)
  simp [Value.cells] at hv1
  obtain ⟨rfl, rfl, rfl⟩ := hv1
  clear hA0 hval0
  refine (c_lawMade zs A1 c1 num W hnum hCz).mono fun en W' ⟨he, bel⟩ => ?_
  subst he
  exact ⟨_, rfl, _, _, _, [], _, [], hW', trodAll_mk1 (shut_bool Try.underlying4 _), (trodAll_cons_mk (Below.trod laidOut (by kernel_rfl) (of_decide_eq_true (by kernel_rfl)) k0 bel lt0) (trodAll_cons_mk (Below.trod laidOut (by kernel_rfl) (of_decide_eq_true (by kernel_rfl)) k1 bel lt1) trodAll_mk0)), rfl, bel.frame _, fun h => by cases h⟩
theorem over : Rows.progMadeRow.holds Try.pinned (OpenSpec.ofChange Rows.progMadeSpec) :=
  OpenClaim.holds_of_wide 5 Try.f5 rfl rfl rfl rfl rfl rfl rfl ⟨rfl, rfl, rfl, rfl, rfl⟩ rfl rfl rfl rfl rfl (by kernel_rfl) Try.func5 (by kernel_rfl)
    (of_decide_eq_true (by kernel_rfl)) (by unfold Func.isWrapper; first | (rw [if_pos (by decide +kernel)]; kernel_rfl) | (rw [if_neg (by decide +kernel)]; exact ⟨rfl, rfl⟩))
    (fun os started H enc _ => lifted os started H enc)
theorem proved : Rows.ProgMadeSaid := over
#print axioms proved
end Go.Proofs.Ytacefdkfbpgedaa.Mine
namespace Go.Proofs.Ytacefdkfbpgedaa
theorem progMade_holds : Rows.ProgMadeSaid := Mine.proved
end Go.Proofs.Ytacefdkfbpgedaa
