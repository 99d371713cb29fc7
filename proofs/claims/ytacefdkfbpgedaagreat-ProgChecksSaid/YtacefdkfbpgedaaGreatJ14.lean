/- ProgChecks answers true for every input, and each argument reads behind the call as it read before. -/
import Derived.Test.YtacefdkfbpgedaaGreatJ13
import Derived.Test.YtacefdkfbpgedaaGreatRows
import Derived.WalkKit
import Derived.ProofKit
import Derived.OpenShut
import Derived.ShutString
import Derived.ChangeOld
import Derived.Below
import Derived.SizedLaws
namespace Go.Proofs.YtacefdkfbpgedaaGreat.Mine
open Go.Proofs.YtacefdkfbpgedaaGreat.PProgSmall
open Go.RowKit Go.Shelf Go.ChangeShapes Go.WideShapes Go.ChangeAt Go.Proofs.YtacefdkfbpgedaaGreatW.PrintWords Go.Proofs.YtacefdkfbpgedaaGreatW.PrintLast Go.Proofs.YtacefdkfbpgedaaGreatW.PrintMore
set_option linter.unusedVariables false
set_option linter.unusedSimpArgs false
theorem c_lawChecks (ps qs : List De) (A B : Option Addr) (c d : Nat) (w : World) (hr : Kd.C k59 w A ps.length ps) (hc : ps.length ≤ c) (hr2 : Kd.C k59 w B qs.length qs) (hd : qs.length ≤ d) (hn : ∀ d ∈ ps, nmD d) (hn2 : ∀ d ∈ qs, nmD d) :
    Calls Tryz.prog 5 #[.agg #[.slice A ps.length c], .agg #[.slice B qs.length d]] w fun en w' => en = .returned (.bool true) ∧ Below w.heap.size w w' := by
  cases h : (bigP ps || bigP qs) with
  | true => exact c_lawChecksBig ps qs A B c d w hr hc hr2 hd hn hn2 h
  | false =>
    rw [Bool.or_eq_false_iff] at h
    exact c_lawChecksSmall ps qs A B c d w hr hc hr2 hd hn hn2 h.1 h.2
theorem own : ownKnob Tryz.prog.godebug = none := by kernel_rfl
theorem laidOut : laidOutB Tryz.prog = true := by kernel_rfl
set_option maxRecDepth 100000 in
theorem lifted (os : Os) (started : os.Started) (H : Type) (enc : TypeId × Value → H) :
    ReturnsInHanded {} Tryz.checked os 5 .any (Rows.progChecksSpec.pre6 enc Tryz.prog Tryz.f5 Rows.progChecksRow.domain false) (Rows.progChecksSpec.post enc Tryz.prog Tryz.f5 false true false false) := by
  refine returnsInHanded_of_change_sized (C := Tryz.checked) own started (by kernel_rfl) Tryz.func5
    (ChangeSpec.witness6 (enc := enc) (C := Tryz.checked) false ⟨#[], #[.agg #[.slice none 0 0], .agg #[.slice none 0 0]], []⟩ 8 (by kernel_rfl) (by kernel_rfl) (by kernel_rfl) (by kernel_rfl)) ?_
  intro W base args ds gs before hval0 hW hcnd hsz0 _
  have hsz : (DataW.weightsEach Tryz.prog (Tryz.f5.params.toList ++ Rows.progChecksSpec.plain.varTypes Tryz.prog) (ds ++ gs)).all (· ≤ reachBytes) = true := hsz0
  have hval : ∀ (j : Nat) t v, Tryz.f5.params[j]? = some t → args[j]? = some v → Value.okWide Tryz.prog W .any base t v := hval0
  have hW' := hW
  obtain ⟨p, q, hA0, hV, rfl, hfz, hnd⟩ := hW
  have hA : DataW.TrodAll enc Tryz.prog W 0 (fun _ => true) true Tryz.f5.params.toList args.toList ds p := hA0
  rw [Tryz.params5] at hA hval hsz
  obtain ⟨v0, vs0, d0, ds0, p0, q0, hargs, rfl, rfl, h0, r0⟩ := trodAll_cons hA
  obtain ⟨v1, vs1, d1, ds1, p1, q1, rfl, rfl, rfl, h1, r1⟩ := trodAll_cons r0
  obtain ⟨rfl, rfl, rfl⟩ := trodAll_nil r1
  obtain rfl : args = #[v0, v1] := by cases args; simp_all
  obtain ⟨rfl, rfl⟩ := trodVars_none hV
  obtain ⟨cs0, rfl, hcs0⟩ := okWide_struct Tryz.underlying24 (hval 0 24 v0 rfl rfl)
  obtain ⟨cs1, rfl, hcs1⟩ := okWide_struct Tryz.underlying24 (hval 1 24 v1 rfl rfl)
  have k0 := h0
  have k1 := h1
  have lt0 : ∀ x ∈ p0, x.block < W.heap.size := by obtain ⟨m, hm⟩ := k0; exact DataW.trod_lt m _ _ _ hm
  have lt1 : ∀ x ∈ p1, x.block < W.heap.size := by obtain ⟨m, hm⟩ := k1; exact DataW.trod_lt m _ _ _ hm
  obtain ⟨m0, t0⟩ := h0
  obtain ⟨m1, t1⟩ := h1
  have hw : ∀ (j t : Nat) d, [24, 24][j]? = some t → [d0, d1][j]? = some d → ∀ k ∈ d.weights Tryz.prog t, k ≤ nmLim := fun j t d h1 h2 k hk => by
    have hj : j < 2 := (List.getElem?_eq_some_iff.1 h1).1
    have h := List.all_eq_true.1 hsz k (DataW.weights_mem_each (j := j) (t := t) (d := d) (by
      rw [List.getElem?_append_left (by simpa using hj)]; simpa using h1) (by
      rw [List.getElem?_append_left (by simpa using hj)]; simpa using h2) k hk)
    exact Nat.le_trans (of_decide_eq_true h) (by decide)
  obtain ⟨defs, A0, c0, hcs, hl0, hC0, hn⟩ := read_prog t0 (hw 0 _ _ rfl rfl)
  obtain rfl : cs0 = #[.slice A0 defs.length c0] := by
    have h : cs0.toList = _ := hcs
    cases cs0; simp_all
  obtain ⟨qefs, B0, d0', hcs', hl1, hC1, hn1⟩ := read_prog t1 (hw 1 _ _ rfl rfl)
  obtain rfl : cs1 = #[.slice B0 qefs.length d0'] := by
    have h : cs1.toList = _ := hcs'
    cases cs1; simp_all
  clear hA0 hval0
  refine (c_lawChecks defs qefs A0 B0 c0 d0' W hC0 hl0 hC1 hl1 hn hn1).mono fun en W' ⟨he, bel⟩ => ?_
  subst he
  exact ⟨_, rfl, _, _, _, [], _, [], hW', trodAll_mk1 (shut_bool Tryz.underlying4 _), (trodAll_cons_mk (Below.trod laidOut (by kernel_rfl) (of_decide_eq_true (by kernel_rfl)) k0 bel lt0) (trodAll_cons_mk (Below.trod laidOut (by kernel_rfl) (of_decide_eq_true (by kernel_rfl)) k1 bel lt1) trodAll_mk0)), rfl, bel.frame _, fun h => by cases h⟩
theorem over : Rows.progChecksRow.holds Tryz.pinned (OpenSpec.ofChange Rows.progChecksSpec) :=
  OpenClaim.holds_of_wide 5 Tryz.f5 rfl rfl rfl rfl rfl rfl rfl ⟨rfl, rfl, rfl, rfl, rfl⟩ rfl rfl rfl rfl rfl (by kernel_rfl) Tryz.func5 (by kernel_rfl)
    (of_decide_eq_true (by kernel_rfl)) (by unfold Func.isWrapper; first | (rw [if_pos (by decide +kernel)]; kernel_rfl) | (rw [if_neg (by decide +kernel)]; exact ⟨rfl, rfl⟩))
    (fun os started H enc _ => lifted os started H enc)
theorem proved : Rows.ProgChecksSaid := over
#print axioms proved
end Go.Proofs.YtacefdkfbpgedaaGreat.Mine
namespace Go.Proofs.YtacefdkfbpgedaaGreat
theorem progChecks_holds : Rows.ProgChecksSaid := Mine.proved
end Go.Proofs.YtacefdkfbpgedaaGreat
