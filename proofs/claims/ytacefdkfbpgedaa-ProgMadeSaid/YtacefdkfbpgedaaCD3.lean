/- same, SameExpr of both sides. -/
import Derived.Test.YtacefdkfbpgedaaCD2
import Derived.ChangeKeysEq
import Derived.Deep.RegionHeld3
import Derived.Deep.RegionWith
import Derived.Test.YtacefdkfbpgedaaCD0
import Derived.Deep.RegionLaw
import Derived.Laws.CopyRow
import Derived.Laws.MakeOwn
namespace Go.Proofs.Ytacefdkfbpgedaa.Mine
open Go.Proofs.Ytacefdkfbpgedaa.PProgExprs
open Go.RowKit Go.Shelf Go.Proofs.YtacefdkfbpgedaaW.PrintWords Go.Proofs.YtacefdkfbpgedaaW.PrintLast Go.Proofs.YtacefdkfbpgedaaW.PrintMore
set_option linter.unusedVariables false
set_option linter.unusedSimpArgs false
open Classical in
noncomputable def sameE (a b : Ex) : Bool := decide (a = b)
theorem sameE_iff {a b : Ex} : sameE a b = true ↔ a = b := by simp [sameE]
theorem ex_ext {a b : Ex} (h0 : a.f0 = b.f0) (h1 : a.f1 = b.f1) (h2 : a.f2 = b.f2) : a = b := by cases a; cases b; simp_all
theorem eqL_sameE : ∀ {xs ys : List Ex}, eqL sameE xs ys = true ↔ xs = ys
  | [], [] => by simp [eqL]
  | [], _ :: _ => by simp [eqL]
  | _ :: _, [] => by simp [eqL]
  | x :: xs, y :: ys => by rw [eqL, Bool.and_eq_true, sameE_iff, eqL_sameE, List.cons.injEq]
theorem sameE_eq (a b : Ex) : sameE a b = (decide (a.f0 = b.f0) && decide (a.f1 = b.f1) && eqL sameE a.f2 b.f2) := by
  rw [Bool.eq_iff_iff, sameE_iff, Bool.and_eq_true, Bool.and_eq_true, eqL_sameE, decide_eq_true_iff, decide_eq_true_iff]
  exact ⟨fun h => by subst h; exact ⟨⟨rfl, rfl⟩, rfl⟩, fun h => ex_ext h.1.1 h.1.2 h.2⟩
set_option maxHeartbeats 4000000 in
theorem c_same (m : Nat) : ∀ (a b : Ex) (A B : Option Addr) (c d : Nat) (w : World), szE a ≤ m → Kd.C k24 w A a.f2.length a.f2 → a.f2.length ≤ c → Kd.C k24 w B b.f2.length b.f2 → b.f2.length ≤ d →
    Calls Try.prog 70 #[.agg #[.int .i64 a.f0, .string a.f1, .slice A a.f2.length c], .agg #[.int .i64 b.f0, .string b.f1, .slice B b.f2.length d]] w fun en w' => en = .returned (.bool (sameE a b)) ∧ Below w.heap.size w w' := by
  induction m with
  | zero => intro a b A B c d w h; exact absurd h (by have := szE_pos a; omega)
  | succ m ih =>
    intro a b A B c d w hs hr hc hr2 hd
    have q1 := (below_alloc1 w (.cells #[.int .i64 a.f0, .string a.f1, .slice A a.f2.length c] 24))
    have q2 := q1.trans ((below_alloc1 (w.alloc (.cells #[.int .i64 a.f0, .string a.f1, .slice A a.f2.length c] 24)) (.cells #[.int .i64 b.f0, .string b.f1, .slice B b.f2.length d] 24)).mono (by simp))
    have HC := Lib.hid (eqfE A B c d a.f2 b.f2 ((w.alloc (.cells #[.int .i64 a.f0, .string a.f1, .slice A a.f2.length c] 24)).alloc (.cells #[.int .i64 b.f0, .string b.f1, .slice B b.f2.length d] 24)) hc hd (Kd.C_below hr q2) (Kd.C_below hr2 q2) 70 #[] (enters_of Try.func70 (by kernel_rfl) rfl) sameE
      (fun x y cs ds W hx hy hKx hKy hb => by
        obtain ⟨A2, a2, rfl, hl2, hc2⟩ := k24_open hKx
        obtain ⟨B2, b2, rfl, hl3, hc3⟩ := k24_open hKy
        exact ih x y A2 B2 a2 b2 W (by have := szE_mem hx; omega) hc2 hl2 hc3 hl3))
    have hq := sameE_eq a b
    have HE := Lib.hid hq
    have Q2 := Lib.hid q2
    clear hq q1 q2 hr hr2 ih
    by_cases h0 : a.f0 = b.f0
    · have e0 : (a.f0 == b.f0) = true := by simpa using h0
      by_cases h1 : a.f1 = b.f1
      · have e1 : (a.f1.toList == b.f1.toList) = true := by rw [sEq]; simpa using h1
        have H0 := Lib.hid h0
        have H1 := Lib.hid h1
        clear h0 h1
        go_enter Try.func70, Try.ntmps70
        go_wp2_with fail
        refine HC.out.mono ?_
        rintro en w' ⟨rfl, hb⟩
        go_wp2
        go_ret
        exact ⟨retb (by rw [HE.out, H0.out, H1.out]; simp), Q2.out.trans (hb.mono Q2.out.size)⟩
      · have e1 : (a.f1.toList == b.f1.toList) = false := by rw [sEq]; simpa using h1
        have H1 := Lib.hid h1
        clear h1
        go_enter Try.func70, Try.ntmps70
        go_wp2
        go_ret
        exact ⟨retb (by rw [HE.out]; simp [H1.out]), below_alloc2 _ _ _⟩
    · have e0 : (a.f0 == b.f0) = false := by simpa using h0
      have H0 := Lib.hid h0
      clear h0
      go_enter Try.func70, Try.ntmps70
      go_wp2
      go_ret
      exact ⟨retb (by rw [HE.out]; simp [H0.out]), below_alloc2 _ _ _⟩
def kEq (l m : List Ex) : Bool := ((cntK l 0 : Int) == cntK m 0) && (((cntK l 1 : Int) == cntK m 1) && (((cntK l 2 : Int) == cntK m 2) && ((cntK l 3 : Int) == cntK m 3)))
theorem eq_int (d : Nat) (a b : Int) (W : World) : (Op.equalIn (d + 1) 3 (.int .i64 a) (.int .i64 b)).run Try.prog W = .ok (a == b) W := by
  simp [Op.equalIn, run_underlying Try.underlying3]
theorem eq_kindsD (d : Nat) (l m : List Ex) (W : World) : (Op.equalIn (d + 1 + 1) 88 (.agg (kindsV l)) (.agg (kindsV m))).run Try.prog W = .ok (kEq l m) W := by
  obtain ⟨i, hi, _⟩ := Option.map_eq_some_iff.1 infoInt
  have hc : Try.prog.cellsOf 3 = 1 := by kernel_rfl
  have hpart : ∀ (xs : Array Value) (j : Nat) (a : Int), xs[j]? = some (.int .i64 a) → (part 3 xs j).run Try.prog W = .ok (.int .i64 a) W := by
    intro xs j a h
    simp [part, isAgg, run_underlying Try.underlying3, h]
  rw [run_equalIn_array W (d + 1) _ _ Try.underlying88 hi, hc, show List.range 4 = [0, 1, 2, 3] from rfl]
  have e0 := fun j a (h : (kindsV l)[j]? = some (.int .i64 a)) => hpart (kindsV l) j a h
  have e1 := fun j a (h : (kindsV m)[j]? = some (.int .i64 a)) => hpart (kindsV m) j a h
  simp only [Op.eqItems, Sem.run_bind, Nat.mul_one, e0 0 _ rfl, e1 0 _ rfl, e0 1 _ rfl, e1 1 _ rfl, e0 2 _ rfl, e1 2 _ rfl, e0 3 _ rfl, e1 3 _ rfl, Result.andThen_ok, eq_int]
  unfold kEq
  cases h0 : ((cntK l 0 : Int) == cntK m 0) <;> cases h1 : ((cntK l 1 : Int) == cntK m 1) <;> cases h2 : ((cntK l 2 : Int) == cntK m 2) <;> cases h3 : ((cntK l 3 : Int) == cntK m 3) <;> simp [Op.eqItems, Sem.run_bind, Nat.mul_one, e0 0 _ rfl, e1 0 _ rfl, e0 1 _ rfl, e1 1 _ rfl, e0 2 _ rfl, e1 2 _ rfl, e0 3 _ rfl, e1 3 _ rfl, Result.andThen_ok, eq_int, h0, h1, h2, h3]
theorem eq_kinds (l m : List Ex) (W : World) : (Op.equalIn 10000 88 (.agg (kindsV l)) (.agg (kindsV m))).run Try.prog W = .ok (kEq l m) W := eq_kindsD 9998 l m W
theorem kEq_of {l m : List Ex} (h : l = m) : kEq l m = true := by subst h; simp [kEq]
abbrev TwoBox (w : World) (a b : Ex) (A B : Option Addr) (c d : Nat) (W : World) : Prop :=
  Below w.heap.size w W ∧ W.cell? ⟨w.heap.size, 0, none⟩ = some (.int .i64 a.f0) ∧ W.cell? ⟨w.heap.size, 1, none⟩ = some (.string a.f1) ∧ W.cell? ⟨w.heap.size, 2, none⟩ = some (.slice A a.f2.length c) ∧
    W.cell? ⟨w.heap.size + 1, 0, none⟩ = some (.int .i64 b.f0) ∧ W.cell? ⟨w.heap.size + 1, 1, none⟩ = some (.string b.f1) ∧ W.cell? ⟨w.heap.size + 1, 2, none⟩ = some (.slice B b.f2.length d)
theorem TwoBox.step {w : World} {a b : Ex} {A B : Option Addr} {c d : Nat} {W W' : World} (h : TwoBox w a b A B c d W) (hb : Below W.heap.size W W') : TwoBox w a b A B c d W' := by
  obtain ⟨h0, h1, h2, h3, h4, h5, h6⟩ := h
  exact ⟨h0.trans (hb.mono h0.size), pw_cell_below hb h1, pw_cell_below hb h2, pw_cell_below hb h3, pw_cell_below hb h4, pw_cell_below hb h5, pw_cell_below hb h6⟩
theorem TwoBox.drew {w : World} {a b : Ex} {A B : Option Addr} {c d : Nat} {W : World} (h : TwoBox w a b A B c d W) : TwoBox w a b A B c d W.drew := h.step (below_drew (Below.refl _ _))
theorem TwoBox.made (w : World) (a b : Ex) (A B : Option Addr) (c d : Nat) : TwoBox w a b A B c d ((w.alloc (.cells #[.int .i64 a.f0, .string a.f1, .slice A a.f2.length c] 24)).alloc (.cells #[.int .i64 b.f0, .string b.f1, .slice B b.f2.length d] 24)) := by
  have h1 := blk_alloc (alloc_at w (.cells #[.int .i64 a.f0, .string a.f1, .slice A a.f2.length c] 24)) (.cells #[.int .i64 b.f0, .string b.f1, .slice B b.f2.length d] 24)
  have h2 := alloc_at (w.alloc (.cells #[.int .i64 a.f0, .string a.f1, .slice A a.f2.length c] 24)) (.cells #[.int .i64 b.f0, .string b.f1, .slice B b.f2.length d] 24)
  simp only [World.size_alloc] at h2
  exact ⟨below_alloc2 _ _ _, (blk_cell h1 0).trans rfl, (blk_cell h1 1).trans rfl, (blk_cell h1 2).trans rfl, (blk_cell h2 0).trans rfl, (blk_cell h2 1).trans rfl, (blk_cell h2 2).trans rfl⟩
set_option maxRecDepth 100000 in
set_option maxHeartbeats 4000000 in
theorem c_SameExpr (a b : Ex) (A B : Option Addr) (c d : Nat) (w : World) (hr : Kd.C k24 w A a.f2.length a.f2) (hc : a.f2.length ≤ c) (hr2 : Kd.C k24 w B b.f2.length b.f2) (hd : b.f2.length ≤ d) (hs : szE a < 1000000) (hs2 : szE b < 1000000) :
    Calls Try.prog 24 #[.agg #[.int .i64 a.f0, .string a.f1, .slice A a.f2.length c], .agg #[.int .i64 b.f0, .string b.f1, .slice B b.f2.length d]] w fun en w' => en = .returned (.bool (sameE a b)) ∧ Below w.heap.size w w' := by
  have HK := Lib.hid (fun (x : Ex) (X : Option Addr) (cx : Nat) (hx : Kd.C k24 w X x.f2.length x.f2 ∧ x.f2.length ≤ cx ∧ szE x < 1000000) W (hb : TwoBox w a b A B c d W) => (c_kinds x X cx W (Kd.C_below hx.1 hb.1) hx.2.1 hx.2.2).mono (R' := fun e W' => e = .returned (.agg (kindsV (plE x))) ∧ TwoBox w a b A B c d W') (by rintro e W' ⟨h1, h2⟩; exact ⟨h1, hb.step h2⟩))
  have HA := Aside0.mk (And.intro hr (And.intro hc hs))
  have HB := Aside0.mk (And.intro hr2 (And.intro hd hs2))
  have HC := Lib.hid (fun W (hb : TwoBox w a b A B c d W) => (c_same _ a b A B c d W (Nat.le_refl _) (Kd.C_below hr hb.1) hc (Kd.C_below hr2 hb.1) hd).mono (R' := fun e W' => e = .returned (.bool (sameE a b)) ∧ TwoBox w a b A B c d W') (by rintro e W' ⟨h1, h2⟩; exact ⟨h1, hb.step h2⟩))
  have HM := TwoBox.made w a b A B c d
  clear hr hr2
  go_enter Try.func24, Try.ntmps24
  go_wp2_with fail
  obtain ⟨W0, hW0⟩ : ∃ W0, (w.alloc (.cells #[.int .i64 a.f0, .string a.f1, .slice A a.f2.length c] 24)).alloc (.cells #[.int .i64 b.f0, .string b.f1, .slice B b.f2.length d] 24) = W0 := ⟨_, rfl⟩
  rw [hW0] at HM ⊢
  clear hW0
  have HM2 := HM.drew
  have HQ := eq_kinds (plE a) (plE b)
  cases hk : kEq (plE a) (plE b) with
  | true =>
    rw [hk] at HQ
    go_region_held3 (fun W => TwoBox w a b A B c d W) (first | assumption | exact HM) (first | (go_at_call 69; refine (HK.out _ _ _ (by first | exact HA.out | exact HB.out) _ (by assumption)).mono ?_; rintro e w' ⟨rfl, hS⟩) | (go_at_call 70; refine (HC.out _ (by assumption)).mono ?_; rintro e w' ⟨rfl, hS⟩))
    all_goals (go_wp2; go_ret; exact ⟨retb rfl, (by assumption : TwoBox w a b A B c d _).1⟩)
  | false =>
    rw [hk] at HQ
    have hf : sameE a b = false := by
      cases h : sameE a b with
      | false => rfl
      | true => rw [sameE_iff] at h; subst h; rw [kEq_of rfl] at hk; cases hk
    have HN := Lib.hid hf
    clear hf
    obtain ⟨z0, z1, z2, z3, z4, z5, z6⟩ := HM2
    go_region_with (first | (go_at_call 69; refine (HK.out _ _ _ (by first | exact HA.out | exact HB.out) _ (by first | assumption | exact ⟨z0, z1, z2, z3, z4, z5, z6⟩)).mono ?_; rintro e w' ⟨rfl, hS⟩; obtain ⟨y0, y1, y2, y3, y4, y5, y6⟩ := id hS))
    all_goals (go_wp2; go_ret; exact ⟨retb HN.out.symm, (by assumption : TwoBox w a b A B c d _).1⟩)
end Go.Proofs.Ytacefdkfbpgedaa.Mine
namespace Go.Proofs.Ytacefdkfbpgedaa.Mine
open Go.Proofs.Ytacefdkfbpgedaa.PProgExprs
open Go.RowKit Go.Shelf Go.Proofs.YtacefdkfbpgedaaW.PrintWords Go.Proofs.YtacefdkfbpgedaaW.PrintLast Go.Proofs.YtacefdkfbpgedaaW.PrintMore
set_option linter.unusedVariables false
set_option linter.unusedSimpArgs false
attribute [local go_sem] max2_int min2_int max_two min_two
theorem infoEx : (Try.prog.info? 24).map (fun i => (i.zero, i.size, i.bytes)) = some (some (.agg #[.int .i64 0, .string ⟨#[]⟩, .slice none 0 0]), 3, 48) := by kernel_rfl
end Go.Proofs.Ytacefdkfbpgedaa.Mine
namespace Go.Proofs.Ytacefdkfbpgedaa.Mine
open Go.Proofs.Ytacefdkfbpgedaa.PProgExprs
open Go.RowKit Go.Shelf Go.Proofs.YtacefdkfbpgedaaW.PrintWords Go.Proofs.YtacefdkfbpgedaaW.PrintLast Go.Proofs.YtacefdkfbpgedaaW.PrintMore
set_option linter.unusedVariables false
set_option linter.unusedSimpArgs false
end Go.Proofs.Ytacefdkfbpgedaa.Mine
namespace Go.Proofs.Ytacefdkfbpgedaa.Mine
open Go.Proofs.Ytacefdkfbpgedaa.PProgExprs
open Go.RowKit Go.Shelf Go.Proofs.YtacefdkfbpgedaaW.PrintWords Go.Proofs.YtacefdkfbpgedaaW.PrintLast Go.Proofs.YtacefdkfbpgedaaW.PrintMore
set_option linter.unusedVariables false
set_option linter.unusedSimpArgs false
theorem szL_len : ∀ l : List Ex, l.length ≤ szL l
  | [] => by simp [szL]
  | x :: xs => by have := szL_len xs; have := szE_pos x; simp only [szL, List.length_cons]; omega
abbrev OwnE (W : World) (base : Nat) (v : Value) (l : List Ex) : Prop := Kd.R k24 24 W base (fun _ => True) v l
theorem OwnE.lower {W : World} {base b : Nat} {v : Value} {l : List Ex} (h : OwnE W base v l) (hb : b ≤ base) : OwnE W b v l := Kd.R_lower h hb
theorem OwnE.set {W : World} {base : Nat} {v : Value} {l : List Ex} (h : OwnE W base v l) {g : Nat} (hg : g < base) (j : Nat) (u : Value) : OwnE (W.setCell ⟨g, j, none⟩ u) base v l :=
  Kd.R_mono (Kd.R_far (Kd.R_mono (Kd.R_bound h) (ok' := fun k => base ≤ k) (fun k hk => hk.2.1)) (p := ⟨g, j, none⟩) (fun k hk => by have : base ≤ k := hk; simp only [ne_eq]; omega) u) (fun _ _ => trivial)
end Go.Proofs.Ytacefdkfbpgedaa.Mine
namespace Go.Proofs.Ytacefdkfbpgedaa.Mine
open Go.Proofs.Ytacefdkfbpgedaa.PProgExprs
open Go.RowKit Go.Shelf Go.Proofs.YtacefdkfbpgedaaW.PrintWords Go.Proofs.YtacefdkfbpgedaaW.PrintLast Go.Proofs.YtacefdkfbpgedaaW.PrintMore
set_option linter.unusedVariables false
set_option linter.unusedSimpArgs false
theorem run_copy_sz {P : Program} (w : World) (dT sT ty elem : TypeId) (g n dCap c size : Nat) (A : Option Addr) (cur : Array Value) (t : TypeId) (cs : List Value)
    (hu : P.underlying dT = some (.slice elem)) (hs : (P.info? elem).map (·.size) = some size) (hg : w.heap[g]? = some (.cells cur t (0, 0))) (hn : cs.length = n * size)
    (hsrc : 0 < cs.length → ∃ ad, A = some ad ∧ ∀ j v, cs[j]? = some v → w.cell? (ad.add j) = some v) (hfit : cs.length = cur.size) (h1 : ∀ v ∈ cs, v.oneCell' = true) :
    (Builtin.copy_ #[dT, sT] ty #[.slice (some ⟨g, 0, none⟩) n dCap, .slice A n c]).run P w = .ok (goInt n) (w.setRow g cs.toArray) := by
  cases hq : P.info? elem with
  | none => simp [hq] at hs
  | some i =>
    have hi : i.size = size := by simpa [hq] using hs
    have hst := run_storeCells_at P g 0 t cs 0 cur w hg (by simp [hfit]) h1
    have hsz : cur.toList.length = cs.length := by simp [hfit]
    simp only [Nat.zero_add, List.take_zero, List.nil_append, List.drop_of_length_le (Nat.le_of_eq hsz), List.append_nil] at hst
    cases A with
    | none =>
      have h0 : cs = [] := by
        cases cs with
        | nil => rfl
        | cons x xs => obtain ⟨ad, h, _⟩ := hsrc (by simp); cases h
      subst h0
      simp [Builtin.copy_, run_underlying hu, Builtin.lenOf, Builtin.firstCells, sizeOf, typeInfo, hq, hi, hst]
    | some a =>
      have hl : (loadCells a (n * size)).run P w = .ok cs.toArray w := by
        rw [← hn]
        refine run_loadCells_list (P := P) w a cs (fun j v hv => ?_)
        obtain ⟨ad, h, hc⟩ := hsrc (by have := (List.getElem?_eq_some_iff.1 hv).1; omega)
        cases h
        exact hc j v hv
      simp [Builtin.copy_, run_underlying hu, Builtin.lenOf, Builtin.firstCells, sizeOf, typeInfo, hq, hi, hl, hst]
theorem wpList_copy_sz {P : Program} {w : World} {ops : Array Oper} {rest : List Oper} {o : Oper} {a : Act} {Q : Exit → Act → World → Prop} (hgd : o.guard = none) (d s : Operand) (dT sT : TypeId)
    (ho : o.op = .call { callee := .builtin .copy, args := #[d, s], argTypes := #[dT, sT] }) (elem : TypeId) (g n dCap c size : Nat) (A : Option Addr) (cur : Array Value) (t : TypeId) (cs : List Value)
    (hd : a.eval d = .slice (some ⟨g, 0, none⟩) n dCap) (hs0 : a.eval s = .slice A n c)
    (hu : P.underlying dT = some (.slice elem)) (hs : (P.info? elem).map (·.size) = some size) (hg : w.heap[g]? = some (.cells cur t (0, 0))) (hn : cs.length = n * size)
    (hsrc : 0 < cs.length → ∃ ad, A = some ad ∧ ∀ j v, cs[j]? = some v → w.cell? (ad.add j) = some v) (hfit : cs.length = cur.size) (h1 : ∀ v ∈ cs, v.oneCell' = true)
    (h : wpList P ops Q rest (a.put o.dst (goInt n)) (w.setRow g cs.toArray)) : wpList P ops Q (o :: rest) a w := by
  refine wpList_plain hgd fun K hK => ?_
  have hrun := run_copy_sz (P := P) w dT sT o.type elem g n dCap c size A cur t cs hu hs hg hn hsrc hfit h1
  unfold Oper.wp
  simp [execOp, ho, resolve, invoke, builtin, hd, hs0, hrun, Result.andThen]
  exact hK _ _ h
def PartE (w0 W : World) (base : Nat) (xs : List Ex) (kk : Nat) (cur : Array Value) : Prop :=
  cur.size = xs.length * 3 ∧ ∀ j (h : j < xs.length), ∃ v, cur[j * 3]? = some (.int .i64 xs[j].f0) ∧ cur[j * 3 + 1]? = some (.string xs[j].f1) ∧ cur[j * 3 + 2]? = some v ∧
    if j < kk then OwnE W base v xs[j].f2 else ∃ A c, v = .slice A xs[j].f2.length c ∧ xs[j].f2.length ≤ c ∧ Kd.C k24 w0 A xs[j].f2.length xs[j].f2
theorem PartE.below {w0 W W' : World} {base : Nat} {xs : List Ex} {kk : Nat} {cur : Array Value} (h : PartE w0 W base xs kk cur) (hb : Below W.heap.size W W') : PartE w0 W' base xs kk cur := by
  refine ⟨h.1, fun j hj => ?_⟩
  obtain ⟨v, h0, h1, h2, h3⟩ := h.2 j hj
  refine ⟨v, h0, h1, h2, ?_⟩
  split
  · next hl => rw [if_pos hl] at h3; exact Kd.R_below h3 hb
  · next hl => rw [if_neg hl] at h3; exact h3
theorem PartE.get {w0 W : World} {base : Nat} {xs : List Ex} {kk : Nat} {cur : Array Value} (h : PartE w0 W base xs kk cur) (hb : Below w0.heap.size w0 W) (j : Nat) (hj : j < xs.length) : ∃ A c, cur[j * 3]? = some (.int .i64 xs[j].f0) ∧ cur[j * 3 + 1]? = some (.string xs[j].f1) ∧ cur[j * 3 + 2]? = some (.slice A xs[j].f2.length c) ∧ xs[j].f2.length ≤ c ∧ Kd.C k24 W A xs[j].f2.length xs[j].f2 := by
  obtain ⟨v, h0, h1, h2, h3⟩ := h.2 j hj
  split at h3
  · obtain ⟨A, c, rfl, hc, hr⟩ := Kd.R_reads h3; exact ⟨A, c, h0, h1, h2, hc, hr⟩
  · obtain ⟨A, c, rfl, hc, hr⟩ := h3; exact ⟨A, c, h0, h1, h2, hc, Kd.C_below hr hb⟩
theorem cells_of_C {W : World} {A : Option Addr} {xs : List Ex} (h : Kd.C k24 W A xs.length xs) (base : Nat) : ∃ cs : List Value, cs.length = xs.length * 3 ∧ (0 < cs.length → ∃ ad, A = some ad ∧ ∀ j v, cs[j]? = some v → W.cell? (ad.add j) = some v) ∧ (∀ v ∈ cs, v.oneCell' = true) ∧ PartE W W base xs 0 cs.toArray := by
  by_cases h0 : xs = []
  · subst h0
    exact ⟨[], rfl, fun h => by simp at h, fun v h => by simp at h, rfl, fun j h => by simp at h⟩
  have hpos : 0 < xs.length := List.length_pos_iff.2 h0
  obtain ⟨ad, c, rfl, _⟩ := cget h 0 hpos
  have key : ∀ i (hi : i < xs.length), ∃ A2 a2, W.cell? (ad.add (i * 3)) = some (.int .i64 xs[i].f0) ∧ W.cell? (ad.add (i * 3 + 1)) = some (.string xs[i].f1) ∧ W.cell? (ad.add (i * 3 + 2)) = some (.slice A2 xs[i].f2.length a2) ∧ xs[i].f2.length ≤ a2 ∧ Kd.C k24 W A2 xs[i].f2.length xs[i].f2 := by
    intro i hi
    obtain ⟨ad', cs, he, hl, hK, hc⟩ := cget h i hi
    cases he
    obtain ⟨A2, a2, rfl, hl2, hr2⟩ := k24_open hK
    exact ⟨A2, a2, hc 0 _ rfl, hc 1 _ rfl, hc 2 _ rfl, hl2, hr2⟩
  have at_ : ∀ j, j < xs.length * 3 → ∃ u, W.cell? (ad.add j) = some u ∧ u.oneCell' = true := by
    intro j hj
    have h3 : j / 3 < xs.length := by omega
    obtain ⟨A2, a2, k0, k1, k2, _⟩ := key (j / 3) h3
    have hm : j = j / 3 * 3 ∨ j = j / 3 * 3 + 1 ∨ j = j / 3 * 3 + 2 := by omega
    rcases hm with hm | hm | hm
    · rw [← hm] at k0; exact ⟨_, k0, rfl⟩
    · rw [← hm] at k1; exact ⟨_, k1, rfl⟩
    · rw [← hm] at k2; exact ⟨_, k2, rfl⟩
  have get : ∀ j, j < xs.length * 3 → ((List.range (xs.length * 3)).map (fun j => (W.cell? (ad.add j)).getD undef))[j]? = W.cell? (ad.add j) := by
    intro j hj
    obtain ⟨u, hu, _⟩ := at_ j hj
    rw [List.getElem?_map, List.getElem?_range hj]
    simp [hu]
  refine ⟨(List.range (xs.length * 3)).map (fun j => (W.cell? (ad.add j)).getD undef), by simp, fun _ => ⟨ad, rfl, fun j v hv => ?_⟩, fun v hv => ?_, by simp, fun j hj => ?_⟩
  · have hj : j < xs.length * 3 := by have := (List.getElem?_eq_some_iff.1 hv).1; simpa using this
    rw [get j hj] at hv; exact hv
  · obtain ⟨j, hj, rfl⟩ := List.mem_map.1 hv
    obtain ⟨u, hu, h1⟩ := at_ j (List.mem_range.1 hj)
    rw [hu]; exact h1
  · obtain ⟨A2, a2, k0, k1, k2, hl, hr⟩ := key j hj
    simp only [List.getElem?_toArray]
    exact ⟨_, (get _ (by omega)).trans k0, (get _ (by omega)).trans k1, (get _ (by omega)).trans k2, by rw [if_neg (Nat.not_lt_zero _)]; exact ⟨A2, a2, rfl, hl, hr⟩⟩
theorem PartE.step {w0 W : World} {base : Nat} {xs : List Ex} {kk : Nat} {cur : Array Value} (h : PartE w0 W base xs kk cur) (hk : kk < xs.length) {v : Value} (hv : OwnE W base v xs[kk].f2) : PartE w0 W base xs (kk + 1) (((cur.setIfInBounds (kk * 3) (.int .i64 xs[kk].f0)).setIfInBounds (kk * 3 + 1) (.string xs[kk].f1)).setIfInBounds (kk * 3 + 2) v) := by
  refine ⟨by simp [h.1], fun j hj => ?_⟩
  have hsz := h.1
  by_cases hjk : j = kk
  · subst hjk
    refine ⟨v, ?_, ?_, ?_, by rw [if_pos (by omega)]; exact hv⟩
    · rw [Array.getElem?_setIfInBounds, if_neg (by omega), Array.getElem?_setIfInBounds, if_neg (by omega), Array.getElem?_setIfInBounds, if_pos rfl, if_pos (by omega)]
    · rw [Array.getElem?_setIfInBounds, if_neg (by omega), Array.getElem?_setIfInBounds, if_pos rfl, if_pos (by simp; omega)]
    · rw [Array.getElem?_setIfInBounds, if_pos rfl, if_pos (by simp; omega)]
  · obtain ⟨u, h0, h1, h2, h3⟩ := h.2 j hj
    refine ⟨u, ?_, ?_, ?_, ?_⟩
    · rw [Array.getElem?_setIfInBounds, if_neg (by omega), Array.getElem?_setIfInBounds, if_neg (by omega), Array.getElem?_setIfInBounds, if_neg (by omega)]; exact h0
    · rw [Array.getElem?_setIfInBounds, if_neg (by omega), Array.getElem?_setIfInBounds, if_neg (by omega), Array.getElem?_setIfInBounds, if_neg (by omega)]; exact h1
    · rw [Array.getElem?_setIfInBounds, if_neg (by omega), Array.getElem?_setIfInBounds, if_neg (by omega), Array.getElem?_setIfInBounds, if_neg (by omega)]; exact h2
    · by_cases hl : j < kk
      · rw [if_pos hl] at h3; rw [if_pos (by omega)]; exact h3
      · rw [if_neg hl] at h3; rw [if_neg (by omega)]; exact h3
theorem PartE.done {w0 W : World} {base g : Nat} {xs : List Ex} {cur : Array Value} (h : PartE w0 W (g + 1) xs xs.length cur) (hg : W.heap[g]? = some (.cells cur 24 (0, 0))) (hb : base ≤ g) (hm : xs.length ≤ 1000000) : OwnE W base (.slice (some ⟨g, 0, none⟩) xs.length xs.length) xs := by
  have hsz : cur.size = xs.length * k24.sz := h.1
  refine ⟨fun _ _ => trivial, cur.toList, ⟨by simpa using hsz, .inr ⟨g, xs.length, cur, rfl, hb, hg, Nat.le_refl _, by simp [maxLen]; omega, hsz, ?_⟩⟩, ⟨by simpa using hsz, fun j p hj => ?_⟩⟩
  · rw [← hsz]; exact List.take_of_length_le (by simp)
  · obtain ⟨hjl, rfl⟩ := List.getElem?_eq_some_iff.1 hj
    obtain ⟨v, h0, h1, h2, h3⟩ := h.2 j hjl
    rw [if_pos hjl] at h3
    have hM := k24_mkM W base (fun k => True ∧ some k ≠ (Value.slice (some ⟨g, 0, none⟩) xs.length xs.length).ownBlock) xs[j] (Kd.R_lower (Kd.R_mono (Kd.R_bound h3) (fun k hk => ⟨trivial, fun he => by have h5 := hk.2.1; simp only [Value.ownBlock, Option.some.injEq] at he; omega⟩)) (by omega))
    have : (cur.toList.drop (j * 3)).take 3 = [.int .i64 xs[j].f0, .string xs[j].f1, v] := by
      apply List.ext_getElem?
      intro i
      match i with
      | 0 => simpa [List.getElem?_take, List.getElem?_drop] using h0
      | 1 => simpa [List.getElem?_take, List.getElem?_drop] using h1
      | 2 => simpa [List.getElem?_take, List.getElem?_drop] using h2
      | i + 3 => simp [List.getElem?_take]; omega
    rw [show k24.sz = 3 from rfl, this]
    exact hM
theorem PartE.set {w0 W : World} {base g j : Nat} {u : Value} {xs : List Ex} {kk : Nat} {cur : Array Value} (h : PartE w0 W base xs kk cur) (hg : g < base) : PartE w0 (W.setCell ⟨g, j, none⟩ u) base xs kk cur := by
  refine ⟨h.1, fun i hi => ?_⟩
  obtain ⟨v, h0, h1, h2, h3⟩ := h.2 i hi
  refine ⟨v, h0, h1, h2, ?_⟩
  split
  · next hl => rw [if_pos hl] at h3; exact OwnE.set h3 hg _ _
  · next hl => rw [if_neg hl] at h3; exact h3
theorem PartE.world {w0 W W' : World} {base : Nat} {xs : List Ex} {cur : Array Value} (h : PartE w0 W base xs 0 cur) : PartE w0 W' base xs 0 cur :=
  ⟨h.1, fun i hi => by obtain ⟨v, h0, h1, h2, h3⟩ := h.2 i hi; exact ⟨v, h0, h1, h2, by rw [if_neg (Nat.not_lt_zero _)] at h3 ⊢; exact h3⟩⟩
set_option maxRecDepth 100000 in
set_option maxHeartbeats 4000000 in
theorem c_ownExpr (n : Nat) : ∀ (e : Ex) (A : Option Addr) (c : Nat) (w : World), szE e ≤ n → szE e ≤ 1000000 → Kd.C k24 w A e.f2.length e.f2 → e.f2.length ≤ c →
    Calls Try.prog 64 #[.agg #[.int .i64 e.f0, .string e.f1, .slice A e.f2.length c]] w fun en w' => ∃ v, en = .returned (.agg #[.int .i64 e.f0, .string e.f1, v]) ∧ OwnE w' w.heap.size v e.f2 ∧ Below w.heap.size w w' := by
  induction n with
  | zero => intro e A c w h; exact absurd h (by have := szE_pos e; omega)
  | succ n ih =>
    intro e A c w hn hn2 hr hc
    have hm := hr.2.1
    have hsz := szE_eq e
    have h1 : szL e.f2 ≤ n := by omega
    have h2 : szL e.f2 ≤ 1000000 := by omega
    have h3 := szL_len e.f2
    obtain ⟨cs, hcl, hcs, hc1, hP⟩ := cells_of_C hr (w.heap.size + 1 + 1 + 1)
    obtain ⟨i0, hi0, hzz⟩ := Option.map_eq_some_iff.1 infoEx
    simp only [Prod.mk.injEq] at hzz
    have hmk := fun (W : World) => run_make W 22 24 i0 _ Try.underlying22 hi0 hzz.1 .i64 .i64 (e.f2.length : Int) (e.f2.length : Int) (by omega) (by omega) (by rw [hzz.2.2]; omega) (by omega)
    simp only [Int.toNat_natCast, hzz.2.1] at hmk
    obtain ⟨W1, hW1⟩ : ∃ W1, ((w.alloc (.cells #[.int .i64 e.f0, .string e.f1, .slice A e.f2.length c] 24)).alloc (.cells #[.int .i64 0, .string ⟨#[]⟩, .slice none 0 0] 24)) = W1 := ⟨_, rfl⟩
    have z1 : W1.heap.size = w.heap.size + 1 + 1 := by rw [← hW1]; simp
    have q1 : Below w.heap.size w W1 := by rw [← hW1]; exact below_alloc2 _ _ _
    have b0 : W1.heap[w.heap.size]? = some (.cells #[.int .i64 e.f0, .string e.f1, .slice A e.f2.length c] 24 (0, 0)) := by rw [← hW1]; exact blk_alloc (alloc_at _ _) _
    have b1 : W1.heap[w.heap.size + 1]? = some (.cells #[.int .i64 0, .string ⟨#[]⟩, .slice none 0 0] 24 (0, 0)) := by rw [← hW1]; have := alloc_at (w.alloc (.cells #[.int .i64 e.f0, .string e.f1, .slice A e.f2.length c] 24)) (.cells #[.int .i64 0, .string ⟨#[]⟩, .slice none 0 0] 24); simpa using this
    have hzc : (Value.agg #[.int .i64 0, .string ⟨#[]⟩, .slice none 0 0]).cells.size = 3 := rfl
    obtain ⟨mk, hmkd⟩ : ∃ mk, madeCells (Value.agg #[.int .i64 0, .string ⟨#[]⟩, .slice none 0 0]).cells (e.f2.length * 3) = mk := ⟨_, rfl⟩
    have hmks : mk.size = e.f2.length * 3 := by rw [← hmkd]; exact size_madeCells _ _
    rw [hmkd] at hmk
    have HQ := Aside0.mk q1
    have B0 := Aside0.mk b0
    have B1 := Aside0.mk b1
    have HW1 := Aside0.mk hW1
    have HZ1 := Aside0.mk z1
    have HCS := Aside0.mk hcs
    have HC1 := Aside0.mk hc1
    have HP := Aside0.mk hP
    have HR := Aside0.mk hr
    clear hn hn2 hsz hzz hi0 hmkd hzc hr hcs hc1 hP b0 b1 q1 z1 hW1
    have hsi : (Try.prog.info? 24).map (·.size) = some 3 := by kernel_rfl
    have hg1 : (((w.alloc (.cells #[.int .i64 e.f0, .string e.f1, .slice A e.f2.length c] 24)).alloc (.cells #[.int .i64 0, .string ⟨#[]⟩, .slice none 0 0] 24)).alloc (.cells mk 24)).heap[w.heap.size + 1 + 1]? = some (.cells mk 24 (0, 0)) := by rw [HW1.out, ← HZ1.out]; exact alloc_at _ _
    have hq1 : Below w.heap.size w (((w.alloc (.cells #[.int .i64 e.f0, .string e.f1, .slice A e.f2.length c] 24)).alloc (.cells #[.int .i64 0, .string ⟨#[]⟩, .slice none 0 0] 24)).alloc (.cells mk 24)) := by rw [HW1.out]; exact HQ.out.trans ((below_alloc1 _ _).mono HQ.out.size)
    have HG1 := Aside0.mk hg1
    have HQ1 := Aside0.mk hq1
    clear hg1 hq1
    go_enter Try.func64, Try.ntmps64
    go_wp2_with (refine wpList_copy_sz rfl (.tmp 9) (.tmp 11) 22 22 rfl 24 (w.heap.size + 1 + 1) e.f2.length e.f2.length c 3 A mk 24 cs rfl rfl Try.underlying22 hsi HG1.out hcl (fun hp => by obtain ⟨ad, ha, hc⟩ := HCS.out hp; exact ⟨ad, ha, fun j v hv => pw_cell_below HQ1.out (hc j v hv)⟩) (hcl.trans hmks.symm) HC1.out ?_)
    obtain ⟨W2, hW2⟩ : ∃ W2, (((w.alloc (.cells #[.int .i64 e.f0, .string e.f1, .slice A e.f2.length c] 24)).alloc (.cells #[.int .i64 0, .string ⟨#[]⟩, .slice none 0 0] 24)).alloc (.cells mk 24)).setRow (w.heap.size + 1 + 1) cs.toArray = W2 := ⟨_, rfl⟩
    have g2 : W2.heap[w.heap.size + 1 + 1]? = some (.cells cs.toArray 24 (0, 0)) := by rw [← hW2]; exact setRow_heap _ _ _ _ _ _ HG1.out
    have c2 : W2.heap[w.heap.size]? = some (.cells #[.int .i64 e.f0, .string e.f1, .slice A e.f2.length c] 24 (0, 0)) := by rw [← hW2, setRow_other _ _ _ _ (by omega), HW1.out]; exact blk_alloc B0.out _
    have d2 : W2.heap[w.heap.size + 1]? = some (.cells #[.int .i64 0, .string ⟨#[]⟩, .slice none 0 0] 24 (0, 0)) := by rw [← hW2, setRow_other _ _ _ _ (by omega), HW1.out]; exact blk_alloc B1.out _
    have q2 : Below w.heap.size w W2 := by rw [← hW2]; exact HQ1.out.trans ⟨rfl, rfl, rfl, by simp [World.setRow], fun k hk => setRow_other _ _ _ _ (by omega)⟩
    have z2 : w.heap.size + 1 + 1 < W2.heap.size := blk_lt g2
    rw [hW2]
    have G2 := Aside0.mk g2
    have C2 := Aside0.mk c2
    have D2 := Aside0.mk d2
    have Q2 := Aside0.mk q2
    clear g2 c2 d2 q2 hW2 HG1 HQ1 HW1 HZ1 B0 B1 HQ hmk
    go_loopg [15] e.f2.length (fun gg s14 wr => ∃ (kk : Nat) (cur : Array Value), kk ≤ e.f2.length ∧ e.f2.length - kk ≤ gg ∧ s14 = .int .i64 kk ∧ Aside0 (PartE w wr (w.heap.size + 1 + 1 + 1) e.f2 kk cur) ∧ Aside0 (Below w.heap.size w wr) ∧ Aside0 (wr.heap[w.heap.size + 1 + 1]? = some (.cells cur 24 (0, 0))) ∧ Aside0 (wr.heap[w.heap.size]? = some (.cells #[.int .i64 e.f0, .string e.f1, .slice A e.f2.length c] 24 (0, 0))) ∧ Aside0 (wr.heap[w.heap.size + 1]? = some (.cells #[.int .i64 0, .string ⟨#[]⟩, .slice none 0 0] 24 (0, 0))))
    case atStart => exact ⟨0, _, Nat.zero_le _, by omega, rfl, ⟨HP.out.world⟩, Q2, G2, C2, D2⟩
    case round =>
      obtain ⟨kk, cur, hkk, hg, rfl, HP, HB, GB, CB, DB⟩ := hrel
      by_cases hlt : kk < e.f2.length
      · have hltz : (kk : Int) < (e.f2.length : Int) := by omega
        obtain ⟨A2, a2, u0, u1, u2, hl2, hi2⟩ := HP.out.get HB.out kk hlt
        have k0 := (blk_cell GB.out (kk * 3)).trans u0
        have k1 := (blk_cell GB.out (kk * 3 + 1)).trans u1
        have k2 := (blk_cell GB.out (kk * 3 + 2)).trans u2
        have hmem : e.f2[kk] ∈ e.f2 := List.getElem_mem hlt
        have hle := szL_mem hmem
        have HC := Lib.hid (ih e.f2[kk] A2 a2 wr (by omega) (by omega) hi2 hl2)
        clear hi2 hl2 hmem u0 u1 u2
        have hne : some (w.heap.size + 1 + 1) ≠ none := by simp
        go_wp2_with fail
        refine HC.out.mono ?_
        rintro en w' ⟨v, rfl, hO, hb⟩
        obtain ⟨Av, cv, rfl⟩ := Kd.R_slice hO
        have gb := blk_below GB.out hb
        have HPs := HP.out.1
        have x0 : w'.cell? ⟨w.heap.size + 1 + 1, kk * 3, none⟩ = some _ := pw_cell_below hb k0
        have x1 : w'.cell? ⟨w.heap.size + 1 + 1, kk * 3 + 1, none⟩ = some _ := pw_cell_below hb k1
        have x2 : w'.cell? ⟨w.heap.size + 1 + 1, kk * 3 + 2, none⟩ = some _ := pw_cell_below hb k2
        have fg := fun i => blk_frozen gb i
        have hlw := blk_lt GB.out
        have hP2 := (HP.out.below hb).step hlt (Kd.R_lower hO (by omega))
        have HP2 := Aside0.mk hP2
        have HB2 := Aside0.mk (HB.out.trans (hb.mono HB.out.size))
        have GB2 := Aside0.mk gb
        have CB2 := Aside0.mk (blk_below CB.out hb)
        have DB2 := Aside0.mk (blk_below DB.out hb)
        clear hb hO gb hP2
        go_wp2
        go_roundg (e.f2.length - (kk + 1))
        case measure => omega
        case rel => exact ⟨kk + 1, _, by omega, by omega, by go_num, ⟨((HP2.out.set (by omega)).set (by omega)).set (by omega)⟩, ⟨((HB2.out.setCell (by simp; omega) _).setCell (by simp; omega) _).setCell (by simp; omega) _⟩, ⟨blk_put (blk_put (blk_put GB2.out _ _ rfl) _ _ rfl) _ _ rfl⟩, ⟨blk_far (blk_far (blk_far CB2.out (by simp; omega) _) (by simp; omega) _) (by simp; omega) _⟩, ⟨blk_far (blk_far (blk_far DB2.out (by simp) _) (by simp) _) (by simp) _⟩⟩
      · have : kk = e.f2.length := by omega
        subst this
        have c0 := (blk_cell CB.out 0).trans rfl
        have c1 := (blk_cell CB.out 1).trans rfl
        have c2 := (blk_cell CB.out 2).trans rfl
        have fc := fun i => blk_frozen CB.out i
        have d0 := (blk_cell DB.out 0).trans rfl
        have d1 := (blk_cell DB.out 1).trans rfl
        have d2 := (blk_cell DB.out 2).trans rfl
        have fd := fun i => blk_frozen DB.out i
        go_wp2
        have hO := PartE.done (base := w.heap.size + 1 + 1) HP.out GB.out (Nat.le_refl _) (by omega)
        have b4 := blk_put (blk_put (blk_put (blk_far DB.out (p := ⟨w.heap.size, 2, none⟩) (by simp) (.slice (some ⟨w.heap.size + 1 + 1, 0, none⟩) e.f2.length e.f2.length)) 0 (.int .i64 e.f0) rfl) 1 (.string e.f1) rfl) 2 (.slice (some ⟨w.heap.size + 1 + 1, 0, none⟩) e.f2.length e.f2.length) rfl
        refine bodyPost_ret (results_single rfl (.cell _ _ _ _ _ rfl b4 Try.underlying24 rfl rfl .nil)) rfl ?_
        exact ⟨_, rfl, Kd.R_lower (OwnE.set (OwnE.set (OwnE.set (OwnE.set hO (by omega) _ _) (by omega) _ _) (by omega) _ _) (by omega) _ _) (by omega), (((HB.out.setCell (by simp) _).setCell (by simp) _).setCell (by simp) _).setCell (by simp) _⟩
end Go.Proofs.Ytacefdkfbpgedaa.Mine
