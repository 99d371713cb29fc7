/- same, SameExpr of both sides. -/
import Derived.Test.YtacefdkfbpgedaaGreatCH2
import Derived.ChangeKeysEq
import Derived.Deep.RegionHeld3
import Derived.Deep.RegionWith
import Derived.Test.YtacefdkfbpgedaaGreatCH0
import Derived.Deep.DeepMust
import Derived.RangeFuncNested
import Derived.WalkSpells
import Derived.Lib.OthersKept
import Derived.DeepKeys4
namespace Go.Proofs.YtacefdkfbpgedaaGreat.Mine
open Go.Proofs.YtacefdkfbpgedaaGreat.PProgSmall
open Go.RowKit Go.Shelf Go.Proofs.YtacefdkfbpgedaaGreatW.PrintWords Go.Proofs.YtacefdkfbpgedaaGreatW.PrintLast Go.Proofs.YtacefdkfbpgedaaGreatW.PrintMore
set_option linter.unusedVariables false
set_option linter.unusedSimpArgs false
open Classical in
noncomputable def sameE (a b : Ex) : Bool := decide (a = b)
theorem sameE_iff {a b : Ex} : sameE a b = true ↔ a = b := by simp [sameE]
theorem ex_ext {a b : Ex} (h0 : a.f0 = b.f0) (h1 : a.f1 = b.f1) (h2 : a.f2 = b.f2) : a = b := by cases a; cases b; simp_all
theorem eqL_sameE : ∀ {xs ys : List Ex}, eqL sameE xs ys = true ↔ xs = ys
  | [], [] => by simp [eqL]
  | [], _ :: _ => by simp [eqL]
  | _ :: _, [] => by simp [eqL]
  | x :: xs, y :: ys => by rw [eqL, Bool.and_eq_true, sameE_iff, eqL_sameE, List.cons.injEq]
theorem sameE_eq (a b : Ex) : sameE a b = (decide (a.f0 = b.f0) && decide (a.f1 = b.f1) && eqL sameE a.f2 b.f2) := by
  rw [Bool.eq_iff_iff, sameE_iff, Bool.and_eq_true, Bool.and_eq_true, eqL_sameE, decide_eq_true_iff, decide_eq_true_iff]
  exact ⟨fun h => by subst h; exact ⟨⟨rfl, rfl⟩, rfl⟩, fun h => ex_ext h.1.1 h.1.2 h.2⟩
set_option maxHeartbeats 4000000 in
theorem c_same (m : Nat) : ∀ (a b : Ex) (A B : Option Addr) (c d : Nat) (w : World), szE a ≤ m → Kd.C k57 w A a.f2.length a.f2 → a.f2.length ≤ c → Kd.C k57 w B b.f2.length b.f2 → b.f2.length ≤ d →
    Calls Tryz.prog 125 #[.agg #[.int .i64 a.f0, .string a.f1, .slice A a.f2.length c], .agg #[.int .i64 b.f0, .string b.f1, .slice B b.f2.length d]] w fun en w' => en = .returned (.bool (sameE a b)) ∧ Below w.heap.size w w' := by
  induction m with
  | zero => intro a b A B c d w h; exact absurd h (by have := szE_pos a; omega)
  | succ m ih =>
    intro a b A B c d w hs hr hc hr2 hd
    have q1 := (below_alloc1 w (.cells #[.int .i64 a.f0, .string a.f1, .slice A a.f2.length c] 57))
    have q2 := q1.trans ((below_alloc1 (w.alloc (.cells #[.int .i64 a.f0, .string a.f1, .slice A a.f2.length c] 57)) (.cells #[.int .i64 b.f0, .string b.f1, .slice B b.f2.length d] 57)).mono (by simp))
    have HC := Lib.hid (eqfE A B c d a.f2 b.f2 ((w.alloc (.cells #[.int .i64 a.f0, .string a.f1, .slice A a.f2.length c] 57)).alloc (.cells #[.int .i64 b.f0, .string b.f1, .slice B b.f2.length d] 57)) hc hd (Kd.C_below hr q2) (Kd.C_below hr2 q2) 125 #[] (enters_of Tryz.func125 (by kernel_rfl) rfl) sameE
      (fun x y cs ds W hx hy hKx hKy hb => by
        obtain ⟨A2, a2, rfl, hl2, hc2⟩ := k57_open hKx
        obtain ⟨B2, b2, rfl, hl3, hc3⟩ := k57_open hKy
        exact ih x y A2 B2 a2 b2 W (by have := szE_mem hx; omega) hc2 hl2 hc3 hl3))
    have hq := sameE_eq a b
    have HE := Lib.hid hq
    have Q2 := Lib.hid q2
    clear hq q1 q2 hr hr2 ih
    by_cases h0 : a.f0 = b.f0
    · have e0 : (a.f0 == b.f0) = true := by simpa using h0
      by_cases h1 : a.f1 = b.f1
      · have e1 : (a.f1.toList == b.f1.toList) = true := by rw [sEq]; simpa using h1
        have H0 := Lib.hid h0
        have H1 := Lib.hid h1
        clear h0 h1
        go_enter Tryz.func125, Tryz.ntmps125
        go_wp2_with fail
        refine HC.out.mono ?_
        rintro en w' ⟨rfl, hb⟩
        go_wp2
        go_ret
        exact ⟨retb (by rw [HE.out, H0.out, H1.out]; simp), Q2.out.trans (hb.mono Q2.out.size)⟩
      · have e1 : (a.f1.toList == b.f1.toList) = false := by rw [sEq]; simpa using h1
        have H1 := Lib.hid h1
        clear h1
        go_enter Tryz.func125, Tryz.ntmps125
        go_wp2
        go_ret
        exact ⟨retb (by rw [HE.out]; simp [H1.out]), below_alloc2 _ _ _⟩
    · have e0 : (a.f0 == b.f0) = false := by simpa using h0
      have H0 := Lib.hid h0
      clear h0
      go_enter Tryz.func125, Tryz.ntmps125
      go_wp2
      go_ret
      exact ⟨retb (by rw [HE.out]; simp [H0.out]), below_alloc2 _ _ _⟩
def kEq (l m : List Ex) : Bool := ((cntK l 0 : Int) == cntK m 0) && (((cntK l 1 : Int) == cntK m 1) && (((cntK l 2 : Int) == cntK m 2) && ((cntK l 3 : Int) == cntK m 3)))
theorem eq_int (d : Nat) (a b : Int) (W : World) : (Op.equalIn (d + 1) 3 (.int .i64 a) (.int .i64 b)).run Tryz.prog W = .ok (a == b) W := by
  simp [Op.equalIn, run_underlying Tryz.underlying3]
theorem eq_kindsD (d : Nat) (l m : List Ex) (W : World) : (Op.equalIn (d + 1 + 1) 117 (.agg (kindsV l)) (.agg (kindsV m))).run Tryz.prog W = .ok (kEq l m) W := by
  obtain ⟨i, hi, _⟩ := Option.map_eq_some_iff.1 infoInt
  have hc : Tryz.prog.cellsOf 3 = 1 := by kernel_rfl
  have hpart : ∀ (xs : Array Value) (j : Nat) (a : Int), xs[j]? = some (.int .i64 a) → (part 3 xs j).run Tryz.prog W = .ok (.int .i64 a) W := by
    intro xs j a h
    simp [part, isAgg, run_underlying Tryz.underlying3, h]
  rw [run_equalIn_array W (d + 1) _ _ Tryz.underlying117 hi, hc, show List.range 4 = [0, 1, 2, 3] from rfl]
  have e0 := fun j a (h : (kindsV l)[j]? = some (.int .i64 a)) => hpart (kindsV l) j a h
  have e1 := fun j a (h : (kindsV m)[j]? = some (.int .i64 a)) => hpart (kindsV m) j a h
  simp only [Op.eqItems, Sem.run_bind, Nat.mul_one, e0 0 _ rfl, e1 0 _ rfl, e0 1 _ rfl, e1 1 _ rfl, e0 2 _ rfl, e1 2 _ rfl, e0 3 _ rfl, e1 3 _ rfl, Result.andThen_ok, eq_int]
  unfold kEq
  cases h0 : ((cntK l 0 : Int) == cntK m 0) <;> cases h1 : ((cntK l 1 : Int) == cntK m 1) <;> cases h2 : ((cntK l 2 : Int) == cntK m 2) <;> cases h3 : ((cntK l 3 : Int) == cntK m 3) <;> simp [Op.eqItems, Sem.run_bind, Nat.mul_one, e0 0 _ rfl, e1 0 _ rfl, e0 1 _ rfl, e1 1 _ rfl, e0 2 _ rfl, e1 2 _ rfl, e0 3 _ rfl, e1 3 _ rfl, Result.andThen_ok, eq_int, h0, h1, h2, h3]
theorem eq_kinds (l m : List Ex) (W : World) : (Op.equalIn 10000 117 (.agg (kindsV l)) (.agg (kindsV m))).run Tryz.prog W = .ok (kEq l m) W := eq_kindsD 9998 l m W
theorem kEq_of {l m : List Ex} (h : l = m) : kEq l m = true := by subst h; simp [kEq]
abbrev TwoBox (w : World) (a b : Ex) (A B : Option Addr) (c d : Nat) (W : World) : Prop :=
  Below w.heap.size w W ∧ W.cell? ⟨w.heap.size, 0, none⟩ = some (.int .i64 a.f0) ∧ W.cell? ⟨w.heap.size, 1, none⟩ = some (.string a.f1) ∧ W.cell? ⟨w.heap.size, 2, none⟩ = some (.slice A a.f2.length c) ∧
    W.cell? ⟨w.heap.size + 1, 0, none⟩ = some (.int .i64 b.f0) ∧ W.cell? ⟨w.heap.size + 1, 1, none⟩ = some (.string b.f1) ∧ W.cell? ⟨w.heap.size + 1, 2, none⟩ = some (.slice B b.f2.length d)
theorem TwoBox.step {w : World} {a b : Ex} {A B : Option Addr} {c d : Nat} {W W' : World} (h : TwoBox w a b A B c d W) (hb : Below W.heap.size W W') : TwoBox w a b A B c d W' := by
  obtain ⟨h0, h1, h2, h3, h4, h5, h6⟩ := h
  exact ⟨h0.trans (hb.mono h0.size), pw_cell_below hb h1, pw_cell_below hb h2, pw_cell_below hb h3, pw_cell_below hb h4, pw_cell_below hb h5, pw_cell_below hb h6⟩
theorem TwoBox.drew {w : World} {a b : Ex} {A B : Option Addr} {c d : Nat} {W : World} (h : TwoBox w a b A B c d W) : TwoBox w a b A B c d W.drew := h.step (below_drew (Below.refl _ _))
theorem TwoBox.made (w : World) (a b : Ex) (A B : Option Addr) (c d : Nat) : TwoBox w a b A B c d ((w.alloc (.cells #[.int .i64 a.f0, .string a.f1, .slice A a.f2.length c] 57)).alloc (.cells #[.int .i64 b.f0, .string b.f1, .slice B b.f2.length d] 57)) := by
  have h1 := blk_alloc (alloc_at w (.cells #[.int .i64 a.f0, .string a.f1, .slice A a.f2.length c] 57)) (.cells #[.int .i64 b.f0, .string b.f1, .slice B b.f2.length d] 57)
  have h2 := alloc_at (w.alloc (.cells #[.int .i64 a.f0, .string a.f1, .slice A a.f2.length c] 57)) (.cells #[.int .i64 b.f0, .string b.f1, .slice B b.f2.length d] 57)
  simp only [World.size_alloc] at h2
  exact ⟨below_alloc2 _ _ _, (blk_cell h1 0).trans rfl, (blk_cell h1 1).trans rfl, (blk_cell h1 2).trans rfl, (blk_cell h2 0).trans rfl, (blk_cell h2 1).trans rfl, (blk_cell h2 2).trans rfl⟩
set_option maxRecDepth 100000 in
set_option maxHeartbeats 4000000 in
theorem c_SameExpr (a b : Ex) (A B : Option Addr) (c d : Nat) (w : World) (hr : Kd.C k57 w A a.f2.length a.f2) (hc : a.f2.length ≤ c) (hr2 : Kd.C k57 w B b.f2.length b.f2) (hd : b.f2.length ≤ d) (hs : szE a < 1000000) (hs2 : szE b < 1000000) :
    Calls Tryz.prog 63 #[.agg #[.int .i64 a.f0, .string a.f1, .slice A a.f2.length c], .agg #[.int .i64 b.f0, .string b.f1, .slice B b.f2.length d]] w fun en w' => en = .returned (.bool (sameE a b)) ∧ Below w.heap.size w w' := by
  have HK := Lib.hid (fun (x : Ex) (X : Option Addr) (cx : Nat) (hx : Kd.C k57 w X x.f2.length x.f2 ∧ x.f2.length ≤ cx ∧ szE x < 1000000) W (hb : TwoBox w a b A B c d W) => (c_kinds x X cx W (Kd.C_below hx.1 hb.1) hx.2.1 hx.2.2).mono (R' := fun e W' => e = .returned (.agg (kindsV (plE x))) ∧ TwoBox w a b A B c d W') (by rintro e W' ⟨h1, h2⟩; exact ⟨h1, hb.step h2⟩))
  have HA := Aside0.mk (And.intro hr (And.intro hc hs))
  have HB := Aside0.mk (And.intro hr2 (And.intro hd hs2))
  have HC := Lib.hid (fun W (hb : TwoBox w a b A B c d W) => (c_same _ a b A B c d W (Nat.le_refl _) (Kd.C_below hr hb.1) hc (Kd.C_below hr2 hb.1) hd).mono (R' := fun e W' => e = .returned (.bool (sameE a b)) ∧ TwoBox w a b A B c d W') (by rintro e W' ⟨h1, h2⟩; exact ⟨h1, hb.step h2⟩))
  have HM := TwoBox.made w a b A B c d
  clear hr hr2
  go_enter Tryz.func63, Tryz.ntmps63
  go_wp2_with fail
  obtain ⟨W0, hW0⟩ : ∃ W0, (w.alloc (.cells #[.int .i64 a.f0, .string a.f1, .slice A a.f2.length c] 57)).alloc (.cells #[.int .i64 b.f0, .string b.f1, .slice B b.f2.length d] 57) = W0 := ⟨_, rfl⟩
  rw [hW0] at HM ⊢
  clear hW0
  have HM2 := HM.drew
  have HQ := eq_kinds (plE a) (plE b)
  cases hk : kEq (plE a) (plE b) with
  | true =>
    rw [hk] at HQ
    go_region_held3 (fun W => TwoBox w a b A B c d W) (first | assumption | exact HM) (first | (go_at_call 85; refine (HK.out _ _ _ (by first | exact HA.out | exact HB.out) _ (by assumption)).mono ?_; rintro e w' ⟨rfl, hS⟩) | (go_at_call 125; refine (HC.out _ (by assumption)).mono ?_; rintro e w' ⟨rfl, hS⟩))
    all_goals (go_wp2; go_ret; exact ⟨retb rfl, (by assumption : TwoBox w a b A B c d _).1⟩)
  | false =>
    rw [hk] at HQ
    have hf : sameE a b = false := by
      cases h : sameE a b with
      | false => rfl
      | true => rw [sameE_iff] at h; subst h; rw [kEq_of rfl] at hk; cases hk
    have HN := Lib.hid hf
    clear hf
    obtain ⟨z0, z1, z2, z3, z4, z5, z6⟩ := HM2
    go_region_with (first | (go_at_call 85; refine (HK.out _ _ _ (by first | exact HA.out | exact HB.out) _ (by first | assumption | exact ⟨z0, z1, z2, z3, z4, z5, z6⟩)).mono ?_; rintro e w' ⟨rfl, hS⟩; obtain ⟨y0, y1, y2, y3, y4, y5, y6⟩ := id hS))
    all_goals (go_wp2; go_ret; exact ⟨retb HN.out.symm, (by assumption : TwoBox w a b A B c d _).1⟩)
end Go.Proofs.YtacefdkfbpgedaaGreat.Mine
namespace Go.Proofs.YtacefdkfbpgedaaGreat.Mine
open Go.Proofs.YtacefdkfbpgedaaGreat.PProgSmall
open Go.RowKit Go.Shelf Go.Proofs.YtacefdkfbpgedaaGreatW.PrintWords Go.Proofs.YtacefdkfbpgedaaGreatW.PrintLast Go.Proofs.YtacefdkfbpgedaaGreatW.PrintMore
set_option linter.unusedVariables false
set_option linter.unusedSimpArgs false
attribute [local go_sem] max2_int min2_int max_two min_two
theorem infoEx : (Tryz.prog.info? 57).map (fun i => (i.zero, i.size, i.bytes)) = some (some (.agg #[.int .i64 0, .string ⟨#[]⟩, .slice none 0 0]), 3, 48) := by kernel_rfl
end Go.Proofs.YtacefdkfbpgedaaGreat.Mine
namespace Go.Proofs.YtacefdkfbpgedaaGreat.Mine
open Go.Proofs.YtacefdkfbpgedaaGreat.PProgSmall
open Go.RowKit Go.Shelf Go.Proofs.YtacefdkfbpgedaaGreatW.PrintWords Go.Proofs.YtacefdkfbpgedaaGreatW.PrintLast Go.Proofs.YtacefdkfbpgedaaGreatW.PrintMore
set_option linter.unusedVariables false
set_option linter.unusedSimpArgs false
def bodiesD (d : De) : List Ex := if d.f2.length = 0 then [d.f3] else d.f2.map (·.f2)
def RowN (w0 W : World) (base : Nat) (ok : Nat → Prop) (v : Value) (xs : List Ex) : Prop :=
  ∃ rows : List (List Value), rows.length = xs.length ∧ Kd.R (Kd.raw 3) 57 W base (fun _ => True) v rows ∧ ∀ (j : Nat) (x : Ex) (c : List Value), xs[j]? = some x → rows[j]? = some c → Kd.FK k57 w0 ok x c
theorem RowN.nil (w0 W : World) (base : Nat) (ok : Nat → Prop) : RowN w0 W base ok (.slice none 0 0) [] := ⟨[], rfl, Kd.R_nil _ _ _ _ _, fun j x c h => by simp at h⟩
theorem RowN.slice {w0 W : World} {base : Nat} {ok : Nat → Prop} {v : Value} {xs : List Ex} (h : RowN w0 W base ok v xs) : ∃ A c, v = .slice A xs.length c := by
  obtain ⟨rows, hl, hR, _⟩ := h
  obtain ⟨A, c, rfl⟩ := Kd.R_slice hR
  exact ⟨A, c, by rw [hl]⟩
theorem RowN.lower {w0 W : World} {base base' : Nat} {ok : Nat → Prop} {v : Value} {xs : List Ex} (h : RowN w0 W base ok v xs) (hb : base' ≤ base) : RowN w0 W base' ok v xs := by
  obtain ⟨rows, hl, hR, hf⟩ := h
  exact ⟨rows, hl, Kd.R_lower hR hb, hf⟩
theorem RowN.get {w0 W : World} {base : Nat} {ok : Nat → Prop} {A : Option Addr} {n c : Nat} {xs : List Ex} (h : RowN w0 W base ok (.slice A n c) xs) (i : Nat) (hi : i < xs.length) :
    ∃ ad A2 a2, A = some ad ∧ W.cell? (ad.add (i * 3)) = some (.int .i64 xs[i].f0) ∧ W.cell? ⟨(ad.add (i * 3)).block, (ad.add (i * 3)).off + 1, none⟩ = some (.string xs[i].f1) ∧ W.cell? ⟨(ad.add (i * 3)).block, (ad.add (i * 3)).off + 2, none⟩ = some (.slice A2 xs[i].f2.length a2) ∧ xs[i].f2.length ≤ a2 ∧ Kd.F k57 w0 ok A2 xs[i].f2.length xs[i].f2 := by
  obtain ⟨rows, hl, hR, hf⟩ := h
  obtain ⟨A', c', he, hc', hC⟩ := Kd.R_reads hR
  cases he
  obtain ⟨ad, c0, c1, c2, rfl, hK, k0, k1, k2⟩ := get3 rfl hC i (by omega)
  have hFK := hf i xs[i] rows[i] (List.getElem?_eq_getElem hi) (List.getElem?_eq_getElem (by omega))
  obtain ⟨A2, a2, he, hl2, hF2⟩ := k57_openF hFK
  have hK1 := hK.1
  rw [he] at hK1
  obtain ⟨rfl, rfl, rfl⟩ : c0 = _ ∧ c1 = _ ∧ c2 = _ := by simpa using hK1
  exact ⟨ad, A2, a2, rfl, k0, k1, k2, hl2, hF2⟩
theorem RowN.box {w0 W : World} {ok : Nat → Prop} {x : Ex} {cs : List Value} (h : Kd.FK k57 w0 ok x cs) : RowN w0 (W.alloc (.cells cs.toArray 57)) W.heap.size ok (.slice (some ⟨W.heap.size, 0, none⟩) 1 1) [x] := by
  have hr := Kd.FK_raw h
  have hl3 : cs.length = 3 := hr.2.1
  have ho := World.ownsRow_lit (base := W.heap.size) (e := 57) (size := 3) W cs.toArray 1 (Nat.le_refl _) (by simp [maxLen]) (by simpa using hl3)
  refine ⟨[cs], rfl, ⟨fun _ _ => trivial, cs, by simpa [Kd.raw] using ho, ⟨by simp [hl3, Kd.raw], fun j p hj => ?_⟩⟩, fun j y c hy hc => ?_⟩
  · rcases j with _ | j
    · simp at hj
      subst hj
      have h2 := hr.2.2
      simpa [Kd.raw, ← hl3] using h2
    · simp at hj
  · rcases j with _ | j
    · simp at hy hc
      subst hy; subst hc; exact h
    · simp at hy
set_option maxRecDepth 100000 in
set_option maxHeartbeats 2000000 in
theorem c_bodies (d : De) (cs : List Value) (ok : Nat → Prop) (w : World) (hd : Kd.FK k59 w ok d cs) (hl : d.f2.length ≤ 1000000) :
    Calls Tryz.prog 80 #[.agg cs.toArray] w fun en w' => ∃ v, en = .returned v ∧ RowN w w' w.heap.size ok v (bodiesD d) ∧ Below w.heap.size w w' := by
  obtain ⟨A1, c1, A2, c2, A5, c5, rfl, l1, F1, l2, F2, l5, F5⟩ := k59_openF hd
  have HF2 := Aside0.mk F2
  have HF5 := Aside0.mk F5
  obtain ⟨W1, hW1⟩ : ∃ W1, w.alloc (.cells #[.string d.f0, .slice A1 d.f1.length c1, .slice A2 d.f2.length c2, .int .i64 d.f3.f0, .string d.f3.f1, .slice A5 d.f3.f2.length c5] 59) = W1 := ⟨_, rfl⟩
  have b0 : W1.heap[w.heap.size]? = some (.cells #[.string d.f0, .slice A1 d.f1.length c1, .slice A2 d.f2.length c2, .int .i64 d.f3.f0, .string d.f3.f1, .slice A5 d.f3.f2.length c5] 59 (0, 0)) := by rw [← hW1]; exact alloc_at _ _
  have q0 : Below w.heap.size w W1 := by rw [← hW1]; exact below_alloc1 _ _
  have k2 := (blk_cell b0 2).trans rfl
  have k3 := (blk_cell b0 3).trans rfl
  have k4 := (blk_cell b0 4).trans rfl
  have k5 := (blk_cell b0 5).trans rfl
  have B0 := Aside0.mk b0
  have Q0 := Aside0.mk q0
  have Z0 := Lib.hid (show W1.heap.size = w.heap.size + 1 by rw [← hW1]; simp)
  clear hd F1 F2 F5 b0 q0
  have HW1 := Lib.hid hW1
  clear hW1
  by_cases h0 : d.f2.length = 0
  · have h01 : ((d.f2.length : Int) == 0) = true := by rw [beq_iff_eq]; omega
    have HB := Lib.hid (show bodiesD d = [d.f3] by rw [bodiesD, if_pos h0])
    clear h0
    go_enter Tryz.func80, Tryz.ntmps80
    go_wp2
    rw [HW1.out]
    go_wp2
    go_ret
    have hz := Z0.out
    rw [HB.out]
    exact ⟨_, rfl, by rw [← hz]; exact (RowN.box (k57_mkF _ _ d.f3 l5 HF5.out)).lower (by omega), Q0.out.trans ((below_alloc1 _ _).mono Q0.out.size)⟩
  · have h01 : ((d.f2.length : Int) == 0) = false := by rw [beq_eq_false_iff_ne]; omega
    have HB := Lib.hid (show bodiesD d = d.f2.map (·.f2) by rw [bodiesD, if_neg h0])
    clear h0
    go_enter Tryz.func80, Tryz.ntmps80
    go_wp2
    rw [HW1.out]
    go_loopg [3, 16] d.f2.length (fun gg s3 s16 wr => ∃ kk : Nat, kk ≤ d.f2.length ∧ d.f2.length - kk ≤ gg ∧ s16 = .int .i64 kk ∧ Aside0 (RowN w wr w.heap.size ok s3 ((d.f2.take kk).map (·.f2))) ∧ Aside0 (Below w.heap.size w wr))
    case atStart => exact ⟨0, Nat.zero_le _, by omega, rfl, ⟨RowN.nil _ _ _ _⟩, Q0⟩
    case round =>
      obtain ⟨kk, hkk, hg, rfl, HO, HBe⟩ := hrel
      by_cases hlt : kk < d.f2.length
      · have hltz : (kk : Int) < (d.f2.length : Int) := by omega
        obtain ⟨ad, c0, c1', c2', c3, c4, rfl, hK, hcells, k0, k1, k2, k3, k4⟩ := gett5 rfl (Kd.C_below (Kd.F_now HF2.out) HBe.out) kk hlt
        have hFK := elemF HF2.out kk hlt rfl hcells (fun p v _ hv => HBe.out.cell (World.block_lt_of_cell? _ _ hv) |>.trans hv) (by decide)
        obtain ⟨X1, x1, X4, x4, he, m1, G1, m4, G4⟩ := k62_openF hFK
        obtain ⟨rfl, rfl, rfl, rfl, rfl⟩ : c0 = _ ∧ c1' = _ ∧ c2' = _ ∧ c3 = _ ∧ c4 = _ := by simpa using he
        have HM := Aside0.mk (k57_mkF _ _ d.f2[kk].f2 m4 G4)
        obtain ⟨rows, hrl, hR, hfR⟩ := HO.out
        obtain ⟨Ar, cr, rfl⟩ := Kd.R_slice hR
        have hrl2 : rows.length = kk := by rw [hrl]; simp; omega
        have HRL := Lib.hid hrl2
        have HRr := Aside0.mk (Kd.R_below hR (below_alloc2 wr (.cells #[.string d.f2[kk].f0, .slice X1 d.f2[kk].f1.length x1, .int .i64 d.f2[kk].f2.f0, .string d.f2[kk].f2.f1, .slice X4 d.f2[kk].f2.f2.length x4] 62) (.cells #[.int .i64 d.f2[kk].f2.f0, .string d.f2[kk].f2.f1, .slice X4 d.f2[kk].f2.f2.length x4] 57)))
        have HRw := Aside0.mk (Kd.R_below hR (below_alloc1 wr (.cells #[.string d.f2[kk].f0, .slice X1 d.f2[kk].f1.length x1, .int .i64 d.f2[kk].f2.f0, .string d.f2[kk].f2.f1, .slice X4 d.f2[kk].f2.f2.length x4] 62)))
        have HfR := Aside0.mk hfR
        have HrL := Lib.hid hrl
        have hszb := HBe.out.size
        clear hK hcells hFK he G1 G4 hrl hrl2 hR hfR
        have hq1 := below_alloc1 wr (.cells #[.string d.f2[kk].f0, .slice X1 d.f2[kk].f1.length x1, .int .i64 d.f2[kk].f2.f0, .string d.f2[kk].f2.f1, .slice X4 d.f2[kk].f2.f2.length x4] 62)
        have HQ1 := Aside0.mk (HBe.out.trans (hq1.mono hszb))
        clear hq1 HRr
        go_wp2_with (at_builtin; go_must (refine Kd.R_append (Kd.raw 3) (w0 := w) (W := wr.alloc (.cells #[.string d.f2[kk].f0, .slice X1 d.f2[kk].f1.length x1, .int .i64 d.f2[kk].f2.f0, .string d.f2[kk].f2.f1, .slice X4 d.f2[kk].f2.f2.length x4] 62)) w.heap.size rfl (.tmp 20) (.tmp 23) 55 57 _ 48 rfl Tryz.underlying55 infoEx rfl (by decide) (by decide) (.slice Ar rows.length cr) rows [.int .i64 d.f2[kk].f2.f0, .string d.f2[kk].f2.f1, .slice X4 d.f2[kk].f2.f2.length x4] [.int .i64 d.f2[kk].f2.f0, .string d.f2[kk].f2.f1, .slice X4 d.f2[kk].f2.f2.length x4] (fun _ => True) (fun _ => False) rfl (by rw [World.size_alloc]; rfl) (Kd.FK_raw HM.out) (fun _ h => h.elim) (fun _ _ => trivial) HRw.out HQ1.out (by simp; omega) (by rw [HRL.out]; omega) ?_; intro v1 w1 hR1 hb1 _ _))
        go_roundg (d.f2.length - (kk + 1))
        case measure => omega
        case rel => exact ⟨kk + 1, by omega, by omega, by go_num, ⟨⟨_, by rw [List.length_append, HRL.out]; simp; omega, hR1, fun j x c hx hc => by
          have hts : ((d.f2.take (kk + 1)).map (·.f2)) = (d.f2.take kk).map (·.f2) ++ [d.f2[kk].f2] := by rw [take_snoc hlt, List.map_append]; rfl
          rw [hts] at hx
          rcases Nat.lt_or_ge j kk with h | h
          · rw [List.getElem?_append_left (by rw [HRL.out]; exact h)] at hc
            rw [List.getElem?_append_left (by simp; omega)] at hx
            exact HfR.out j x c hx hc
          · rw [List.getElem?_append_right (by rw [HRL.out]; exact h), HRL.out] at hc
            rw [List.getElem?_append_right (by simp; omega)] at hx
            have hl4 : ((d.f2.take kk).map (·.f2)).length = kk := by simp; omega
            rw [hl4] at hx
            rcases hjk : j - kk with _ | i
            · rw [hjk] at hx hc; simp at hx hc; subst hx; subst hc; exact HM.out
            · rw [hjk] at hx; simp at hx⟩⟩, ⟨hb1⟩⟩
      · have : kk = d.f2.length := by omega
        subst this
        obtain ⟨Ar, cr, hr⟩ := HO.out.slice
        subst hr
        go_wp2
        go_ret
        have ho := HO.out
        rw [HB.out]
        exact ⟨_, rfl, by simpa using ho, HBe.out⟩
end Go.Proofs.YtacefdkfbpgedaaGreat.Mine
namespace Go.Proofs.YtacefdkfbpgedaaGreat.Mine
open Go.Proofs.YtacefdkfbpgedaaGreat.PProgSmall
open Go.RowKit Go.Shelf Go.Proofs.YtacefdkfbpgedaaGreatW.PrintWords Go.Proofs.YtacefdkfbpgedaaGreatW.PrintLast Go.Proofs.YtacefdkfbpgedaaGreatW.PrintMore
set_option linter.unusedVariables false
set_option linter.unusedSimpArgs false
attribute [local go_sem] Oper.semAt_some
theorem RowN.keeps {w0 W W' : World} {base : Nat} {ok : Nat → Prop} {v : Value} {xs : List Ex} {l : Option Nat} (h : RowN w0 W base ok v xs) (hk : KeepsBut l W W') (hl : ∀ k, l = some k → k < base) : RowN w0 W' base ok v xs := by
  obtain ⟨rows, h1, hR, hf⟩ := h
  refine ⟨rows, h1, Kd.R_mono (Kd.R_step (Kd.R_tight rfl hR) (fun k hk2 hlt => ?_)) (fun _ _ => trivial), hf⟩
  obtain ⟨cells, hc⟩ := Kd.R_typed hR k hk2.symm
  have hb := Kd.R_base hR k hk2.symm
  exact (hk.2 k _ (fun e => by have := hl k e.symm; omega) hc (.inr (by simp [exO]))).trans hc.symm
theorem RowN.own {β : Type} {w0 W0 : World} {base : Nat} {ok : Nat → Prop} {v : Value} {xs : List Ex} : Own (fun (_ : β) W => RowN w0 W base ok v xs) := fun _ W W' row hs hg hr => by
  obtain ⟨rows, h1, hR, hf⟩ := hs
  refine ⟨rows, h1, Kd.R_mono (Kd.R_step (Kd.R_tight rfl hR) (fun k hk2 hlt => hg.block k hlt (fun e => ?_))) (fun _ _ => trivial), hf⟩
  obtain ⟨cells, hc⟩ := Kd.R_typed hR k hk2.symm
  obtain ⟨o, h2, h3⟩ := hr k e.symm
  rw [hc] at h2; cases h2; cases h3
theorem KC.grownN {M : Nat → Prop} {n : Nat} {W W' : World} {row : Option Nat} (hg : W.grownBy W' row) (hr : ∀ r, row = some r → n ≤ r ∧ ∃ o : Obj, W.heap[r]? = some o ∧ o.isCells = false) : KC M n W W' := by
  cases row with
  | none => exact (KC.rel M n).below ⟨hg.os, hg.tape, hg.output, hg.size, fun k hk => hg.block k hk (by simp)⟩
  | some g =>
    obtain ⟨h1, o, h2, h3⟩ := hr g rfl
    refine ⟨hg.size, fun k x _ hk => ?_⟩
    by_cases e : k = g
    · subst e
      rw [h2] at hk; cases hk
      refine ⟨fun hx => ?_, fun cs ec => by subst ec; cases h3⟩
      rcases hx with hx | hx
      · omega
      · cases o <;> simp_all [kpO, Obj.isCells]
    · have hk2 := (hg.block k (blk_lt hk) (fun e2 => e (Option.some.inj e2))).trans hk
      exact ⟨fun _ => hk2, fun cs ec => ⟨cs, by rw [← ec]; exact hk2, rfl⟩⟩
theorem c_each (cs : List Value) (h6 : cs.length = 6) (w : World) :
    Calls Tryz.prog 127 #[.agg cs.toArray] w fun en w' => en = .returned (.func (.func 163) #[] #[.pointer (some ⟨w.heap.size, 0, none⟩)]) ∧ w' = w.alloc (.cells cs.toArray 59) := by
  obtain ⟨c0, c1, c2, c3, c4, c5, rfl⟩ := len6 h6
  go_enter Tryz.func127, Tryz.ntmps127
  go_wp2
  go_ret
  exact ⟨rfl, rfl⟩
set_option maxRecDepth 100000 in
set_option maxHeartbeats 4000000 in
theorem each_stops (w0 : World) (M : Nat → Prop) (n₀ : Nat) (ok : Nat → Prop) (hM : ∀ k, M k → k < w0.heap.size) (hok : ∀ k, ok k → ¬ M k ∧ k < n₀) (hn0 : n₀ ≤ w0.heap.size) (d : De) (cs : List Value) (hd : Kd.FK k59 w0 ok d cs) (hl2 : d.f2.length ≤ 1000000) (hz : ∀ b ∈ bodiesD d, szE b < 1000000)
    (Bd : Nat) (w : World) (hkw : KC M n₀ w0 w) (hbox : w.heap[Bd]? = some (.cells cs.toArray 59 (0, 0))) :
    SeqX 6 163 #[.pointer (some ⟨Bd, 0, none⟩)] (fun x : Hd w0 ok => encH x.1) M n₀ (fun hs => exs hs = plL (bodiesD d)) (fun hs => exs hs <+: plL (bodiesD d)) (szL (bodiesD d)) w := by
  intro l J Jx W hW hlW hJ hJx hY h0
  have hWs := hW.size
  have hnM : ∀ k, w0.heap.size ≤ k → ¬ M k := fun k hk h => by have := hM k h; omega
  have hw0 := hkw.1
  -- the box of yield
  obtain ⟨W1, hW1⟩ : ∃ W1, W.alloc (.cells #[fvY l] 67) = W1 := ⟨_, rfl⟩
  have q1 : Below W.heap.size W W1 := by rw [← hW1]; exact below_alloc1 _ _
  have z1 : W1.heap.size = W.heap.size + 1 := by rw [← hW1]; simp
  have y1 : W1.heap[W.heap.size]? = some (.cells #[fvY l] 67 (0, 0)) := by rw [← hW1]; exact alloc_at _ _
  have k1 : KC M n₀ w0 W1 := (KC.rel M n₀).trans hkw ((KC.rel M n₀).below (hW.trans (q1.mono hWs)))
  have hd1 : Kd.FK k59 W1 ok d cs := Kd.FK_step hd (fun k hk hlt => by
    obtain ⟨o, ho⟩ : ∃ o, w0.heap[k]? = some o := ⟨_, Array.getElem?_eq_getElem hlt⟩
    rw [ho]; exact k1.blkN (hok k hk).1 ho (hok k hk).2)
  have back : ∀ (x : Ex) (c : List Value), Kd.FK k57 W1 ok x c → Kd.FK k57 w0 ok x c := fun x c h => Kd.FK_step h (fun k hk hlt => by
    have hk0 : k < w0.heap.size := by have := (hok k hk).2; omega
    exact (k1.blkN (hok k hk).1 (Array.getElem?_eq_getElem hk0) (hok k hk).2 ▸ (Array.getElem?_eq_getElem hk0)))
  have hb := c_bodies d cs ok W1 hd1 hl2
  obtain ⟨A1, c1, A2, c2, A5, c5, rfl, _⟩ := k59_openF hd
  have bd := blk_below (blk_below hbox hW) q1
  have g0 := (blk_cell bd 0).trans rfl
  have g1 := (blk_cell bd 1).trans rfl
  have g2 := (blk_cell bd 2).trans rfl
  have g3 := (blk_cell bd 3).trans rfl
  have g4 := (blk_cell bd 4).trans rfl
  have g5 := (blk_cell bd 5).trans rfl
  rw [← hW1] at g0 g1 g2 g3 g4 g5
  unfold fvY at g0 g1 g2 g3 g4 g5
  have hneB : ¬ (Bd = W.heap.size) := by have := blk_lt (blk_below hbox hW); omega
  have HB := Lib.hid hb
  have HW1 := Lib.hid hW1
  have HJ0 := Lib.hid (hJ.alloc (.cells #[fvY l] 67) h0)
  rw [hW1] at HJ0
  have HY := Lib.hid hY
  have HK1 := Lib.hid k1
  have HY1 := Lib.hid y1
  have HZ1 := Lib.hid z1
  have HBk := Lib.hid back
  have HnM := Lib.hid hnM
  clear hb hW1 hY k1 y1 back hd1 hd hkw hbox bd h0
  refine callsIn_of_wp_marks (F := Fence.wide) Tryz.func163 rfl trivial ?_ rfl
  simp only [Tryz.ntmps163, List.size_toArray, List.length_cons, List.length_nil, Nat.reduceAdd, Nat.reduceSub, Array.replicate_succ, Array.replicate_zero, List.push_toArray, List.append_toArray, List.nil_append, List.cons_append]
  gi_wp2_with fail
  have hW1' := HW1.out
  unfold fvY at hW1'
  rw [hW1']
  clear hW1' g0 g1 g2 g3 g4 g5
  refine ⟨trivial, (callsIn_wide.2 HB.out).mono ?_⟩
  rintro en W2 ⟨v, rfl, hRow, hb2⟩
  obtain ⟨Av, cv, rfl⟩ := hRow.slice
  have hRow' : RowN w0 W2 W1.heap.size ok (.slice Av (bodiesD d).length cv) (bodiesD d) := by
    obtain ⟨rows, r1, r2, r3⟩ := hRow
    exact ⟨rows, r1, r2, fun j x c hx hc => HBk.out x c (r3 j x c hx hc)⟩
  have hlen : (bodiesD d).length ≤ 1000001 := by
    unfold bodiesD; split
    · simp
    · simp; omega
  have K2 := Lib.hid ((KC.rel M n₀).trans HK1.out ((KC.rel M n₀).below hb2))
  have Y2 := Lib.hid (blk_below HY1.out hb2)
  have J2 := Lib.hid (hJ [] W1 W2 none HJ0.out (grown_of_below hb2 none) (fun r e => by cases e))
  have R2 := Lib.hid hRow'
  have hs2 := hb2.size
  obtain ⟨bs, hbs⟩ : ∃ bs, bodiesD d = bs := ⟨_, rfl⟩
  rw [hbs] at R2 hlen HY hz ⊢
  clear hRow hRow' hb2
  gi_wp2_with fail
  have hHnM := HnM.out
  obtain ⟨cv7, hcv7⟩ : ∃ x : Value, x = .agg #[.string d.f0, .slice A1 d.f1.length c1, .slice A2 d.f2.length c2, .int .i64 d.f3.f0, .string d.f3.f1, .slice A5 d.f3.f2.length c5] := ⟨_, rfl⟩
  rw [← hcv7]
  have HCv := Lib.hid hcv7
  clear hcv7
  have hz1 := HZ1.out
  have hj2 := J2.out
  refine wpIn_loopT (fun a Wr => ∃ (kk : Nat) (Ds : List Nat) (hs : List (Hd w0 ok)) (u4 u5 u10 u11 u12 u13 u14 u15 u16 u17 u18 u19 u20 : Value),
      a = { tmps := #[.func (Fn.yield l) #[] #[], .pointer (some ⟨Bd, 0, none⟩), .pointer (some ⟨W.heap.size, 0, none⟩), undef, u4, u5, cv7, .slice Av bs.length cv, .int .i64 bs.length, .int .i64 kk, u10, u11, u12, u13, u14, u15, u16, u17, u18, u19, u20], defers := Ds.map markD } ∧
      kk ≤ bs.length ∧ exs hs = plL (bs.take kk) ∧ J hs Wr ∧ KC M n₀ w0 Wr ∧ Marks W.heap.size Ds Wr ∧ Wr.heap[W.heap.size]? = some (.cells #[fvY l] 67 (0, 0)) ∧ RowN w0 Wr W1.heap.size ok (.slice Av bs.length cv) bs ∧ W2.heap.size ≤ Wr.heap.size)
    (fun a _ => bs.length - (intOf (a.tmps.getD 9 undef)).toNat) ?_ ?_
  · exact ⟨0, [], [], _, _, _, _, _, _, _, _, _, _, _, _, _, rfl, Nat.zero_le _, by simp [exs, plL], hj2, K2.out, Marks.nil _ _, Y2.out, R2.out, Nat.le_refl _⟩
  rintro a Wr ⟨kk, Ds, hs, u4, u5, u10, u11, u12, u13, u14, u15, u16, u17, u18, u19, u20, rfl, hkk, hex, hj, hkc, hmk, hyb, hrow, hsz⟩ T hT
  have HT := Lib.hid hT
  have HJx := Lib.hid hJx
  have HJJ := Lib.hid hJ
  clear hT hJ hJx HJ0 K2 Y2 J2 R2 hj2 HB
  by_cases hlt : kk < bs.length
  · have hltz : (kk : Int) < (bs.length : Int) := by omega
    obtain ⟨ad, A3, a3, rfl, x0, x1, x2, hl3, hF3⟩ := hrow.get kk hlt
    have HF3 := Lib.hid hF3
    have HC := Lib.hid (c_places bs[kk] A3 a3)
    have HE := Lib.hid hex
    have HJ := Lib.hid hj
    have HK := Lib.hid hkc
    have HM := Lib.hid hmk
    have HYb := Lib.hid hyb
    have HR := Lib.hid hrow
    clear hex hj hkc hmk hyb hrow hF3
    gi_wp2_with fail
    refine ⟨trivial, (callsIn_wide.2 (HC.out _)).mono ?_⟩
    rintro en w3 ⟨rfl, rfl⟩
    gi_wp2_with fail
    obtain ⟨W4, hW4⟩ : ∃ W4, (Wr.alloc (.cells #[.int .i64 bs[kk].f0, .string bs[kk].f1, .slice A3 bs[kk].f2.length a3] 57)).alloc (.cells #[.int .i64 bs[kk].f0, .string bs[kk].f1, .slice A3 bs[kk].f2.length a3] 57) = W4 := ⟨_, rfl⟩
    have q4 : Below Wr.heap.size Wr W4 := by rw [← hW4]; exact below_alloc2 _ _ _
    have z4 : W4.heap.size = Wr.heap.size + 1 + 1 := by rw [← hW4]; simp
    have bP : W4.heap[Wr.heap.size + 1]? = some (.cells (cellsH (bs[kk], A3, a3)) 57 (0, 0)) := by rw [← hW4]; have := alloc_at (Wr.alloc (.cells #[.int .i64 bs[kk].f0, .string bs[kk].f1, .slice A3 bs[kk].f2.length a3] 57)) (.cells #[.int .i64 bs[kk].f0, .string bs[kk].f1, .slice A3 bs[kk].f2.length a3] 57); rw [World.size_alloc] at this; simpa [cellsH] using this
    rw [hW4]
    have j4 := HJJ.out hs _ W4 none HJ.out (grown_of_below q4 none) (fun r e => by cases e)
    have k4 := (KC.rel M n₀).trans HK.out ((KC.rel M n₀).below q4)
    have m4 := HM.out.below q4
    have y4 := blk_below HYb.out q4
    have r4 := HR.out.keeps (KeepsBut.below (l := none) q4) (fun k h => by cases h)
    have hk0 := HK.out.1
    have hne : exs hs ++ plE bs[kk] = plL (bs.take (kk + 1)) := by rw [HE.out, plL_take hlt]
    have hlen2 : hs.length = szL (bs.take kk) := by rw [← exs_length, HE.out, length_plL]
    have hle2 := szL_take_le bs (kk + 1)
    rw [szL_take hlt] at hle2
    have M4 := Lib.hid m4
    have HNe := Lib.hid hne
    have HW4 := Lib.hid hW4
    have HPf := Lib.hid (show plL (bs.take kk) ++ plE bs[kk] <+: plL bs by rw [← plL_take hlt]; conv => rhs; rw [← List.take_append_drop (kk + 1) bs, plL_append]
                                                                           exact List.prefix_append _ _)
    clear hne hW4
    refine wpIn_rangeFunc_ownH rfl (by omega) (gf := 133) (lb := #[.pointer (some ⟨Wr.heap.size + 1, 0, none⟩)]) rfl trivial (enters_of Tryz.func133 (by kernel_rfl) rfl)
      (places_stops w0 M n₀ ok hM hok ⟨(bs[kk], A3, a3), hl3, HF3.out, hz _ (List.getElem_mem hlt)⟩ (Wr.heap.size + 1) (HnM.out _ (by omega)) W4 k4 (by omega) bP)
      (KC.rel _ _).trans (fun Wx lx o o' hlx ho hcl _ => KC.putObj _ (by omega) ho hcl) (Below.refl _ _) (fun _ => rfl)
      (fun pre Wx => J (hs ++ pre) Wx ∧ Marks W.heap.size Ds Wx ∧ Wx.heap[W.heap.size]? = some (.cells #[fvY l] 67 (0, 0)) ∧ RowN w0 Wx W1.heap.size ok (.slice (some ad) bs.length cv) bs ∧ KC M n₀ w0 Wx ∧ W4.heap.size ≤ Wx.heap.size)
      (fun c pre Wx => c = .ret ∧ Jx (hs ++ pre) Wx ∧ Marks W.heap.size Ds Wx)
      (fun pre X Y row ⟨h1, h2, h3, h4, h5, h6⟩ hg hr => ⟨HJJ.out _ X Y row h1 hg (fun r e => ⟨by have := (hr r e).1; omega, (hr r e).2⟩), M4.out.own () X Y row h2 hg hr, Blk.notcells h3 hg (fun r e => (hr r e).2), RowN.own (W0 := W4) () X Y row h4 hg (fun r e => (hr r e).2), (KC.rel M n₀).trans h5 (KC.grownN hg (fun r e => ⟨by have := (hr r e).1; omega, (hr r e).2⟩)), Nat.le_trans h6 hg.size⟩)
      (fun c pre X Y row ⟨h1, h2, h3⟩ hg hr => ⟨h1, HJx.out _ X Y row h2 hg (fun r e => ⟨by have := (hr r e).1; omega, (hr r e).2⟩), M4.out.own () X Y row h3 hg hr⟩)
      ⟨by simpa using j4, m4, y4, r4, k4, Nat.le_refl _⟩
      (fun x a' Wx => ∃ Bx, W4.heap.size ≤ Bx ∧ Wx.heap[Bx]? = some (.cells (cellsH x.1) 57 (0, 0)) ∧ a' = { tmps := #[.func (Fn.yield l) #[] #[], .pointer (some ⟨Bd, 0, none⟩), .pointer (some ⟨W.heap.size, 0, none⟩), undef, .pointer (some ⟨Wr.heap.size, 0, none⟩), .pointer (some ⟨Bx, 0, none⟩), cv7, .slice (some ad) bs.length cv, .int .i64 bs.length, .int .i64 kk, .bool true, .pointer (some (ad.add (kk * 3))), .agg #[.int .i64 bs[kk].f0, .string bs[kk].f1, .slice A3 bs[kk].f2.length a3], .agg #[.int .i64 bs[kk].f0, .string bs[kk].f1, .slice A3 bs[kk].f2.length a3], .func (.func 133) #[] #[.pointer (some ⟨Wr.heap.size + 1, 0, none⟩)], encH x.1, u16, u17, u18, u19, u20], defers := [] })
      (fun x a' _ X Y row hs hg hr => by obtain ⟨Bx, h1, h2, h3⟩ := hs; exact ⟨Bx, h1, Blk.notcells h2 hg (fun r e => (hr r e).2), h3⟩)
      ?assign ?body ?done ?stop
    case assign =>
      rintro l' pre ⟨⟨x, A', c'⟩, hx⟩ Wx K ⟨h1, h2, h3, h4, h5, h6⟩ hK
      simp only [encH]
      have H1 := Lib.hid h1
      have H2 := Lib.hid h2
      have H3 := Lib.hid h3
      have H4 := Lib.hid h4
      have H5 := Lib.hid h5
      clear h1 h2 h3 h4 h5
      gi_wp2
      have q := below_alloc1 Wx (.cells #[.int .i64 x.f0, .string x.f1, .slice A' x.f2.length c'] 57)
      exact hK _ _ ((KeepsOthers.alloc _ _).from _) ((KC.rel _ _).below q) ⟨HJJ.out _ Wx _ none H1.out (grown_of_below q none) (fun r e => by cases e), H2.out.below q, blk_below H3.out q, H4.out.keeps (KeepsBut.below (l := none) q) (fun k h => by cases h), (KC.rel M n₀).trans H5.out ((KC.rel M n₀).below q), by have := q.size; omega⟩ ⟨Wx.heap.size, h6, alloc_at _ _, rfl⟩
    case body =>
      rintro l' pre ⟨⟨x, A', c'⟩, hx⟩ a' Wx hl' hr' ⟨h1, h2, h3, h4, h5, h6⟩ ⟨Bx, hBx, bX, rfl⟩ hlt'
      have hlt2 : pre.length < szE bs[kk] := hlt'
      have e0 : Wx.cell? ⟨Bx, 0, none⟩ = some (.int .i64 x.f0) := (blk_cell bX 0).trans rfl
      have e1 : Wx.cell? ⟨Bx, 1, none⟩ = some (.string x.f1) := (blk_cell bX 1).trans rfl
      have e2 : Wx.cell? ⟨Bx, 2, none⟩ = some (.slice A' x.f2.length c') := (blk_cell bX 2).trans rfl
      have ey := cell_of_one h3
      unfold fvY at ey
      have hyld := HY.out (hs ++ pre) ⟨(x, A', c'), hx⟩ Wx h1 (by rw [List.length_append, hlen2]; omega)
      obtain ⟨fn, tmps, asg, bdy, hy, hR⟩ := YieldAt.any 0 hyld
      unfold encH at hy
      simp only at hy
      have HRd := Lib.hid hR
      have H2 := Lib.hid h2
      have H3 := Lib.hid h3
      have H4 := Lib.hid h4
      have H5 := Lib.hid h5
      clear h1 h2 h3 h4 h5 hR hyld bX hr'
      gi_wp2_with fail
      refine (RoundIn.any HRd.out).mono ?_
      clear HRd
      rintro en W5 (⟨rfl, hj5, hx5⟩ | ⟨rfl, hx5, hk5⟩)
      · have J5 := Lib.hid hj5
        have X5 := Lib.hid hx5
        clear hj5 hx5
        gi_wp2_with fail
        have hkb := X5.out.2
        have hll : ∀ k, some l = some k → k < W.heap.size := fun k h => by cases h; exact hlW
        refine ⟨⟨hkb.1, fun k o hk ho hc => hkb.2 k o (fun e => by cases e; omega) ho (.inl hc)⟩, X5.out.1, by rw [← List.append_assoc]; exact J5.out, H2.out.keeps hkb hll, ?_, H4.out.keeps hkb (fun k h => by cases h; omega), (KC.rel M n₀).trans H5.out X5.out.1, Nat.le_trans h6 hkb.1⟩
        exact X5.out.1.blkF (HnM.out _ (by omega)) H3.out
      · have X5 := Lib.hid hx5
        have K5 := Lib.hid hk5
        clear hx5 hk5
        gi_wp2_with fail
        have hkb := K5.out
        have hll : ∀ k, some l = some k → k < W.heap.size := fun k h => by cases h; exact hlW
        exact ⟨⟨hkb.1, fun k o hk ho hc => hkb.2 k o (fun e => by cases e; omega) ho (.inl hc)⟩, rfl, by rw [← List.append_assoc]; exact X5.out, H2.out.keeps hkb hll⟩
    case done =>
      rintro D zs Wx hD hzs ⟨h1, h2, h3, h4, h5, h6⟩ hK
      have hzs' : exs zs = plE bs[kk] := hzs
      have H1 := Lib.hid h1
      have H2 := Lib.hid (Marks.cons M4.out h2 hD (by omega) hK)
      have H3 := Lib.hid h3
      have H4 := Lib.hid h4
      have H5 := Lib.hid h5
      have HZ := Lib.hid hzs'
      clear h1 h2 h3 h4 h5 hzs hzs' hK
      gi_wp2
      refine HT.out _ _ ⟨kk + 1, D :: Ds, hs ++ zs, _, _, _, _, _, _, _, _, _, _, _, _, _, rfl, by omega, by rw [exs_append, HZ.out, HNe.out], H1.out, H5.out, H2.out, H3.out, H4.out, by omega⟩ ?_
      simp [intOf]
      omega
    case stop =>
      rintro D c pre Wx hD hSp ⟨rfl, h2, h3⟩ hK
      have H2 := Lib.hid h2
      have H3 := Lib.hid (Marks.cons M4.out h3 hD (by omega) hK)
      have HSp := Lib.hid hSp
      clear h2 h3 hK hSp
      gi_wp2
      show LeavesInM _ _ _ _ _ _ ((D :: Ds).map markD) .returning Wx
      exact leaves_marks (B := W.heap.size) (I := Jx (hs ++ pre)) (fun X E hE hX h => HJx.out.putObj _ h hE hX rfl) (fun X h => ⟨_, results_none rfl _ _ _, ⟨_, rfl⟩, .inr ⟨_, by
        have hp : exs pre <+: plE bs[kk] := HSp.out
        rw [exs_append, HE.out]; exact ((List.prefix_append_right_inj _).2 hp).trans HPf.out, h⟩⟩) (D :: Ds) Wx H3.out.1 H3.out.2 H2.out
  · have : kk = bs.length := by omega
    subst this
    have HE := Lib.hid hex
    have HJ := Lib.hid hj
    have HM := Lib.hid hmk
    clear hex hj hmk
    gi_wp2_with fail
    show LeavesInM _ _ _ _ _ _ (Ds.map markD) .returning Wr
    exact leaves_marks (B := W.heap.size) (I := J hs) (fun X E hE hX h => HJJ.out.putObj _ h hE hX rfl) (fun X h => ⟨_, results_none rfl _ _ _, ⟨_, rfl⟩, .inl ⟨_, by rw [HE.out, List.take_length], h⟩⟩) Ds Wr HM.out.1 HM.out.2 HJ.out
end Go.Proofs.YtacefdkfbpgedaaGreat.Mine
namespace Go.Proofs.YtacefdkfbpgedaaGreat.Mine
open Go.Proofs.YtacefdkfbpgedaaGreat.PProgSmall
open Go.RowKit Go.Shelf Go.Proofs.YtacefdkfbpgedaaGreatW.PrintWords Go.Proofs.YtacefdkfbpgedaaGreatW.PrintLast Go.Proofs.YtacefdkfbpgedaaGreatW.PrintMore
set_option linter.unusedVariables false
set_option linter.unusedSimpArgs false
attribute [local go_sem] Oper.semAt_some
def eachD (d : De) : List Ex := plL (bodiesD d)
theorem results_bool {fn : Func} {p : Tmp} (h : fn.results = #[.cell p 4]) (tmps : Array Value) (w : World) (g : Nat) (b : Bool) (hp : tmps.getD p undef = .pointer (some ⟨g, 0, none⟩)) (hg : w.heap[g]? = some (.cells #[.bool b] 4 (0, 0))) :
    (results fn tmps).run Tryz.prog w = .ok (.bool b) w := by
  have hc := cell_of_one hg
  have hp' : tmps[p]?.getD undef = .pointer (some ⟨g, 0, none⟩) := by simpa using hp
  have hl : (loadVar 4 ⟨g, 0, none⟩).run Tryz.prog w = .ok (.bool b) w := by
    simp [loadVar, go_sem, hc, run_underlying Tryz.underlying4]
  simp [results, h, hp', asAddr, hl]
theorem evens_any {p : Ex → Bool} {l pre : List Ex} (h : pre <+: l) {x : Ex} (hx : x ∈ pre) (hp : p x = false) : l.all p = false := by
  rw [List.all_eq_false]
  exact ⟨x, h.subset hx, by simp [hp]⟩
set_option maxRecDepth 100000 in
set_option maxHeartbeats 4000000 in
theorem c_all (d : De) (cs : List Value) (w : World) (hd : Kd.FK k59 w (fun k => k < w.heap.size) d cs) (hl : d.f2.length ≤ 1000000) (hz : ∀ b ∈ bodiesD d, szE b < 1000000) (g : Nat) (lb : Array Value) (eg : ∀ args w, (callFunc g args).run Tryz.prog w = .ok (.enter g args) w) (p : Ex → Bool)
    (hf : ∀ (x : Ex) (A : Option Addr) (c : Nat) (W : World), Below w.heap.size w W → x.f2.length ≤ c → Kd.C k57 W A x.f2.length x.f2 → szE x < 1000000 → Calls Tryz.prog g (#[encH (x, A, c)] ++ lb) W fun e W' => e = .returned (.bool (p x)) ∧ Below W.heap.size W W') :
    Calls Tryz.prog 88 #[.agg (cs ++ [Value.func (.func g) #[] lb]).toArray] w fun en w' => en = .returned (.bool ((eachD d).all p)) ∧ Below w.heap.size w w' := by
  have h6 : cs.length = 6 := k59.K_len (Kd.FK_now hd)
  have HE := Lib.hid (c_each cs h6)
  obtain ⟨A1, c1, A2, c2, A5, c5, hcs, _⟩ := k59_openF hd
  have HD := Lib.hid hd
  have HF := Lib.hid hf
  clear hd hf
  subst hcs
  simp only [List.cons_append, List.nil_append]
  refine (callsIn_wide (n := 7)).1 (callsIn_of_wp_marks (F := Fence.wide) Tryz.func88 rfl trivial ?_ rfl)
  simp only [Tryz.ntmps88, List.size_toArray, List.length_cons, List.length_nil, Nat.reduceAdd, Nat.reduceSub, Array.replicate_succ, Array.replicate_zero, List.push_toArray, List.append_toArray, List.nil_append, List.cons_append]
  gi_wp2_with fail
  refine ⟨trivial, (callsIn_wide.2 (HE.out _)).mono ?_⟩
  rintro en w1 ⟨rfl, rfl⟩
  gi_wp2_with fail
  obtain ⟨cv, hcv⟩ : ∃ cv : List Value, cv = [.string d.f0, .slice A1 d.f1.length c1, .slice A2 d.f2.length c2, .int .i64 d.f3.f0, .string d.f3.f1, .slice A5 d.f3.f2.length c5] := ⟨_, rfl⟩
  obtain ⟨W0, hW0⟩ : ∃ W0, ((w.alloc (.cells #[.string d.f0, .slice A1 d.f1.length c1, .slice A2 d.f2.length c2, .int .i64 d.f3.f0, .string d.f3.f1, .slice A5 d.f3.f2.length c5, Value.func (.func g) #[] lb] 120)).alloc (.cells #[.bool false] 4)).alloc (.cells #[.string d.f0, .slice A1 d.f1.length c1, .slice A2 d.f2.length c2, .int .i64 d.f3.f0, .string d.f3.f1, .slice A5 d.f3.f2.length c5] 59) = W0 := ⟨_, rfl⟩
  have hsz : W0.heap.size = w.heap.size + 3 := by rw [← hW0]; simp
  have q0 : Below w.heap.size w W0 := by rw [← hW0]; exact ((below_alloc1 _ _).trans ((below_alloc1 _ _).mono (by simp))).trans ((below_alloc1 _ _).mono (by simp; omega))
  have bA : W0.heap[w.heap.size]? = some (.cells #[.string d.f0, .slice A1 d.f1.length c1, .slice A2 d.f2.length c2, .int .i64 d.f3.f0, .string d.f3.f1, .slice A5 d.f3.f2.length c5, Value.func (.func g) #[] lb] 120 (0, 0)) := by rw [← hW0]; exact blk_alloc (blk_alloc (alloc_at _ _) _) _
  have bR : W0.heap[w.heap.size + 1]? = some (.cells #[.bool false] 4 (0, 0)) := by rw [← hW0]; have := alloc_at (w.alloc (.cells #[.string d.f0, .slice A1 d.f1.length c1, .slice A2 d.f2.length c2, .int .i64 d.f3.f0, .string d.f3.f1, .slice A5 d.f3.f2.length c5, Value.func (.func g) #[] lb] 120)) (.cells #[.bool false] 4); rw [World.size_alloc] at this; exact blk_alloc this _
  have bD : W0.heap[w.heap.size + 1 + 1]? = some (.cells cv.toArray 59 (0, 0)) := by rw [← hW0, hcv]; have := alloc_at ((w.alloc (.cells #[.string d.f0, .slice A1 d.f1.length c1, .slice A2 d.f2.length c2, .int .i64 d.f3.f0, .string d.f3.f1, .slice A5 d.f3.f2.length c5, Value.func (.func g) #[] lb] 120)).alloc (.cells #[.bool false] 4)) (.cells #[.string d.f0, .slice A1 d.f1.length c1, .slice A2 d.f2.length c2, .int .i64 d.f3.f0, .string d.f3.f1, .slice A5 d.f3.f2.length c5] 59); simpa only [World.size_alloc] using this
  rw [hW0]
  have hD0 : Kd.FK k59 W0 (fun k => k < w.heap.size) d cv := by rw [hcv]; exact Kd.FK_below HD.out q0
  have HCv := Lib.hid hcv
  have HQ := Lib.hid q0
  clear hW0 hcv HE HD q0
  refine rangeX (by omega) (gf := 163) (lb := #[.pointer (some ⟨w.heap.size + 1 + 1, 0, none⟩)]) rfl (enters_of Tryz.func163 (by kernel_rfl) rfl)
    (each_stops W0 NoM w.heap.size (fun k => k < w.heap.size) (fun k h => h.elim) (fun k hk => ⟨fun h => h, hk⟩) (by omega) d cv hD0 hl hz (w.heap.size + 1 + 1) W0 ((KC.rel _ _).refl _) bD) (by omega) (Below.refl _ _)
    (fun pre Wx => (exs pre).all p = true ∧ Wx.heap[w.heap.size]? = some (.cells #[.string d.f0, .slice A1 d.f1.length c1, .slice A2 d.f2.length c2, .int .i64 d.f3.f0, .string d.f3.f1, .slice A5 d.f3.f2.length c5, Value.func (.func g) #[] lb] 120 (0, 0)) ∧ Wx.heap[w.heap.size + 1]? = some (.cells #[.bool false] 4 (0, 0)) ∧ Bel w W0.heap.size Wx)
    (fun c pre Wx => c = .ret ∧ (∃ x ∈ exs pre, p x = false) ∧ Wx.heap[w.heap.size + 1]? = some (.cells #[.bool false] 4 (0, 0)) ∧ Bel w W0.heap.size Wx)
    (fun pre X Y row ⟨h1, h2, h3, h4⟩ hg hr => ⟨h1, Blk.notcells h2 hg (fun r e => (hr r e).2), Blk.notcells h3 hg (fun r e => (hr r e).2), (Bel.own (β := Unit) (by omega)) () X Y row h4 hg hr⟩)
    (fun c pre X Y row ⟨h1, h2, h3, h4⟩ hg hr => ⟨h1, h2, Blk.notcells h3 hg (fun r e => (hr r e).2), (Bel.own (β := Unit) (by omega)) () X Y row h4 hg hr⟩)
    ⟨rfl, bA, bR, HQ.out, Nat.le_refl _⟩
    (fun x a' Wx => ∃ Bx, W0.heap.size ≤ Bx ∧ Wx.heap[Bx]? = some (.cells (cellsH x.1) 57 (0, 0)) ∧ a' = { tmps := #[.agg #[.string d.f0, .slice A1 d.f1.length c1, .slice A2 d.f2.length c2, .int .i64 d.f3.f0, .string d.f3.f1, .slice A5 d.f3.f2.length c5, Value.func (.func g) #[] lb], .pointer (some ⟨w.heap.size, 0, none⟩), .pointer (some ⟨w.heap.size + 1, 0, none⟩), .pointer (some ⟨Bx, 0, none⟩), .pointer (some ⟨w.heap.size, 0, none⟩), .agg #[.string d.f0, .slice A1 d.f1.length c1, .slice A2 d.f2.length c2, .int .i64 d.f3.f0, .string d.f3.f1, .slice A5 d.f3.f2.length c5], .func (.func 163) #[] #[.pointer (some ⟨w.heap.size + 1 + 1, 0, none⟩)], encH x.1, undef, undef, undef, undef, undef], defers := [] })
    (fun x a' _ X Y row hs hg hr => by obtain ⟨Bx, h1, h2, h3⟩ := hs; exact ⟨Bx, h1, Blk.notcells h2 hg (fun r e => (hr r e).2), h3⟩)
    ?assign ?body ?done ?stop
  case assign =>
    rintro l' pre ⟨⟨x, A', c'⟩, hx⟩ Wx K hl' ⟨h1, h2, h3, h4⟩ hK
    simp only [encH]
    have H1 := Lib.hid h1
    have H2 := Lib.hid h2
    have H3 := Lib.hid h3
    clear h1 h2 h3
    gi_wp2
    have q := below_alloc1 Wx (.cells #[.int .i64 x.f0, .string x.f1, .slice A' x.f2.length c'] 57)
    exact hK _ _ (KeepsBut.below q) ((KC.rel _ _).below q) ⟨H1.out, blk_below H2.out q, blk_below H3.out q, h4.after q⟩ ⟨Wx.heap.size, h4.2, alloc_at _ _, rfl⟩
  case body =>
    rintro l' pre ⟨⟨x, A', c'⟩, hx⟩ a' Wx hl' ⟨h1, h2, h3, h4⟩ ⟨Bx, hBx, bX, rfl⟩ hlt'
    have e0 : Wx.cell? ⟨Bx, 0, none⟩ = some (.int .i64 x.f0) := (blk_cell bX 0).trans rfl
    have e1 : Wx.cell? ⟨Bx, 1, none⟩ = some (.string x.f1) := (blk_cell bX 1).trans rfl
    have e2 : Wx.cell? ⟨Bx, 2, none⟩ = some (.slice A' x.f2.length c') := (blk_cell bX 2).trans rfl
    have ea : Wx.cell? ⟨w.heap.size, 6, none⟩ = some (Value.func (.func g) #[] lb) := (blk_cell h2 6).trans rfl
    have hFx := hx.2.1
    have hCx : Kd.C k57 Wx A' x.f2.length x.f2 := Kd.F_now (Kd.F_step hFx (fun k hk hlt => by rw [h4.1.block k hk, HQ.out.block k hk]))
    have HC := Lib.hid (HF.out x A' c' Wx h4.1 hx.1 hCx hx.2.2)
    simp only [encH] at HC ⊢
    have H1 := Lib.hid h1
    have H2 := Lib.hid h2
    have H3 := Lib.hid h3
    clear h1 h2 h3 bX hCx
    cases hp : p x with
    | true =>
      rw [hp] at HC
      have HP := Lib.hid hp
      clear hp
      gi_wp2_with fail
      refine ⟨trivial, (CallsIn.inRound l' (callsIn_wide.2 HC.out)).mono ?_⟩
      rintro en W5 ⟨rfl, hb5⟩
      have H5 := Lib.hid hb5
      clear hb5
      gi_wp2_with fail
      exact ⟨(KC.rel _ _).below H5.out, KeepsBut.below H5.out, by rw [exs_append, List.all_append, H1.out]; simp [exs, HP.out], blk_below H2.out H5.out, blk_below H3.out H5.out, h4.after H5.out⟩
    | false =>
      rw [hp] at HC
      have HP := Lib.hid hp
      clear hp
      gi_wp2_with fail
      refine ⟨trivial, (CallsIn.inRound l' (callsIn_wide.2 HC.out)).mono ?_⟩
      rintro en W5 ⟨rfl, hb5⟩
      have h5 := blk_below H3.out hb5
      have f5 := blk_frozen h5 0
      have c5' := cell_of_one h5
      have H5 := Lib.hid hb5
      have H35 := Lib.hid h5
      clear hb5 h5
      gi_wp2_with fail
      exact ⟨(KeepsBut.below H5.out).trans (KeepsBut.set H35.out (by decide) _ _), rfl, ⟨x, by simp [exs], HP.out⟩, by have := blk_put H35.out 0 (.bool false) rfl; simpa using this, (h4.after H5.out).set (by simp) _⟩
  case done =>
    rintro D zs Wx hD hzs ⟨h1, h2, h3, h4⟩ hK
    have hzs' : exs zs = eachD d := hzs
    rw [hzs'] at h1
    have f3 := blk_frozen h3 0
    have c3 := cell_of_one h3
    have H1 := Lib.hid h1
    have H3 := Lib.hid h3
    have HK := Lib.hid hK
    clear h1 h2 h3 hK hzs hzs'
    gi_wp2
    have b1 := blk_put H3.out 0 (.bool true) rfl
    have hKne : ¬ D = w.heap.size + 1 := by omega
    have k1 : (Wx.setCell ⟨w.heap.size + 1, 0, none⟩ (.bool true)).heap[D]? = some (.deferred (some [])) := (Below.heap_setCell _ _ _ _ hKne).trans HK.out
    refine ⟨by simp, .inl ⟨_, _, rfl, run_takeDeferred k1, ?_⟩⟩
    have b2 : ((Wx.setCell ⟨w.heap.size + 1, 0, none⟩ (.bool true)).putObj D (.deferred none)).heap[w.heap.size + 1]? = some (.cells #[.bool true] 4 (0, 0)) := by rw [World.putObj_heap_other (by omega)]; simpa using b1
    have hg := grownBy_putObj' (Wx.setCell ⟨w.heap.size + 1, 0, none⟩ (.bool true)) D (.deferred none)
    exact ⟨_, results_bool rfl _ _ _ _ rfl b2, by rw [H1.out], ((h4.set (by simp) _).grown hg (fun k hk => by cases hk; omega)).1⟩
  case stop =>
    rintro D c pre Wx hD hSp ⟨rfl, ⟨x, hx1, hx2⟩, h3, h4⟩ hK
    have H3 := Lib.hid h3
    have HK := Lib.hid hK
    clear h3 hK
    gi_wp2
    refine ⟨by simp, .inl ⟨_, _, rfl, run_takeDeferred HK.out, ?_⟩⟩
    have b2 : (Wx.putObj D (.deferred none)).heap[w.heap.size + 1]? = some (.cells #[.bool false] 4 (0, 0)) := by rw [World.putObj_heap_other (by omega)]; exact H3.out
    have hg := grownBy_putObj' Wx D (.deferred none)
    exact ⟨_, results_bool rfl _ _ _ _ rfl b2, by rw [show (eachD d).all p = false from evens_any hSp hx1 hx2], (h4.grown hg (fun k hk => by cases hk; omega)).1⟩
end Go.Proofs.YtacefdkfbpgedaaGreat.Mine
namespace Go.Proofs.YtacefdkfbpgedaaGreat.Mine
open Go.Proofs.YtacefdkfbpgedaaGreat.PProgSmall
open Go.RowKit Go.Shelf Go.Proofs.YtacefdkfbpgedaaGreatW.PrintWords Go.Proofs.YtacefdkfbpgedaaGreatW.PrintLast Go.Proofs.YtacefdkfbpgedaaGreatW.PrintMore
set_option linter.unusedVariables false
set_option linter.unusedSimpArgs false
theorem infoTx : (Tryz.prog.info? 9).map (fun i => (i.zero, i.size, i.bytes)) = some (some (.string ⟨#[]⟩), 1, 16) := by kernel_rfl
abbrev OwnT (W : World) (base : Nat) (v : Value) (l : List ByteArray) : Prop := Kd.R Kd.string 9 W base (fun _ => True) v l
theorem OwnT.new (w : World) : OwnT (w.alloc (.cells #[] 9)) w.heap.size (.slice (some ⟨w.heap.size, 0, none⟩) 0 0) [] :=
  ⟨fun _ _ => trivial, [], World.ownsRow_lit (base := w.heap.size) (e := 9) (size := 1) w #[] 0 (Nat.le_refl _) (by simp [maxLen]) (by simp), Reps.none _ _⟩
set_option maxRecDepth 100000 in
set_option maxHeartbeats 2000000 in
theorem c_Dup (A : Option Addr) (c : Nat) (l : List ByteArray) (w : World) (hr : Kd.C Kd.string w A l.length l) (hc : l.length ≤ c) (hl : l.length ≤ 1000000) :
    Calls Tryz.prog 79 #[.slice A l.length c] w fun en w' => ∃ v, en = .returned v ∧ OwnT w' w.heap.size v l ∧ Below w.heap.size w w' := by
  have HR := Aside0.mk hr
  clear hr
  go_enter Tryz.func79, Tryz.ntmps79
  go_wp2_with (at_builtin; refine Kd.R_append_rows Kd.string (w0 := w) w.heap.size rfl (.tmp 3) (.tmp 4) 30 9 (.string ⟨#[]⟩) 16 rfl Tryz.underlying30 infoTx rfl (by decide) (by decide) _ [] l A l.length c (fun _ => True) (fun _ => False) rfl rfl (OwnT.new w) (Kd.C_below HR.out (below_alloc1 _ _)) (fun _ _ h => h) (fun _ h => h.elim) (fun _ _ => trivial) (below_alloc1 _ _) (by simp) (by simp; omega) ?_; intro v1 w1 ho hb _ _; have HO := Aside0.mk ho; clear ho)
  go_ret
  exact ⟨_, rfl, by simpa using HO.out, hb⟩
set_option maxRecDepth 100000 in
set_option maxHeartbeats 2000000 in
theorem c_CloneS (A : Option Addr) (c : Nat) (l : List ByteArray) (w : World) (hr : Kd.C Kd.string w A l.length l) (hc : l.length ≤ c) (hl : l.length ≤ 1000000) :
    Calls Tryz.prog 129 #[.slice A l.length c] w fun en w' => ∃ v, en = .returned v ∧ OwnT w' w.heap.size v l ∧ Below w.heap.size w w' := by
  have HR := Aside0.mk hr
  cases A with
  | none =>
    have h0 : l = [] := by
      cases l with
      | nil => rfl
      | cons x xs => obtain ⟨ad, _, h, _⟩ := cget hr 0 (by simp); cases h
    subst h0
    clear hr
    have he := @Go.Lib.run_eql_slice_nil Tryz.prog
    go_enter Tryz.func129, Tryz.ntmps129
    go_wp2
    go_ret
    exact ⟨_, rfl, Kd.R_nil _ _ _ _ _, Below.refl _ _⟩
  | some ad =>
    clear hr
    have he := @Go.Lib.run_eql_slice_nil Tryz.prog
    go_enter Tryz.func129, Tryz.ntmps129
    go_wp2_with (at_builtin; refine Kd.R_append_rows Kd.string (w0 := w) w.heap.size rfl (.tmp 5) (.tmp 6) 30 9 (.string ⟨#[]⟩) 16 rfl Tryz.underlying30 infoTx rfl (by decide) (by decide) _ [] l (some ad) l.length c (fun _ => True) (fun _ => False) rfl rfl (OwnT.new w) (Kd.C_below HR.out (below_alloc1 _ _)) (fun _ _ h => h) (fun _ h => h.elim) (fun _ _ => trivial) (below_alloc1 _ _) (by simp) (by simp; omega) ?_; intro v1 w1 ho hb _ _; have HO := Aside0.mk ho; clear ho)
    go_ret
    exact ⟨_, rfl, by simpa using HO.out, hb⟩
set_option maxRecDepth 100000 in
set_option maxHeartbeats 2000000 in
theorem c_GrowS (n : Nat) (w : World) (hn : n ≤ 2000000) :
    Calls Tryz.prog 169 #[.slice none 0 0, .int .i64 n] w fun en w' => ∃ v, en = .returned v ∧ OwnT w' w.heap.size v [] ∧ Below w.heap.size w w' := by
  by_cases h0 : n = 0
  · subst h0
    go_enter Tryz.func169, Tryz.ntmps169
    go_wp2
    go_ret
    exact ⟨_, rfl, Kd.R_nil _ _ _ _ _, Below.refl _ _⟩
  · have hp : decide ((0 : Int) < (n : Int)) = true := decide_eq_true (by omega)
    have hlt : decide ((n : Int) < 0) = false := decide_eq_false (by omega)
    have hpn : 0 < n := by omega
    clear h0
    go_enter Tryz.func169, Tryz.ntmps169
    go_wp2_with (at_builtin; refine Kd.R_append_zeros Kd.string (w0 := w) w.heap.size rfl (.tmp 20) (.tmp 21) 30 3 9 (.string ⟨#[]⟩) 16 rfl Tryz.underlying30 Tryz.underlying3 infoTx rfl (by decide) (by decide) (.slice none 0 0) [] ⟨#[]⟩ n (fun _ => True) rfl rfl rfl (fun _ _ => trivial) (Kd.R_nil _ _ _ _ _) (by omega) (Below.refl _ _) (Nat.le_refl _) (by simp; omega) ?_; intro v1 w1 ho hb _ _; obtain ⟨ad, c1, hv⟩ := Kd.R_slice1 ho (by simpa using hpn); subst hv; have hc1 := own_cap ho.2.choose_spec.1; have HO := Aside0.mk ho; clear ho)
    go_ret
    exact ⟨_, rfl, by simpa using Kd.R_take HO.out (Nat.zero_le _), hb⟩
def lensN (rows : List (List ByteArray)) (k : Nat) : Nat := ((rows.take k).map List.length).sum
theorem lensN_zero (rows : List (List ByteArray)) : lensN rows 0 = 0 := by simp [lensN]
theorem lensN_le {rows : List (List ByteArray)} (k : Nat) : lensN rows k ≤ (rows.map List.length).sum := by
  unfold lensN
  conv => rhs; rw [← List.take_append_drop k rows, List.map_append, List.sum_append]
  omega
theorem lensN_succ {rows : List (List ByteArray)} {k : Nat} (h : k < rows.length) : lensN rows (k + 1) = lensN rows k + rows[k].length := by
  unfold lensN
  rw [take_snoc h, List.map_append, List.sum_append]; simp
theorem lensN_flat (rows : List (List ByteArray)) (k : Nat) : (rows.take k).flatten.length = lensN rows k := by simp [lensN, List.length_flatten]
theorem flat_succ {rows : List (List ByteArray)} {k : Nat} (h : k < rows.length) : (rows.take (k + 1)).flatten = (rows.take k).flatten ++ rows[k] := by
  rw [take_snoc h, List.flatten_append]; simp
set_option maxRecDepth 100000 in
set_option maxHeartbeats 2000000 in
theorem c_ConcatS (A : Option Addr) (c : Nat) (rows : List (List ByteArray)) (w : World) (hr : Kd.C (Kd.slice 9 Kd.string) w A rows.length rows) (hc : rows.length ≤ c) (hl : (rows.map List.length).sum ≤ 1000000) :
    Calls Tryz.prog 153 #[.slice A rows.length c] w fun en w' => ∃ v, en = .returned v ∧ OwnT w' w.heap.size v rows.flatten ∧ Below w.heap.size w w' := by
  have hm := hr.2.1
  have HR := Aside0.mk hr
  clear hr
  go_enter Tryz.func153, Tryz.ntmps153
  go_wp2
  go_loopg [3, 11] rows.length (fun gg s3 s11 wr => ∃ kk : Nat, kk ≤ rows.length ∧ rows.length - kk ≤ gg ∧ s11 = .int .i64 kk ∧ s3 = .int .i64 (lensN rows kk : Nat) ∧ wr = w)
  case atStart => exact ⟨0, Nat.zero_le _, by omega, rfl, by rw [lensN_zero]; rfl, rfl⟩
  case round =>
    obtain ⟨kk, hkk, hg, rfl, rfl, rfl⟩ := hrel
    have m1 := lensN_le (rows := rows) kk
    by_cases hlt : kk < rows.length
    · have hltz : (kk : Int) < (rows.length : Int) := by omega
      obtain ⟨ad, c0, rfl, hK, k0⟩ := get1 rfl HR.out kk hlt
      obtain ⟨A2, a2, he, hl2, hr2⟩ := hK
      obtain rfl : c0 = _ := by simpa using he
      have m2 := lensN_le (rows := rows) (kk + 1)
      have hs := lensN_succ hlt
      rw [hs] at m2
      have HS := Lib.hid hs
      have hn0 : decide (((lensN rows kk : Nat) : Int) + (rows[kk].length : Int) < 0) = false := decide_eq_false (by omega)
      clear hs he
      go_wp2
      go_roundg (rows.length - (kk + 1))
      case measure => omega
      case rel => exact ⟨kk + 1, by omega, by omega, by go_num, by rw [HS.out]; go_num, rfl⟩
    · have : kk = rows.length := by omega
      subst this
      obtain ⟨wo, rfl⟩ : ∃ wo : World, wo = wr := ⟨_, rfl⟩
      have HG := Lib.hid (fun W => c_GrowS (lensN rows rows.length) W (by omega))
      go_wp2_with fail
      refine (HG.out _).mono ?_
      rintro en w0 ⟨v0, rfl, ho, hb⟩
      have HO0 := Aside0.mk ho
      have HB0 := Aside0.mk hb
      have hsz := hb.size
      clear ho hb
      go_wp2
      go_loopg [6, 27] rows.length (fun gg s6 s27 wx => ∃ kk : Nat, kk ≤ rows.length ∧ rows.length - kk ≤ gg ∧ s27 = .int .i64 kk ∧ Aside0 (OwnT wx wo.heap.size s6 (rows.take kk).flatten) ∧ Aside0 (Below wo.heap.size wo wx))
      case atStart => exact ⟨0, Nat.zero_le _, by omega, rfl, HO0, HB0⟩
      case round =>
        obtain ⟨kk, hkk, hg, rfl, HO, HB⟩ := hrel
        by_cases hlt : kk < rows.length
        · have hltz : (kk : Int) < (rows.length : Int) := by omega
          obtain ⟨ad, c0, rfl, hK, k0⟩ := get1 rfl (Kd.C_below HR.out HB.out) kk hlt
          obtain ⟨A2, a2, he, hl2, hr2⟩ := hK
          obtain rfl : c0 = _ := by simpa using he
          have m2 := lensN_le (rows := rows) (kk + 1)
          have hs := lensN_succ hlt
          have hf := lensN_flat rows kk
          rw [hs] at m2
          have HR2 := Aside0.mk hr2
          have hsz := HB.out.size
          obtain ⟨acc, hacc⟩ : ∃ acc, (rows.take kk).flatten = acc := ⟨_, rfl⟩
          rw [hacc] at HO hf
          have HA := Lib.hid hacc
          have HF := Lib.hid hf
          obtain ⟨Av, cv, rfl⟩ := Kd.R_slice HO.out
          clear hs hf he hr2 hacc
          go_wp2_with (at_builtin; refine Kd.R_append_rows Kd.string (w0 := wo) wo.heap.size rfl (.tmp 31) (.tmp 32) 30 9 (.string ⟨#[]⟩) 16 rfl Tryz.underlying30 infoTx rfl (by decide) (by decide) _ acc rows[kk] A2 rows[kk].length a2 (fun _ => True) (fun _ => False) rfl rfl HO.out HR2.out (fun _ _ h => h) (fun _ h => h.elim) (fun _ _ => trivial) HB.out hsz (by rw [HF.out]; omega) ?_; intro v1 w1 ho hb _ _; have HO1 := Aside0.mk ho; clear ho)
          go_roundg (rows.length - (kk + 1))
          case measure => omega
          case rel => exact ⟨kk + 1, by omega, by omega, by go_num, ⟨by rw [flat_succ hlt, HA.out]; exact HO1.out⟩, ⟨hb⟩⟩
        · have : kk = rows.length := by omega
          subst this
          go_wp2
          go_ret
          exact ⟨_, rfl, by simpa using HO.out, HB.out⟩
end Go.Proofs.YtacefdkfbpgedaaGreat.Mine
namespace Go.Proofs.YtacefdkfbpgedaaGreat.Mine
open Go.Proofs.YtacefdkfbpgedaaGreat.PProgSmall
open Go.RowKit Go.Shelf Go.Lib Go.Proofs.YtacefdkfbpgedaaGreatW.PrintWords Go.Proofs.YtacefdkfbpgedaaGreatW.PrintLast Go.Proofs.YtacefdkfbpgedaaGreatW.PrintMore
set_option linter.unusedVariables false
set_option linter.unusedSimpArgs false
def letB (b : UInt8) : Bool := decide (97 ≤ b.toNat) && decide (b.toNat ≤ 122)
def nameB (s : ByteArray) : Bool := decide (0 < s.size) && decide (s.size ≤ 8) && s.data.toList.all letB
theorem nameB_no {s : ByteArray} {k : Nat} (h : k < s.size) (hb : letB s[k] = false) : nameB s = false := by
  have : s.data.toList.all letB = false := by
    rw [List.all_eq_false]
    exact ⟨s[k], by rw [show s[k] = s.data.toList[k]'(by simpa using h) from rfl]; exact List.getElem_mem _, by rw [hb]; simp⟩
  rw [nameB, this, Bool.and_false]
theorem nameB_yes {s : ByteArray} (h : ∀ (k : Nat) (h : k < s.size), letB (s[k]'h) = true) : nameB s = (decide (0 < s.size) && decide (s.size ≤ 8)) := by
  have : s.data.toList.all letB = true := by
    rw [List.all_eq_true]
    intro x hx
    obtain ⟨i, hi, rfl⟩ := List.getElem_of_mem hx
    exact h i (by simpa using hi)
  rw [nameB, this, Bool.and_true]
set_option maxRecDepth 100000 in
set_option maxHeartbeats 2000000 in
theorem c_named (s : ByteArray) (w : World) :
    Calls Tryz.prog 112 #[.string s] w fun en w' => en = .returned (.bool (nameB s)) ∧ Below w.heap.size w w' := by
  obtain ⟨W0, hW0⟩ : ∃ W0, w.iter s 0 = W0 := ⟨_, rfl⟩
  have b0 : W0.heap[w.heap.size]? = some (.stringIter s 0) := by rw [← hW0]; exact alloc_at w (.stringIter s 0)
  have q0 : Below w.heap.size w W0 := by rw [← hW0]; exact below_alloc1 w (.stringIter s 0)
  have B0 := Aside0.mk b0
  have Q0 := Aside0.mk q0
  clear b0 q0
  by_cases hp : 0 < s.size
  · have hp1 : decide ((0 : Int) < (s.size : Int)) = true := decide_eq_true (by omega)
    by_cases h8 : s.size ≤ 8
    · have h81 : decide ((s.size : Int) ≤ 8) = true := decide_eq_true (by omega)
      have HN := Lib.hid (show (decide (0 < s.size) && decide (s.size ≤ 8)) = true by simp [hp, h8])
      go_enter Tryz.func112, Tryz.ntmps112
      go_wp2
      go_step3
      go_wp2
      go_step3
      go_wp2
      try rw [hW0]
      go_loopg [3] s.size (fun gg s3 wr => ∃ pos : Nat, pos ≤ s.size ∧ s.size - pos ≤ gg ∧ s3 = .bool true ∧ Aside0 (wr.heap[w.heap.size]? = some (.stringIter s pos)) ∧ Aside0 (∀ (k : Nat) (h : k < s.size), k < pos → letB (s[k]'h) = true) ∧ Aside0 (Below w.heap.size w wr))
      case atStart => exact ⟨0, Nat.zero_le _, by omega, rfl, B0, ⟨fun k h hk => absurd hk (Nat.not_lt_zero _)⟩, Q0⟩
      case round =>
        obtain ⟨pos, hle, hg, rfl, HI, HA, HB⟩ := hrel
        by_cases hlt : pos < s.size
        · by_cases hlet : letB (s[pos]'hlt) = true
          · have h2 := hlet
            simp only [letB, Bool.and_eq_true, decide_eq_true_iff] at h2
            have hn1 : decide (((s[pos]'hlt).toNat : Int) < 97) = false := decide_eq_false (by omega)
            have hn2 : decide ((122 : Int) < ((s[pos]'hlt).toNat : Int)) = false := decide_eq_false (by omega)
            have hnx : ∀ ty, (Instr.next (.pointer (some ⟨w.heap.size, 0, none⟩)) true ty).run Tryz.prog wr = _ := fun ty => run_next_ascii_at wr w.heap.size s pos ty HI.out hlt (by omega)
            have HL := Lib.hid hlet
            clear hlet h2
            go_wp2
            go_roundg (s.size - (pos + 1))
            case measure => omega
            case rel => exact ⟨pos + 1, by omega, by omega, rfl, ⟨iterAt_heap _ _ _ _ _ HI.out⟩, ⟨fun k h hk => by
              rcases Nat.lt_or_ge k pos with h3 | h3
              · exact HA.out k h h3
              · obtain rfl : k = pos := by omega
                exact HL.out⟩, ⟨below_iterAt HB.out (Nat.le_refl _) _ _⟩⟩
          · have hb : letB (s[pos]'hlt) = false := by simpa using hlet
            have HL := Lib.hid hb
            have hr : (decide (((Utf8.decode s pos).1 : Int) < 97) || decide ((122 : Int) < ((Utf8.decode s pos).1 : Int))) = true := by
              by_cases ha : (s[pos]'hlt).toNat < 128
              · rw [decode_ascii s pos hlt ha]
                simp only [letB, Bool.and_eq_true, decide_eq_true_iff] at hlet
                simp only [Bool.or_eq_true, decide_eq_true_iff]
                omega
              · have := (decode_high s pos hlt (by omega)).1
                simp only [Bool.or_eq_true, decide_eq_true_iff]
                omega
            obtain ⟨rn, hrn⟩ : ∃ rn, Utf8.decode s pos = rn := ⟨_, rfl⟩
            have hnx : ∀ ty, (Instr.next (.pointer (some ⟨w.heap.size, 0, none⟩)) true ty).run Tryz.prog wr = _ := fun ty => run_next_any_at wr w.heap.size s pos ty HI.out hlt
            rw [hrn] at hr hnx
            cases h1 : decide ((rn.1 : Int) < 97) with
            | true =>
              clear hrn hr hb hlet
              go_wp2
              rw [Exit.noGoto_ret]; go_ret
              exact ⟨retb (nameB_no hlt HL.out).symm, below_iterAt HB.out (Nat.le_refl _) _ _⟩
            | false =>
              rw [h1, Bool.false_or] at hr
              clear hrn hb hlet
              go_wp2
              rw [Exit.noGoto_ret]; go_ret
              exact ⟨retb (nameB_no hlt HL.out).symm, below_iterAt HB.out (Nat.le_refl _) _ _⟩
        · have hnx : ∀ ty, (Instr.next (.pointer (some ⟨w.heap.size, 0, none⟩)) true ty).run Tryz.prog wr = _ := fun ty => run_next_end_at wr w.heap.size s pos ty HI.out hlt
          go_wp2
          rw [Exit.noGoto_ret]; go_ret
          exact ⟨retb (by rw [nameB_yes (fun k h => HA.out k h (by omega)), HN.out]), HB.out⟩
    · have h81 : decide ((s.size : Int) ≤ 8) = false := decide_eq_false (by omega)
      have HN := Lib.hid (show (decide (0 < s.size) && decide (s.size ≤ 8)) = false by simp [h8])
      go_enter Tryz.func112, Tryz.ntmps112
      go_wp2
      go_step3
      go_wp2
      go_step3
      go_wp2
      try rw [hW0]
      go_loopg [3] s.size (fun gg s3 wr => ∃ pos : Nat, pos ≤ s.size ∧ s.size - pos ≤ gg ∧ s3 = .bool false ∧ Aside0 (wr.heap[w.heap.size]? = some (.stringIter s pos)) ∧ Aside0 (∀ (k : Nat) (h : k < s.size), k < pos → letB (s[k]'h) = true) ∧ Aside0 (Below w.heap.size w wr))
      case atStart => exact ⟨0, Nat.zero_le _, by omega, rfl, B0, ⟨fun k h hk => absurd hk (Nat.not_lt_zero _)⟩, Q0⟩
      case round =>
        obtain ⟨pos, hle, hg, rfl, HI, HA, HB⟩ := hrel
        by_cases hlt : pos < s.size
        · by_cases hlet : letB (s[pos]'hlt) = true
          · have h2 := hlet
            simp only [letB, Bool.and_eq_true, decide_eq_true_iff] at h2
            have hn1 : decide (((s[pos]'hlt).toNat : Int) < 97) = false := decide_eq_false (by omega)
            have hn2 : decide ((122 : Int) < ((s[pos]'hlt).toNat : Int)) = false := decide_eq_false (by omega)
            have hnx : ∀ ty, (Instr.next (.pointer (some ⟨w.heap.size, 0, none⟩)) true ty).run Tryz.prog wr = _ := fun ty => run_next_ascii_at wr w.heap.size s pos ty HI.out hlt (by omega)
            have HL := Lib.hid hlet
            clear hlet h2
            go_wp2
            go_roundg (s.size - (pos + 1))
            case measure => omega
            case rel => exact ⟨pos + 1, by omega, by omega, rfl, ⟨iterAt_heap _ _ _ _ _ HI.out⟩, ⟨fun k h hk => by
              rcases Nat.lt_or_ge k pos with h3 | h3
              · exact HA.out k h h3
              · obtain rfl : k = pos := by omega
                exact HL.out⟩, ⟨below_iterAt HB.out (Nat.le_refl _) _ _⟩⟩
          · have hb : letB (s[pos]'hlt) = false := by simpa using hlet
            have HL := Lib.hid hb
            have hr : (decide (((Utf8.decode s pos).1 : Int) < 97) || decide ((122 : Int) < ((Utf8.decode s pos).1 : Int))) = true := by
              by_cases ha : (s[pos]'hlt).toNat < 128
              · rw [decode_ascii s pos hlt ha]
                simp only [letB, Bool.and_eq_true, decide_eq_true_iff] at hlet
                simp only [Bool.or_eq_true, decide_eq_true_iff]
                omega
              · have := (decode_high s pos hlt (by omega)).1
                simp only [Bool.or_eq_true, decide_eq_true_iff]
                omega
            obtain ⟨rn, hrn⟩ : ∃ rn, Utf8.decode s pos = rn := ⟨_, rfl⟩
            have hnx : ∀ ty, (Instr.next (.pointer (some ⟨w.heap.size, 0, none⟩)) true ty).run Tryz.prog wr = _ := fun ty => run_next_any_at wr w.heap.size s pos ty HI.out hlt
            rw [hrn] at hr hnx
            cases h1 : decide ((rn.1 : Int) < 97) with
            | true =>
              clear hrn hr hb hlet
              go_wp2
              rw [Exit.noGoto_ret]; go_ret
              exact ⟨retb (nameB_no hlt HL.out).symm, below_iterAt HB.out (Nat.le_refl _) _ _⟩
            | false =>
              rw [h1, Bool.false_or] at hr
              clear hrn hb hlet
              go_wp2
              rw [Exit.noGoto_ret]; go_ret
              exact ⟨retb (nameB_no hlt HL.out).symm, below_iterAt HB.out (Nat.le_refl _) _ _⟩
        · have hnx : ∀ ty, (Instr.next (.pointer (some ⟨w.heap.size, 0, none⟩)) true ty).run Tryz.prog wr = _ := fun ty => run_next_end_at wr w.heap.size s pos ty HI.out hlt
          go_wp2
          rw [Exit.noGoto_ret]; go_ret
          exact ⟨retb (by rw [nameB_yes (fun k h => HA.out k h (by omega)), HN.out]), HB.out⟩
  · have hp1 : decide ((0 : Int) < (s.size : Int)) = false := decide_eq_false (by omega)
    have HN := Lib.hid (show (decide (0 < s.size) && decide (s.size ≤ 8)) = false by simp [hp])
    go_enter Tryz.func112, Tryz.ntmps112
    go_wp2
    go_step3
    go_wp2
    go_step3
    go_wp2
    try rw [hW0]
    go_loopg [3] s.size (fun gg s3 wr => ∃ pos : Nat, pos ≤ s.size ∧ s.size - pos ≤ gg ∧ s3 = .bool false ∧ Aside0 (wr.heap[w.heap.size]? = some (.stringIter s pos)) ∧ Aside0 (∀ (k : Nat) (h : k < s.size), k < pos → letB (s[k]'h) = true) ∧ Aside0 (Below w.heap.size w wr))
    case atStart => exact ⟨0, Nat.zero_le _, by omega, rfl, B0, ⟨fun k h hk => absurd hk (Nat.not_lt_zero _)⟩, Q0⟩
    case round =>
      obtain ⟨pos, hle, hg, rfl, HI, HA, HB⟩ := hrel
      by_cases hlt : pos < s.size
      · by_cases hlet : letB (s[pos]'hlt) = true
        · have h2 := hlet
          simp only [letB, Bool.and_eq_true, decide_eq_true_iff] at h2
          have hn1 : decide (((s[pos]'hlt).toNat : Int) < 97) = false := decide_eq_false (by omega)
          have hn2 : decide ((122 : Int) < ((s[pos]'hlt).toNat : Int)) = false := decide_eq_false (by omega)
          have hnx : ∀ ty, (Instr.next (.pointer (some ⟨w.heap.size, 0, none⟩)) true ty).run Tryz.prog wr = _ := fun ty => run_next_ascii_at wr w.heap.size s pos ty HI.out hlt (by omega)
          have HL := Lib.hid hlet
          clear hlet h2
          go_wp2
          go_roundg (s.size - (pos + 1))
          case measure => omega
          case rel => exact ⟨pos + 1, by omega, by omega, rfl, ⟨iterAt_heap _ _ _ _ _ HI.out⟩, ⟨fun k h hk => by
            rcases Nat.lt_or_ge k pos with h3 | h3
            · exact HA.out k h h3
            · obtain rfl : k = pos := by omega
              exact HL.out⟩, ⟨below_iterAt HB.out (Nat.le_refl _) _ _⟩⟩
        · have hb : letB (s[pos]'hlt) = false := by simpa using hlet
          have HL := Lib.hid hb
          have hr : (decide (((Utf8.decode s pos).1 : Int) < 97) || decide ((122 : Int) < ((Utf8.decode s pos).1 : Int))) = true := by
            by_cases ha : (s[pos]'hlt).toNat < 128
            · rw [decode_ascii s pos hlt ha]
              simp only [letB, Bool.and_eq_true, decide_eq_true_iff] at hlet
              simp only [Bool.or_eq_true, decide_eq_true_iff]
              omega
            · have := (decode_high s pos hlt (by omega)).1
              simp only [Bool.or_eq_true, decide_eq_true_iff]
              omega
          obtain ⟨rn, hrn⟩ : ∃ rn, Utf8.decode s pos = rn := ⟨_, rfl⟩
          have hnx : ∀ ty, (Instr.next (.pointer (some ⟨w.heap.size, 0, none⟩)) true ty).run Tryz.prog wr = _ := fun ty => run_next_any_at wr w.heap.size s pos ty HI.out hlt
          rw [hrn] at hr hnx
          cases h1 : decide ((rn.1 : Int) < 97) with
          | true =>
            clear hrn hr hb hlet
            go_wp2
            rw [Exit.noGoto_ret]; go_ret
            exact ⟨retb (nameB_no hlt HL.out).symm, below_iterAt HB.out (Nat.le_refl _) _ _⟩
          | false =>
            rw [h1, Bool.false_or] at hr
            clear hrn hb hlet
            go_wp2
            rw [Exit.noGoto_ret]; go_ret
            exact ⟨retb (nameB_no hlt HL.out).symm, below_iterAt HB.out (Nat.le_refl _) _ _⟩
      · have hnx : ∀ ty, (Instr.next (.pointer (some ⟨w.heap.size, 0, none⟩)) true ty).run Tryz.prog wr = _ := fun ty => run_next_end_at wr w.heap.size s pos ty HI.out hlt
        go_wp2
        rw [Exit.noGoto_ret]; go_ret
        exact ⟨retb (by rw [nameB_yes (fun k h => HA.out k h (by omega)), HN.out]), HB.out⟩
end Go.Proofs.YtacefdkfbpgedaaGreat.Mine
namespace Go.Proofs.YtacefdkfbpgedaaGreat.Mine
open Go.Proofs.YtacefdkfbpgedaaGreat.PProgSmall
open Go.RowKit Go.Shelf Go.Proofs.YtacefdkfbpgedaaGreatW.PrintWords Go.Proofs.YtacefdkfbpgedaaGreatW.PrintLast Go.Proofs.YtacefdkfbpgedaaGreatW.PrintMore
set_option linter.unusedVariables false
set_option linter.unusedSimpArgs false
def fewB (e : Ex) : Bool := ((e.f0 != 2) || decide ((e.f2.length : Int) ≤ 4)) && ((e.f0 != 3) || decide ((e.f2.length : Int) ≤ 4))
def kindB (e : Ex) : Bool := (decide (1 ≤ e.f0) && decide (e.f0 ≤ 3)) && ((e.f0 != 1) || ((e.f2.length : Int) == 0))
set_option maxHeartbeats 2000000 in
theorem c_right1 (e : Ex) (A : Option Addr) (c : Nat) (w : World) (hm : e.f2.length ≤ 9223372036854775807) :
    Calls Tryz.prog 141 #[.agg #[.int .i64 e.f0, .string e.f1, .slice A e.f2.length c]] w fun en w' => en = .returned (.bool (fewB e)) ∧ Below w.heap.size w w' := by
  cases h1 : (e.f0 != 2) <;> cases h2 : decide ((e.f2.length : Int) ≤ 4) <;> cases h3 : (e.f0 != 3)
  all_goals
    have HF := Lib.hid (show fewB e = _ by rw [fewB, h1, h2, h3])
    go_enter Tryz.func141, Tryz.ntmps141
    go_wp2
    go_ret
    exact ⟨retb HF.out.symm, below_alloc1 _ _⟩
set_option maxHeartbeats 2000000 in
theorem c_right2 (e : Ex) (A : Option Addr) (c : Nat) (w : World) (hm : e.f2.length ≤ 9223372036854775807) :
    Calls Tryz.prog 142 #[.agg #[.int .i64 e.f0, .string e.f1, .slice A e.f2.length c]] w fun en w' => en = .returned (.bool (kindB e)) ∧ Below w.heap.size w w' := by
  cases h1 : decide (1 ≤ e.f0) <;> cases h2 : decide (e.f0 ≤ 3) <;> cases h3 : (e.f0 != 1) <;> cases h4 : ((e.f2.length : Int) == 0)
  all_goals
    have HF := Lib.hid (show kindB e = _ by rw [kindB, h1, h2, h3, h4])
    go_enter Tryz.func142, Tryz.ntmps142
    go_wp2
    go_ret
    exact ⟨retb HF.out.symm, below_alloc1 _ _⟩
set_option maxHeartbeats 1000000 in
theorem c_right4 (l : List ByteArray) (A : Option Addr) (c : Nat) (w : World) :
    Calls Tryz.prog 146 #[.slice A l.length c] w fun en w' => en = .returned (.bool (decide (l.length ≤ 4))) ∧ Below w.heap.size w w' := by
  go_enter Tryz.func146, Tryz.ntmps146
  go_wp2
  go_ret
  exact ⟨retb (by congr 1; exact propext (by omega)), Below.refl _ _⟩
set_option maxHeartbeats 1000000 in
theorem c_right5 (e : Ex) (A : Option Addr) (c : Nat) (w : World) (hz : szE e ≤ 1000000) (hr : Kd.C k57 w A e.f2.length e.f2) (hc : e.f2.length ≤ c) :
    Calls Tryz.prog 147 #[.agg #[.int .i64 e.f0, .string e.f1, .slice A e.f2.length c]] w fun en w' => en = .returned (.bool (decide (szE e ≤ 24))) ∧ Below w.heap.size w w' := by
  have q := below_alloc1 w (.cells #[.int .i64 e.f0, .string e.f1, .slice A e.f2.length c] 57)
  have HC := Lib.hid (c_Size _ e A c _ (Nat.le_refl _) hz (Kd.C_below hr q) hc)
  have HQ := Lib.hid q
  clear hr q
  go_enter Tryz.func147, Tryz.ntmps147
  go_wp2_with fail
  refine HC.out.mono ?_
  rintro en w' ⟨rfl, hb⟩
  go_wp2
  go_ret
  exact ⟨retb (by congr 1; exact propext (by omega)), HQ.out.trans (hb.mono HQ.out.size)⟩
set_option maxHeartbeats 1000000 in
theorem c_right6 (x : Ca) (cs : List Value) (w : World) (hK : k62.K w x cs) :
    Calls Tryz.prog 149 #[.agg cs.toArray] w fun en w' => en = .returned (.bool (nameB x.f0)) ∧ Below w.heap.size w w' := by
  obtain ⟨A1, c1, A4, c4, rfl, l1, g1, l4, g4⟩ := k62_open hK
  have HC := Lib.hid (fun W => c_named x.f0 W)
  have HQ := Lib.hid (below_alloc1 w (.cells #[.string x.f0, .slice A1 x.f1.length c1, .int .i64 x.f2.f0, .string x.f2.f1, .slice A4 x.f2.f2.length c4] 62))
  clear g1 g4 hK
  go_enter Tryz.func149, Tryz.ntmps149
  go_wp2_with fail
  refine (HC.out _).mono ?_
  rintro en w' ⟨rfl, hb⟩
  go_wp2
  go_ret
  exact ⟨rfl, HQ.out.trans (hb.mono HQ.out.size)⟩
set_option maxHeartbeats 1000000 in
theorem c_right7 (l : List ByteArray) (A : Option Addr) (c : Nat) (w : World) (hr : Kd.C Kd.string w A l.length l) (hc : l.length ≤ c) :
    Calls Tryz.prog 150 #[.slice A l.length c] w fun en w' => en = .returned (.bool (l.all nameB)) ∧ Below w.heap.size w w' := by
  have HC := Lib.hid (evS_p A c l w hc hr 112 #[] (enters_of Tryz.func112 (by kernel_rfl) rfl) nameB (fun x cs W _ _ _ => c_named x W))
  clear hr
  go_enter Tryz.func150, Tryz.ntmps150
  go_wp2_with fail
  refine HC.out.mono ?_
  rintro en w' ⟨rfl, hb⟩
  go_wp2
  go_ret
  exact ⟨rfl, hb⟩
set_option maxHeartbeats 1000000 in
theorem c_right8 (e : Ex) (A : Option Addr) (c : Nat) (w : World) :
    Calls Tryz.prog 151 #[.agg #[.int .i64 e.f0, .string e.f1, .slice A e.f2.length c]] w fun en w' => en = .returned (.bool (nameB e.f1)) ∧ Below w.heap.size w w' := by
  have q := below_alloc1 w (.cells #[.int .i64 e.f0, .string e.f1, .slice A e.f2.length c] 57)
  have HC := Lib.hid (fun W => c_named e.f1 W)
  have HQ := Lib.hid q
  clear q
  go_enter Tryz.func151, Tryz.ntmps151
  go_wp2_with fail
  refine (HC.out _).mono ?_
  rintro en w' ⟨rfl, hb⟩
  go_wp2
  go_ret
  exact ⟨rfl, HQ.out.trans (hb.mono HQ.out.size)⟩
theorem C_two (W : World) (A1 A2 : Option Addr) (l1 l2 : List ByteArray) (c1 c2 : Nat) (h1 : l1.length ≤ c1) (h2 : l2.length ≤ c2) (r1 : Kd.C Kd.string W A1 l1.length l1) (r2 : Kd.C Kd.string W A2 l2.length l2) :
    Kd.C (Kd.slice 9 Kd.string) (W.alloc (.cells #[.slice A1 l1.length c1, .slice A2 l2.length c2] 30)) (some ⟨W.heap.size, 0, none⟩) [l1, l2].length [l1, l2] := by
  have hb := below_alloc1 W (.cells #[.slice A1 l1.length c1, .slice A2 l2.length c2] 30)
  have ha := alloc_at W (.cells #[.slice A1 l1.length c1, .slice A2 l2.length c2] 30)
  refine ⟨rfl, by simp, fun _ => ⟨_, rfl, fun j p hj => ?_⟩⟩
  match j, hj with
  | 0, hj =>
    simp at hj; subst hj
    exact ⟨[.slice A1 l1.length c1], rfl, ⟨A1, c1, rfl, h1, Kd.C_below r1 hb⟩, fun i u hu => by
      match i, hu with
      | 0, hu => simp at hu; subst hu; exact (blk_cell ha 0).trans rfl⟩
  | 1, hj =>
    simp at hj; subst hj
    exact ⟨[.slice A2 l2.length c2], rfl, ⟨A2, c2, rfl, h2, Kd.C_below r2 hb⟩, fun i u hu => by
      match i, hu with
      | 0, hu => simp at hu; subst hu; exact (blk_cell ha 1).trans rfl⟩
  | j + 2, hj => simp at hj
set_option maxRecDepth 100000 in
set_option maxHeartbeats 2000000 in
theorem c_right9 (d : De) (cs : List Value) (Bd : Nat) (l : List ByteArray) (A : Option Addr) (c : Nat) (w : World) (hK : k59.K w d cs) (hbox : w.heap[Bd]? = some (.cells cs.toArray 59 (0, 0))) (hr : Kd.C Kd.string w A l.length l) (hc : l.length ≤ c)
    (hl : d.f1.length + l.length < 1000000) (hs1 : ∀ s ∈ d.f1, s.size ≤ nmLim) (hs2 : ∀ s ∈ l, s.size ≤ nmLim) :
    Calls Tryz.prog 152 #[.slice A l.length c, .pointer (some ⟨Bd, 0, none⟩)] w fun en w' => en = .returned (.bool (!twB (d.f1 ++ l))) ∧ Below w.heap.size w w' := by
  obtain ⟨A1, c1, A2, c2, A5, c5, rfl, l1, F1, _⟩ := k59_open hK
  have k1 := (blk_cell hbox 1).trans rfl
  have hT := C_two w A1 A d.f1 l c1 c l1 hc F1 hr
  have q := below_alloc1 w (.cells #[.slice A1 d.f1.length c1, .slice A l.length c] 30)
  have HC := Lib.hid (c_ConcatS (some ⟨w.heap.size, 0, none⟩) 2 [d.f1, l] _ hT (by simp) (by simp; omega))
  have HQ := Lib.hid q
  clear hT q hbox hr F1 hK
  go_enter Tryz.func152, Tryz.ntmps152
  go_wp2_with fail
  refine HC.out.mono ?_
  rintro en w' ⟨v, rfl, ho, hb⟩
  obtain ⟨Av, cv, rfl, hcv, hCv⟩ := Kd.R_reads ho
  obtain ⟨m, hm⟩ : ∃ m, [d.f1, l].flatten = m := ⟨_, rfl⟩
  have hfl : m = d.f1 ++ l := by rw [← hm]; simp
  rw [hm] at hCv hcv ⊢
  have HT := Lib.hid (c_twice Av cv m w' hCv hcv (fun s hs => by rw [hfl] at hs; rcases List.mem_append.1 hs with h | h; exact hs1 s h; exact hs2 s h) (by rw [hfl]; simp; omega))
  have HFl := Lib.hid hfl
  clear hfl hm
  have HB := Lib.hid hb
  clear ho hCv hb
  go_wp2_with fail
  refine HT.out.mono ?_
  rintro en w2 ⟨rfl, hb2⟩
  go_wp2
  go_ret
  exact ⟨by rw [← HFl.out]; simp [HFl.out], (HQ.out.trans (HB.out.mono HQ.out.size)).trans (hb2.mono (HQ.out.trans (HB.out.mono HQ.out.size)).size)⟩
set_option maxRecDepth 100000 in
set_option maxHeartbeats 2000000 in
theorem c_right31 (x : Ca) (cs : List Value) (Bf : Nat) (w : World) (hK : k62.K w x cs) (g : Nat) (lb : Array Value) (eg : ∀ args w, (callFunc g args).run Tryz.prog w = .ok (.enter g args) w) (hbox : w.heap[Bf]? = some (.cells #[.func (.func g) #[] lb] 127 (0, 0))) (p : List ByteArray → Bool)
    (hf : ∀ (A : Option Addr) (c : Nat) (W : World), Below w.heap.size w W → x.f1.length ≤ c → Kd.C Kd.string W A x.f1.length x.f1 → Calls Tryz.prog g (#[.slice A x.f1.length c] ++ lb) W fun en w' => en = .returned (.bool (p x.f1)) ∧ Below W.heap.size W w') :
    Calls Tryz.prog 145 #[.agg cs.toArray, .pointer (some ⟨Bf, 0, none⟩)] w fun en w' => en = .returned (.bool (p x.f1)) ∧ Below w.heap.size w w' := by
  obtain ⟨A1, c1, A4, c4, rfl, l1, g1, l4, g4⟩ := k62_open hK
  have q := below_alloc1 w (.cells #[.string x.f0, .slice A1 x.f1.length c1, .int .i64 x.f2.f0, .string x.f2.f1, .slice A4 x.f2.f2.length c4] 62)
  have k0 := cell_of_one hbox
  have hlt := lt_of_block hbox
  have hn : ¬ (Bf = w.heap.size) := by omega
  have HC := Lib.hid (hf A1 c1 _ q l1 (Kd.C_below g1 q))
  have HQ := Lib.hid q
  clear q hbox g1 g4 hK hf
  go_enter Tryz.func145, Tryz.ntmps145
  go_wp2_with (go_at_fn g; refine HC.out.mono ?_; rintro en w' ⟨rfl, hb⟩)
  go_ret
  exact ⟨rfl, HQ.out.trans (hb.mono HQ.out.size)⟩
set_option maxRecDepth 100000 in
set_option maxHeartbeats 2000000 in
theorem c_right3 (d : De) (cs : List Value) (Bd : Nat) (w : World) (hK : k59.K w d cs) (hbox : w.heap[Bd]? = some (.cells cs.toArray 59 (0, 0))) (g : Nat) (lb : Array Value) (eg : ∀ args w, (callFunc g args).run Tryz.prog w = .ok (.enter g args) w) (p : List ByteArray → Bool)
    (hf : ∀ (x : Ca) (A : Option Addr) (c : Nat) (W : World), x ∈ d.f2 → Below w.heap.size w W → x.f1.length ≤ c → Kd.C Kd.string W A x.f1.length x.f1 → Calls Tryz.prog g (#[.slice A x.f1.length c] ++ lb) W fun en w' => en = .returned (.bool (p x.f1)) ∧ Below W.heap.size W w') :
    Calls Tryz.prog 143 #[.func (.func g) #[] lb, .pointer (some ⟨Bd, 0, none⟩)] w fun en w' => en = .returned (.bool (d.f2.all fun c => p c.f1)) ∧ Below w.heap.size w w' := by
  obtain ⟨A1, c1, A2, c2, A5, c5, rfl, l1, F1, l2, F2, l5, F5⟩ := k59_open hK
  have q := below_alloc1 w (.cells #[.func (.func g) #[] lb] 127)
  have bF := alloc_at w (.cells #[.func (.func g) #[] lb] 127)
  have k2 := (blk_cell hbox 2).trans rfl
  have hlt := blk_lt hbox
  have hn : ¬ (Bd = w.heap.size) := by omega
  have HC := Lib.hid (evC_p A2 c2 d.f2 _ l2 (Kd.C_below F2 q) 145 #[.pointer (some ⟨w.heap.size, 0, none⟩)] (enters_of Tryz.func145 (by kernel_rfl) rfl) (fun c => p c.f1)
    (fun x cs W hx hKx hb => c_right31 x cs w.heap.size W hKx g lb eg (blk_below bF hb) p (fun A c W2 hb2 hc2 hr2 => hf x A c W2 hx (q.trans ((hb.trans (hb2.mono hb.size)).mono q.size)) hc2 hr2)))
  have HQ := Lib.hid q
  clear q hbox F1 F2 F5 hK hf bF
  go_enter Tryz.func143, Tryz.ntmps143
  go_wp2_with fail
  refine HC.out.mono ?_
  rintro en w' ⟨rfl, hb⟩
  go_wp2
  go_ret
  exact ⟨rfl, HQ.out.trans (hb.mono HQ.out.size)⟩
end Go.Proofs.YtacefdkfbpgedaaGreat.Mine
namespace Go.Proofs.YtacefdkfbpgedaaGreat.Mine
open Go.Proofs.YtacefdkfbpgedaaGreat.PProgSmall
open Go.RowKit Go.Shelf Go.Proofs.YtacefdkfbpgedaaGreatW.PrintWords Go.Proofs.YtacefdkfbpgedaaGreatW.PrintLast Go.Proofs.YtacefdkfbpgedaaGreatW.PrintMore
set_option linter.unusedVariables false
set_option linter.unusedSimpArgs false
abbrev Hk := ByteArray × Int
def hkV (h : Hk) : Value := .agg #[.string h.1, .int .i64 h.2]
def hkOk (h : Hk) : Prop := h.1.size ≤ nmLim ∧ 0 ≤ h.2 ∧ h.2 ≤ 9223372036854775807
theorem head_type : Tryz.prog.keyType 113 = true := by kernel_rfl
theorem head_laid : laidOutB Tryz.prog = true := by kernel_rfl
theorem law_head : Go.Maps.Keyed Tryz.prog 113 := Go.Maps.Keyed.of_law (deep_law_laid head_laid (m := 4) (by omega) (of_decide_eq_true (p := 113 < Tryz.prog.types.size) (by kernel_rfl)) (by kernel_rfl) (by kernel_rfl))
theorem key_head {h : Hk} (hh : hkOk h) : ∃ l, keyOf Tryz.prog 113 (hkV h) = some l := by
  obtain ⟨s, n⟩ := h
  obtain ⟨h1, h2, h3⟩ := hh
  simp only at h1 h2 h3
  unfold nmLim at h1
  have hm : s.size ≤ maxLen := by unfold maxLen; omega
  have hw : (Lit.int .i64 n).wf = true := by simp [Lit.wf, IntKind.min, IntKind.max, IntKind.bits, IntKind.signed]; omega
  have hc : Tryz.prog.cellsOf 113 = 2 := by kernel_rfl
  have hcs : Tryz.prog.cellsOf 9 = 1 := by kernel_rfl
  have hci : Tryz.prog.cellsOf 3 = 1 := by kernel_rfl
  have e1 : (hkV (s, n)).formed Tryz.prog 113 = true := by
    unfold Value.formed hkV
    simp [Tryz.underlying113, hc]
  obtain ⟨m, hm2⟩ : ∃ m, Tryz.prog.types.size = m + 1 := ⟨Tryz.prog.types.size - 1, by
    have : decide (0 < Tryz.prog.types.size) = true := by kernel_rfl
    have := of_decide_eq_true this
    omega⟩
  have e2 : Tryz.prog.keyLits (Tryz.prog.types.size + 1) 113 (hkV (s, n)).cells.toList = some [.string s.data.toList, .int .i64 n] := by
    rw [hm2]
    simp [Program.keyLits, Tryz.underlying113, Tryz.underlying9, Tryz.underlying3, hkV, Value.cells, hc, hcs, hci, hm, hw]
  unfold keyOf
  rw [Tryz.underlying113]
  simp only [head_type, e1, Bool.and_self, if_true, e2]
  exact ⟨_, rfl⟩
noncomputable def hkL (h : Hk) : Lit := (keyOf Tryz.prog 113 (hkV h)).getD (.bool false)
theorem hkL_spec {h : Hk} (hh : hkOk h) : keyOf Tryz.prog 113 (hkV h) = some (hkL h) := by
  obtain ⟨l, hl⟩ := key_head hh
  rw [hkL, hl]; rfl
theorem hkL_inj {a b : Hk} (ha : hkOk a) (hb : hkOk b) (h : hkL a = hkL b) : a = b := by
  have h3 := hkL_spec hb
  rw [← h] at h3
  have := law_head.inj (hkL_spec ha) h3
  simp only [hkV, Value.agg.injEq, List.toArray_eq_toArray_eq] at this
  have h2 : Value.string a.1 = .string b.1 ∧ Value.int .i64 a.2 = .int .i64 b.2 := by simpa using this
  obtain ⟨h3, h4⟩ := h2
  cases a; cases b
  simp_all
def MHead (W : World) (b : Nat) (l : List Hk) : Prop :=
  ∃ (D : DataW Unit), W.ownsMap Tryz.prog 113 (plainElem Tryz.prog 4) b l.length D ∧ Maps.IsMap D ∧ ∀ h : Hk, hkOk h → D.atKey (hkL h) (.lit (.bool false)) = .lit (.bool (memB h l))
theorem MHead.made (w : World) : MHead (w.alloc (.map #[] 0)) w.heap.size [] := ⟨.map [], World.ownsMap_made _ _ _ _, Maps.isMap_empty, fun s _ => by simp [DataW.atKey, memB]⟩
theorem MHead.lt {W : World} {b : Nat} {l : List Hk} (h : MHead W b l) : b < W.heap.size := by obtain ⟨D, h, _⟩ := h; exact h.lt
theorem MHead.below {W W' : World} {b : Nat} {l : List Hk} (h : MHead W b l) (hb : Below W.heap.size W W') : MHead W' b l := by
  obtain ⟨D, h1, h2⟩ := h
  exact ⟨D, h1.kept (row := none) (grown_of_below hb none) (by simp), h2⟩
def headC (c : Ca) : Hk := (c.f0, (c.f1.length : Int))
set_option maxRecDepth 100000 in
set_option maxHeartbeats 2000000 in
theorem c_heads1 (x : Ca) (cs : List Value) (B b : Nat) (l : List Hk) (w : World) (hK : k62.K w x cs) (hs : x.f0.size ≤ nmLim) (hB : w.heap[B]? = some (.cells #[.map (some b)] 157 (0, 0))) (hm : MHead w b l) (hl : l.length < 1000000) :
    Calls Tryz.prog 170 #[.agg cs.toArray, .pointer (some ⟨B, 0, none⟩)] w fun e w' => e = .returned (.bool (!memB (headC x) l)) ∧ MHead w' b (l ++ [headC x]) ∧ Fr (fun k => k = b) w w' := by
  obtain ⟨A1, c1, A4, c4, rfl, l1, g1, l4, g4⟩ := k62_open hK
  have hok : hkOk (headC x) := ⟨hs, by simp [headC], by have := g1.2.1; simp only [headC]; omega⟩
  have hkey := hkL_spec hok
  have hml := g1.2.1
  obtain ⟨W2, hW2⟩ : ∃ W2, (w.alloc (.cells #[.string x.f0, .slice A1 x.f1.length c1, .int .i64 x.f2.f0, .string x.f2.f1, .slice A4 x.f2.f2.length c4] 62)).alloc (.cells #[.string x.f0, .int .i64 x.f1.length] 113) = W2 := ⟨_, rfl⟩
  have q2 : Below w.heap.size w W2 := by rw [← hW2]; exact below_alloc2 _ _ _
  obtain ⟨D, hown, hD, hat⟩ := hm.below q2
  have hB2 := blk_below hB q2
  have k0 := cell_of_one hB2
  obtain ⟨cc, hrun, hcc⟩ := lookup_bool hown law_head Tryz.underlying157 Tryz.underlying4 (zero_bool W2) hkey
  have hcc2 : cc = memB (headC x) l := (Lit.bool.inj (DataW.lit.inj ((hat _ hok).symm.trans hcc))).symm
  subst hcc2
  simp only [hkV, headC] at hrun
  rw [← hW2] at hrun k0
  have hlt := lt_of_block hB
  have hn1 : ¬ (B = w.heap.size) := by omega
  have hn2 : ¬ (B = w.heap.size + 1) := by omega
  have HO := Aside0.mk hown
  have HA := Lib.hid hat
  have HK := Lib.hid hkey
  have HD := Lib.hid hD
  have HQ := Lib.hid q2
  have HOk := Lib.hid hok
  have HW2 := Lib.hid hW2
  clear hown hat hkey hcc hB hB2 hD hm q2 hok hW2 g1 g4 hK
  go_enter Tryz.func170, Tryz.ntmps170
  go_wp2_with (at_mapUpdate; rw [HW2.out]; refine wpList_mapUpdate_own _ rfl _ _ _ 157 rfl 113 4 law_head Tryz.underlying157 (plainElem Tryz.prog 4) b l.length D rfl HO.out (by unfold maxLen; omega) _ _ (hkL (headC x)) rfl rfl HK.out (.lit (.bool true)) [] (plainElem_bool Tryz.underlying4 true) ?_; intro w1 hown1 hgrow1)
  go_ret
  refine ⟨retb rfl, ⟨D.put (hkL (headC x)) (.lit (.bool true)), by simpa using hown1, HD.out.put _ _, fun t ht => ?_⟩, (Fr.of_below _ HQ.out).grown hgrow1 (fun k hk => .inl (by cases hk; rfl))⟩
  by_cases he : t = headC x
  · subst he
    rw [Maps.atKey_put_same HD.out (law_head.key HK.out), memB_iff.2 (by simp)]
  · rw [Maps.atKey_put_other (fun h => he (hkL_inj ht HOk.out h)), HA.out t ht]
    have : memB t (l ++ [headC x]) = memB t l := by simp [memB]; intro h; exact absurd h.symm he
    rw [this]
set_option maxHeartbeats 2000000 in
theorem c_heads (A : Option Addr) (c : Nat) (l : List Ca) (w : World) (hr : Kd.C k62 w A l.length l) (hc : l.length ≤ c) (hs : ∀ x ∈ l, x.f0.size ≤ nmLim) (hl : l.length < 1000000) :
    Calls Tryz.prog 154 #[.slice A l.length c] w fun e w' => e = .returned (.bool (twB (l.map headC))) ∧ Below w.heap.size w w' := by
  have hmm := @run_makeMap Tryz.prog
  obtain ⟨W1, hW1⟩ : ∃ W1, (w.alloc (.map #[] 0)).alloc (.cells #[.map (some w.heap.size)] 157) = W1 := ⟨_, rfl⟩
  have b1 : Below w.heap.size w W1 := by rw [← hW1]; exact (below_alloc1 _ _).trans ((below_alloc1 _ _).mono (by simp))
  have s1 : W1.heap.size = w.heap.size + 2 := by rw [← hW1]; simp
  have m1 : MHead W1 w.heap.size [] := by rw [← hW1]; exact (MHead.made w).below (below_alloc1 _ _)
  have x1 : W1.heap[w.heap.size + 1]? = some (.cells #[.map (some w.heap.size)] 157 (0, 0)) := by rw [← hW1]; have := alloc_at (w.alloc (.map #[] 0)) (.cells #[.map (some w.heap.size)] 157); simpa using this
  have hml : ∀ i, i < l.length → ∀ (h : i < (l.map headC).length), (l.map headC)[i] = headC (l[i]'(by simpa using h)) := fun i _ h => by simp
  have HC := Lib.hid (evC A c l W1 hc (Fr (fun k => k = w.heap.size)) (Fr.rel _) (fun W W' k cs hk h ho => h.blk ho (by omega)) (fun W hW => Kd.C_below hr (((Fr.of_below _ b1).trans hW).below (Nat.le_refl _) (fun k hk he => by omega)))
    170 #[.pointer (some ⟨w.heap.size + 1, 0, none⟩)] (enters_of Tryz.func170 (by kernel_rfl) rfl)
    (fun i W => MHead W w.heap.size ((l.map headC).take i) ∧ W.heap[w.heap.size + 1]? = some (.cells #[.map (some w.heap.size)] 157 (0, 0)) ∧ ((l.map headC).take i).Nodup)
    (fun i W => Below w.heap.size w W ∧ ∃ h : i < (l.map headC).length, (l.map headC)[i] ∈ (l.map headC).take i)
    (fun i W W' h hb => ⟨h.1.below hb, blk_below h.2.1 hb, h.2.2⟩)
    (fun i x cs W hx hK _ hW hi => by
      obtain ⟨hil, rfl⟩ := List.getElem?_eq_some_iff.1 hx
      have hil2 : i < (l.map headC).length := by simpa using hil
      refine (c_heads1 l[i] cs (w.heap.size + 1) w.heap.size ((l.map headC).take i) W hK (hs _ (List.getElem_mem hil)) hi.2.1 hi.1 (by rw [List.length_take]; omega)).mono ?_
      rintro e W' ⟨rfl, hm, hfr⟩
      refine ⟨_, rfl, ?_⟩
      rw [← hml i hil hil2] at hm ⊢
      cases hmb : memB (l.map headC)[i] ((l.map headC).take i) with
      | true => exact ⟨((Fr.of_below _ b1).trans (hW.trans hfr)).below (Nat.le_refl _) (fun k hk he => by omega), hil2, memB_iff.1 hmb⟩
      | false => exact ⟨hfr, by rw [take_snoc hil2]; exact hm, hfr.blk hi.2.1 (by omega), nodup_take_succ hil2 hi.2.2 (memB_false.1 hmb)⟩)
    ⟨by simpa using m1, x1, by simp⟩)
  rw [← hW1] at HC
  have B1 := Aside0.mk b1
  have HW := Aside0.mk hW1
  clear m1 x1 hr hs b1 hW1 s1 hml
  go_enter Tryz.func154, Tryz.ntmps154
  go_wp2_with fail
  refine HC.out.mono ?_
  rintro e w' ⟨b, rfl, hb⟩
  cases b with
  | true =>
    have hfr := hb.1
    rw [HW.out] at hfr
    have HB := Aside0.mk (((Fr.of_below _ B1.out).trans hfr).below (n := w.heap.size) (Nat.le_refl _) (fun k hk he => by omega))
    have HI := Aside0.mk hb.2.2.2
    clear hb hfr
    go_wp2
    go_ret
    exact ⟨retb (by have := HI.out; rw [List.take_of_length_le (by simp)] at this; simp only [twB, this]; rfl), HB.out⟩
  | false =>
    obtain ⟨i, hi, hbel, hi2, hmem⟩ := hb
    have HB := Aside0.mk hbel
    have HM := Aside0.mk hmem
    clear hbel
    go_wp2
    go_ret
    exact ⟨retb (twB_of hi2 HM.out).symm, HB.out⟩
end Go.Proofs.YtacefdkfbpgedaaGreat.Mine
