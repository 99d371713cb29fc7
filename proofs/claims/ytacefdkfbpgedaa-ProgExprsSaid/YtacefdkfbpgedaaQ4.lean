/- same, SameExpr of both sides. -/
import Derived.Test.YtacefdkfbpgedaaQ3
import Derived.ChangeKeysEq
import Derived.Deep.RegionHeld3
import Derived.Deep.RegionWith
import Derived.Test.YtacefdkfbpgedaaWNEv
namespace Go.Proofs.Ytacefdkfbpgedaa.Mine
open Go.Proofs.Ytacefdkfbpgedaa.PProgExprs
open Go.RowKit Go.Shelf Go.Proofs.YtacefdkfbpgedaaW.PrintWords Go.Proofs.YtacefdkfbpgedaaW.PrintLast Go.Proofs.YtacefdkfbpgedaaW.PrintMore
set_option linter.unusedVariables false
set_option linter.unusedSimpArgs false

open Classical in
/-- Whether two expressions are the same. -/
noncomputable def sameE (a b : Ex) : Bool := decide (a = b)
theorem sameE_iff {a b : Ex} : sameE a b = true ↔ a = b := by simp [sameE]
theorem ex_ext {a b : Ex} (h0 : a.f0 = b.f0) (h1 : a.f1 = b.f1) (h2 : a.f2 = b.f2) : a = b := by cases a; cases b; simp_all
theorem eqL_sameE : ∀ {xs ys : List Ex}, eqL sameE xs ys = true ↔ xs = ys
  | [], [] => by simp [eqL]
  | [], _ :: _ => by simp [eqL]
  | _ :: _, [] => by simp [eqL]
  | x :: xs, y :: ys => by rw [eqL, Bool.and_eq_true, sameE_iff, eqL_sameE, List.cons.injEq]
theorem sameE_eq (a b : Ex) : sameE a b = (decide (a.f0 = b.f0) && decide (a.f1 = b.f1) && eqL sameE a.f2 b.f2) := by
  rw [Bool.eq_iff_iff, sameE_iff, Bool.and_eq_true, Bool.and_eq_true, eqL_sameE, decide_eq_true_iff, decide_eq_true_iff]
  exact ⟨fun h => by subst h; exact ⟨⟨rfl, rfl⟩, rfl⟩, fun h => ex_ext h.1.1 h.1.2 h.2⟩

set_option maxHeartbeats 4000000 in
theorem c_same (m : Nat) : ∀ (a b : Ex) (A B : Option Addr) (c d : Nat) (w : World), szE a ≤ m → Kd.C k24 w A a.f2.length a.f2 → a.f2.length ≤ c → Kd.C k24 w B b.f2.length b.f2 → b.f2.length ≤ d →
    Calls Try.prog 70 #[.agg #[.int .i64 a.f0, .string a.f1, .slice A a.f2.length c], .agg #[.int .i64 b.f0, .string b.f1, .slice B b.f2.length d]] w fun en w' => en = .returned (.bool (sameE a b)) ∧ Below w.heap.size w w' := by
  induction m with
  | zero => intro a b A B c d w h; exact absurd h (by have := szE_pos a; omega)
  | succ m ih =>
    intro a b A B c d w hs hr hc hr2 hd
    have q1 := (below_alloc1 w (.cells #[.int .i64 a.f0, .string a.f1, .slice A a.f2.length c] 24))
    have q2 := q1.trans ((below_alloc1 (w.alloc (.cells #[.int .i64 a.f0, .string a.f1, .slice A a.f2.length c] 24)) (.cells #[.int .i64 b.f0, .string b.f1, .slice B b.f2.length d] 24)).mono (by simp))
    have HC := Lib.hid (eqfE A B c d a.f2 b.f2 ((w.alloc (.cells #[.int .i64 a.f0, .string a.f1, .slice A a.f2.length c] 24)).alloc (.cells #[.int .i64 b.f0, .string b.f1, .slice B b.f2.length d] 24)) hc hd (Kd.C_below hr q2) (Kd.C_below hr2 q2) 70 #[] (enters_of Try.func70 (by kernel_rfl) rfl) sameE
      (fun x y cs ds W hx hy hKx hKy hb => by
        obtain ⟨A2, a2, rfl, hl2, hc2⟩ := k24_open hKx
        obtain ⟨B2, b2, rfl, hl3, hc3⟩ := k24_open hKy
        exact ih x y A2 B2 a2 b2 W (by have := szE_mem hx; omega) hc2 hl2 hc3 hl3))
    have hq := sameE_eq a b
    have HE := Lib.hid hq
    have Q2 := Lib.hid q2
    clear hq q1 q2 hr hr2 ih
    by_cases h0 : a.f0 = b.f0
    · have e0 : (a.f0 == b.f0) = true := by simpa using h0
      by_cases h1 : a.f1 = b.f1
      · have e1 : (a.f1.toList == b.f1.toList) = true := by rw [sEq]; simpa using h1
        have H0 := Lib.hid h0
        have H1 := Lib.hid h1
        clear h0 h1
        go_enter Try.func70, Try.ntmps70
        go_wp2_with fail
        refine HC.out.mono ?_
        rintro en w' ⟨rfl, hb⟩
        go_wp2
        go_ret
        exact ⟨retb (by rw [HE.out, H0.out, H1.out]; simp), Q2.out.trans (hb.mono Q2.out.size)⟩
      · have e1 : (a.f1.toList == b.f1.toList) = false := by rw [sEq]; simpa using h1
        have H1 := Lib.hid h1
        clear h1
        go_enter Try.func70, Try.ntmps70
        go_wp2
        go_ret
        exact ⟨retb (by rw [HE.out]; simp [H1.out]), below_alloc2 _ _ _⟩
    · have e0 : (a.f0 == b.f0) = false := by simpa using h0
      have H0 := Lib.hid h0
      clear h0
      go_enter Try.func70, Try.ntmps70
      go_wp2
      go_ret
      exact ⟨retb (by rw [HE.out]; simp [H0.out]), below_alloc2 _ _ _⟩

def kEq (l m : List Ex) : Bool := ((cntK l 0 : Int) == cntK m 0) && (((cntK l 1 : Int) == cntK m 1) && (((cntK l 2 : Int) == cntK m 2) && ((cntK l 3 : Int) == cntK m 3)))
theorem eq_int (d : Nat) (a b : Int) (W : World) : (Op.equalIn (d + 1) 3 (.int .i64 a) (.int .i64 b)).run Try.prog W = .ok (a == b) W := by
  simp [Op.equalIn, run_underlying Try.underlying3]
theorem eq_kindsD (d : Nat) (l m : List Ex) (W : World) : (Op.equalIn (d + 1 + 1) 88 (.agg (kindsV l)) (.agg (kindsV m))).run Try.prog W = .ok (kEq l m) W := by
  obtain ⟨i, hi, _⟩ := Option.map_eq_some_iff.1 infoInt
  have hc : Try.prog.cellsOf 3 = 1 := by kernel_rfl
  have hpart : ∀ (xs : Array Value) (j : Nat) (a : Int), xs[j]? = some (.int .i64 a) → (part 3 xs j).run Try.prog W = .ok (.int .i64 a) W := by
    intro xs j a h
    simp [part, isAgg, run_underlying Try.underlying3, h]
  rw [run_equalIn_array W (d + 1) _ _ Try.underlying88 hi, hc, show List.range 4 = [0, 1, 2, 3] from rfl]
  have e0 := fun j a (h : (kindsV l)[j]? = some (.int .i64 a)) => hpart (kindsV l) j a h
  have e1 := fun j a (h : (kindsV m)[j]? = some (.int .i64 a)) => hpart (kindsV m) j a h
  simp only [Op.eqItems, Sem.run_bind, Nat.mul_one, e0 0 _ rfl, e1 0 _ rfl, e0 1 _ rfl, e1 1 _ rfl, e0 2 _ rfl, e1 2 _ rfl, e0 3 _ rfl, e1 3 _ rfl, Result.andThen_ok, eq_int]
  unfold kEq
  cases h0 : ((cntK l 0 : Int) == cntK m 0) <;> cases h1 : ((cntK l 1 : Int) == cntK m 1) <;> cases h2 : ((cntK l 2 : Int) == cntK m 2) <;> cases h3 : ((cntK l 3 : Int) == cntK m 3) <;> simp [Op.eqItems, Sem.run_bind, Nat.mul_one, e0 0 _ rfl, e1 0 _ rfl, e0 1 _ rfl, e1 1 _ rfl, e0 2 _ rfl, e1 2 _ rfl, e0 3 _ rfl, e1 3 _ rfl, Result.andThen_ok, eq_int, h0, h1, h2, h3]
theorem eq_kinds (l m : List Ex) (W : World) : (Op.equalIn 10000 88 (.agg (kindsV l)) (.agg (kindsV m))).run Try.prog W = .ok (kEq l m) W := eq_kindsD 9998 l m W
theorem kEq_of {l m : List Ex} (h : l = m) : kEq l m = true := by subst h; simp [kEq]

/-- Two boxes of expressions, and w as it was. -/
abbrev TwoBox (w : World) (a b : Ex) (A B : Option Addr) (c d : Nat) (W : World) : Prop :=
  Below w.heap.size w W ∧ W.cell? ⟨w.heap.size, 0, none⟩ = some (.int .i64 a.f0) ∧ W.cell? ⟨w.heap.size, 1, none⟩ = some (.string a.f1) ∧ W.cell? ⟨w.heap.size, 2, none⟩ = some (.slice A a.f2.length c) ∧
    W.cell? ⟨w.heap.size + 1, 0, none⟩ = some (.int .i64 b.f0) ∧ W.cell? ⟨w.heap.size + 1, 1, none⟩ = some (.string b.f1) ∧ W.cell? ⟨w.heap.size + 1, 2, none⟩ = some (.slice B b.f2.length d)
theorem TwoBox.step {w : World} {a b : Ex} {A B : Option Addr} {c d : Nat} {W W' : World} (h : TwoBox w a b A B c d W) (hb : Below W.heap.size W W') : TwoBox w a b A B c d W' := by
  obtain ⟨h0, h1, h2, h3, h4, h5, h6⟩ := h
  exact ⟨h0.trans (hb.mono h0.size), pw_cell_below hb h1, pw_cell_below hb h2, pw_cell_below hb h3, pw_cell_below hb h4, pw_cell_below hb h5, pw_cell_below hb h6⟩
theorem TwoBox.drew {w : World} {a b : Ex} {A B : Option Addr} {c d : Nat} {W : World} (h : TwoBox w a b A B c d W) : TwoBox w a b A B c d W.drew := h.step (below_drew (Below.refl _ _))
theorem TwoBox.made (w : World) (a b : Ex) (A B : Option Addr) (c d : Nat) : TwoBox w a b A B c d ((w.alloc (.cells #[.int .i64 a.f0, .string a.f1, .slice A a.f2.length c] 24)).alloc (.cells #[.int .i64 b.f0, .string b.f1, .slice B b.f2.length d] 24)) := by
  have h1 := blk_alloc (alloc_at w (.cells #[.int .i64 a.f0, .string a.f1, .slice A a.f2.length c] 24)) (.cells #[.int .i64 b.f0, .string b.f1, .slice B b.f2.length d] 24)
  have h2 := alloc_at (w.alloc (.cells #[.int .i64 a.f0, .string a.f1, .slice A a.f2.length c] 24)) (.cells #[.int .i64 b.f0, .string b.f1, .slice B b.f2.length d] 24)
  simp only [World.size_alloc] at h2
  exact ⟨below_alloc2 _ _ _, (blk_cell h1 0).trans rfl, (blk_cell h1 1).trans rfl, (blk_cell h1 2).trans rfl, (blk_cell h2 0).trans rfl, (blk_cell h2 1).trans rfl, (blk_cell h2 2).trans rfl⟩

set_option maxRecDepth 100000 in
set_option maxHeartbeats 4000000 in
theorem c_SameExpr (a b : Ex) (A B : Option Addr) (c d : Nat) (w : World) (hr : Kd.C k24 w A a.f2.length a.f2) (hc : a.f2.length ≤ c) (hr2 : Kd.C k24 w B b.f2.length b.f2) (hd : b.f2.length ≤ d) (hs : szE a < 1000000) (hs2 : szE b < 1000000) :
    Calls Try.prog 24 #[.agg #[.int .i64 a.f0, .string a.f1, .slice A a.f2.length c], .agg #[.int .i64 b.f0, .string b.f1, .slice B b.f2.length d]] w fun en w' => en = .returned (.bool (sameE a b)) ∧ Below w.heap.size w w' := by
  have HK := Lib.hid (fun (x : Ex) (X : Option Addr) (cx : Nat) (hx : Kd.C k24 w X x.f2.length x.f2 ∧ x.f2.length ≤ cx ∧ szE x < 1000000) W (hb : TwoBox w a b A B c d W) => (c_kinds x X cx W (Kd.C_below hx.1 hb.1) hx.2.1 hx.2.2).mono (R' := fun e W' => e = .returned (.agg (kindsV (plE x))) ∧ TwoBox w a b A B c d W') (by rintro e W' ⟨h1, h2⟩; exact ⟨h1, hb.step h2⟩))
  have HA := Aside0.mk (And.intro hr (And.intro hc hs))
  have HB := Aside0.mk (And.intro hr2 (And.intro hd hs2))
  have HC := Lib.hid (fun W (hb : TwoBox w a b A B c d W) => (c_same _ a b A B c d W (Nat.le_refl _) (Kd.C_below hr hb.1) hc (Kd.C_below hr2 hb.1) hd).mono (R' := fun e W' => e = .returned (.bool (sameE a b)) ∧ TwoBox w a b A B c d W') (by rintro e W' ⟨h1, h2⟩; exact ⟨h1, hb.step h2⟩))
  have HM := TwoBox.made w a b A B c d
  clear hr hr2
  go_enter Try.func24, Try.ntmps24
  go_wp2_with fail
  obtain ⟨W0, hW0⟩ : ∃ W0, (w.alloc (.cells #[.int .i64 a.f0, .string a.f1, .slice A a.f2.length c] 24)).alloc (.cells #[.int .i64 b.f0, .string b.f1, .slice B b.f2.length d] 24) = W0 := ⟨_, rfl⟩
  rw [hW0] at HM ⊢
  clear hW0
  have HM2 := HM.drew
  have HQ := eq_kinds (plE a) (plE b)
  cases hk : kEq (plE a) (plE b) with
  | true =>
    rw [hk] at HQ
    go_region_held3 (fun W => TwoBox w a b A B c d W) (first | assumption | exact HM) (first | (go_at_call 69; refine (HK.out _ _ _ (by first | exact HA.out | exact HB.out) _ (by assumption)).mono ?_; rintro e w' ⟨rfl, hS⟩) | (go_at_call 70; refine (HC.out _ (by assumption)).mono ?_; rintro e w' ⟨rfl, hS⟩))
    all_goals (go_wp2; go_ret; exact ⟨retb rfl, (by assumption : TwoBox w a b A B c d _).1⟩)
  | false =>
    rw [hk] at HQ
    have hf : sameE a b = false := by
      cases h : sameE a b with
      | false => rfl
      | true => rw [sameE_iff] at h; subst h; rw [kEq_of rfl] at hk; cases hk
    have HN := Lib.hid hf
    clear hf
    obtain ⟨z0, z1, z2, z3, z4, z5, z6⟩ := HM2
    go_region_with (first | (go_at_call 69; refine (HK.out _ _ _ (by first | exact HA.out | exact HB.out) _ (by first | assumption | exact ⟨z0, z1, z2, z3, z4, z5, z6⟩)).mono ?_; rintro e w' ⟨rfl, hS⟩; obtain ⟨y0, y1, y2, y3, y4, y5, y6⟩ := id hS))
    all_goals (go_wp2; go_ret; exact ⟨retb HN.out.symm, (by assumption : TwoBox w a b A B c d _).1⟩)
end Go.Proofs.Ytacefdkfbpgedaa.Mine
/- The reference's: SameExpr, Height, Places, Size, Vars. -/
namespace Go.Proofs.Ytacefdkfbpgedaa.Mine
open Go.Proofs.Ytacefdkfbpgedaa.PProgExprs
open Go.RowKit Go.Shelf Go.Proofs.YtacefdkfbpgedaaW.PrintWords Go.Proofs.YtacefdkfbpgedaaW.PrintLast Go.Proofs.YtacefdkfbpgedaaW.PrintMore
set_option linter.unusedVariables false
set_option linter.unusedSimpArgs false
attribute [local go_sem] max2_int min2_int max_two min_two

theorem infoEx : (Try.prog.info? 24).map (fun i => (i.zero, i.size, i.bytes)) = some (some (.agg #[.int .i64 0, .string ⟨#[]⟩, .slice none 0 0]), 3, 48) := by kernel_rfl

/-- A literal of one element. -/
theorem N_box1 {α : Type} {d : Kd α} {W : World} {base e : Nat} {ok okp : Nat → Prop} {x : α} {cs : List Value} (hK : Kd.FK d W okp x cs) (hok : ∀ k, okp k → ok k) (hfresh : ok W.heap.size) (hb : base ≤ W.heap.size) :
    Kd.N d e (W.alloc (.cells cs.toArray e)) base ok (.slice (some ⟨W.heap.size, 0, none⟩) 1 1) [x] := by
  have hr := Kd.FK_raw hK
  have ho := World.ownsRow_lit (base := base) (e := e) (size := d.sz) W cs.toArray 1 hb (by simp [maxLen]) (by simpa using hr.2.1)
  refine Kd.N_made (rows := [cs]) ⟨fun k hk => by simpa [Value.ownBlock] using hk.symm, cs, by simpa [Kd.raw] using ho, ⟨by simp [hr.2.1, Kd.raw], fun j p hj => ?_⟩⟩ (World.grownBy_alloc W _ none) ⟨W.heap.size, by simp [Value.ownBlock], Nat.le_refl _⟩ rfl (fun j y c hy hc => ?_) hok hfresh
  · rcases j with _ | j
    · simp only [List.getElem?_cons_zero, Option.some.injEq] at hj
      subst hj
      simpa [Kd.raw, ← hr.2.1] using hr.2
    · simp at hj
  · rcases j with _ | j
    · simp only [List.getElem?_cons_zero, Option.some.injEq] at hy hc
      rw [← hy, ← hc]; exact hK
    · simp at hy

set_option maxHeartbeats 2000000 in
theorem c_rHeight (n : Nat) : ∀ (e : Ex) (A : Option Addr) (c : Nat) (w : World), szE e ≤ n → htE e ≤ 1000000 → Kd.C k24 w A e.f2.length e.f2 → e.f2.length ≤ c →
    Calls Try.prog 20 #[.agg #[.int .i64 e.f0, .string e.f1, .slice A e.f2.length c]] w fun en w' => en = .returned (.int .i64 (htE e : Int)) ∧ Below w.heap.size w w' := by
  induction n with
  | zero => intro e A c w h; exact absurd h (by have := szE_pos e; omega)
  | succ n ih =>
    intro e A c w hn hb hr hc
    have hm := hr.2.1
    have HR := Aside0.mk hr
    have hsz := szE_eq e
    have hht := htE_eq e
    have h1 : szL e.f2 ≤ n := by omega
    have h2 : htL e.f2 ≤ 1000000 := by omega
    have HS := Lib.hid hht
    have Q0 := Aside0.mk (below_alloc1 w (.cells #[.int .i64 e.f0, .string e.f1, .slice A e.f2.length c] 24))
    have B0 := Aside0.mk (alloc_at w (.cells #[.int .i64 e.f0, .string e.f1, .slice A e.f2.length c] 24))
    clear hr hn hb hsz hht
    go_enter Try.func20, Try.ntmps20
    go_wp2
    go_loopg [3, 4] e.f2.length (fun gg s3 s9 wr => ∃ kk : Nat, kk ≤ e.f2.length ∧ e.f2.length - kk ≤ gg ∧ s9 = .int .i64 kk ∧ s3 = .int .i64 (htL (e.f2.take kk) : Int) ∧ Aside0 (Below w.heap.size w wr) ∧ Aside0 (wr.heap[w.heap.size]? = some (.cells #[.int .i64 e.f0, .string e.f1, .slice A e.f2.length c] 24 (0, 0))))
    case atStart => exact ⟨0, Nat.zero_le _, by omega, rfl, by simp [htL], Q0, B0⟩
    case round =>
      obtain ⟨kk, hkk, hg, rfl, rfl, HB, BK⟩ := hrel
      have b2 := (blk_cell BK.out 2).trans rfl
      by_cases hlt : kk < e.f2.length
      · have hltz : (kk : Int) < (e.f2.length : Int) := by omega
        obtain ⟨ad, c0, c1, c2, rfl, hK, k0, k1, k2⟩ := get3 rfl (Kd.C_below HR.out HB.out) kk hlt
        obtain ⟨A2, a2, rfl, rfl, rfl, hl2, hi2⟩ := kE_cells hK
        have hmem : e.f2[kk] ∈ e.f2 := List.getElem_mem hlt
        have hle := szL_mem hmem
        have hlh := htL_mem hmem
        have hcall := ih e.f2[kk] A2 a2 wr (by omega) (by omega) hi2 hl2
        have hbd : htE e.f2[kk] ≤ 1000000 := by omega
        have HC := Lib.hid hcall
        clear hK hi2 hl2 hmem hle hcall hlh
        go_wp2_with fail
        refine HC.out.mono ?_
        rintro en w' ⟨rfl, hb⟩
        have HB2 := Aside0.mk (HB.out.trans (hb.mono HB.out.size))
        have BK2 := Aside0.mk (blk_below BK.out hb)
        clear hb
        go_wp2
        all_goals
          go_roundg (e.f2.length - (kk + 1))
          case measure => omega
          case rel => exact ⟨kk + 1, by omega, by omega, by go_num, by rw [htL_take hlt]; congr 1; omega, HB2, BK2⟩
      · have : kk = e.f2.length := by omega
        subst this
        go_wp2
        go_ret
        exact ⟨reti (by rw [HS.out, List.take_of_length_le (Nat.le_refl _)]), HB.out⟩

set_option maxHeartbeats 4000000 in
theorem c_rPlaces (n : Nat) : ∀ (e : Ex) (A : Option Addr) (c : Nat) (w : World) (ok : Nat → Prop), szE e ≤ n → szE e ≤ 1000000 → Kd.F k24 w ok A e.f2.length e.f2 → (∀ k, ok k → k < w.heap.size) → e.f2.length ≤ c →
    Calls Try.prog 65 #[.agg #[.int .i64 e.f0, .string e.f1, .slice A e.f2.length c]] w fun en w' => ∃ v, en = .returned v ∧ Kd.N k24 24 w' w.heap.size (fun k => ok k ∨ w.heap.size ≤ k) v (plE e) ∧ Below w.heap.size w w' := by
  induction n with
  | zero => intro e A c w ok h; exact absurd h (by have := szE_pos e; omega)
  | succ n ih =>
    intro e A c w ok hn hn2 hr hok hc
    have hm := (Kd.F_now hr).2.1
    have hsz := szE_eq e
    have hpl := plE_eq e
    have h1 : szL e.f2 ≤ n := by omega
    have h2 : 1 + szL e.f2 ≤ 1000000 := by omega
    have HS := Lib.hid hpl
    obtain ⟨W1, hW1⟩ : ∃ W1, w.alloc (.cells #[.int .i64 e.f0, .string e.f1, .slice A e.f2.length c] 24) = W1 := ⟨_, rfl⟩
    have z1 : W1.heap.size = w.heap.size + 1 := by rw [← hW1]; simp
    have q1 : Below w.heap.size w W1 := by rw [← hW1]; exact below_alloc1 _ _
    have b1 : W1.heap[w.heap.size]? = some (.cells #[.int .i64 e.f0, .string e.f1, .slice A e.f2.length c] 24 (0, 0)) := by rw [← hW1]; exact alloc_at _ _
    have hfk : Kd.FK k24 W1 ok e [.int .i64 e.f0, .string e.f1, .slice A e.f2.length c] := k24_mkF W1 ok e hc (Kd.F_below hr q1)
    have hN := N_box1 (e := 24) (base := w.heap.size + 1) (ok := fun k => ok k ∨ w.heap.size ≤ k) hfk (fun k hk => .inl hk) (.inr (by omega)) (by omega)
    rw [z1, ← hW1] at hN
    have Q0 := Aside0.mk (q1.trans ((below_alloc1 W1 (.cells #[.int .i64 e.f0, .string e.f1, .slice A e.f2.length c] 24)).mono q1.size))
    have B0 := Aside0.mk (blk_alloc b1 (.cells #[.int .i64 e.f0, .string e.f1, .slice A e.f2.length c] 24))
    rw [← hW1] at Q0 B0
    have HN0 := Aside0.mk hN
    have HR := Aside0.mk hr
    have HO := Aside0.mk hok
    clear hr hn hn2 hsz hpl hok hN hfk b1 q1 z1 hW1
    go_enter Try.func65, Try.ntmps65
    go_wp2
    go_loopg [3, 4] e.f2.length (fun gg s3 s9 wr => ∃ kk : Nat, kk ≤ e.f2.length ∧ e.f2.length - kk ≤ gg ∧ s9 = .int .i64 kk ∧ Aside0 (Kd.N k24 24 wr (w.heap.size + 1) (fun k => ok k ∨ w.heap.size ≤ k) s3 (e :: plL (e.f2.take kk))) ∧ Aside0 (Below w.heap.size w wr) ∧ Aside0 (wr.heap[w.heap.size]? = some (.cells #[.int .i64 e.f0, .string e.f1, .slice A e.f2.length c] 24 (0, 0))))
    case atStart => exact ⟨0, Nat.zero_le _, by omega, rfl, ⟨by simpa [plL] using HN0.out⟩, Q0, B0⟩
    case round =>
      obtain ⟨kk, hkk, hg, rfl, HN, HB, BK⟩ := hrel
      have b2 := (blk_cell BK.out 2).trans rfl
      by_cases hlt : kk < e.f2.length
      · have hltz : (kk : Int) < (e.f2.length : Int) := by omega
        have hF := Kd.F_below HR.out HB.out
        obtain ⟨ad, c0, c1, c2, rfl, hK, hcells, k0, k1, k2⟩ := gett3 rfl (Kd.F_now hF) kk hlt
        obtain ⟨A2, a2, he, hl2, hF2⟩ := k24_openF (elemF hF kk hlt rfl hcells (fun _ _ _ h => h) (by decide))
        obtain ⟨rfl, rfl, rfl⟩ : c0 = _ ∧ c1 = _ ∧ c2 = _ := by simpa using he
        have hmem : e.f2[kk] ∈ e.f2 := List.getElem_mem hlt
        have hle := szL_mem hmem
        have hcall := ih e.f2[kk] A2 a2 wr ok (by omega) (by omega) hF2 (fun k hk => by have := HO.out k hk; have := HB.out.size; omega) hl2
        have hlen : (e :: plL (e.f2.take kk)).length + (plE e.f2[kk]).length ≤ 1000000 := by
          have h3 := szL_take_le e.f2 (kk + 1)
          rw [szL_take hlt] at h3
          rw [List.length_cons, length_plL, length_plE]; omega
        have HC := Lib.hid hcall
        clear hK hcells he hl2 hF2 hmem hle hcall hF
        go_wp2_with fail
        refine HC.out.mono ?_
        rintro en w' ⟨v2, rfl, hN2, hb⟩
        have HN3 := Kd.N_below HN.out hb
        obtain ⟨A3, c3, rfl⟩ := Kd.N_slice hN2
        have hF3 := Kd.N_F hN2
        have hs1 := hb.size
        have hs2 := HB.out.size
        have hs3 := blk_lt BK.out
        have hlt3 := Kd.N_lt HN.out
        have hbs3 := Kd.N_base HN.out
        have HB2 := Aside0.mk (HB.out.trans (hb.mono HB.out.size))
        have BK2 := Aside0.mk (blk_below BK.out hb)
        have H3 := Aside0.mk HN3
        have H4 := Aside0.mk hF3
        clear hb hN2 HN3 hF3
        go_wp2_with (at_builtin; refine Kd.N_append_rows k24 (w0 := w') (w.heap.size + 1) rfl _ _ 22 24 _ _ rfl Try.underlying22 infoEx rfl (by decide) (by decide) _ _ (plE e.f2[kk]) A3 _ c3 (fun k => ok k ∨ w.heap.size ≤ k) (fun k => ok k ∨ wr.heap.size ≤ k) rfl rfl H3.out H4.out (fun k hk => ?_) (fun k hk => .inr (by omega)) (Below.refl _ _) (by omega) (by omega) ?_)
        · rcases hk with hk | hk
          · have := HO.out k hk
            exact ⟨.inl hk, fun he => by have := hbs3 k he.symm; omega⟩
          · exact ⟨.inr (by omega), fun he => by have := hlt3 k he.symm; omega⟩
        · intro v1 w1 hN1 hB1 hg1 hat1
          have H5 := Aside0.mk hN1
          have H6 := Aside0.mk (HB2.out.trans (hB1.mono (by omega)))
          have BK3 := Aside0.mk (blk_grown BK2.out hg1 (fun he => by have := hbs3 _ he.symm; omega))
          clear hN1 hB1 hg1 hat1
          go_wp2
          go_roundg (e.f2.length - (kk + 1))
          case measure => omega
          case rel => exact ⟨kk + 1, by omega, by omega, by go_num, ⟨by rw [plL_take hlt]; exact H5.out⟩, H6, BK3⟩
      · have : kk = e.f2.length := by omega
        subst this
        go_wp2
        go_ret
        exact ⟨_, rfl, by have := HN.out; rw [List.take_of_length_le (Nat.le_refl _), ← HS.out] at this; exact Kd.N_lower this (by omega), HB.out⟩

set_option maxHeartbeats 2000000 in
theorem c_rSize (e : Ex) (A : Option Addr) (c : Nat) (w : World) (hs : szE e ≤ 1000000) (hr : Kd.C k24 w A e.f2.length e.f2) (hc : e.f2.length ≤ c) :
    Calls Try.prog 18 #[.agg #[.int .i64 e.f0, .string e.f1, .slice A e.f2.length c]] w fun en w' => en = .returned (.int .i64 (szE e : Int)) ∧ Below w.heap.size w w' := by
  have q0 := below_alloc1 w (.cells #[.int .i64 e.f0, .string e.f1, .slice A e.f2.length c] 24)
  have HC := Lib.hid (c_rPlaces _ e A c (w.alloc (.cells #[.int .i64 e.f0, .string e.f1, .slice A e.f2.length c] 24)) (fun k => k < w.heap.size) (Nat.le_refl _) hs (Kd.F_below (Kd.C_F k24_heap hr) q0) (fun k hk => by have := q0.size; omega) hc)
  have Q0 := Aside0.mk q0
  have hl := length_plE e
  clear hr q0
  go_enter Try.func18, Try.ntmps18
  go_wp2_with fail
  refine HC.out.mono ?_
  rintro en w' ⟨v, rfl, hN, hb⟩
  obtain ⟨A3, c3, rfl⟩ := Kd.N_slice hN
  have HB := Aside0.mk (Q0.out.trans (hb.mono Q0.out.size))
  clear hN hb
  go_wp2
  go_ret
  exact ⟨reti (by simp only [hl]), HB.out⟩

set_option maxHeartbeats 4000000 in
theorem c_rSame (m : Nat) : ∀ (a b : Ex) (A B : Option Addr) (c d : Nat) (w : World), szE a ≤ m → Kd.C k24 w A a.f2.length a.f2 → a.f2.length ≤ c → Kd.C k24 w B b.f2.length b.f2 → b.f2.length ≤ d →
    Calls Try.prog 16 #[.agg #[.int .i64 a.f0, .string a.f1, .slice A a.f2.length c], .agg #[.int .i64 b.f0, .string b.f1, .slice B b.f2.length d]] w fun en w' => en = .returned (.bool (sameE a b)) ∧ Below w.heap.size w w' := by
  induction m with
  | zero => intro a b A B c d w h; exact absurd h (by have := szE_pos a; omega)
  | succ m ih =>
    intro a b A B c d w hs hr hc hr2 hd
    have hm1 := hr.2.1
    have hm2 := hr2.2.1
    have HM := TwoBox.made w a b A B c d
    have hq := sameE_eq a b
    have HE := Lib.hid hq
    have HR := Aside0.mk hr
    have HR2 := Aside0.mk hr2
    have hsz := szE_eq a
    have hs1 : szL a.f2 ≤ m := by omega
    clear hq hr hr2 hs hsz
    by_cases h0 : a.f0 = b.f0
    · have e0 : (a.f0 != b.f0) = false := by simpa using h0
      have e0' : (a.f0 == b.f0) = true := by simpa using h0
      by_cases h1 : a.f1 = b.f1
      · have e1 : (a.f1.toList != b.f1.toList) = false := by rw [sNe]; simpa using h1
        have e1' : (a.f1.toList == b.f1.toList) = true := by rw [sEq]; simpa using h1
        by_cases h2 : a.f2.length = b.f2.length
        · have e2 : ((a.f2.length : Int) != (b.f2.length : Int)) = false := by simp only [bne_eq_false_iff_eq]; omega
          have e2' : ((a.f2.length : Int) == (b.f2.length : Int)) = true := by simp only [beq_iff_eq]; omega
          have H0 := Lib.hid h0
          have H1 := Lib.hid h1
          have H2 := Lib.hid h2
          have HT := Aside0.mk HM
          clear h0 h1 h2 HM
          go_enter Try.func16, Try.ntmps16
          go_wp2
          go_loopg [5] a.f2.length (fun gg s5 wr => ∃ kk : Nat, kk ≤ a.f2.length ∧ a.f2.length - kk ≤ gg ∧ s5 = .int .i64 kk ∧ Aside0 (∀ j x y, j < kk → a.f2[j]? = some x → b.f2[j]? = some y → sameE x y = true) ∧ Aside0 (TwoBox w a b A B c d wr))
          case atStart => exact ⟨0, Nat.zero_le _, by omega, rfl, ⟨fun j x y hj => absurd hj (Nat.not_lt_zero _)⟩, HT⟩
          case round =>
            obtain ⟨kk, hkk, hg, rfl, HI, HW⟩ := hrel
            obtain ⟨g0, g1, g2, g3, g4, g5, g6⟩ := HW.out
            by_cases hlt : kk < a.f2.length
            · have hltz : (kk : Int) < (a.f2.length : Int) := by omega
              have hlt2 : kk < b.f2.length := by have := H2.out; omega
              have hltz2 : (kk : Int) < (b.f2.length : Int) := by omega
              obtain ⟨ad, c0, c1, c2, rfl, hK, k0, k1, k2⟩ := get3 rfl (Kd.C_below HR.out g0) kk hlt
              obtain ⟨A2, a2, rfl, rfl, rfl, hl2, hi2⟩ := kE_cells hK
              obtain ⟨bd, d0, d1, d2, rfl, hK2, l0, l1, l2⟩ := get3 rfl (Kd.C_below HR2.out g0) kk hlt2
              obtain ⟨B2, b2, rfl, rfl, rfl, hm2, hi3⟩ := kE_cells hK2
              have hx : a.f2[kk]? = some a.f2[kk] := List.getElem?_eq_getElem hlt
              have hy : b.f2[kk]? = some b.f2[kk] := List.getElem?_eq_getElem hlt2
              have hle := szL_mem (List.getElem_mem hlt)
              have HC := Lib.hid (fun W (hb : Below wr.heap.size wr W) => (ih a.f2[kk] b.f2[kk] A2 B2 a2 b2 W (by omega) (Kd.C_below hi2 hb) hl2 (Kd.C_below hi3 hb) hm2).mono (R' := fun e W' => e = .returned (.bool (sameE a.f2[kk] b.f2[kk])) ∧ TwoBox w a b (some ad) (some bd) c d W' ∧ Below W.heap.size W W') (by rintro e W' ⟨h1, h2⟩; exact ⟨h1, HW.out.step (hb.trans (h2.mono hb.size)), h2⟩))
              have HX := Lib.hid hx
              have HY := Lib.hid hy
              clear hK hK2 hl2 hi2 hm2 hi3 hx hy hle
              have hb := below_drew (Below.refl wr.heap.size wr)
              have hbr := Below.refl wr.heap.size wr
              cases hs : sameE a.f2[kk] b.f2[kk] with
              | true =>
                have HS := Lib.hid hs
                rw [hs] at HC
                go_wp2_with fail
                go_region_held3 (fun W => Below wr.heap.size wr W ∧ W.cell? ⟨w.heap.size, 2, none⟩ = some (.slice (some ad) a.f2.length c) ∧ W.cell? ⟨w.heap.size + 1, 2, none⟩ = some (.slice (some bd) b.f2.length d) ∧ W.cell? (ad.add (kk * 3)) = some (.int .i64 a.f2[kk].f0) ∧ W.cell? ⟨(ad.add (kk * 3)).block, (ad.add (kk * 3)).off + 1, none⟩ = some (.string a.f2[kk].f1) ∧ W.cell? ⟨(ad.add (kk * 3)).block, (ad.add (kk * 3)).off + 2, none⟩ = some (.slice A2 a.f2[kk].f2.length a2) ∧ W.cell? (bd.add (kk * 3)) = some (.int .i64 b.f2[kk].f0) ∧ W.cell? ⟨(bd.add (kk * 3)).block, (bd.add (kk * 3)).off + 1, none⟩ = some (.string b.f2[kk].f1) ∧ W.cell? ⟨(bd.add (kk * 3)).block, (bd.add (kk * 3)).off + 2, none⟩ = some (.slice B2 b.f2[kk].f2.length b2)) (((repeat' apply And.intro) <;> first | assumption | exact pw_cell_below hb (by assumption) | exact below_step (by assumption) hb)) (first | (go_at_call 16; refine (HC.out _ (by assumption)).mono ?_; rintro en w' ⟨rfl, hS, hb⟩))
                go_wp2
                go_roundg (a.f2.length - (kk + 1))
                case measure => omega
                case rel => exact ⟨kk + 1, by omega, by omega, by go_num, ⟨fun j x y hj hx hy => by
                  rcases Nat.lt_or_ge j kk with h | h
                  · exact HI.out j x y h hx hy
                  · obtain rfl : j = kk := by omega
                    rw [HX.out] at hx; rw [HY.out] at hy
                    cases hx; cases hy; exact HS.out⟩, ⟨hS⟩⟩
              | false =>
                have HS := Lib.hid hs
                rw [hs] at HC
                go_wp2_with fail
                go_region_held3 (fun W => Below wr.heap.size wr W ∧ W.cell? ⟨w.heap.size, 2, none⟩ = some (.slice (some ad) a.f2.length c) ∧ W.cell? ⟨w.heap.size + 1, 2, none⟩ = some (.slice (some bd) b.f2.length d) ∧ W.cell? (ad.add (kk * 3)) = some (.int .i64 a.f2[kk].f0) ∧ W.cell? ⟨(ad.add (kk * 3)).block, (ad.add (kk * 3)).off + 1, none⟩ = some (.string a.f2[kk].f1) ∧ W.cell? ⟨(ad.add (kk * 3)).block, (ad.add (kk * 3)).off + 2, none⟩ = some (.slice A2 a.f2[kk].f2.length a2) ∧ W.cell? (bd.add (kk * 3)) = some (.int .i64 b.f2[kk].f0) ∧ W.cell? ⟨(bd.add (kk * 3)).block, (bd.add (kk * 3)).off + 1, none⟩ = some (.string b.f2[kk].f1) ∧ W.cell? ⟨(bd.add (kk * 3)).block, (bd.add (kk * 3)).off + 2, none⟩ = some (.slice B2 b.f2[kk].f2.length b2)) (((repeat' apply And.intro) <;> first | assumption | exact pw_cell_below hb (by assumption) | exact below_step (by assumption) hb)) (first | (go_at_call 16; refine (HC.out _ (by assumption)).mono ?_; rintro en w' ⟨rfl, hS, hb⟩))
                go_wp2
                go_ret
                exact ⟨retb (by rw [HE.out, eqL_false HX.out HY.out HS.out]; simp), hS.1⟩
            · have : kk = a.f2.length := by omega
              subst this
              go_wp2
              go_ret
              exact ⟨retb (by rw [HE.out, H0.out, H1.out, eqL_true H2.out HI.out]; simp), g0⟩
        · have e2 : ((a.f2.length : Int) != (b.f2.length : Int)) = true := by simp only [bne_iff_ne, ne_eq]; omega
          have e2' : ((a.f2.length : Int) == (b.f2.length : Int)) = false := by simp only [beq_eq_false_iff_ne, ne_eq]; omega
          have H2 := Lib.hid h2
          clear h0 h1 h2
          go_enter Try.func16, Try.ntmps16
          go_wp2
          go_ret
          exact ⟨retb (by rw [HE.out, eqL_len H2.out]; simp), below_alloc2 _ _ _⟩
      · have e1 : (a.f1.toList != b.f1.toList) = true := by rw [sNe]; simpa using h1
        have e1' : (a.f1.toList == b.f1.toList) = false := by rw [sEq]; simpa using h1
        have H1 := Lib.hid h1
        clear h0 h1
        go_enter Try.func16, Try.ntmps16
        go_wp2
        go_ret
        exact ⟨retb (by rw [HE.out]; simp [H1.out]), below_alloc2 _ _ _⟩
    · have e0 : (a.f0 != b.f0) = true := by simpa using h0
      have e0' : (a.f0 == b.f0) = false := by simpa using h0
      have H0 := Lib.hid h0
      clear h0
      go_enter Try.func16, Try.ntmps16
      go_wp2
      go_ret
      exact ⟨retb (by rw [HE.out]; simp [H0.out]), below_alloc2 _ _ _⟩
end Go.Proofs.Ytacefdkfbpgedaa.Mine
/- The reference's Vars. -/
namespace Go.Proofs.Ytacefdkfbpgedaa.Mine
open Go.Proofs.Ytacefdkfbpgedaa.PProgExprs
open Go.RowKit Go.Shelf Go.Proofs.YtacefdkfbpgedaaW.PrintWords Go.Proofs.YtacefdkfbpgedaaW.PrintLast Go.Proofs.YtacefdkfbpgedaaW.PrintMore
set_option linter.unusedVariables false
set_option linter.unusedSimpArgs false

set_option maxRecDepth 100000 in
set_option maxHeartbeats 4000000 in
theorem c_rVars (e : Ex) (A : Option Addr) (c : Nat) (w : World) (hs : szE e ≤ 1000000) (hr : Kd.C k24 w A e.f2.length e.f2) (hc : e.f2.length ≤ c) :
    Calls Try.prog 23 #[.agg #[.int .i64 e.f0, .string e.f1, .slice A e.f2.length c]] w fun en w' => ∃ v, en = .returned v ∧ OwnS w' w.heap.size v (varsL (plE e)) ∧ Below w.heap.size w w' := by
  have q0 := below_alloc1 w (.cells #[.int .i64 e.f0, .string e.f1, .slice A e.f2.length c] 24)
  have HC := Lib.hid (c_rPlaces _ e A c (w.alloc (.cells #[.int .i64 e.f0, .string e.f1, .slice A e.f2.length c] 24)) (fun k => k < w.heap.size) (Nat.le_refl _) hs (Kd.F_below (Kd.C_F k24_heap hr) q0) (fun k hk => by have := q0.size; omega) hc)
  have Q0 := Aside0.mk q0
  have hl := length_plE e
  obtain ⟨pl, hpl⟩ : ∃ pl, plE e = pl := ⟨_, rfl⟩
  rw [hpl] at HC hl ⊢
  have hl2 : pl.length ≤ 1000000 := by omega
  clear hr q0 hpl hl
  go_enter Try.func23, Try.ntmps23
  go_wp2_with fail
  refine HC.out.mono ?_
  rintro en w1 ⟨v, rfl, hN, hb⟩
  obtain ⟨A3, c3, rfl, hc3, hR3⟩ := Kd.N_reads hN
  have hm := hR3.2.1
  have hB1 := Q0.out.trans (hb.mono Q0.out.size)
  have HB := Aside0.mk hB1
  have HR := Aside0.mk hR3
  clear hN hb hR3 hB1
  go_wp2
  go_loopg [3, 5] pl.length (fun gg s2 s4 wr => ∃ kk : Nat, kk ≤ pl.length ∧ pl.length - kk ≤ gg ∧ s4 = .int .i64 kk ∧ Aside0 (OwnS wr w1.heap.size s2 (varsL (pl.take kk))) ∧ Aside0 (Below w1.heap.size w1 wr))
  case atStart => exact ⟨0, Nat.zero_le _, by omega, rfl, ⟨own_nil _ _ _ _⟩, ⟨Below.refl _ _⟩⟩
  case round =>
    obtain ⟨kk, hkk, hg, rfl, HO, HW⟩ := hrel
    by_cases hlt : kk < pl.length
    · have hltz : (kk : Int) < (pl.length : Int) := by omega
      obtain ⟨ad, c0, c1, c2, rfl, hK, k0, k1, k2⟩ := get3 rfl (Kd.C_below HR.out HW.out) kk hlt
      obtain ⟨A2, a2, rfl, rfl, rfl, hl2, hi2⟩ := kE_cells hK
      obtain ⟨Ao, co, rfl, hco, hro⟩ := HO.out.reads
      have hsn := varsL_snoc (pl.take kk) pl[kk]
      rw [← take_snoc hlt] at hsn
      have hvl := varsL_len (pl.take kk)
      rw [List.length_take] at hvl
      have HSn := Lib.hid hsn
      have HIn := Lib.hid (fun W (hb : Below wr.heap.size wr W) => c_rIn Ao co (varsL (pl.take kk)) pl[kk].f1 W (Kd.C_below hro hb) hco)
      have HRo := Lib.hid hro
      clear hK hi2 hl2 hsn hro
      by_cases hx : pl[kk].f0 = 1
      · have hxb : (pl[kk].f0 == 1) = true := by simpa using hx
        cases hm2 : (varsL (pl.take kk)).any (fun x => decide (x = pl[kk].f1)) with
        | true =>
          have HM := Lib.hid hm2
          rw [hm2] at HIn
          clear hm2
          go_wp2_with fail
          refine (HIn.out _ (Below.refl _ _)).mono ?_
          rintro en w' ⟨rfl, rfl⟩
          go_wp2
          go_roundg (pl.length - (kk + 1))
          case measure => omega
          case rel => exact ⟨kk + 1, by omega, by omega, by go_num, ⟨by rw [HSn.out, if_pos hx, onceL, HM.out]; exact HO.out⟩, HW⟩
        | false =>
          have HM := Lib.hid hm2
          rw [hm2] at HIn
          clear hm2
          have HX := Lib.hid hx
          have hwl := HW.out.size
          go_wp2_with fail
          refine (HIn.out _ (Below.refl _ _)).mono ?_
          rintro en w' ⟨rfl, rfl⟩
          go_wp2_with (at_builtin; refine print_append_of (w0 := w') Value.string w1.heap.size rfl _ _ 25 9 _ _ rfl Try.underlying25 infoStr rfl (by decide) (.slice Ao (varsL (pl.take kk)).length co) (varsL (pl.take kk)) pl[kk].f1 rfl rfl rfl HO.out (Below.refl _ _) hwl (by omega) ?_; intro v1 w2 hown hbel hg2 hat2)
          have HOw := Aside0.mk hown
          have HB2 := Aside0.mk (HW.out.trans hbel)
          clear hown hbel hg2 hat2
          go_wp2
          go_roundg (pl.length - (kk + 1))
          case measure => omega
          case rel => exact ⟨kk + 1, by omega, by omega, by go_num, ⟨by rw [HSn.out, if_pos HX.out, onceL, HM.out]; exact HOw.out⟩, HB2⟩
      · have hxb : (pl[kk].f0 == 1) = false := by simpa using hx
        have HX := Lib.hid hx
        clear hx
        go_wp2
        go_roundg (pl.length - (kk + 1))
        case measure => omega
        case rel => exact ⟨kk + 1, by omega, by omega, by go_num, ⟨by rw [HSn.out, if_neg HX.out]; exact HO.out⟩, HW⟩
    · have : kk = pl.length := by omega
      subst this
      go_wp2
      go_ret
      exact ⟨_, rfl, by have := HO.out; rw [List.take_of_length_le (Nat.le_refl _)] at this; exact own_weaken this HB.out.size, HB.out.trans (HW.out.mono HB.out.size)⟩
end Go.Proofs.Ytacefdkfbpgedaa.Mine
