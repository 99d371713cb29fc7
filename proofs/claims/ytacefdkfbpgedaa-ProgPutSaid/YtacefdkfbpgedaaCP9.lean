/- The law's Expr: expressions that are made of a sack. -/
import Derived.Test.YtacefdkfbpgedaaCP1
import Derived.Test.YtacefdkfbpgedaaCP5
import Derived.Test.YtacefdkfbpgedaaCP8
import Derived.Deep.DeepCutAuto
namespace Go.Proofs.Ytacefdkfbpgedaa.Mine
open Go.Proofs.Ytacefdkfbpgedaa.PProgExprs
open Go.RowKit Go.Shelf Go.Proofs.YtacefdkfbpgedaaW.PrintWords Go.Proofs.YtacefdkfbpgedaaW.PrintLast Go.Proofs.YtacefdkfbpgedaaW.PrintMore
set_option linter.unusedVariables false
set_option linter.unusedSimpArgs false
theorem Sack.far3 {B : Nat} {A : Option Addr} {n c m g : Nat} {W : World} {x y z : Value} (h : Sack B A n c m W) (hg : B ≠ g) : Sack B A n c m (((W.setCell ⟨g, 0, none⟩ x).setCell ⟨g, 1, none⟩ y).setCell ⟨g, 2, none⟩ z) := by
  obtain ⟨nx, st, h1, h2⟩ := h
  exact ⟨nx, st, h1, blk_far (blk_far (blk_far h2 hg _) hg _) hg _⟩
theorem Sack.far1 {B : Nat} {A : Option Addr} {n c m : Nat} {W : World} {p : Addr} {x : Value} (h : Sack B A n c m W) (hg : B ≠ p.block) : Sack B A n c m (W.setCell p x) := by
  obtain ⟨nx, st, h1, h2⟩ := h
  exact ⟨nx, st, h1, blk_far h2 hg _⟩
theorem Sack.grown {B : Nat} {A : Option Addr} {n c m : Nat} {W W' : World} {row : Option Nat} (h : Sack B A n c m W) (hg : W.grownBy W' row) (hne : some B ≠ row) : Sack B A n c m W' := by
  obtain ⟨nx, st, h1, h2⟩ := h
  exact ⟨nx, st, h1, blk_grown h2 hg hne⟩
set_option maxRecDepth 100000 in
set_option maxHeartbeats 4000000 in
theorem c_Expr0 (B : Nat) (A : Option Addr) (n c m : Nat) (zs : List Int) (vars : List ByteArray) (Av : Option Addr) (cv : Nat) (ars : List Nat) (Aa : Option Addr) (na ca : Nat) (within nested : Bool) (w : World)
    (hs : Sack B A n c m w) (hz : SackOk B A n c zs w) (hm : m ≤ 100000000000) (hv : Kd.F Kd.string w (fun k => k ≠ B) Av vars.length vars) (hcv : vars.length ≤ cv) (hvl : vars.length ≤ 1000) :
    Calls Try.prog 28 #[.pointer (some ⟨B, 0, none⟩), .slice Av vars.length cv, .slice Aa na ca, .int .i64 0, .bool within, .bool nested] w fun en w' =>
      ∃ (e : Ex) (v : Value), en = .returned (.agg #[.int .i64 e.f0, .string e.f1, v]) ∧ OwnE w' w.heap.size v e.f2 ∧ GenE vars ars nested within e ∧ szE e ≤ 1 ∧ Sack B A n c (m + 2) w' ∧ Fr (fun k => k = B) w w' := by
  have hBl : B < w.heap.size := by obtain ⟨_, _, _, h⟩ := hs; exact blk_lt h
  have hm1 := (Kd.F_now hv).2.1
  obtain ⟨W1, hW1⟩ : ∃ W1, w.alloc (.cells #[.int .i64 0, .string ⟨#[]⟩, .slice none 0 0] 24) = W1 := ⟨_, rfl⟩
  have q1 : Below w.heap.size w W1 := by rw [← hW1]; exact below_alloc1 _ _
  have b1 : W1.heap[w.heap.size]? = some (.cells #[.int .i64 0, .string ⟨#[]⟩, .slice none 0 0] 24 (0, 0)) := by rw [← hW1]; exact alloc_at _ _
  have HC := Lib.hid (c_Below B A n c m zs 6 W1 (hs.below q1) (hz.below q1) (by omega) (by decide) (by decide))
  have Q := Aside0.mk (Fr.of_below (fun k => k = B) q1)
  have P := Aside0.mk b1
  have Z := Aside0.mk (hz.below q1)
  have V := Aside0.mk (Kd.F_below hv q1)
  have HW1 := Lib.hid hW1
  clear hs hz hv q1 b1 hW1
  cases t1 : decide (0 < vars.length) with
  | false =>
    go_enter Try.func28, Try.ntmps28
    go_wp2_with fail
    rw [HW1.out]
    refine HC.out.mono ?_
    rintro en w2 ⟨r, rfl, hr, hS, hF⟩
    go_wp2_with fail
    have Q2 := Aside0.mk (Q.out.trans hF)
    have P2 := Aside0.mk (hF.blk P.out (by omega))
    have Z2 := Aside0.mk (Z.out.fr hF)
    have hs2 := Q2.out.size
    obtain ⟨W3, hW3⟩ : ∃ W3, w2.alloc (.cells #[.string ⟨#[97]⟩, .string ⟨#[110, 105, 108]⟩] 9) = W3 := ⟨_, rfl⟩
    have q3 : Below w2.heap.size w2 W3 := by rw [← hW3]; exact below_alloc1 _ _
    have b3 : W3.heap[w2.heap.size]? = some (.cells #[.string ⟨#[97]⟩, .string ⟨#[110, 105, 108]⟩] 9 (0, 0)) := by rw [← hW3]; exact alloc_at _ _
    have HC2 := Lib.hid (c_Below B A n c (m + 1) zs 2 W3 (hS.below q3) (Z2.out.below q3) (by omega) (by decide) (by decide))
    have Q3 := Aside0.mk (Q2.out.after_below q3)
    have P3 := Aside0.mk (blk_below P2.out q3)
    have S3 := Aside0.mk b3
    have HW3 := Lib.hid hW3
    clear hS hF q3 b3 hW3
    rw [HW3.out]
    refine HC2.out.mono ?_
    rintro en w4 ⟨r2, rfl, hr2, hS, hF⟩
    have Q4 := Aside0.mk (Q3.out.trans hF)
    have P4 := Aside0.mk (hF.blk P3.out (by omega))
    have b4 := hF.blk S3.out (by omega)
    have y0 := (blk_cell b4 0).trans rfl
    have y1 := (blk_cell b4 1).trans rfl
    have hs4 := Q4.out.size
    clear hF b4
    obtain ⟨s, hsx, hhd⟩ : ∃ s : ByteArray, w4.cell? ⟨w2.heap.size, r2, none⟩ = some (.string s) ∧ headOk s 0 := by
      rcases (show r2 = 0 ∨ r2 = 1 by omega) with rfl | rfl
      · exact ⟨_, y0, .inl ⟨rfl, .inl rfl⟩⟩
      · exact ⟨_, y1, .inl ⟨rfl, .inr rfl⟩⟩
    have hr2z : (r2 : Int) < 2 := by omega
    clear y0 y1 HC2 HW3
    go_wp2_with fail
    refine (c_M _ _ _ _ _).mono ?_
    rintro en w5 ⟨rfl, hb⟩
    have b5 := blk_below P4.out hb
    have y0 := (blk_cell b5 0).trans rfl
    have y1 := (blk_cell b5 1).trans rfl
    have y2 := (blk_cell b5 2).trans rfl
    have fy := fun i => blk_frozen b5 i
    have B5 := Aside0.mk b5
    have Q5 := Aside0.mk (Q4.out.after_below hb)
    have S5 := Aside0.mk (hS.below hb)
    clear hb b5 hS hsx
    go_wp2_with fail
    have b6 := blk_put (blk_put (blk_put B5.out 0 (.int .i64 2) rfl) 1 (.string s) rfl) 2 (.slice none 0 0) rfl
    refine bodyPost_ret (results_cell_row rfl _ _ w.heap.size 24 #[.int .i64 2, .string s, .slice none 0 0] (0, 0) _ rfl b6 Try.underlying24 rfl (by kernel_rfl)) rfl ?_
    exact ⟨⟨2, s, []⟩, _, rfl, Kd.R_nil _ _ _ _ _, by rw [genE_eq]; exact .inr (.inl ⟨rfl, hhd, by simp [GenL]⟩), by simp [szE, szL], Sack.far3 S5.out (by omega), ((Q5.out.setCell (.inr (Nat.le_refl _)) _).setCell (.inr (Nat.le_refl _)) _).setCell (.inr (Nat.le_refl _)) _⟩
  | true =>
    have h1 : 0 < vars.length := of_decide_eq_true t1
    go_enter Try.func28, Try.ntmps28
    go_wp2_with fail
    rw [HW1.out]
    refine HC.out.mono ?_
    rintro en w2 ⟨r, rfl, hr, hS, hF⟩
    cases t3 : decide ((r : Int) < 4) with
    | true =>
      go_wp2_with fail
      have Q2 := Aside0.mk (Q.out.trans hF)
      have P2 := Aside0.mk (hF.blk P.out (by omega))
      have Z2 := Aside0.mk (Z.out.fr hF)
      have V2 := Aside0.mk (Kd.F_step V.out (fun k hk hlt => hF.block k hlt hk))
      have HC2 := Lib.hid (c_Below B A n c (m + 1) zs vars.length w2 hS Z2.out (by omega) h1 (by omega))
      clear hS hF
      refine HC2.out.mono ?_
      rintro en w4 ⟨r2, rfl, hr2, hS, hF⟩
      have Q4 := Aside0.mk (Q2.out.trans hF)
      have P4 := Aside0.mk (hF.blk P2.out (by omega))
      obtain ⟨ad, c0, rfl, hK, _, y0⟩ := gett1 rfl (Kd.F_now (Kd.F_step V2.out (fun k hk hlt => hF.block k hlt hk))) r2 hr2
      have hmem := List.getElem_mem hr2
      obtain ⟨s, hsx⟩ : ∃ s, vars[r2] = s := ⟨_, rfl⟩
      rw [hsx] at hK hmem
      obtain rfl : c0 = .string s := by simpa [Kd.string, Kd.scalar] using hK
      have hr2z : (r2 : Int) < (vars.length : Int) := by omega
      have hs4 := Q4.out.size
      clear hF hK hsx HC2
      go_wp2_with fail
      refine (c_V _ _).mono ?_
      rintro en w5 ⟨rfl, hb⟩
      simp only [encH, List.length_nil]
      have b5 := blk_below P4.out hb
      have y0' := (blk_cell b5 0).trans rfl
      have y1' := (blk_cell b5 1).trans rfl
      have y2' := (blk_cell b5 2).trans rfl
      have fy := fun i => blk_frozen b5 i
      have B5 := Aside0.mk b5
      have Q5 := Aside0.mk (Q4.out.after_below hb)
      have S5 := Aside0.mk (hS.below hb)
      clear hb b5 hS y0
      go_wp2_with fail
      have b6 := blk_put (blk_put (blk_put B5.out 0 (.int .i64 1) rfl) 1 (.string s) rfl) 2 (.slice none 0 0) rfl
      refine bodyPost_ret (results_cell_row rfl _ _ w.heap.size 24 #[.int .i64 1, .string s, .slice none 0 0] (0, 0) _ rfl b6 Try.underlying24 rfl (by kernel_rfl)) rfl ?_
      exact ⟨⟨1, s, []⟩, _, rfl, Kd.R_nil _ _ _ _ _, by rw [genE_eq]; exact .inl ⟨rfl, rfl, hmem⟩, by simp [szE, szL], Sack.far3 S5.out (by omega), ((Q5.out.setCell (.inr (Nat.le_refl _)) _).setCell (.inr (Nat.le_refl _)) _).setCell (.inr (Nat.le_refl _)) _⟩
    | false =>
      have t4 : decide ((r : Int) < 2) = false := decide_eq_false (by have := of_decide_eq_false t3; omega)
      go_wp2_with fail
      have Q2 := Aside0.mk (Q.out.trans hF)
      have P2 := Aside0.mk (hF.blk P.out (by omega))
      have Z2 := Aside0.mk (Z.out.fr hF)
      have hs2 := Q2.out.size
      obtain ⟨W3, hW3⟩ : ∃ W3, w2.alloc (.cells #[.string ⟨#[97]⟩, .string ⟨#[110, 105, 108]⟩] 9) = W3 := ⟨_, rfl⟩
      have q3 : Below w2.heap.size w2 W3 := by rw [← hW3]; exact below_alloc1 _ _
      have b3 : W3.heap[w2.heap.size]? = some (.cells #[.string ⟨#[97]⟩, .string ⟨#[110, 105, 108]⟩] 9 (0, 0)) := by rw [← hW3]; exact alloc_at _ _
      have HC2 := Lib.hid (c_Below B A n c (m + 1) zs 2 W3 (hS.below q3) (Z2.out.below q3) (by omega) (by decide) (by decide))
      have Q3 := Aside0.mk (Q2.out.after_below q3)
      have P3 := Aside0.mk (blk_below P2.out q3)
      have S3 := Aside0.mk b3
      have HW3 := Lib.hid hW3
      clear hS hF q3 b3 hW3
      rw [HW3.out]
      refine HC2.out.mono ?_
      rintro en w4 ⟨r2, rfl, hr2, hS, hF⟩
      have Q4 := Aside0.mk (Q3.out.trans hF)
      have P4 := Aside0.mk (hF.blk P3.out (by omega))
      have b4 := hF.blk S3.out (by omega)
      have y0 := (blk_cell b4 0).trans rfl
      have y1 := (blk_cell b4 1).trans rfl
      have hs4 := Q4.out.size
      clear hF b4
      obtain ⟨s, hsx, hhd⟩ : ∃ s : ByteArray, w4.cell? ⟨w2.heap.size, r2, none⟩ = some (.string s) ∧ headOk s 0 := by
        rcases (show r2 = 0 ∨ r2 = 1 by omega) with rfl | rfl
        · exact ⟨_, y0, .inl ⟨rfl, .inl rfl⟩⟩
        · exact ⟨_, y1, .inl ⟨rfl, .inr rfl⟩⟩
      have hr2z : (r2 : Int) < 2 := by omega
      clear y0 y1 HC2 HW3
      go_wp2_with fail
      refine (c_M _ _ _ _ _).mono ?_
      rintro en w5 ⟨rfl, hb⟩
      have b5 := blk_below P4.out hb
      have y0 := (blk_cell b5 0).trans rfl
      have y1 := (blk_cell b5 1).trans rfl
      have y2 := (blk_cell b5 2).trans rfl
      have fy := fun i => blk_frozen b5 i
      have B5 := Aside0.mk b5
      have Q5 := Aside0.mk (Q4.out.after_below hb)
      have S5 := Aside0.mk (hS.below hb)
      clear hb b5 hS hsx
      go_wp2_with fail
      have b6 := blk_put (blk_put (blk_put B5.out 0 (.int .i64 2) rfl) 1 (.string s) rfl) 2 (.slice none 0 0) rfl
      refine bodyPost_ret (results_cell_row rfl _ _ w.heap.size 24 #[.int .i64 2, .string s, .slice none 0 0] (0, 0) _ rfl b6 Try.underlying24 rfl (by kernel_rfl)) rfl ?_
      exact ⟨⟨2, s, []⟩, _, rfl, Kd.R_nil _ _ _ _ _, by rw [genE_eq]; exact .inr (.inl ⟨rfl, hhd, by simp [GenL]⟩), by simp [szE, szL], Sack.far3 S5.out (by omega), ((Q5.out.setCell (.inr (Nat.le_refl _)) _).setCell (.inr (Nat.le_refl _)) _).setCell (.inr (Nat.le_refl _)) _⟩
end Go.Proofs.Ytacefdkfbpgedaa.Mine
namespace Go.Proofs.Ytacefdkfbpgedaa.Mine
open Go.Proofs.Ytacefdkfbpgedaa.PProgExprs
open Go.RowKit Go.Shelf Go.Proofs.YtacefdkfbpgedaaW.PrintWords Go.Proofs.YtacefdkfbpgedaaW.PrintLast Go.Proofs.YtacefdkfbpgedaaW.PrintMore
set_option linter.unusedVariables false
set_option linter.unusedSimpArgs false
set_option maxRecDepth 100000
theorem idx32 (r : Nat) (hr : r < 3) : ∃ a b : ByteArray, headOk a r ∧ headOk b r ∧ ∀ W : World, (Instr.index 96 (.agg #[.string ⟨#[97]⟩, .string ⟨#[110, 105, 108]⟩, .string ⟨#[115]⟩, .string ⟨#[117]⟩, .string ⟨#[99, 111, 110, 115]⟩, .string ⟨#[112]⟩]) (.int .i64 (r : Int))).run Try.prog W = .ok (.agg #[.string a, .string b]) W := by
  have hc : Try.prog.cellsOf 95 = 2 := by kernel_rfl
  have hc1 : Try.prog.cellsOf 9 = 1 := by kernel_rfl
  rcases (show r = 0 ∨ r = 1 ∨ r = 2 by omega) with rfl | rfl | rfl
  · exact ⟨_, _, .inl ⟨rfl, .inl rfl⟩, .inl ⟨rfl, .inr rfl⟩, fun W => by simp [Instr.index, run_underlying Try.underlying96, asIntOf, part, isAgg, run_underlying Try.underlying95, go_sem, hc, hc1]⟩
  · exact ⟨_, _, .inr (.inl ⟨rfl, .inl rfl⟩), .inr (.inl ⟨rfl, .inr rfl⟩), fun W => by simp [Instr.index, run_underlying Try.underlying96, asIntOf, part, isAgg, run_underlying Try.underlying95, go_sem, hc, hc1]⟩
  · exact ⟨_, _, .inr (.inr ⟨rfl, .inl rfl⟩), .inr (.inr ⟨rfl, .inr rfl⟩), fun W => by simp [Instr.index, run_underlying Try.underlying96, asIntOf, part, isAgg, run_underlying Try.underlying95, go_sem, hc, hc1]⟩
theorem idx2 (a b : ByteArray) (k r : Nat) (ha : headOk a k) (hb : headOk b k) (hr : r < 2) : ∃ s : ByteArray, headOk s k ∧ ∀ W : World, (Instr.index 95 (.agg #[.string a, .string b]) (.int .i64 (r : Int))).run Try.prog W = .ok (.string s) W := by
  have hc1 : Try.prog.cellsOf 9 = 1 := by kernel_rfl
  rcases (show r = 0 ∨ r = 1 by omega) with rfl | rfl
  · exact ⟨a, ha, fun W => by simp [Instr.index, run_underlying Try.underlying95, asIntOf, part, isAgg, run_underlying Try.underlying9, go_sem, hc1]⟩
  · exact ⟨b, hb, fun W => by simp [Instr.index, run_underlying Try.underlying95, asIntOf, part, isAgg, run_underlying Try.underlying9, go_sem, hc1]⟩
theorem c_Below2 (B : Nat) (A : Option Addr) (n c m : Nat) (zs : List Int) (w : World) (hs : Sack B A n c m w) (hz : SackOk B A n c zs w) (hm : m ≤ 1000000000000) :
    Calls Try.prog 71 #[.pointer (some ⟨B, 0, none⟩), .int .i64 2] w fun en w' => ∃ r : Nat, en = .returned (.int .i64 (r : Int)) ∧ r < 2 ∧ Sack B A n c (m + 1) w' ∧ Fr (fun k => k = B) w w' :=
  c_Below B A n c m zs 2 w hs hz hm (by decide) (by decide)
def ExprC (B : Nat) (A : Option Addr) (n c : Nat) (zs : List Int) (vars : List ByteArray) (Av : Option Addr) (cv : Nat) (ars : List Nat) (Aa : Option Addr) (ca : Nat) (d : Nat) : Prop :=
  ∀ (m : Nat) (within nested : Bool) (w : World), Sack B A n c m w → SackOk B A n c zs w → m + exD d ≤ 100000000000 → Kd.F Kd.string w (fun k => k ≠ B) Av vars.length vars → Kd.F (Kd.int .i64) w (fun k => k ≠ B) Aa ars.length (ars.map fun (k : Nat) => (k : Int)) →
    Calls Try.prog 28 #[.pointer (some ⟨B, 0, none⟩), .slice Av vars.length cv, .slice Aa ars.length ca, .int .i64 (d : Int), .bool within, .bool nested] w fun en w' =>
      ∃ (e : Ex) (v : Value), en = .returned (.agg #[.int .i64 e.f0, .string e.f1, v]) ∧ OwnE w' w.heap.size v e.f2 ∧ GenE vars ars nested within e ∧ szE e ≤ exS d ∧ Sack B A n c (m + exD d) w' ∧ Fr (fun k => k = B) w w'
set_option maxHeartbeats 8000000 in
theorem c_Expr_succ (B : Nat) (A : Option Addr) (n c : Nat) (zs : List Int) (vars : List ByteArray) (Av : Option Addr) (cv : Nat) (ars : List Nat) (Aa : Option Addr) (ca : Nat) (hcv : vars.length ≤ cv) (hvl : vars.length ≤ 1000) (hca : ars.length ≤ ca) (hal : ars.length ≤ 26) (ha0 : 0 < ars.length) (har : ∀ a ∈ ars, a ≤ 2) (d : Nat) (hd : d ≤ 1000)
    (IH : ExprC B A n c zs vars Av cv ars Aa ca d) : ExprC B A n c zs vars Av cv ars Aa ca (d + 1) := by
  intro m within nested w hs hz hm hv ha
  rw [exD] at hm
  have hwd : IntKind.i64.wrap (d : Int) = (d : Int) := by simp only [IntKind.wrap, IntKind.signed, IntKind.bits]; simp; omega
  have hBl : B < w.heap.size := by obtain ⟨_, _, _, h⟩ := hs; exact blk_lt h
  have hm1 := (Kd.F_now hv).2.1
  obtain ⟨W1, hW1⟩ : ∃ W1, w.alloc (.cells #[.int .i64 0, .string ⟨#[]⟩, .slice none 0 0] 24) = W1 := ⟨_, rfl⟩
  have q1 : Below w.heap.size w W1 := by rw [← hW1]; exact below_alloc1 _ _
  have z1 : W1.heap.size = w.heap.size + 1 := by rw [← hW1]; simp
  have HP := Aside0.mk (show W1.heap[w.heap.size]? = some (.cells #[.int .i64 0, .string ⟨#[]⟩, .slice none 0 0] 24 (0, 0)) by rw [← hW1]; exact alloc_at _ _)
  have HC := Lib.hid (c_Below B A n c m zs 6 W1 (hs.below q1) (hz.below q1) (by omega) (by decide) (by decide))
  have HZ0 := Lib.hid hz
  have HV0 := Lib.hid hv
  have HA0 := Lib.hid ha
  have HQ := Aside0.mk (Fr.of_below (fun k => k = B) q1)
  have HW1 := Lib.hid hW1
  have hz1 := Nat.le_of_eq z1.symm
  clear hs hz hv ha q1 hW1 z1
  go_enter Try.func28, Try.ntmps28
  go_wp2_with fail
  rw [HW1.out]
  refine HC.out.mono ?_
  rintro en w2 ⟨r, rfl, hr, hS, hF⟩
  have HQ := Aside0.mk (HQ.out.trans hF)
  have HP := Aside0.mk (hF.blk HP.out (by omega))
  have HS := Aside0.mk hS
  have hs2 := hF.size
  clear hS hF HC HW1
  obtain ⟨b, hb⟩ : ∃ b, (decide (0 < vars.length) && decide ((r : Int) < 2)) = b := ⟨_, rfl⟩
  have hd0 : (((d : Int) + 1) == 0) = false := by simp; omega
  have hd1 : decide ((0 : Int) < (d : Int) + 1) = true := decide_eq_true (by omega)
  go_upto_region 2 with fail
  go_cut [20] (fun s20 wx => s20 = .bool b ∧ wx = w2)
  case first =>
    cases t1 : decide (0 < vars.length) with
    | false =>
      rw [t1, Bool.false_and] at hb
      subst hb
      go_wp2_with fail
      go_meet
      exact ⟨rfl, rfl⟩
    | true =>
      rw [t1, Bool.true_and] at hb
      cases t4 : decide ((r : Int) < 2) with
      | false =>
        rw [t4] at hb
        subst hb
        go_wp2_with fail
        go_meet
        exact ⟨rfl, rfl⟩
      | true =>
        rw [t4] at hb
        subst hb
        go_wp2_with fail
        go_meet
        exact ⟨rfl, rfl⟩
  case rest =>
    obtain ⟨rfl, hwc⟩ := hcut
    have hwc := hwc.symm
    subst hwc
    cases b with
    | true =>
      have h1 : 0 < vars.length := by simp only [Bool.and_eq_true, decide_eq_true_eq] at hb; exact hb.1
      clear hb
      have HZ2 := Aside0.mk (HZ0.out.fr HQ.out)
      have HC2 := Lib.hid (c_Below B A n c (m + 1) zs vars.length w2 HS.out HZ2.out (by omega) h1 (by omega))
      go_wp2_with fail
      refine HC2.out.mono ?_
      rintro en w4 ⟨r2, rfl, hr2, hS, hF⟩
      have HQ4 := Aside0.mk (HQ.out.trans hF)
      have HP4 := Aside0.mk (hF.blk HP.out (by omega))
      obtain ⟨ad, c0, rfl, hK, _, y0⟩ := gett1 rfl (Kd.F_now (Kd.F_step HV0.out (fun k hk hlt => HQ4.out.block k hlt hk))) r2 hr2
      have hmem := List.getElem_mem hr2
      obtain ⟨s, hsx⟩ : ∃ s, vars[r2] = s := ⟨_, rfl⟩
      rw [hsx] at hK hmem
      obtain rfl : c0 = .string s := by simpa [Kd.string, Kd.scalar] using hK
      have hr2z : (r2 : Int) < (vars.length : Int) := by omega
      have hs4 := HQ4.out.size
      have HS4 := Aside0.mk hS
      clear hF hK hsx HC2 hS
      go_wp2_with fail
      refine (c_V _ _).mono ?_
      rintro en w5 ⟨rfl, hb⟩
      simp only [encH, List.length_nil]
      have b5 := blk_below HP4.out hb
      have y0' := (blk_cell b5 0).trans rfl
      have y1' := (blk_cell b5 1).trans rfl
      have y2' := (blk_cell b5 2).trans rfl
      have fy := fun i => blk_frozen b5 i
      have B5 := Aside0.mk b5
      have Q5 := Aside0.mk (HQ4.out.after_below hb)
      have S5 := Aside0.mk (HS4.out.below hb)
      clear hb b5 y0
      go_wp2_with fail
      have b6 := blk_put (blk_put (blk_put B5.out 0 (.int .i64 1) rfl) 1 (.string s) rfl) 2 (.slice none 0 0) rfl
      refine bodyPost_ret (results_cell_row rfl _ _ w.heap.size 24 #[.int .i64 1, .string s, .slice none 0 0] (0, 0) _ rfl b6 Try.underlying24 rfl (by kernel_rfl)) rfl ?_
      exact ⟨⟨1, s, []⟩, _, rfl, Kd.R_nil _ _ _ _ _, by rw [genE_eq]; exact .inl ⟨rfl, rfl, hmem⟩, by simp [szE, szL, exS], (Sack.far3 S5.out (by omega)).mono (by rw [exD]; omega), ((Q5.out.setCell (.inr (Nat.le_refl _)) _).setCell (.inr (Nat.le_refl _)) _).setCell (.inr (Nat.le_refl _)) _⟩
    | false =>
      clear hb
      obtain ⟨b, hb⟩ : ∃ b, (((r : Int) == 5) && (nested || !within)) = b := ⟨_, rfl⟩
      go_upto_region 4 with fail
      go_cut [44] (fun s44 wx => s44 = .bool b ∧ wx = w2)
      case first =>
        cases t1 : ((r : Int) == 5) with
        | false =>
          rw [t1, Bool.false_and] at hb
          subst hb
          go_wp2_with fail
          go_meet
          exact ⟨rfl, rfl⟩
        | true =>
          rw [t1, Bool.true_and] at hb
          cases nested with
          | true =>
            rw [Bool.true_or] at hb
            subst hb
            go_wp2_with fail
            go_meet
            exact ⟨rfl, rfl⟩
          | false =>
            rw [Bool.false_or] at hb
            cases within <;> (simp only [Bool.not_true, Bool.not_false] at hb; subst hb; go_wp2_with fail; go_meet; exact ⟨rfl, rfl⟩)
      case rest =>
        obtain ⟨rfl, hwc⟩ := hcut
        have hwc := hwc.symm
        subst hwc
        cases b with
        | true =>
          have hnw : nested = true ∨ within = false := by
            simp only [Bool.and_eq_true, Bool.or_eq_true, Bool.not_eq_true'] at hb
            exact hb.2
          clear hb
          have HZ2 := Aside0.mk (HZ0.out.fr HQ.out)
          have HC2 := Lib.hid (c_Below B A n c (m + 1) zs ars.length w2 HS.out HZ2.out (by omega) ha0 (by omega))
          go_wp2_with fail
          refine HC2.out.mono ?_
          rintro en w3 ⟨r2, rfl, hr2, hS, hF⟩
          have HQ3 := Aside0.mk (HQ.out.trans hF)
          have HP3 := Aside0.mk (hF.blk HP.out (by omega))
          have HS3 := Aside0.mk hS
          have hs3 := HQ3.out.size
          clear hS hF HC2 HS HQ HP
          have HN := Lib.hid (c_name r2 w3 (by omega))
          go_wp2_with fail
          refine HN.out.mono ?_
          rintro en w4 ⟨rfl, hw4⟩
          have hw4 := hw4.symm
          subst hw4
          go_wp2_with fail
          refine (c_C _ _ _ _ _).mono ?_
          rintro en w4 ⟨rfl, hb⟩
          obtain ⟨g, hg⟩ : ∃ g, w4.heap.size = g := ⟨_, rfl⟩
          obtain ⟨W5, hW5⟩ : ∃ W5, w4.alloc (.cells #[.int .i64 3, .string (nameN r2), .slice none 0 0] 24) = W5 := ⟨_, rfl⟩
          have hb5 : Below w3.heap.size w3 W5 := by rw [← hW5]; exact hb.trans ((below_alloc1 _ _).mono hb.size)
          have GL := Aside0.mk (show W5.heap[g]? = some (.cells #[.int .i64 3, .string (nameN r2), .slice none 0 0] 24 (0, 0)) by rw [← hW5, ← hg]; exact alloc_at _ _)
          have hgs : g < W5.heap.size := by rw [← hW5, ← hg]; simp
          have hgw : w.heap.size < g := by have := hb.size; have := blk_lt HP3.out; omega
          have QL := Aside0.mk (HQ3.out.after_below hb5)
          have PL := Aside0.mk (blk_below HP3.out hb5)
          have SL := Aside0.mk (HS3.out.below hb5)
          have hrr : r2 < (ars.map fun (k : Nat) => (k : Int)).length := by rw [List.length_map]; exact hr2
          have HA5 := Kd.F_now (Kd.F_step HA0.out (fun k hk hlt => QL.out.block k hlt hk))
          rw [show ars.length = (ars.map fun (k : Nat) => (k : Int)).length by rw [List.length_map]] at HA5
          obtain ⟨ad, c0, rfl, hK, _, y0⟩ := gett1 rfl HA5 r2 hrr
          obtain ⟨na, hna⟩ : ∃ na, ars[r2] = na := ⟨_, rfl⟩
          obtain rfl : c0 = .int .i64 (na : Int) := by simpa [Kd.int, Kd.scalar, hna] using hK
          have hna2 : na ≤ 2 := by rw [← hna]; exact har _ (List.getElem_mem hr2)
          have HNa := Lib.hid (show ars[r2]? = some na by rw [List.getElem?_eq_getElem hr2, hna])
          have hr2z : (r2 : Int) < (ars.length : Int) := by omega
          have HW5 := Lib.hid hW5
          clear hb hb5 hW5 HA5 hK hna HN hrr
          go_upto_region 7 with fail
          rw [HW5.out]
          clear HW5 hg
          go_wp2_with fail
          go_loopg [69] na (fun gg sj wr => ∃ (kk : Nat) (l : List Ex) (v : Value), kk ≤ na ∧ na - kk ≤ gg ∧ sj = .int .i64 kk ∧ Aside0 (OwnE wr (g + 1) v l) ∧ Aside0 (GenL vars ars nested true l ∧ szL l ≤ kk * exS d) ∧ Aside0 (l.length = kk) ∧ Aside0 (Fr (fun k => k = B) w wr) ∧ Aside0 (wr.heap[g]? = some (.cells #[.int .i64 3, .string (nameN r2), v] 24 (0, 0))) ∧ Aside0 (wr.heap[w.heap.size]? = some (.cells #[.int .i64 0, .string ⟨#[]⟩, .slice none 0 0] 24 (0, 0))) ∧ Aside0 (Sack B A n c (m + 3 + kk * exD d) wr) ∧ g < wr.heap.size)
          case atStart => exact ⟨0, [], _, Nat.zero_le _, by omega, rfl, ⟨Kd.R_nil _ _ _ _ _⟩, ⟨by simp [GenL], by simp [szL]⟩, ⟨rfl⟩, QL, GL, PL, ⟨SL.out.mono (by omega)⟩, by omega⟩
          case round =>
            obtain ⟨kk, l, v, hkk, hg, rfl, HO, HL, HLL, HQ, HG, HP, HS, hZ⟩ := hrel
            have hwr := HQ.out.size
            have hl2 : l.length ≤ 2 := by rw [HLL.out]; omega
            by_cases hlt : kk < na
            · have hltz : (kk : Int) < (na : Int) := by omega
              obtain ⟨Al, cl, rfl⟩ := Kd.R_slice HO.out
              have HBd := Lib.hid (show kk * exD d + exD d ≤ 2 * exD d by
                have h1 : kk + 1 ≤ 2 := by omega
                have h2 := Nat.mul_le_mul_right (exD d) h1
                rw [Nat.succ_mul] at h2
                exact h2)
              have HC := Lib.hid (IH (m + 3 + kk * exD d) true nested wr.drew (HS.out.below (below_drew (Below.refl _ _))) (HZ0.out.fr (HQ.out.drew)) (by have := HBd.out; omega) (Kd.F_step HV0.out (fun k hk hlt => (HQ.out.drew).block k hlt hk)) (Kd.F_step HA0.out (fun k hk hlt => (HQ.out.drew).block k hlt hk)))
              have HGd := Aside0.mk (show wr.drew.heap[g]? = _ from HG.out)
              have HOd := Aside0.mk (Kd.R_drew HO.out)
              have HPd := Aside0.mk (show wr.drew.heap[w.heap.size]? = _ from HP.out)
              have HQd := Aside0.mk (show Fr (fun k => k = B) w wr.drew from HQ.out.drew)
              have hzd : wr.drew.heap.size = wr.heap.size := rfl
              have hSd : (fun W => W.cell? ⟨g, 2, none⟩ = some (.slice Al l.length cl)) wr.drew := (blk_cell HGd.out 2).trans rfl
              have HNb := Lib.hid (fun (k : Nat) (hk : some k = (Value.slice Al l.length cl).ownBlock) => show g + 1 ≤ k ∧ k < wr.heap.size from ⟨((Kd.R_bound HO.out).1 _ hk.symm).2.1, ((Kd.R_bound HO.out).1 _ hk.symm).2.2.1⟩)
              clear HS
              go_upto_region 9 with fail
              refine wp_region_K (S := (fun W => W.cell? ⟨g, 2, none⟩ = some (.slice Al l.length cl))) (k := 12) (by kernel_rfl) ?_
              change wpAnyK _ _ _ _ _ _ 13 (Array.replicate 13 false) _ _
              refine wpAnyK_take (i := 0) (v := ?_) rfl (by kernel_rfl) (by kernel_rfl) (by kernel_rfl) (by kernel_rfl) (fun _ _ _ h => h) hSd (Or.inl ⟨by rfl, ?_⟩) ?_
              rotate_left 1
              (intro w hSw; (try dsimp only at hSw); go_simp; try (with_reducible rfl))
              (try simp only [List.getElem_toArray, List.getElem_cons_succ, List.getElem_cons_zero]); (try dsimp only [Act.put]); (try simp only [List.setIfInBounds_toArray, List.set_cons_zero, List.set_cons_succ])
              refine wpAnyK_take (i := 1) (v := ?_) rfl (by kernel_rfl) (by kernel_rfl) (by kernel_rfl) (by kernel_rfl) (fun _ _ _ h => h) hSd (Or.inl ⟨by rfl, ?_⟩) ?_
              rotate_left 1
              (intro w hSw; (try dsimp only at hSw); go_simp; try (with_reducible rfl))
              (try simp only [List.getElem_toArray, List.getElem_cons_succ, List.getElem_cons_zero]); (try dsimp only [Act.put]); (try simp only [List.setIfInBounds_toArray, List.set_cons_zero, List.set_cons_succ])
              refine wpAnyK_take (i := 2) (v := ?_) rfl (by kernel_rfl) (by kernel_rfl) (by kernel_rfl) (by kernel_rfl) (fun _ _ _ h => h) hSd (Or.inl ⟨by rfl, ?_⟩) ?_
              rotate_left 1
              (intro w hSw; (try dsimp only at hSw); go_simp; try (with_reducible rfl))
              (try simp only [List.getElem_toArray, List.getElem_cons_succ, List.getElem_cons_zero]); (try dsimp only [Act.put]); (try simp only [List.setIfInBounds_toArray, List.set_cons_zero, List.set_cons_succ])
              refine wpAnyK_take (i := 3) (v := ?_) rfl (by kernel_rfl) (by kernel_rfl) (by kernel_rfl) (by kernel_rfl) (fun _ _ _ h => h) hSd (Or.inl ⟨by rfl, ?_⟩) ?_
              rotate_left 1
              (intro w hSw; (try dsimp only at hSw); go_simp; try (with_reducible rfl))
              (try simp only [List.getElem_toArray, List.getElem_cons_succ, List.getElem_cons_zero]); (try dsimp only [Act.put]); (try simp only [List.setIfInBounds_toArray, List.set_cons_zero, List.set_cons_succ])
              refine wpAnyK_take (i := 4) (v := ?_) rfl (by kernel_rfl) (by kernel_rfl) (by kernel_rfl) (by kernel_rfl) (fun _ _ _ h => h) hSd (Or.inl ⟨by rfl, ?_⟩) ?_
              rotate_left 1
              (intro w hSw; (try dsimp only at hSw); go_simp; try (with_reducible rfl))
              (try simp only [List.getElem_toArray, List.getElem_cons_succ, List.getElem_cons_zero]); (try dsimp only [Act.put]); (try simp only [List.setIfInBounds_toArray, List.set_cons_zero, List.set_cons_succ])
              refine wpAnyK_take (i := 5) (v := ?_) rfl (by kernel_rfl) (by kernel_rfl) (by kernel_rfl) (by kernel_rfl) (fun _ _ _ h => h) hSd (Or.inl ⟨by rfl, ?_⟩) ?_
              rotate_left 1
              (intro w hSw; (try dsimp only at hSw); go_simp; try (with_reducible rfl))
              (try simp only [List.getElem_toArray, List.getElem_cons_succ, List.getElem_cons_zero]); (try dsimp only [Act.put]); (try simp only [List.setIfInBounds_toArray, List.set_cons_zero, List.set_cons_succ])
              refine wpAnyK_take (i := 6) (v := ?_) rfl (by kernel_rfl) (by kernel_rfl) (by kernel_rfl) (by kernel_rfl) (fun _ _ _ h => h) hSd (Or.inl ⟨by rfl, ?_⟩) ?_
              rotate_left 1
              (intro w hSw; (try dsimp only at hSw); go_simp; try (with_reducible rfl))
              (try simp only [List.getElem_toArray, List.getElem_cons_succ, List.getElem_cons_zero]); (try dsimp only [Act.put]); (try simp only [List.setIfInBounds_toArray, List.set_cons_zero, List.set_cons_succ])
              refine wpAnyK_take (i := 7) (v := ?_) rfl (by kernel_rfl) (by kernel_rfl) (by kernel_rfl) (by kernel_rfl) (fun _ _ _ h => h) hSd (Or.inl ⟨by rfl, ?_⟩) ?_
              rotate_left 1
              (intro w hSw; (try dsimp only at hSw); go_simp; try (with_reducible rfl))
              (try simp only [List.getElem_toArray, List.getElem_cons_succ, List.getElem_cons_zero]); (try dsimp only [Act.put]); (try simp only [List.setIfInBounds_toArray, List.set_cons_zero, List.set_cons_succ])
              refine wpAnyK_one (i := 8) (by kernel_rfl) rfl (fun K hK => ?_)
              go_simp
              go_at_call 28
              (with_reducible refine HC.out.mono ?_)
              rintro e wE ⟨x, vx, rfl, hO2, hG2, hz2, hS2, hF2⟩
              obtain ⟨Ax, cx, rfl⟩ := Kd.R_slice hO2
              have hsE := hF2.size
              have HGE := Aside0.mk (hF2.blk HGd.out (by omega))
              have HPE := Aside0.mk (hF2.blk HPd.out (by omega))
              have HOE := Aside0.mk (Kd.R_step (Kd.R_bound HOd.out) (w1 := wE) (fun k hk hkl => hF2.block k hkl (by have := hk.2.1; omega)))
              have HQE := Aside0.mk (HQd.out.trans hF2)
              have HSE := Aside0.mk hS2
              have HX := Lib.hid (And.intro hG2 hz2)
              have HM := Aside0.mk (k24_mkM wE (g + 1) (fun k => wr.heap.size ≤ k) x (Kd.R_lower (Kd.R_mono (Kd.R_bound hO2) (ok' := fun k => wr.heap.size ≤ k) (fun k hk => hk.2.1)) (show g + 1 ≤ wr.drew.heap.size by omega)))
              have hSd : (fun W => W.cell? ⟨g, 2, none⟩ = some (.slice Al l.length cl)) wE := (blk_cell HGE.out 2).trans rfl
              clear hO2 hG2 hz2 hS2 hF2
              refine hK.out _ _ (fun _ => hSd) ?_
              clear hK
              refine wpAnyK_one (i := 9) (by kernel_rfl) rfl (fun K hK => ?_)
              go_simp
              have hSd : (fun W => W.cell? ⟨g, 2, none⟩ = some (.slice Al l.length cl)) (wE.alloc (.cells #[.int .i64 x.f0, .string x.f1, .slice Ax x.f2.length cx] 24)) := pw_cell_below (below_alloc1 _ _) hSd
              refine hK.out _ _ (fun _ => hSd) ?_
              clear hK
              refine wpAnyK_one (i := 10) (by kernel_rfl) rfl (fun K hK => ?_)
              refine Kd.R_append_step k24 (w0 := wE) (W := wE) (g + 1) (by rfl) (.tmp 72) (.tmp 80) 22 24 _ 48 rfl Try.underlying22 infoEx rfl (by decide) (by decide) (.slice Al l.length cl) l x [.int .i64 x.f0, .string x.f1, .slice Ax x.f2.length cx] (fun _ => True) (fun k => wr.heap.size ≤ k) rfl rfl HM.out (fun k hk => ⟨trivial, fun he => by have := (HNb.out k he).2; omega⟩) (fun _ _ => trivial) (Kd.R_mono HOE.out (fun _ _ => trivial)) (Below.refl _ _) (by omega) (by omega) ?_
              intro v9 w9 hR9 hB9 hg9 hat9
              have HG9 := Aside0.mk (blk_grown HGE.out hg9 (fun he => by have := (HNb.out _ he).1; omega))
              have HP9 := Aside0.mk (blk_grown HPE.out hg9 (fun he => by have := (HNb.out _ he).1; omega))
              have HQ9 := Aside0.mk (HQE.out.grown hg9 (fun k hk => .inr (by have := (HNb.out _ hk.symm).1; omega)))
              have HS9 := Aside0.mk (show Sack B A n c _ w9 from Sack.grown HSE.out hg9 (fun he => by have := (HNb.out _ he).1; omega))
              obtain ⟨A9, c9, hv9⟩ := Kd.R_slice hR9
              rw [show (l ++ [x]).length = l.length + 1 from by simp] at hv9
              subst hv9
              have HR9 := Aside0.mk hR9
              have hs9 := hB9.size
              have hSd : (fun W => W.cell? ⟨g, 2, none⟩ = some (.slice Al l.length cl)) w9 := (blk_cell HG9.out 2).trans rfl
              clear hR9 hB9 hg9 hat9
              refine hK.out _ _ (fun _ => hSd) ?_
              clear hK
              refine wpAnyK_one (i := 11) (by kernel_rfl) rfl (fun K hK => ?_)
              go_simp
              refine hK.out _ _ (fun _ => hSd) ?_
              clear hK
              refine wpAnyK_one (i := 12) (by kernel_rfl) rfl (fun K hK => ?_)
              have k9 := (blk_cell HG9.out 2).trans rfl
              have f9 := blk_frozen HG9.out 2
              go_simp
              refine hK.out _ _ (fun h => absurd rfl h) ?_
              clear hK hSd
              refine wpAnyK_done (by kernel_rfl) ?_ _
              clear k9 f9
              go_wp2_with fail
              go_roundg (na - (kk + 1))
              case measure => omega
              case rel =>
                refine ⟨kk + 1, l ++ [x], _, hlt, Nat.le_refl _, by go_num, ⟨?_⟩, ⟨genL_snoc HL.out.1 HX.out.1, ?_⟩, ⟨by rw [List.length_append, HLL.out]; rfl⟩, ⟨HQ9.out.setCell (.inr (by simp only; omega)) _⟩, ⟨blk_put HG9.out 2 _ rfl⟩, ⟨blk_far HP9.out (by simp only; omega) _⟩, ⟨Sack.far1 (HS9.out.mono (by rw [Nat.succ_mul]; omega)) (by show B ≠ g; omega)⟩, by simp only [World.setCell, Array.size_modify]; omega⟩
                · exact Kd.R_mono (Kd.R_far (Kd.R_mono (Kd.R_bound HR9.out) (ok' := fun k => g + 1 ≤ k) (fun k hk => hk.2.1)) (p := ⟨g, 2, none⟩) (fun k hk => by show k ≠ g; omega) _) (fun _ _ => trivial)
                · rw [szL_snoc, Nat.succ_mul]; have h1 := HL.out.2; have h2 := HX.out.2; omega
            · have hke : kk = na := by omega
              subst hke
              obtain ⟨Al, cl, rfl⟩ := Kd.R_slice HO.out
              have g0 := (blk_cell HG.out 0).trans rfl
              have g1 := (blk_cell HG.out 1).trans rfl
              have g2 := (blk_cell HG.out 2).trans rfl
              have y0 := (blk_cell HP.out 0).trans rfl
              have y1 := (blk_cell HP.out 1).trans rfl
              have y2 := (blk_cell HP.out 2).trans rfl
              have fy := fun i => blk_frozen HP.out i
              go_wp2_with fail
              have b6 := blk_put (blk_put (blk_put HP.out 0 (.int .i64 3) rfl) 1 (.string (nameN r2)) rfl) 2 (.slice Al l.length cl) rfl
              refine bodyPost_ret (results_cell_row rfl _ _ w.heap.size 24 #[.int .i64 3, .string (nameN r2), .slice Al l.length cl] (0, 0) _ rfl b6 Try.underlying24 rfl (by kernel_rfl)) rfl ?_
              have hne : ∀ k, g + 1 ≤ k → k ≠ w.heap.size := fun k hk => by omega
              refine ⟨⟨3, (nameN r2), l⟩, _, rfl, Kd.R_lower (Kd.R_mono (Kd.R_far (Kd.R_far (Kd.R_far (Kd.R_mono (Kd.R_bound HO.out) (ok' := fun k => g + 1 ≤ k) (fun k hk => hk.2.1)) hne _) hne _) hne _) (fun _ _ => trivial)) (by omega), ?_, ?_, Sack.far3 (HS.out.mono ?_) (by omega), ((HQ.out.setCell (.inr (Nat.le_refl _)) _).setCell (.inr (Nat.le_refl _)) _).setCell (.inr (Nat.le_refl _)) _⟩
              · rw [genE_eq]; exact .inr (.inr ⟨rfl, hnw, ⟨r2, by rw [HNa.out, ← HLL.out], rfl⟩, HL.out.1⟩)
              · have h1 := HL.out.2
                rw [← HLL.out] at h1
                have h2 : l.length * exS d ≤ 2 * exS d := Nat.mul_le_mul_right _ hl2
                rw [szE_eq, exS]
                dsimp only
                omega
              · have h2 : l.length * exD d ≤ 2 * exD d := Nat.mul_le_mul_right _ hl2
                rw [← HLL.out]
                rw [exD]; omega
        | false =>
          clear hb
          have HZ2 := Aside0.mk (HZ0.out.fr HQ.out)
          have HC2 := Lib.hid (c_Among2 B A n c (m + 1) zs w2 HS.out HZ2.out (by omega))
          go_wp2_with fail
          refine HC2.out.mono ?_
          rintro en w3 ⟨r3, rfl, hr3, hS, hF⟩
          have HQ3 := Aside0.mk (HQ.out.trans hF)
          have HP3 := Aside0.mk (hF.blk HP.out (by omega))
          have HS3 := Aside0.mk hS
          have hs3 := HQ3.out.size
          clear hS hF HC2 HS HQ HP
          go_upto_region 15 with fail
          go_cut [17] (fun s17 wx => ∃ (g : Nat) (s : ByteArray), s17 = .pointer (some ⟨g, 0, none⟩) ∧ headOk s r3 ∧ w.heap.size < g ∧ g < wx.heap.size ∧ Aside0 (wx.heap[g]? = some (.cells #[.int .i64 2, .string s, .slice none 0 0] 24 (0, 0))) ∧ Aside0 (wx.heap[w.heap.size]? = some (.cells #[.int .i64 0, .string ⟨#[]⟩, .slice none 0 0] 24 (0, 0))) ∧ Aside0 (Sack B A n c (m + 3) wx) ∧ Aside0 (Fr (fun k => k = B) w wx))
          case first =>
            obtain ⟨a, b, ha, hb, hi⟩ := idx32 r3 hr3
            have hpick := fun r2 hr2 => idx2 a b r3 r2 ha hb hr2
            obtain ⟨X0, hX⟩ : ∃ X0, w3.drew = X0 := ⟨_, rfl⟩
            have HS := Aside0.mk (show Sack B A n c (m + 2) X0 by rw [← hX]; exact HS3.out.below (below_drew (Below.refl _ _)))
            have HQ := Aside0.mk (show Fr (fun k => k = B) w X0 by rw [← hX]; exact HQ3.out.drew)
            have HP := Aside0.mk (show X0.heap[w.heap.size]? = some (.cells #[.int .i64 0, .string ⟨#[]⟩, .slice none 0 0] 24 (0, 0)) by rw [← hX]; exact HP3.out)
            have hsz := HQ.out.size
            have hwl := blk_lt HP.out
            have hSd : (fun _ : World => True) X0 := trivial
            refine wp_region_K (S := fun _ => True) (k := 11) (by kernel_rfl) ?_
            change wpAnyK _ _ _ _ _ _ 12 (Array.replicate 12 false) _ _
            rw [hX]
            clear hX ha hb
            refine wpAnyK_take (i := 0) (v := ?_) rfl (by kernel_rfl) (by kernel_rfl) (by kernel_rfl) (by kernel_rfl) (fun _ _ _ h => h) hSd (Or.inl ⟨by rfl, ?_⟩) ?_
            rotate_left 1
            (intro w hSw; (try dsimp only at hSw); go_simp; try (with_reducible rfl))
            (try simp only [List.getElem_toArray, List.getElem_cons_succ, List.getElem_cons_zero]); (try dsimp only [Act.put]); (try simp only [List.setIfInBounds_toArray, List.set_cons_zero, List.set_cons_succ])
            refine wpAnyK_take (i := 1) (v := ?_) rfl (by kernel_rfl) (by kernel_rfl) (by kernel_rfl) (by kernel_rfl) (fun _ _ _ h => h) hSd (Or.inl ⟨by rfl, ?_⟩) ?_
            rotate_left 1
            (intro w hSw; (try dsimp only at hSw); go_simp; try (with_reducible rfl))
            (try simp only [List.getElem_toArray, List.getElem_cons_succ, List.getElem_cons_zero]); (try dsimp only [Act.put]); (try simp only [List.setIfInBounds_toArray, List.set_cons_zero, List.set_cons_succ])
            refine wpAnyK_take (i := 2) (v := ?_) rfl (by kernel_rfl) (by kernel_rfl) (by kernel_rfl) (by kernel_rfl) (fun _ _ _ h => h) hSd (Or.inl ⟨by rfl, ?_⟩) ?_
            rotate_left 1
            (intro w hSw; (try dsimp only at hSw); go_simp; try (with_reducible rfl))
            (try simp only [List.getElem_toArray, List.getElem_cons_succ, List.getElem_cons_zero]); (try dsimp only [Act.put]); (try simp only [List.setIfInBounds_toArray, List.set_cons_zero, List.set_cons_succ])
            refine wpAnyK_take (i := 3) (v := ?_) rfl (by kernel_rfl) (by kernel_rfl) (by kernel_rfl) (by kernel_rfl) (fun _ _ _ h => h) hSd (Or.inl ⟨by rfl, ?_⟩) ?_
            rotate_left 1
            (intro w hSw; (try dsimp only at hSw); go_simp; try (with_reducible rfl))
            (try simp only [List.getElem_toArray, List.getElem_cons_succ, List.getElem_cons_zero]); (try dsimp only [Act.put]); (try simp only [List.setIfInBounds_toArray, List.set_cons_zero, List.set_cons_succ])
            refine wpAnyK_take (i := 4) (v := ?_) rfl (by kernel_rfl) (by kernel_rfl) (by kernel_rfl) (by kernel_rfl) (fun _ _ _ h => h) hSd (Or.inl ⟨by rfl, ?_⟩) ?_
            rotate_left 1
            (intro w hSw; (try dsimp only at hSw); go_simp; try (with_reducible rfl))
            (try simp only [List.getElem_toArray, List.getElem_cons_succ, List.getElem_cons_zero]); (try dsimp only [Act.put]); (try simp only [List.setIfInBounds_toArray, List.set_cons_zero, List.set_cons_succ])
            refine wpAnyK_take (i := 5) (v := ?_) rfl (by kernel_rfl) (by kernel_rfl) (by kernel_rfl) (by kernel_rfl) (fun _ _ _ h => h) hSd (Or.inl ⟨by rfl, ?_⟩) ?_
            rotate_left 1
            (intro w hSw; (try dsimp only at hSw); go_simp; try (with_reducible rfl))
            (try simp only [List.getElem_toArray, List.getElem_cons_succ, List.getElem_cons_zero]); (try dsimp only [Act.put]); (try simp only [List.setIfInBounds_toArray, List.set_cons_zero, List.set_cons_succ])
            refine wpAnyK_take (i := 6) (v := ?_) rfl (by kernel_rfl) (by kernel_rfl) (by kernel_rfl) (by kernel_rfl) (fun _ _ _ h => h) hSd (Or.inl ⟨by rfl, ?_⟩) ?_
            rotate_left 1
            (intro w hSw; (try dsimp only at hSw); go_simp; try (with_reducible rfl))
            (try simp only [List.getElem_toArray, List.getElem_cons_succ, List.getElem_cons_zero]); (try dsimp only [Act.put]); (try simp only [List.setIfInBounds_toArray, List.set_cons_zero, List.set_cons_succ])
            refine wpAnyK_two (i := 7) (j := 10) (by kernel_rfl) rfl rfl (fun K hK => ?_) (fun K hK => ?_)
            · skip
              go_simp
              go_at_call 71
              (with_reducible refine (c_Below2 B A n c (m + 2) zs X0 HS.out (HZ0.out.fr HQ.out) (by omega)).mono ?_)
              rintro e X1 ⟨r2, rfl, hr2, hS, hF⟩
              have HS := Aside0.mk hS
              have HQ := Aside0.mk (HQ.out.trans hF)
              have HP := Aside0.mk (hF.blk HP.out (by omega))
              have hsz := hF.size
              obtain ⟨s, hhd, hix⟩ := hpick r2 hr2
              clear hS hF
              refine hK.out _ _ (fun _ => trivial) ?_
              clear hK
              refine wpAnyK_two (i := 8) (j := 10) (by kernel_rfl) rfl rfl (fun K hK => ?_) (fun K hK => ?_)
              · skip
                go_simp
                refine hK.out _ _ (fun _ => trivial) ?_
                clear hK
                refine wpAnyK_two (i := 9) (j := 10) (by kernel_rfl) rfl rfl (fun K hK => ?_) (fun K hK => ?_)
                · skip
                  go_simp
                  go_at_call 47
                  (with_reducible refine (c_M s none 0 0 X1).mono ?_)
                  rintro e X2 ⟨rfl, hb⟩
                  have HS := Aside0.mk (HS.out.below hb)
                  have HQ := Aside0.mk (HQ.out.after_below hb)
                  have HP := Aside0.mk (blk_below HP.out hb)
                  have hsz := hb.size
                  clear hb
                  refine hK.out _ _ (fun _ => trivial) ?_
                  clear hK
                  refine wpAnyK_one (i := 10) (by kernel_rfl) rfl (fun K hK => ?_)
                  go_simp
                  obtain ⟨X3, hY⟩ : ∃ X3, X2.alloc (.cells #[.int .i64 0, .string ⟨#[]⟩, .slice none 0 0] 24) = X3 := ⟨_, rfl⟩
                  obtain ⟨g, hg⟩ : ∃ g, X2.heap.size = g := ⟨_, rfl⟩
                  have hb : Below X2.heap.size X2 X3 := by rw [← hY]; exact below_alloc1 _ _
                  have HS := Aside0.mk (HS.out.below hb)
                  have HQ := Aside0.mk (HQ.out.after_below hb)
                  have HP := Aside0.mk (blk_below HP.out hb)
                  have hsz := hb.size
                  have G17 := Aside0.mk (show X3.heap[g]? = some (.cells #[.int .i64 0, .string ⟨#[]⟩, .slice none 0 0] 24 (0, 0)) by rw [← hY, ← hg]; exact alloc_at _ _)
                  have hgs : g < X3.heap.size := by rw [← hY, ← hg]; simp
                  have hgw : w.heap.size < g := by omega
                  rw [hY, hg]
                  clear hb hY hg
                  refine hK.out _ _ (fun _ => trivial) ?_
                  clear hK
                  refine wpAnyK_one (i := 11) (by kernel_rfl) rfl (fun K hK => ?_)
                  have g0 := (blk_cell G17.out 0).trans rfl
                  have g1 := (blk_cell G17.out 1).trans rfl
                  have g2 := (blk_cell G17.out 2).trans rfl
                  have fg := fun i => blk_frozen G17.out i
                  go_simp
                  refine hK.out _ _ (fun h => absurd rfl h) ?_
                  clear hK g0 g1 g2 fg
                  refine wpAnyK_done (by kernel_rfl) ?_ _
                  go_wp2_with fail
                  go_meet
                  exact ⟨g, s, rfl, hhd, hgw, by simp only [World.setCell, Array.size_modify]; omega, ⟨blk_put (blk_put (blk_put G17.out 0 (.int .i64 2) rfl) 1 (.string s) rfl) 2 (.slice none 0 0) rfl⟩, ⟨blk_far (blk_far (blk_far HP.out (by simp only; omega) _) (by simp only; omega) _) (by simp only; omega) _⟩, ⟨Sack.far3 HS.out (by omega)⟩, ⟨((HQ.out.setCell (.inr (by simp only; omega)) _).setCell (.inr (by simp only; omega)) _).setCell (.inr (by simp only; omega)) _⟩⟩
                · skip
                  go_simp
                  obtain ⟨X2, hY⟩ : ∃ X2, X1.alloc (.cells #[.int .i64 0, .string ⟨#[]⟩, .slice none 0 0] 24) = X2 := ⟨_, rfl⟩
                  obtain ⟨g, hg⟩ : ∃ g, X1.heap.size = g := ⟨_, rfl⟩
                  have hb : Below X1.heap.size X1 X2 := by rw [← hY]; exact below_alloc1 _ _
                  have HS := Aside0.mk (HS.out.below hb)
                  have HQ := Aside0.mk (HQ.out.after_below hb)
                  have HP := Aside0.mk (blk_below HP.out hb)
                  have hsz := hb.size
                  have G17 := Aside0.mk (show X2.heap[g]? = some (.cells #[.int .i64 0, .string ⟨#[]⟩, .slice none 0 0] 24 (0, 0)) by rw [← hY, ← hg]; exact alloc_at _ _)
                  have hgs : g < X2.heap.size := by rw [← hY, ← hg]; simp
                  have hgw : w.heap.size < g := by omega
                  rw [hY, hg]
                  clear hb hY hg
                  refine hK.out _ _ (fun _ => trivial) ?_
                  clear hK
                  refine wpAnyK_one (i := 9) (by kernel_rfl) rfl (fun K hK => ?_)
                  go_simp
                  go_at_call 47
                  (with_reducible refine (c_M s none 0 0 X2).mono ?_)
                  rintro e X3 ⟨rfl, hb⟩
                  have HS := Aside0.mk (HS.out.below hb)
                  have HQ := Aside0.mk (HQ.out.after_below hb)
                  have HP := Aside0.mk (blk_below HP.out hb)
                  have G17 := Aside0.mk (blk_below G17.out hb)
                  have hsz := hb.size
                  clear hb
                  refine hK.out _ _ (fun _ => trivial) ?_
                  clear hK
                  refine wpAnyK_one (i := 11) (by kernel_rfl) rfl (fun K hK => ?_)
                  have g0 := (blk_cell G17.out 0).trans rfl
                  have g1 := (blk_cell G17.out 1).trans rfl
                  have g2 := (blk_cell G17.out 2).trans rfl
                  have fg := fun i => blk_frozen G17.out i
                  go_simp
                  refine hK.out _ _ (fun h => absurd rfl h) ?_
                  clear hK g0 g1 g2 fg
                  refine wpAnyK_done (by kernel_rfl) ?_ _
                  go_wp2_with fail
                  go_meet
                  exact ⟨g, s, rfl, hhd, hgw, by simp only [World.setCell, Array.size_modify]; omega, ⟨blk_put (blk_put (blk_put G17.out 0 (.int .i64 2) rfl) 1 (.string s) rfl) 2 (.slice none 0 0) rfl⟩, ⟨blk_far (blk_far (blk_far HP.out (by simp only; omega) _) (by simp only; omega) _) (by simp only; omega) _⟩, ⟨Sack.far3 HS.out (by omega)⟩, ⟨((HQ.out.setCell (.inr (by simp only; omega)) _).setCell (.inr (by simp only; omega)) _).setCell (.inr (by simp only; omega)) _⟩⟩
              · skip
                go_simp
                obtain ⟨X2, hY⟩ : ∃ X2, X1.alloc (.cells #[.int .i64 0, .string ⟨#[]⟩, .slice none 0 0] 24) = X2 := ⟨_, rfl⟩
                obtain ⟨g, hg⟩ : ∃ g, X1.heap.size = g := ⟨_, rfl⟩
                have hb : Below X1.heap.size X1 X2 := by rw [← hY]; exact below_alloc1 _ _
                have HS := Aside0.mk (HS.out.below hb)
                have HQ := Aside0.mk (HQ.out.after_below hb)
                have HP := Aside0.mk (blk_below HP.out hb)
                have hsz := hb.size
                have G17 := Aside0.mk (show X2.heap[g]? = some (.cells #[.int .i64 0, .string ⟨#[]⟩, .slice none 0 0] 24 (0, 0)) by rw [← hY, ← hg]; exact alloc_at _ _)
                have hgs : g < X2.heap.size := by rw [← hY, ← hg]; simp
                have hgw : w.heap.size < g := by omega
                rw [hY, hg]
                clear hb hY hg
                refine hK.out _ _ (fun _ => trivial) ?_
                clear hK
                refine wpAnyK_one (i := 8) (by kernel_rfl) rfl (fun K hK => ?_)
                go_simp
                refine hK.out _ _ (fun _ => trivial) ?_
                clear hK
                refine wpAnyK_one (i := 9) (by kernel_rfl) rfl (fun K hK => ?_)
                go_simp
                go_at_call 47
                (with_reducible refine (c_M s none 0 0 X2).mono ?_)
                rintro e X3 ⟨rfl, hb⟩
                have HS := Aside0.mk (HS.out.below hb)
                have HQ := Aside0.mk (HQ.out.after_below hb)
                have HP := Aside0.mk (blk_below HP.out hb)
                have G17 := Aside0.mk (blk_below G17.out hb)
                have hsz := hb.size
                clear hb
                refine hK.out _ _ (fun _ => trivial) ?_
                clear hK
                refine wpAnyK_one (i := 11) (by kernel_rfl) rfl (fun K hK => ?_)
                have g0 := (blk_cell G17.out 0).trans rfl
                have g1 := (blk_cell G17.out 1).trans rfl
                have g2 := (blk_cell G17.out 2).trans rfl
                have fg := fun i => blk_frozen G17.out i
                go_simp
                refine hK.out _ _ (fun h => absurd rfl h) ?_
                clear hK g0 g1 g2 fg
                refine wpAnyK_done (by kernel_rfl) ?_ _
                go_wp2_with fail
                go_meet
                exact ⟨g, s, rfl, hhd, hgw, by simp only [World.setCell, Array.size_modify]; omega, ⟨blk_put (blk_put (blk_put G17.out 0 (.int .i64 2) rfl) 1 (.string s) rfl) 2 (.slice none 0 0) rfl⟩, ⟨blk_far (blk_far (blk_far HP.out (by simp only; omega) _) (by simp only; omega) _) (by simp only; omega) _⟩, ⟨Sack.far3 HS.out (by omega)⟩, ⟨((HQ.out.setCell (.inr (by simp only; omega)) _).setCell (.inr (by simp only; omega)) _).setCell (.inr (by simp only; omega)) _⟩⟩
            · skip
              go_simp
              obtain ⟨X1, hY⟩ : ∃ X1, X0.alloc (.cells #[.int .i64 0, .string ⟨#[]⟩, .slice none 0 0] 24) = X1 := ⟨_, rfl⟩
              obtain ⟨g, hg⟩ : ∃ g, X0.heap.size = g := ⟨_, rfl⟩
              have hb : Below X0.heap.size X0 X1 := by rw [← hY]; exact below_alloc1 _ _
              have HS := Aside0.mk (HS.out.below hb)
              have HQ := Aside0.mk (HQ.out.after_below hb)
              have HP := Aside0.mk (blk_below HP.out hb)
              have hsz := hb.size
              have G17 := Aside0.mk (show X1.heap[g]? = some (.cells #[.int .i64 0, .string ⟨#[]⟩, .slice none 0 0] 24 (0, 0)) by rw [← hY, ← hg]; exact alloc_at _ _)
              have hgs : g < X1.heap.size := by rw [← hY, ← hg]; simp
              have hgw : w.heap.size < g := by omega
              rw [hY, hg]
              clear hb hY hg
              refine hK.out _ _ (fun _ => trivial) ?_
              clear hK
              refine wpAnyK_one (i := 7) (by kernel_rfl) rfl (fun K hK => ?_)
              go_simp
              go_at_call 71
              (with_reducible refine (c_Below2 B A n c (m + 2) zs X1 HS.out (HZ0.out.fr HQ.out) (by omega)).mono ?_)
              rintro e X2 ⟨r2, rfl, hr2, hS, hF⟩
              have HS := Aside0.mk hS
              have HQ := Aside0.mk (HQ.out.trans hF)
              have HP := Aside0.mk (hF.blk HP.out (by omega))
              have G17 := Aside0.mk (hF.blk G17.out (by omega))
              have hsz := hF.size
              obtain ⟨s, hhd, hix⟩ := hpick r2 hr2
              clear hS hF
              refine hK.out _ _ (fun _ => trivial) ?_
              clear hK
              refine wpAnyK_one (i := 8) (by kernel_rfl) rfl (fun K hK => ?_)
              go_simp
              refine hK.out _ _ (fun _ => trivial) ?_
              clear hK
              refine wpAnyK_one (i := 9) (by kernel_rfl) rfl (fun K hK => ?_)
              go_simp
              go_at_call 47
              (with_reducible refine (c_M s none 0 0 X2).mono ?_)
              rintro e X3 ⟨rfl, hb⟩
              have HS := Aside0.mk (HS.out.below hb)
              have HQ := Aside0.mk (HQ.out.after_below hb)
              have HP := Aside0.mk (blk_below HP.out hb)
              have G17 := Aside0.mk (blk_below G17.out hb)
              have hsz := hb.size
              clear hb
              refine hK.out _ _ (fun _ => trivial) ?_
              clear hK
              refine wpAnyK_one (i := 11) (by kernel_rfl) rfl (fun K hK => ?_)
              have g0 := (blk_cell G17.out 0).trans rfl
              have g1 := (blk_cell G17.out 1).trans rfl
              have g2 := (blk_cell G17.out 2).trans rfl
              have fg := fun i => blk_frozen G17.out i
              go_simp
              refine hK.out _ _ (fun h => absurd rfl h) ?_
              clear hK g0 g1 g2 fg
              refine wpAnyK_done (by kernel_rfl) ?_ _
              go_wp2_with fail
              go_meet
              exact ⟨g, s, rfl, hhd, hgw, by simp only [World.setCell, Array.size_modify]; omega, ⟨blk_put (blk_put (blk_put G17.out 0 (.int .i64 2) rfl) 1 (.string s) rfl) 2 (.slice none 0 0) rfl⟩, ⟨blk_far (blk_far (blk_far HP.out (by simp only; omega) _) (by simp only; omega) _) (by simp only; omega) _⟩, ⟨Sack.far3 HS.out (by omega)⟩, ⟨((HQ.out.setCell (.inr (by simp only; omega)) _).setCell (.inr (by simp only; omega)) _).setCell (.inr (by simp only; omega)) _⟩⟩
          case rest =>
            rename World => wd
            obtain ⟨g, s, rfl, hhd, hgw, hgs, GL, PL, SL, QL⟩ := hcut
            have hr32 : r3 ≤ 2 := by omega
            clear hr3
            go_wp2_with fail
            go_loopg [107] r3 (fun gg sj wr => ∃ (kk : Nat) (l : List Ex) (v : Value), kk ≤ r3 ∧ r3 - kk ≤ gg ∧ sj = .int .i64 kk ∧ Aside0 (OwnE wr (g + 1) v l) ∧ Aside0 (GenL vars ars nested within l ∧ szL l ≤ kk * exS d) ∧ Aside0 (l.length = kk) ∧ Aside0 (Fr (fun k => k = B) w wr) ∧ Aside0 (wr.heap[g]? = some (.cells #[.int .i64 2, .string s, v] 24 (0, 0))) ∧ Aside0 (wr.heap[w.heap.size]? = some (.cells #[.int .i64 0, .string ⟨#[]⟩, .slice none 0 0] 24 (0, 0))) ∧ Aside0 (Sack B A n c (m + 3 + kk * exD d) wr) ∧ g < wr.heap.size)
            case atStart => exact ⟨0, [], _, Nat.zero_le _, by omega, rfl, ⟨Kd.R_nil _ _ _ _ _⟩, ⟨by simp [GenL], by simp [szL]⟩, ⟨rfl⟩, QL, GL, PL, ⟨SL.out.mono (by omega)⟩, by omega⟩
            case round =>
              obtain ⟨kk, l, v, hkk, hg, rfl, HO, HL, HLL, HQ, HG, HP, HS, hZ⟩ := hrel
              have hwr := HQ.out.size
              have hl2 : l.length ≤ 2 := by rw [HLL.out]; omega
              by_cases hlt : kk < r3
              · have hltz : (kk : Int) < (r3 : Int) := by omega
                obtain ⟨Al, cl, rfl⟩ := Kd.R_slice HO.out
                have HBd := Lib.hid (show kk * exD d + exD d ≤ 2 * exD d by
                  have h1 : kk + 1 ≤ 2 := by omega
                  have h2 := Nat.mul_le_mul_right (exD d) h1
                  rw [Nat.succ_mul] at h2
                  exact h2)
                have HC := Lib.hid (IH (m + 3 + kk * exD d) within nested wr.drew (HS.out.below (below_drew (Below.refl _ _))) (HZ0.out.fr (HQ.out.drew)) (by have := HBd.out; omega) (Kd.F_step HV0.out (fun k hk hlt => (HQ.out.drew).block k hlt hk)) (Kd.F_step HA0.out (fun k hk hlt => (HQ.out.drew).block k hlt hk)))
                have HGd := Aside0.mk (show wr.drew.heap[g]? = _ from HG.out)
                have HOd := Aside0.mk (Kd.R_drew HO.out)
                have HPd := Aside0.mk (show wr.drew.heap[w.heap.size]? = _ from HP.out)
                have HQd := Aside0.mk (show Fr (fun k => k = B) w wr.drew from HQ.out.drew)
                have hzd : wr.drew.heap.size = wr.heap.size := rfl
                have hSd : (fun W => W.cell? ⟨g, 2, none⟩ = some (.slice Al l.length cl)) wr.drew := (blk_cell HGd.out 2).trans rfl
                have HNb := Lib.hid (fun (k : Nat) (hk : some k = (Value.slice Al l.length cl).ownBlock) => show g + 1 ≤ k ∧ k < wr.heap.size from ⟨((Kd.R_bound HO.out).1 _ hk.symm).2.1, ((Kd.R_bound HO.out).1 _ hk.symm).2.2.1⟩)
                clear HS
                go_upto_region 18 with fail
                refine wp_region_K (S := (fun W => W.cell? ⟨g, 2, none⟩ = some (.slice Al l.length cl))) (k := 13) (by kernel_rfl) ?_
                change wpAnyK _ _ _ _ _ _ 14 (Array.replicate 14 false) _ _
                refine wpAnyK_take (i := 0) (v := ?_) rfl (by kernel_rfl) (by kernel_rfl) (by kernel_rfl) (by kernel_rfl) (fun _ _ _ h => h) hSd (Or.inl ⟨by rfl, ?_⟩) ?_
                rotate_left 1
                (intro w hSw; (try dsimp only at hSw); go_simp; try (with_reducible rfl))
                (try simp only [List.getElem_toArray, List.getElem_cons_succ, List.getElem_cons_zero]); (try dsimp only [Act.put]); (try simp only [List.setIfInBounds_toArray, List.set_cons_zero, List.set_cons_succ])
                refine wpAnyK_take (i := 1) (v := ?_) rfl (by kernel_rfl) (by kernel_rfl) (by kernel_rfl) (by kernel_rfl) (fun _ _ _ h => h) hSd (Or.inl ⟨by rfl, ?_⟩) ?_
                rotate_left 1
                (intro w hSw; (try dsimp only at hSw); go_simp; try (with_reducible rfl))
                (try simp only [List.getElem_toArray, List.getElem_cons_succ, List.getElem_cons_zero]); (try dsimp only [Act.put]); (try simp only [List.setIfInBounds_toArray, List.set_cons_zero, List.set_cons_succ])
                refine wpAnyK_take (i := 2) (v := ?_) rfl (by kernel_rfl) (by kernel_rfl) (by kernel_rfl) (by kernel_rfl) (fun _ _ _ h => h) hSd (Or.inl ⟨by rfl, ?_⟩) ?_
                rotate_left 1
                (intro w hSw; (try dsimp only at hSw); go_simp; try (with_reducible rfl))
                (try simp only [List.getElem_toArray, List.getElem_cons_succ, List.getElem_cons_zero]); (try dsimp only [Act.put]); (try simp only [List.setIfInBounds_toArray, List.set_cons_zero, List.set_cons_succ])
                refine wpAnyK_take (i := 3) (v := ?_) rfl (by kernel_rfl) (by kernel_rfl) (by kernel_rfl) (by kernel_rfl) (fun _ _ _ h => h) hSd (Or.inl ⟨by rfl, ?_⟩) ?_
                rotate_left 1
                (intro w hSw; (try dsimp only at hSw); go_simp; try (with_reducible rfl))
                (try simp only [List.getElem_toArray, List.getElem_cons_succ, List.getElem_cons_zero]); (try dsimp only [Act.put]); (try simp only [List.setIfInBounds_toArray, List.set_cons_zero, List.set_cons_succ])
                refine wpAnyK_take (i := 4) (v := ?_) rfl (by kernel_rfl) (by kernel_rfl) (by kernel_rfl) (by kernel_rfl) (fun _ _ _ h => h) hSd (Or.inl ⟨by rfl, ?_⟩) ?_
                rotate_left 1
                (intro w hSw; (try dsimp only at hSw); go_simp; try (with_reducible rfl))
                (try simp only [List.getElem_toArray, List.getElem_cons_succ, List.getElem_cons_zero]); (try dsimp only [Act.put]); (try simp only [List.setIfInBounds_toArray, List.set_cons_zero, List.set_cons_succ])
                refine wpAnyK_take (i := 5) (v := ?_) rfl (by kernel_rfl) (by kernel_rfl) (by kernel_rfl) (by kernel_rfl) (fun _ _ _ h => h) hSd (Or.inl ⟨by rfl, ?_⟩) ?_
                rotate_left 1
                (intro w hSw; (try dsimp only at hSw); go_simp; try (with_reducible rfl))
                (try simp only [List.getElem_toArray, List.getElem_cons_succ, List.getElem_cons_zero]); (try dsimp only [Act.put]); (try simp only [List.setIfInBounds_toArray, List.set_cons_zero, List.set_cons_succ])
                refine wpAnyK_take (i := 6) (v := ?_) rfl (by kernel_rfl) (by kernel_rfl) (by kernel_rfl) (by kernel_rfl) (fun _ _ _ h => h) hSd (Or.inl ⟨by rfl, ?_⟩) ?_
                rotate_left 1
                (intro w hSw; (try dsimp only at hSw); go_simp; try (with_reducible rfl))
                (try simp only [List.getElem_toArray, List.getElem_cons_succ, List.getElem_cons_zero]); (try dsimp only [Act.put]); (try simp only [List.setIfInBounds_toArray, List.set_cons_zero, List.set_cons_succ])
                refine wpAnyK_take (i := 7) (v := ?_) rfl (by kernel_rfl) (by kernel_rfl) (by kernel_rfl) (by kernel_rfl) (fun _ _ _ h => h) hSd (Or.inl ⟨by rfl, ?_⟩) ?_
                rotate_left 1
                (intro w hSw; (try dsimp only at hSw); go_simp; try (with_reducible rfl))
                (try simp only [List.getElem_toArray, List.getElem_cons_succ, List.getElem_cons_zero]); (try dsimp only [Act.put]); (try simp only [List.setIfInBounds_toArray, List.set_cons_zero, List.set_cons_succ])
                refine wpAnyK_take (i := 8) (v := ?_) rfl (by kernel_rfl) (by kernel_rfl) (by kernel_rfl) (by kernel_rfl) (fun _ _ _ h => h) hSd (Or.inl ⟨by rfl, ?_⟩) ?_
                rotate_left 1
                (intro w hSw; (try dsimp only at hSw); go_simp; try (with_reducible rfl))
                (try simp only [List.getElem_toArray, List.getElem_cons_succ, List.getElem_cons_zero]); (try dsimp only [Act.put]); (try simp only [List.setIfInBounds_toArray, List.set_cons_zero, List.set_cons_succ])
                refine wpAnyK_one (i := 9) (by kernel_rfl) rfl (fun K hK => ?_)
                go_simp
                go_at_call 28
                (with_reducible refine HC.out.mono ?_)
                rintro e wE ⟨x, vx, rfl, hO2, hG2, hz2, hS2, hF2⟩
                obtain ⟨Ax, cx, rfl⟩ := Kd.R_slice hO2
                have hsE := hF2.size
                have HGE := Aside0.mk (hF2.blk HGd.out (by omega))
                have HPE := Aside0.mk (hF2.blk HPd.out (by omega))
                have HOE := Aside0.mk (Kd.R_step (Kd.R_bound HOd.out) (w1 := wE) (fun k hk hkl => hF2.block k hkl (by have := hk.2.1; omega)))
                have HQE := Aside0.mk (HQd.out.trans hF2)
                have HSE := Aside0.mk hS2
                have HX := Lib.hid (And.intro hG2 hz2)
                have HM := Aside0.mk (k24_mkM wE (g + 1) (fun k => wr.heap.size ≤ k) x (Kd.R_lower (Kd.R_mono (Kd.R_bound hO2) (ok' := fun k => wr.heap.size ≤ k) (fun k hk => hk.2.1)) (show g + 1 ≤ wr.drew.heap.size by omega)))
                have hSd : (fun W => W.cell? ⟨g, 2, none⟩ = some (.slice Al l.length cl)) wE := (blk_cell HGE.out 2).trans rfl
                clear hO2 hG2 hz2 hS2 hF2
                refine hK.out _ _ (fun _ => hSd) ?_
                clear hK
                refine wpAnyK_one (i := 10) (by kernel_rfl) rfl (fun K hK => ?_)
                go_simp
                have hSd : (fun W => W.cell? ⟨g, 2, none⟩ = some (.slice Al l.length cl)) (wE.alloc (.cells #[.int .i64 x.f0, .string x.f1, .slice Ax x.f2.length cx] 24)) := pw_cell_below (below_alloc1 _ _) hSd
                refine hK.out _ _ (fun _ => hSd) ?_
                clear hK
                refine wpAnyK_one (i := 11) (by kernel_rfl) rfl (fun K hK => ?_)
                refine Kd.R_append_step k24 (w0 := wE) (W := wE) (g + 1) (by rfl) (.tmp 110) (.tmp 119) 22 24 _ 48 rfl Try.underlying22 infoEx rfl (by decide) (by decide) (.slice Al l.length cl) l x [.int .i64 x.f0, .string x.f1, .slice Ax x.f2.length cx] (fun _ => True) (fun k => wr.heap.size ≤ k) rfl rfl HM.out (fun k hk => ⟨trivial, fun he => by have := (HNb.out k he).2; omega⟩) (fun _ _ => trivial) (Kd.R_mono HOE.out (fun _ _ => trivial)) (Below.refl _ _) (by omega) (by omega) ?_
                intro v9 w9 hR9 hB9 hg9 hat9
                have HG9 := Aside0.mk (blk_grown HGE.out hg9 (fun he => by have := (HNb.out _ he).1; omega))
                have HP9 := Aside0.mk (blk_grown HPE.out hg9 (fun he => by have := (HNb.out _ he).1; omega))
                have HQ9 := Aside0.mk (HQE.out.grown hg9 (fun k hk => .inr (by have := (HNb.out _ hk.symm).1; omega)))
                have HS9 := Aside0.mk (show Sack B A n c _ w9 from Sack.grown HSE.out hg9 (fun he => by have := (HNb.out _ he).1; omega))
                obtain ⟨A9, c9, hv9⟩ := Kd.R_slice hR9
                rw [show (l ++ [x]).length = l.length + 1 from by simp] at hv9
                subst hv9
                have HR9 := Aside0.mk hR9
                have hs9 := hB9.size
                have hSd : (fun W => W.cell? ⟨g, 2, none⟩ = some (.slice Al l.length cl)) w9 := (blk_cell HG9.out 2).trans rfl
                clear hR9 hB9 hg9 hat9
                refine hK.out _ _ (fun _ => hSd) ?_
                clear hK
                refine wpAnyK_one (i := 12) (by kernel_rfl) rfl (fun K hK => ?_)
                go_simp
                refine hK.out _ _ (fun _ => hSd) ?_
                clear hK
                refine wpAnyK_one (i := 13) (by kernel_rfl) rfl (fun K hK => ?_)
                have k9 := (blk_cell HG9.out 2).trans rfl
                have f9 := blk_frozen HG9.out 2
                go_simp
                refine hK.out _ _ (fun h => absurd rfl h) ?_
                clear hK hSd
                refine wpAnyK_done (by kernel_rfl) ?_ _
                clear k9 f9
                go_wp2_with fail
                go_roundg (r3 - (kk + 1))
                case measure => omega
                case rel =>
                  refine ⟨kk + 1, l ++ [x], _, hlt, Nat.le_refl _, by go_num, ⟨?_⟩, ⟨genL_snoc HL.out.1 HX.out.1, ?_⟩, ⟨by rw [List.length_append, HLL.out]; rfl⟩, ⟨HQ9.out.setCell (.inr (by simp only; omega)) _⟩, ⟨blk_put HG9.out 2 _ rfl⟩, ⟨blk_far HP9.out (by simp only; omega) _⟩, ⟨Sack.far1 (HS9.out.mono (by rw [Nat.succ_mul]; omega)) (by show B ≠ g; omega)⟩, by simp only [World.setCell, Array.size_modify]; omega⟩
                  · exact Kd.R_mono (Kd.R_far (Kd.R_mono (Kd.R_bound HR9.out) (ok' := fun k => g + 1 ≤ k) (fun k hk => hk.2.1)) (p := ⟨g, 2, none⟩) (fun k hk => by show k ≠ g; omega) _) (fun _ _ => trivial)
                  · rw [szL_snoc, Nat.succ_mul]; have h1 := HL.out.2; have h2 := HX.out.2; omega
              · have hke : kk = r3 := by omega
                subst hke
                obtain ⟨Al, cl, rfl⟩ := Kd.R_slice HO.out
                have g0 := (blk_cell HG.out 0).trans rfl
                have g1 := (blk_cell HG.out 1).trans rfl
                have g2 := (blk_cell HG.out 2).trans rfl
                have y0 := (blk_cell HP.out 0).trans rfl
                have y1 := (blk_cell HP.out 1).trans rfl
                have y2 := (blk_cell HP.out 2).trans rfl
                have fy := fun i => blk_frozen HP.out i
                go_wp2_with fail
                have b6 := blk_put (blk_put (blk_put HP.out 0 (.int .i64 2) rfl) 1 (.string s) rfl) 2 (.slice Al l.length cl) rfl
                refine bodyPost_ret (results_cell_row rfl _ _ w.heap.size 24 #[.int .i64 2, .string s, .slice Al l.length cl] (0, 0) _ rfl b6 Try.underlying24 rfl (by kernel_rfl)) rfl ?_
                have hne : ∀ k, g + 1 ≤ k → k ≠ w.heap.size := fun k hk => by omega
                refine ⟨⟨2, s, l⟩, _, rfl, Kd.R_lower (Kd.R_mono (Kd.R_far (Kd.R_far (Kd.R_far (Kd.R_mono (Kd.R_bound HO.out) (ok' := fun k => g + 1 ≤ k) (fun k hk => hk.2.1)) hne _) hne _) hne _) (fun _ _ => trivial)) (by omega), ?_, ?_, Sack.far3 (HS.out.mono ?_) (by omega), ((HQ.out.setCell (.inr (Nat.le_refl _)) _).setCell (.inr (Nat.le_refl _)) _).setCell (.inr (Nat.le_refl _)) _⟩
                · rw [genE_eq]; exact .inr (.inl ⟨rfl, by rw [HLL.out]; exact hhd, HL.out.1⟩)
                · have h1 := HL.out.2
                  rw [← HLL.out] at h1
                  have h2 : l.length * exS d ≤ 2 * exS d := Nat.mul_le_mul_right _ hl2
                  rw [szE_eq, exS]
                  dsimp only
                  omega
                · have h2 : l.length * exD d ≤ 2 * exD d := Nat.mul_le_mul_right _ hl2
                  rw [← HLL.out]
                  rw [exD]; omega
theorem c_Expr (B : Nat) (A : Option Addr) (n c : Nat) (zs : List Int) (vars : List ByteArray) (Av : Option Addr) (cv : Nat) (ars : List Nat) (Aa : Option Addr) (ca : Nat) (hcv : vars.length ≤ cv) (hvl : vars.length ≤ 1000) (hca : ars.length ≤ ca) (hal : ars.length ≤ 26) (ha0 : 0 < ars.length) (har : ∀ a ∈ ars, a ≤ 2) :
    ∀ d : Nat, d ≤ 1000 → ExprC B A n c zs vars Av cv ars Aa ca d
  | 0, _ => fun m within nested w hs hz hm hv _ => c_Expr0 B A n c m zs vars Av cv ars Aa ars.length ca within nested w hs hz (by simp only [exD] at hm; omega) hv hcv hvl
  | d + 1, hd => c_Expr_succ B A n c zs vars Av cv ars Aa ca hcv hvl hca hal ha0 har d (by omega) (c_Expr B A n c zs vars Av cv ars Aa ca hcv hvl hca hal ha0 har d (by omega))
end Go.Proofs.Ytacefdkfbpgedaa.Mine
