/- ProgExprs, the law: the walk. -/
import Derived.Test.YtacefdkfbpgedaaQ14
import Derived.Test.YtacefdkfbpgedaaQ15
import Derived.Deep.RegionHeld3
namespace Go.Proofs.Ytacefdkfbpgedaa.Mine
open Go.Proofs.Ytacefdkfbpgedaa.PProgExprs
open Go.RowKit Go.Shelf Go.Proofs.YtacefdkfbpgedaaW.PrintWords Go.Proofs.YtacefdkfbpgedaaW.PrintLast Go.Proofs.YtacefdkfbpgedaaW.PrintMore
set_option linter.unusedVariables false
set_option linter.unusedSimpArgs false
set_option maxRecDepth 100000

/-- It is more than what is looked at. -/
def bigL (e : Ex) (vars : List ByteArray) (bys : List Ex) : Bool := bigE e || (longS vars || (decide (12 < bys.length) || bys.any bigE))
set_option maxHeartbeats 4000000 in
theorem c_lawBig (e : Ex) (A : Option Addr) (c : Nat) (vars : List ByteArray) (Av : Option Addr) (cv : Nat) (bys : List Ex) (Ab : Option Addr) (cb : Nat) (w : World)
    (hr : Kd.C k24 w A e.f2.length e.f2) (hc : e.f2.length ≤ c) (hv : Kd.C Kd.string w Av vars.length vars) (hcv : vars.length ≤ cv) (hb : Kd.C k24 w Ab bys.length bys) (hcb : bys.length ≤ cb) (hn : nmE e) (hnb : ∀ x ∈ bys, nmE x) (hbig : bigL e vars bys = true) :
    Calls Try.prog 3 #[.agg #[.int .i64 e.f0, .string e.f1, .slice A e.f2.length c], .slice Av vars.length cv, .slice Ab bys.length cb] w fun en w' => en = .returned (.bool true) ∧ Below w.heap.size w w' := by
  have hm1 := hv.2.1
  have hm2 := hb.2.1
  obtain ⟨W1, hW1⟩ : ∃ W1, w.alloc (.cells #[.int .i64 e.f0, .string e.f1, .slice A e.f2.length c] 24) = W1 := ⟨_, rfl⟩
  have q1 : Below w.heap.size w W1 := by rw [← hW1]; exact below_alloc1 _ _
  have HB := Lib.hid (c_BigExpr e A c W1 hn (Kd.C_below hr q1) hc)
  have HL := Lib.hid (fun W (h : Below w.heap.size w W) => c_long vars Av cv W (Kd.C_below hv h) hcv)
  have HA := Lib.hid (fun W (h : Below w.heap.size w W) => hasE_p Ab cb bys W hcb (Kd.C_below hb h) 8 #[] (enters_of Try.func8 (by kernel_rfl) rfl) bigE (fun x cs W' hx hK _ => by
    obtain ⟨A2, a2, rfl, hl2, hc2⟩ := k24_open hK
    exact c_BigExpr x A2 a2 W' (hnb x hx) hc2 hl2))
  have Q := Aside0.mk q1
  have HW1 := Lib.hid hW1
  clear hr hv hb q1 hW1
  cases h1 : bigE e with
  | true =>
    rw [h1] at HB
    go_enter Try.func3, Try.ntmps3
    go_wp2_with fail
    rw [HW1.out]
    refine HB.out.mono ?_
    rintro en w2 ⟨rfl, hb⟩
    have Q := Aside0.mk (Q.out.trans (hb.mono Q.out.size))
    clear hb
    go_wp2_with fail
    refine (c_awake _).mono ?_
    rintro en w3 ⟨rfl, hb⟩
    go_wp2
    go_ret
    exact ⟨rfl, Q.out.trans (hb.mono Q.out.size)⟩
  | false =>
    rw [h1] at HB
    cases h2 : longS vars with
    | true =>
      go_enter Try.func3, Try.ntmps3
      go_wp2_with fail
      rw [HW1.out]
      refine HB.out.mono ?_
      rintro en w2 ⟨rfl, hb⟩
      have Q := Aside0.mk (Q.out.trans (hb.mono Q.out.size))
      clear hb
      have HL2 := Lib.hid (HL.out w2 Q.out)
      rw [h2] at HL2
      go_wp2_with fail
      refine HL2.out.mono ?_
      rintro en w3 ⟨rfl, hb⟩
      have Q := Aside0.mk (Q.out.trans (hb.mono Q.out.size))
      clear hb
      go_wp2_with fail
      refine (c_awake _).mono ?_
      rintro en w3 ⟨rfl, hb⟩
      go_wp2
      go_ret
      exact ⟨rfl, Q.out.trans (hb.mono Q.out.size)⟩
    | false =>
      cases h3 : decide ((12 : Int) < (bys.length : Int)) with
      | true =>
        go_enter Try.func3, Try.ntmps3
        go_wp2_with fail
        rw [HW1.out]
        refine HB.out.mono ?_
        rintro en w2 ⟨rfl, hb⟩
        have Q := Aside0.mk (Q.out.trans (hb.mono Q.out.size))
        clear hb
        have HL2 := Lib.hid (HL.out w2 Q.out)
        rw [h2] at HL2
        go_wp2_with fail
        refine HL2.out.mono ?_
        rintro en w3 ⟨rfl, hb⟩
        have Q := Aside0.mk (Q.out.trans (hb.mono Q.out.size))
        clear hb
        go_wp2_with fail
        refine (c_awake _).mono ?_
        rintro en w3 ⟨rfl, hb⟩
        go_wp2
        go_ret
        exact ⟨rfl, Q.out.trans (hb.mono Q.out.size)⟩
      | false =>
        have h4 : bys.any bigE = true := by
          rw [bigL, h1, h2, Bool.false_or, Bool.false_or, Bool.or_eq_true, decide_eq_true_eq] at hbig
          rw [decide_eq_false_iff_not] at h3
          rcases hbig with h | h
          · omega
          · exact h
        go_enter Try.func3, Try.ntmps3
        go_wp2_with fail
        rw [HW1.out]
        refine HB.out.mono ?_
        rintro en w2 ⟨rfl, hb⟩
        have Q := Aside0.mk (Q.out.trans (hb.mono Q.out.size))
        clear hb
        have HL2 := Lib.hid (HL.out w2 Q.out)
        rw [h2] at HL2
        go_wp2_with fail
        refine HL2.out.mono ?_
        rintro en w3 ⟨rfl, hb⟩
        have Q := Aside0.mk (Q.out.trans (hb.mono Q.out.size))
        clear hb
        have HA2 := Lib.hid (HA.out w3 Q.out)
        rw [h4] at HA2
        go_wp2_with fail
        refine HA2.out.mono ?_
        rintro en w4 ⟨rfl, hb⟩
        have Q := Aside0.mk (Q.out.trans (hb.mono Q.out.size))
        clear hb
        go_wp2_with fail
        refine (c_awake _).mono ?_
        rintro en w3 ⟨rfl, hb⟩
        go_wp2
        go_ret
        exact ⟨rfl, Q.out.trans (hb.mono Q.out.size)⟩
end Go.Proofs.Ytacefdkfbpgedaa.Mine
/- ProgExprs, the law: what is looked at. -/
namespace Go.Proofs.Ytacefdkfbpgedaa.Mine
open Go.Proofs.Ytacefdkfbpgedaa.PProgExprs
open Go.RowKit Go.Shelf Go.Proofs.YtacefdkfbpgedaaW.PrintWords Go.Proofs.YtacefdkfbpgedaaW.PrintLast Go.Proofs.YtacefdkfbpgedaaW.PrintMore
set_option linter.unusedVariables false
set_option linter.unusedSimpArgs false
set_option maxRecDepth 100000

theorem longS_len {l : List ByteArray} (h : longS l = false) : l.length ≤ 12 ∧ ∀ s ∈ l, s.size ≤ 40 := by
  rw [longS, Bool.or_eq_false_iff, decide_eq_false_iff_not, List.any_eq_false] at h
  exact ⟨by omega, fun s hs => by have := h.2 s hs; simp at this; omega⟩
/-- The boxes of four expressions. -/
abbrev ExBox (B : Nat) (e : Ex) (A : Option Addr) (c : Nat) (W : World) : Prop := W.heap[B]? = some (.cells #[.int .i64 e.f0, .string e.f1, .slice A e.f2.length c] 24 (0, 0))
abbrev Lw2 (W0 : World) (b0 : Nat) (e0 : Ex) (A0 : Option Addr) (c0 : Nat) (b1 : Nat) (e1 : Ex) (A1 : Option Addr) (c1 : Nat) (W : World) : Prop := Below W0.heap.size W0 W ∧ W.cell? ⟨b0, 0, none⟩ = some (.int .i64 e0.f0) ∧ W.cell? ⟨b0, 1, none⟩ = some (.string e0.f1) ∧ W.cell? ⟨b0, 2, none⟩ = some (.slice A0 e0.f2.length c0) ∧ W.cell? ⟨b1, 0, none⟩ = some (.int .i64 e1.f0) ∧ W.cell? ⟨b1, 1, none⟩ = some (.string e1.f1) ∧ W.cell? ⟨b1, 2, none⟩ = some (.slice A1 e1.f2.length c1)
theorem Lw2.step {W0 : World} {b0 : Nat} {e0 : Ex} {A0 : Option Addr} {c0 : Nat} {b1 : Nat} {e1 : Ex} {A1 : Option Addr} {c1 : Nat} {W W' : World} (h : Lw2 W0 b0 e0 A0 c0 b1 e1 A1 c1 W) (hb : Below W.heap.size W W') : Lw2 W0 b0 e0 A0 c0 b1 e1 A1 c1 W' := by
  obtain ⟨h0, h1, h2, h3, h4, h5, h6⟩ := h
  exact ⟨h0.trans (hb.mono h0.size), pw_cell_below hb h1, pw_cell_below hb h2, pw_cell_below hb h3, pw_cell_below hb h4, pw_cell_below hb h5, pw_cell_below hb h6⟩
theorem Lw2.of {W0 : World} {b0 : Nat} {e0 : Ex} {A0 : Option Addr} {c0 : Nat} {b1 : Nat} {e1 : Ex} {A1 : Option Addr} {c1 : Nat} (x0 : ExBox b0 e0 A0 c0 W0) (x1 : ExBox b1 e1 A1 c1 W0) : Lw2 W0 b0 e0 A0 c0 b1 e1 A1 c1 W0 := ⟨Below.refl _ _, (blk_cell x0 0).trans rfl, (blk_cell x0 1).trans rfl, (blk_cell x0 2).trans rfl, (blk_cell x1 0).trans rfl, (blk_cell x1 1).trans rfl, (blk_cell x1 2).trans rfl⟩
abbrev Lw3 (W0 : World) (b0 : Nat) (e0 : Ex) (A0 : Option Addr) (c0 : Nat) (b1 : Nat) (e1 : Ex) (A1 : Option Addr) (c1 : Nat) (b2 : Nat) (e2 : Ex) (A2 : Option Addr) (c2 : Nat) (W : World) : Prop := Below W0.heap.size W0 W ∧ W.cell? ⟨b0, 0, none⟩ = some (.int .i64 e0.f0) ∧ W.cell? ⟨b0, 1, none⟩ = some (.string e0.f1) ∧ W.cell? ⟨b0, 2, none⟩ = some (.slice A0 e0.f2.length c0) ∧ W.cell? ⟨b1, 0, none⟩ = some (.int .i64 e1.f0) ∧ W.cell? ⟨b1, 1, none⟩ = some (.string e1.f1) ∧ W.cell? ⟨b1, 2, none⟩ = some (.slice A1 e1.f2.length c1) ∧ W.cell? ⟨b2, 0, none⟩ = some (.int .i64 e2.f0) ∧ W.cell? ⟨b2, 1, none⟩ = some (.string e2.f1) ∧ W.cell? ⟨b2, 2, none⟩ = some (.slice A2 e2.f2.length c2)
theorem Lw3.step {W0 : World} {b0 : Nat} {e0 : Ex} {A0 : Option Addr} {c0 : Nat} {b1 : Nat} {e1 : Ex} {A1 : Option Addr} {c1 : Nat} {b2 : Nat} {e2 : Ex} {A2 : Option Addr} {c2 : Nat} {W W' : World} (h : Lw3 W0 b0 e0 A0 c0 b1 e1 A1 c1 b2 e2 A2 c2 W) (hb : Below W.heap.size W W') : Lw3 W0 b0 e0 A0 c0 b1 e1 A1 c1 b2 e2 A2 c2 W' := by
  obtain ⟨h0, h1, h2, h3, h4, h5, h6, h7, h8, h9⟩ := h
  exact ⟨h0.trans (hb.mono h0.size), pw_cell_below hb h1, pw_cell_below hb h2, pw_cell_below hb h3, pw_cell_below hb h4, pw_cell_below hb h5, pw_cell_below hb h6, pw_cell_below hb h7, pw_cell_below hb h8, pw_cell_below hb h9⟩
theorem Lw3.of {W0 : World} {b0 : Nat} {e0 : Ex} {A0 : Option Addr} {c0 : Nat} {b1 : Nat} {e1 : Ex} {A1 : Option Addr} {c1 : Nat} {b2 : Nat} {e2 : Ex} {A2 : Option Addr} {c2 : Nat} (x0 : ExBox b0 e0 A0 c0 W0) (x1 : ExBox b1 e1 A1 c1 W0) (x2 : ExBox b2 e2 A2 c2 W0) : Lw3 W0 b0 e0 A0 c0 b1 e1 A1 c1 b2 e2 A2 c2 W0 := ⟨Below.refl _ _, (blk_cell x0 0).trans rfl, (blk_cell x0 1).trans rfl, (blk_cell x0 2).trans rfl, (blk_cell x1 0).trans rfl, (blk_cell x1 1).trans rfl, (blk_cell x1 2).trans rfl, (blk_cell x2 0).trans rfl, (blk_cell x2 1).trans rfl, (blk_cell x2 2).trans rfl⟩
abbrev Lw4 (W0 : World) (b0 : Nat) (e0 : Ex) (A0 : Option Addr) (c0 : Nat) (b1 : Nat) (e1 : Ex) (A1 : Option Addr) (c1 : Nat) (b2 : Nat) (e2 : Ex) (A2 : Option Addr) (c2 : Nat) (b3 : Nat) (e3 : Ex) (A3 : Option Addr) (c3 : Nat) (W : World) : Prop := Below W0.heap.size W0 W ∧ W.cell? ⟨b0, 0, none⟩ = some (.int .i64 e0.f0) ∧ W.cell? ⟨b0, 1, none⟩ = some (.string e0.f1) ∧ W.cell? ⟨b0, 2, none⟩ = some (.slice A0 e0.f2.length c0) ∧ W.cell? ⟨b1, 0, none⟩ = some (.int .i64 e1.f0) ∧ W.cell? ⟨b1, 1, none⟩ = some (.string e1.f1) ∧ W.cell? ⟨b1, 2, none⟩ = some (.slice A1 e1.f2.length c1) ∧ W.cell? ⟨b2, 0, none⟩ = some (.int .i64 e2.f0) ∧ W.cell? ⟨b2, 1, none⟩ = some (.string e2.f1) ∧ W.cell? ⟨b2, 2, none⟩ = some (.slice A2 e2.f2.length c2) ∧ W.cell? ⟨b3, 0, none⟩ = some (.int .i64 e3.f0) ∧ W.cell? ⟨b3, 1, none⟩ = some (.string e3.f1) ∧ W.cell? ⟨b3, 2, none⟩ = some (.slice A3 e3.f2.length c3)
theorem Lw4.step {W0 : World} {b0 : Nat} {e0 : Ex} {A0 : Option Addr} {c0 : Nat} {b1 : Nat} {e1 : Ex} {A1 : Option Addr} {c1 : Nat} {b2 : Nat} {e2 : Ex} {A2 : Option Addr} {c2 : Nat} {b3 : Nat} {e3 : Ex} {A3 : Option Addr} {c3 : Nat} {W W' : World} (h : Lw4 W0 b0 e0 A0 c0 b1 e1 A1 c1 b2 e2 A2 c2 b3 e3 A3 c3 W) (hb : Below W.heap.size W W') : Lw4 W0 b0 e0 A0 c0 b1 e1 A1 c1 b2 e2 A2 c2 b3 e3 A3 c3 W' := by
  obtain ⟨h0, h1, h2, h3, h4, h5, h6, h7, h8, h9, h10, h11, h12⟩ := h
  exact ⟨h0.trans (hb.mono h0.size), pw_cell_below hb h1, pw_cell_below hb h2, pw_cell_below hb h3, pw_cell_below hb h4, pw_cell_below hb h5, pw_cell_below hb h6, pw_cell_below hb h7, pw_cell_below hb h8, pw_cell_below hb h9, pw_cell_below hb h10, pw_cell_below hb h11, pw_cell_below hb h12⟩
theorem Lw4.of {W0 : World} {b0 : Nat} {e0 : Ex} {A0 : Option Addr} {c0 : Nat} {b1 : Nat} {e1 : Ex} {A1 : Option Addr} {c1 : Nat} {b2 : Nat} {e2 : Ex} {A2 : Option Addr} {c2 : Nat} {b3 : Nat} {e3 : Ex} {A3 : Option Addr} {c3 : Nat} (x0 : ExBox b0 e0 A0 c0 W0) (x1 : ExBox b1 e1 A1 c1 W0) (x2 : ExBox b2 e2 A2 c2 W0) (x3 : ExBox b3 e3 A3 c3 W0) : Lw4 W0 b0 e0 A0 c0 b1 e1 A1 c1 b2 e2 A2 c2 b3 e3 A3 c3 W0 := ⟨Below.refl _ _, (blk_cell x0 0).trans rfl, (blk_cell x0 1).trans rfl, (blk_cell x0 2).trans rfl, (blk_cell x1 0).trans rfl, (blk_cell x1 1).trans rfl, (blk_cell x1 2).trans rfl, (blk_cell x2 0).trans rfl, (blk_cell x2 1).trans rfl, (blk_cell x2 2).trans rfl, (blk_cell x3 0).trans rfl, (blk_cell x3 1).trans rfl, (blk_cell x3 2).trans rfl⟩
theorem keepS {S : World → Prop} (st : ∀ {W W' : World}, S W → Below W.heap.size W W' → S W') {f : Nat} {args : Array Value} {W : World} {v v' : Value} (hS : S W) (hv : v = v') (h : Calls Try.prog f args W fun e W' => e = .returned v ∧ Below W.heap.size W W') : Calls Try.prog f args W fun e W' => e = .returned v' ∧ S W' :=
  h.mono (by rintro e W' ⟨rfl, h2⟩; exact ⟨by rw [hv], st hS h2⟩)
set_option maxHeartbeats 8000000 in
theorem c_lawSmall (e : Ex) (A : Option Addr) (c : Nat) (vars : List ByteArray) (Av : Option Addr) (cv : Nat) (bys : List Ex) (Ab : Option Addr) (cb : Nat) (w : World)
    (hr : Kd.C k24 w A e.f2.length e.f2) (hc : e.f2.length ≤ c) (hv : Kd.C Kd.string w Av vars.length vars) (hcv : vars.length ≤ cv) (hb : Kd.C k24 w Ab bys.length bys) (hcb : bys.length ≤ cb) (hn : nmE e) (hnb : ∀ x ∈ bys, nmE x) (hbig : bigL e vars bys = false) :
    Calls Try.prog 3 #[.agg #[.int .i64 e.f0, .string e.f1, .slice A e.f2.length c], .slice Av vars.length cv, .slice Ab bys.length cb] w fun en w' => en = .returned (.bool true) ∧ Below w.heap.size w w' := by
  rw [bigL, Bool.or_eq_false_iff, Bool.or_eq_false_iff, Bool.or_eq_false_iff] at hbig
  obtain ⟨hb1, hb2, hb3, hb4⟩ := hbig
  have hse := bigE_sz hb1
  have hsb : ∀ x ∈ bys, szE x ≤ 60 := fun x hx => bigE_sz (by have := List.any_eq_false.1 hb4 x hx; simpa using this)
  obtain ⟨hvl, hvs⟩ := longS_len hb2
  have hbl : bys.length ≤ 12 := by rw [decide_eq_false_iff_not] at hb3; omega
  have hb3 : decide ((12 : Int) < (bys.length : Int)) = false := decide_eq_false (by omega)
  have hps : szE (putE vars bys e) ≤ 3600 := by
    have h1 := putE_sz vars bys 60 (by omega) hsb _ e (Nat.le_refl _)
    omega
  have hpx : szE (subP vars bys e).1 < 1000000 := by
    rw [subP_eq]
    split
    · split
      · decide
      · split
        · simp only; omega
        · decide
    · decide
  have hm1 := hv.2.1
  have hm2 := hb.2.1
  obtain ⟨W1, hW1⟩ : ∃ W1, w.alloc (.cells #[.int .i64 e.f0, .string e.f1, .slice A e.f2.length c] 24) = W1 := ⟨_, rfl⟩
  have q1 : Below w.heap.size w W1 := by rw [← hW1]; exact below_alloc1 _ _
  have b3 : ExBox w.heap.size e A c W1 := by rw [← hW1]; exact alloc_at _ _
  have HB := Lib.hid (c_BigExpr e A c W1 hn (Kd.C_below hr q1) hc)
  have HL := Lib.hid (fun W (h : Below w.heap.size w W) => c_long vars Av cv W (Kd.C_below hv h) hcv)
  have HA := Lib.hid (fun W (h : Below w.heap.size w W) => hasE_p Ab cb bys W hcb (Kd.C_below hb h) 8 #[] (enters_of Try.func8 (by kernel_rfl) rfl) bigE (fun x cs W' hx hK _ => by
    obtain ⟨A2, a2, rfl, hl2, hc2⟩ := k24_open hK
    exact c_BigExpr x A2 a2 W' (hnb x hx) hc2 hl2))
  have HE := Lib.hid hr
  have HV := Lib.hid hv
  have HBy := Lib.hid hb
  have Q := Aside0.mk q1
  have B3 := Aside0.mk b3
  have HW1 := Lib.hid hW1
  clear hr hv hb q1 hW1 b3
  rw [hb1] at HB
  go_enter Try.func3, Try.ntmps3
  go_wp2_with fail
  rw [HW1.out]
  refine HB.out.mono ?_
  rintro en w2 ⟨rfl, hb⟩
  have Q := Aside0.mk (Q.out.trans (hb.mono Q.out.size))
  have B3 := Aside0.mk (blk_below B3.out hb)
  clear hb HB HW1
  have HL2 := Lib.hid (HL.out w2 Q.out)
  rw [hb2] at HL2
  go_wp2_with fail
  refine HL2.out.mono ?_
  rintro en w3 ⟨rfl, hb⟩
  have Q := Aside0.mk (Q.out.trans (hb.mono Q.out.size))
  have B3 := Aside0.mk (blk_below B3.out hb)
  clear hb HL2 HL
  have HA2 := Lib.hid (HA.out w3 Q.out)
  rw [hb4] at HA2
  go_wp2_with fail
  refine HA2.out.mono ?_
  rintro en w4 ⟨rfl, hb⟩
  have Q := Aside0.mk (Q.out.trans (hb.mono Q.out.size))
  have B3 := Aside0.mk (blk_below B3.out hb)
  clear hb HA2 HA hb1 hb2 hb4
  have e0 := (blk_cell B3.out 0).trans rfl
  have e1 := (blk_cell B3.out 1).trans rfl
  have e2 := (blk_cell B3.out 2).trans rfl
  have HO := Lib.hid (c_OwnExpr _ e A c w4 (Nat.le_refl _) (by omega) (Kd.C_below HE.out Q.out) hc)
  go_wp2_with fail
  clear e0 e1 e2
  refine HO.out.mono ?_
  rintro en w5 ⟨vo, rfl, ho, hb⟩
  obtain ⟨Ao, co, rfl, hco, hCo⟩ := Kd.R_reads ho
  have Q := Aside0.mk (Q.out.trans (hb.mono Q.out.size))
  have B3 := Aside0.mk (blk_below B3.out hb)
  have O := Aside0.mk hCo
  clear hb ho hCo HO
  have HD := Lib.hid (c_Dup Av cv vars w5 (Kd.C_below HV.out Q.out) hcv (by omega))
  go_wp2_with fail
  refine HD.out.mono ?_
  rintro en w6 ⟨vn, rfl, ho, hb⟩
  obtain ⟨An, cn, rfl, hcn, hCn⟩ := Kd.R_reads ho
  have Q := Aside0.mk (Q.out.trans (hb.mono Q.out.size))
  have B3 := Aside0.mk (blk_below B3.out hb)
  have O := Aside0.mk (Kd.C_below O.out hb)
  have N := Aside0.mk hCn
  clear hb ho hCn HD
  obtain ⟨W7, hW7⟩ : ∃ W7, w6.alloc (.cells #[.int .i64 e.f0, .string e.f1, .slice Ao e.f2.length co] 24) = W7 := ⟨_, rfl⟩
  have hb : Below w6.heap.size w6 W7 := by rw [← hW7]; exact below_alloc1 _ _
  have B7 := Aside0.mk (show ExBox w6.heap.size e Ao co W7 by rw [← hW7]; exact alloc_at _ _)
  have Q := Aside0.mk (Q.out.trans (hb.mono Q.out.size))
  have B3 := Aside0.mk (blk_below B3.out hb)
  have O := Aside0.mk (Kd.C_below O.out hb)
  have N := Aside0.mk (Kd.C_below N.out hb)
  have HW7 := Lib.hid hW7
  clear hb hW7
  go_wp2_with fail
  rw [HW7.out]
  clear HW7
  go_loopg [9, 40] bys.length (fun gg s9 s40 wr => ∃ kk : Nat, kk ≤ bys.length ∧ bys.length - kk ≤ gg ∧ s40 = .int .i64 kk ∧ Aside0 (OwnE wr W7.heap.size s9 (bys.take kk)) ∧ Aside0 (Below W7.heap.size W7 wr))
  case atStart => exact ⟨0, Nat.zero_le _, by omega, rfl, ⟨Kd.R_nil _ _ _ _ _⟩, ⟨Below.refl _ _⟩⟩
  case round =>
    obtain ⟨kk, hkk, hg, rfl, HO, HB⟩ := hrel
    by_cases hlt : kk < bys.length
    · have hltz : (kk : Int) < (bys.length : Int) := by omega
      have qr : Below w.heap.size w wr := Q.out.trans (HB.out.mono Q.out.size)
      obtain ⟨ad, c0, c1, c2, rfl, hK, k0, k1, k2⟩ := get3 rfl (Kd.C_below HBy.out qr) kk hlt
      obtain ⟨A2, a2, rfl, rfl, rfl, hl2, hi2⟩ := kE_cells hK
      have hsz := hsb _ (List.getElem_mem hlt)
      obtain ⟨Ap, cp, rfl⟩ := Kd.R_slice HO.out
      have hTl := List.length_take_of_le hkk
      rw [hTl] at HO
      obtain ⟨x, hx⟩ : ∃ x, bys[kk] = x := ⟨_, rfl⟩
      rw [hx] at hK k0 k1 k2 hl2 hi2 hsz
      obtain ⟨W0, hW0⟩ : ∃ W0, wr.alloc (.cells #[.int .i64 x.f0, .string x.f1, .slice A2 x.f2.length a2] 24) = W0 := ⟨_, rfl⟩
      have q0 : Below wr.heap.size wr W0 := by rw [← hW0]; exact below_alloc1 _ _
      have HC := Lib.hid (c_OwnExpr _ x A2 a2 W0 (Nat.le_refl _) (by omega) (Kd.C_below hi2 q0) hl2)
      have Q0 := Aside0.mk q0
      have HW0 := Lib.hid hW0
      have HX := Lib.hid hx
      have hsw := HB.out.size
      clear hK hi2 hl2 hW0 hx q0 qr
      go_wp2_with fail
      rw [HW0.out]
      refine HC.out.mono ?_
      rintro en w9 ⟨v2, rfl, hO2, hb⟩
      have hs0 := Q0.out.size
      have hs9 := hb.size
      have hM2 := k24_mkM w9 W7.heap.size (fun k => W0.heap.size ≤ k) x (Kd.R_lower (Kd.R_mono (Kd.R_bound hO2) (fun k hk => hk.2.1)) (show W7.heap.size ≤ W0.heap.size by omega))
      have hb9 : Below wr.heap.size wr w9 := Q0.out.trans (hb.mono Q0.out.size)
      have hne : ∀ k, W0.heap.size ≤ k → some k ≠ (Value.slice Ap kk cp).ownBlock := fun k hk he => by have := ((Kd.R_bound HO.out).1 k he.symm).2.2; omega
      have hR9 := Kd.R_below HO.out hb9
      obtain ⟨Ax, cx, hv2⟩ := Kd.R_slice hO2
      subst hv2
      have H9 := Aside0.mk hR9
      have M9 := Lib.hid hM2
      have HB9 := Aside0.mk (HB.out.trans (hb9.mono HB.out.size))
      have NE := Lib.hid hne
      clear hb hO2 hM2 hb9 hR9 hne
      go_wp2_with (at_builtin; refine Kd.R_append k24 (w0 := w9) (W := w9) W7.heap.size rfl (.tmp 44) (.tmp 47) 22 24 _ 48 rfl Try.underlying22 infoEx rfl (by decide) (by decide) (.slice Ap kk cp) (bys.take kk) x [.int .i64 x.f0, .string x.f1, .slice Ax x.f2.length cx] (fun _ => True) (fun k => W0.heap.size ≤ k) rfl rfl M9.out (fun k hk => ⟨trivial, NE.out k hk⟩) (fun _ _ => trivial) H9.out (Below.refl _ _) (by omega) (by rw [hTl]; omega) ?_; intro v1 w3 hR3 hB3 hg3 hat3; have HR3 := Aside0.mk hR3; have HB3 := Lib.hid hB3; clear hR3 hB3 hg3 hat3)
      go_roundg (bys.length - (kk + 1))
      case measure => omega
      case rel => exact ⟨kk + 1, by omega, by omega, by go_num, ⟨by rw [take_snoc hlt, HX.out]; exact HR3.out⟩, ⟨HB9.out.trans (HB3.out.mono (by omega))⟩⟩
    · have : kk = bys.length := by omega
      subst this
      rw [List.take_length] at HO
      obtain ⟨Ap, cp, rfl, hcp, hCp⟩ := Kd.R_reads HO.out
      have T := Aside0.mk hCp
      have hb := HB.out
      have B7 := Aside0.mk (blk_below B7.out hb)
      have Q := Aside0.mk (Q.out.trans (hb.mono Q.out.size))
      have B3 := Aside0.mk (blk_below B3.out hb)
      have O := Aside0.mk (Kd.C_below O.out hb)
      have N := Aside0.mk (Kd.C_below N.out hb)
      clear hb HB HO hCp
      have e0 := (blk_cell B3.out 0).trans rfl
      have e1 := (blk_cell B3.out 1).trans rfl
      have e2 := (blk_cell B3.out 2).trans rfl
      have HS := Lib.hid (c_rSubst e A c vars Av cv bys Ab cb wr (fun k => k < w.heap.size) (fun k hk => Nat.lt_of_lt_of_le hk Q.out.size) (Kd.C_below HE.out Q.out) hc (Kd.C_below HV.out Q.out) hcv (Kd.F_below (Kd.C_F k24_heap HBy.out) Q.out) hcb (by omega) (by omega) (by omega))
      go_wp2_with fail
      clear e0 e1 e2
      refine HS.out.mono ?_
      obtain ⟨sp, hsp⟩ : ∃ sp, subP vars bys e = sp := ⟨_, rfl⟩
      rw [hsp] at hpx
      rw [hsp]
      rintro en w10 ⟨v, rfl, ⟨Aw, cw, rfl, hcw, hFw⟩, hb⟩
      have B7 := Aside0.mk (blk_below B7.out hb)
      have Q := Aside0.mk (Q.out.trans (hb.mono Q.out.size))
      have B3 := Aside0.mk (blk_below B3.out hb)
      have O := Aside0.mk (Kd.C_below O.out hb)
      have N := Aside0.mk (Kd.C_below N.out hb)
      have T := Aside0.mk (Kd.C_below T.out hb)
      have X := Aside0.mk (Kd.F_now hFw)
      clear hb hFw HS
      have h67 := lt_of_block B7.out
      obtain ⟨W11, hW11⟩ : ∃ W11, w10.alloc (.cells #[.int .i64 sp.1.f0, .string sp.1.f1, .slice Aw sp.1.f2.length cw] 24) = W11 := ⟨_, rfl⟩
      have hb : Below w10.heap.size w10 W11 := by rw [← hW11]; exact below_alloc1 _ _
      have B12 := Aside0.mk (show ExBox w10.heap.size sp.1 Aw cw W11 by rw [← hW11]; exact alloc_at _ _)
      have B7 := Aside0.mk (blk_below B7.out hb)
      have Q := Aside0.mk (Q.out.trans (hb.mono Q.out.size))
      have B3 := Aside0.mk (blk_below B3.out hb)
      have O := Aside0.mk (Kd.C_below O.out hb)
      have N := Aside0.mk (Kd.C_below N.out hb)
      have T := Aside0.mk (Kd.C_below T.out hb)
      have X := Aside0.mk (Kd.C_below X.out hb)
      have HW11 := Lib.hid hW11
      have g0 := (blk_cell B7.out 0).trans rfl
      have g1 := (blk_cell B7.out 1).trans rfl
      have g2 := (blk_cell B7.out 2).trans rfl
      rw [← hW11] at g0 g1 g2
      have h610 := lt_of_block B7.out
      rw [← hW11] at h610
      simp only [World.size_alloc] at h610
      have hne67 : ¬ (w6.heap.size = w10.heap.size) := by omega
      clear hb hW11
      have HS2 := Lib.hid (c_Subst e Ao co vars An cn bys Ap cp W11 O.out hco N.out hcn T.out hcp (by omega) (fun x hx => by have := hsb x hx; omega) (fun s hs => by have := hvs s hs; unfold nmLim; omega) (by omega))
      rw [hsp] at HS2
      go_wp2_with fail
      rw [HW11.out]
      clear g0 g1 g2
      refine HS2.out.mono ?_
      rintro en w12 ⟨v, rfl, hox, hb⟩
      obtain ⟨Ax, cx, rfl, hcx, hCx⟩ := Kd.R_reads hox
      have OX := Aside0.mk hox
      have CX := Aside0.mk hCx
      have QS := Aside0.mk hb
      clear hb hox hCx HS2 HW11
      obtain ⟨W13, hW13⟩ : ∃ W13, w12.alloc (.cells #[.int .i64 sp.1.f0, .string sp.1.f1, .slice Ax sp.1.f2.length cx] 24) = W13 := ⟨_, rfl⟩
      have hb : Below w12.heap.size w12 W13 := by rw [← hW13]; exact below_alloc1 _ _
      have B14 := Aside0.mk (show ExBox w12.heap.size sp.1 Ax cx W13 by rw [← hW13]; exact alloc_at _ _)
      have OX := Aside0.mk (Kd.R_below OX.out hb)
      have CX := Aside0.mk (Kd.C_below CX.out hb)
      have QS := Aside0.mk (QS.out.trans (hb.mono QS.out.size))
      have HW13 := Lib.hid hW13
      clear hb hW13
      have hS0 : Lw4 W13 w.heap.size e A c w6.heap.size e Ao co w10.heap.size sp.1 Aw cw w12.heap.size sp.1 Ax cx W13 := Lw4.of (blk_below B3.out QS.out) (blk_below B7.out QS.out) (blk_below B12.out QS.out) B14.out
      have toS : ∀ {W : World}, Lw4 W13 w.heap.size e A c w6.heap.size e Ao co w10.heap.size sp.1 Aw cw w12.heap.size sp.1 Ax cx W → Below W11.heap.size W11 W := fun h => QS.out.trans (h.1.mono QS.out.size)
      have toE : ∀ {W : World}, Lw4 W13 w.heap.size e A c w6.heap.size e Ao co w10.heap.size sp.1 Aw cw w12.heap.size sp.1 Ax cx W → Below w.heap.size w W := fun h => Q.out.trans ((toS h).mono Q.out.size)
      have HSm := Lib.hid (fun W (h : Lw4 W13 w.heap.size e A c w6.heap.size e Ao co w10.heap.size sp.1 Aw cw w12.heap.size sp.1 Ax cx W) => keepS Lw4.step (v' := .bool true) h (by rw [sameE_iff.2 rfl]) (c_rSame _ sp.1 sp.1 Ax Aw cx cw W (Nat.le_refl _) (Kd.C_below CX.out h.1) hcx (Kd.C_below X.out (toS h)) hcw))
      have HSz := Lib.hid (fun W (h : Lw4 W13 w.heap.size e A c w6.heap.size e Ao co w10.heap.size sp.1 Aw cw w12.heap.size sp.1 Ax cx W) => keepS Lw4.step h rfl (c_Size _ e Ao co W (Nat.le_refl _) (by omega) (Kd.C_below O.out (toS h)) hco))
      have HrSz := Lib.hid (fun W (h : Lw4 W13 w.heap.size e A c w6.heap.size e Ao co w10.heap.size sp.1 Aw cw w12.heap.size sp.1 Ax cx W) => keepS Lw4.step h rfl (c_rSize e A c W (by omega) (Kd.C_below HE.out (toE h)) hc))
      have hht := htE_sz _ e (Nat.le_refl _)
      have HHt := Lib.hid (fun W (h : Lw4 W13 w.heap.size e A c w6.heap.size e Ao co w10.heap.size sp.1 Aw cw w12.heap.size sp.1 Ax cx W) => keepS Lw4.step h rfl (c_Height _ e Ao co W (Nat.le_refl _) (by omega) (Kd.C_below O.out (toS h)) hco))
      have HrHt := Lib.hid (fun W (h : Lw4 W13 w.heap.size e A c w6.heap.size e Ao co w10.heap.size sp.1 Aw cw w12.heap.size sp.1 Ax cx W) => keepS Lw4.step h rfl (c_rHeight _ e A c W (Nat.le_refl _) (by omega) (Kd.C_below HE.out (toE h)) hc))
      have HVa := Lib.hid (fun W (h : Lw4 W13 w.heap.size e A c w6.heap.size e Ao co w10.heap.size sp.1 Aw cw w12.heap.size sp.1 Ax cx W) => (c_Vars e Ao co W (Kd.C_below O.out (toS h)) hco (by omega)).mono (R' := fun en W' => ∃ B b, en = .returned (.slice B (varsL (plE e)).length b) ∧ ((varsL (plE e)).length ≤ b ∧ Kd.C Kd.string W' B (varsL (plE e)).length (varsL (plE e))) ∧ Lw4 W13 w.heap.size e A c w6.heap.size e Ao co w10.heap.size sp.1 Aw cw w12.heap.size sp.1 Ax cx W') (by rintro en W' ⟨v, rfl, ho, h2⟩; obtain ⟨B, b, rfl, h3, h4⟩ := OwnS.reads ho; exact ⟨B, b, rfl, ⟨h3, h4⟩, h.step h2⟩))
      have HrVa := Lib.hid (fun W (h : Lw4 W13 w.heap.size e A c w6.heap.size e Ao co w10.heap.size sp.1 Aw cw w12.heap.size sp.1 Ax cx W) (B0 : Option Addr) (b0 : Nat) (hB : (varsL (plE e)).length ≤ b0 ∧ Kd.C Kd.string W B0 (varsL (plE e)).length (varsL (plE e))) => (c_rVars e A c W (by omega) (Kd.C_below HE.out (toE h)) hc).mono (R' := fun en W' => ∃ B b, en = .returned (.slice B (varsL (plE e)).length b) ∧ (((varsL (plE e)).length ≤ b0 ∧ Kd.C Kd.string W' B0 (varsL (plE e)).length (varsL (plE e))) ∧ (varsL (plE e)).length ≤ b ∧ Kd.C Kd.string W' B (varsL (plE e)).length (varsL (plE e))) ∧ Lw4 W13 w.heap.size e A c w6.heap.size e Ao co w10.heap.size sp.1 Aw cw w12.heap.size sp.1 Ax cx W') (by rintro en W' ⟨v, rfl, ho, h2⟩; obtain ⟨B, b, rfl, h3, h4⟩ := OwnS.reads ho; exact ⟨B, b, rfl, ⟨⟨hB.1, Kd.C_below hB.2 h2⟩, h3, h4⟩, h.step h2⟩))
      have HEq := Lib.hid (fun W (h : Lw4 W13 w.heap.size e A c w6.heap.size e Ao co w10.heap.size sp.1 Aw cw w12.heap.size sp.1 Ax cx W) (B0 B1 : Option Addr) (b0 b1 : Nat) (hB : ((varsL (plE e)).length ≤ b0 ∧ Kd.C Kd.string W B0 (varsL (plE e)).length (varsL (plE e))) ∧ (varsL (plE e)).length ≤ b1 ∧ Kd.C Kd.string W B1 (varsL (plE e)).length (varsL (plE e))) => keepS Lw4.step (v' := .bool true) h (by simp) (c_EqS B0 B1 b0 b1 _ _ W hB.1.2 hB.1.1 hB.2.2 hB.2.1))
      go_wp2_with fail
      rw [HW13.out]
      clear HW13
      go_region_held3 (fun W => Lw4 W13 w.heap.size e A c w6.heap.size e Ao co w10.heap.size sp.1 Aw cw w12.heap.size sp.1 Ax cx W) (first | assumption | exact hS0.step (below_drew (Below.refl _ _))) (first | (go_at_call 16; refine (HSm.out _ (by assumption)).mono ?_; rintro e w' ⟨rfl, hS⟩) | (go_at_call 17; refine (HSz.out _ (by assumption)).mono ?_; rintro e w' ⟨rfl, hS⟩) | (go_at_call 18; refine (HrSz.out _ (by assumption)).mono ?_; rintro e w' ⟨rfl, hS⟩) | (go_at_call 19; refine (HHt.out _ (by assumption)).mono ?_; rintro e w' ⟨rfl, hS⟩) | (go_at_call 20; refine (HrHt.out _ (by assumption)).mono ?_; rintro e w' ⟨rfl, hS⟩) | (go_at_call 22; refine (HVa.out _ (by assumption)).mono ?_; rintro e w' ⟨B, b, rfl, hva, hS⟩) | (go_at_call 23; refine (HrVa.out _ (by assumption) _ _ (by assumption)).mono ?_; rintro e w' ⟨B, b, rfl, hva2, hS⟩) | (go_at_call 21; refine (HEq.out _ (by assumption) _ _ _ _ (by assumption)).mono ?_; rintro e w' ⟨rfl, hS⟩))
      all_goals
        rename_i hlast
        have QL := Aside0.mk hlast.1
        clear hS0 HSm HSz HrSz HHt HrHt HVa HrVa HEq toS toE hlast
        go_wp2_with fail
        go_loopg [97] bys.length (fun gg s97 wr => ∃ kk : Nat, kk ≤ bys.length ∧ bys.length - kk ≤ gg ∧ s97 = .int .i64 kk ∧ Aside0 (Below W13.heap.size W13 wr))
        case atStart => exact ⟨0, Nat.zero_le _, by omega, rfl, QL⟩
        case round =>
          obtain ⟨kk, hkk, hg, rfl, HB⟩ := hrel
          have QSr := Aside0.mk (QS.out.trans (HB.out.mono QS.out.size))
          have QEr := Aside0.mk (Q.out.trans (QSr.out.mono Q.out.size))
          by_cases hlt : kk < bys.length
          · have hltz : (kk : Int) < (bys.length : Int) := by omega
            obtain ⟨ad, c0, c1, c2, rfl, hK, k0, k1, k2⟩ := get3 rfl (Kd.C_below HBy.out QEr.out) kk hlt
            obtain ⟨Ay, cy, rfl, rfl, rfl, hl2, hi2⟩ := kE_cells hK
            have hsz := hsb _ (List.getElem_mem hlt)
            obtain ⟨y, hy⟩ : ∃ y, bys[kk] = y := ⟨_, rfl⟩
            rw [hy] at hK k0 k1 k2 hl2 hi2 hsz
            obtain ⟨W16, hW16⟩ : ∃ W16, wr.alloc (.cells #[.int .i64 y.f0, .string y.f1, .slice Ay y.f2.length cy] 24) = W16 := ⟨_, rfl⟩
            have q16 : Below wr.heap.size wr W16 := by rw [← hW16]; exact below_alloc1 _ _
            have b17 : ExBox wr.heap.size y Ay cy W16 := by rw [← hW16]; exact alloc_at _ _
            have hS0 : Lw3 W16 w.heap.size e A c w6.heap.size e Ao co wr.heap.size y Ay cy W16 := Lw3.of (blk_below (blk_below B3.out QSr.out) q16) (blk_below (blk_below B7.out QSr.out) q16) b17
            have toR : ∀ {W : World}, Lw3 W16 w.heap.size e A c w6.heap.size e Ao co wr.heap.size y Ay cy W → Below wr.heap.size wr W := fun h => q16.trans (h.1.mono q16.size)
            have toS : ∀ {W : World}, Lw3 W16 w.heap.size e A c w6.heap.size e Ao co wr.heap.size y Ay cy W → Below W11.heap.size W11 W := fun h => QSr.out.trans ((toR h).mono QSr.out.size)
            have toE : ∀ {W : World}, Lw3 W16 w.heap.size e A c w6.heap.size e Ao co wr.heap.size y Ay cy W → Below w.heap.size w W := fun h => Q.out.trans ((toS h).mono Q.out.size)
            have HSE := Lib.hid (fun W (h : Lw3 W16 w.heap.size e A c w6.heap.size e Ao co wr.heap.size y Ay cy W) => keepS Lw3.step h rfl (c_SameExpr e y Ao Ay co cy W (Kd.C_below O.out (toS h)) hco (Kd.C_below hi2 (toR h)) hl2 (by omega) (by omega)))
            have HRS := Lib.hid (fun W (h : Lw3 W16 w.heap.size e A c w6.heap.size e Ao co wr.heap.size y Ay cy W) => keepS Lw3.step h rfl (c_rSame _ e y A Ay c cy W (Nat.le_refl _) (Kd.C_below HE.out (toE h)) hc (Kd.C_below hi2 (toR h)) hl2))
            have HW16 := Lib.hid hW16
            have HB16 := Aside0.mk (HB.out.trans (q16.mono HB.out.size))
            clear hK hi2 hl2 hW16 hy q16 b17 toR toS toE
            go_wp2_with fail
            rw [HW16.out]
            clear HW16 k0 k1 k2
            go_region_held3 (fun W => Lw3 W16 w.heap.size e A c w6.heap.size e Ao co wr.heap.size y Ay cy W) (first | assumption | exact hS0.step (below_drew (Below.refl _ _))) (first | (go_at_call 24; refine (HSE.out _ (by assumption)).mono ?_; rintro e w' ⟨rfl, hS⟩) | (go_at_call 16; refine (HRS.out _ (by assumption)).mono ?_; rintro e w' ⟨rfl, hS⟩))
            all_goals
              rename_i hlast
              have HB17 := Aside0.mk (HB16.out.trans (hlast.1.mono HB16.out.size))
              go_wp2_with fail
              go_roundg (bys.length - (kk + 1))
              case measure => omega
              case rel => exact ⟨kk + 1, by omega, by omega, by go_num, HB17⟩
          · have : kk = bys.length := by omega
            subst this
            have hval := OwnE.val _ (Nat.le_refl _) (Kd.R_below OX.out HB.out)
            have b14 := blk_below B14.out HB.out
            have e0 := (blk_cell b14 0).trans rfl
            have e1 := (blk_cell b14 1).trans rfl
            have e2 := (blk_cell b14 2).trans rfl
            have HSp := Lib.hid (c_Spoil W11.heap.size wr.heap.size _ sp.1.f0 sp.1.f1 _ wr hval QSr.out.size (Nat.le_refl _))
            clear hval b14
            go_wp2_with fail
            clear e0 e1 e2
            refine HSp.out.mono ?_
            rintro en w20 ⟨rfl, hsp20⟩
            have QS20 := Aside0.mk (QSr.out.trans hsp20.1)
            have QE20 := Aside0.mk (Q.out.trans (QS20.out.mono Q.out.size))
            clear hsp20 HSp
            have hS0 : Lw2 w20 w.heap.size e A c w6.heap.size e Ao co w20 := Lw2.of (blk_below B3.out QS20.out) (blk_below B7.out QS20.out)
            have toS : ∀ {W : World}, Lw2 w20 w.heap.size e A c w6.heap.size e Ao co W → Below W11.heap.size W11 W := fun h => QS20.out.trans (h.1.mono QS20.out.size)
            have toE : ∀ {W : World}, Lw2 w20 w.heap.size e A c w6.heap.size e Ao co W → Below w.heap.size w W := fun h => Q.out.trans ((toS h).mono Q.out.size)
            have HOw := Lib.hid (fun W (h : Lw2 w20 w.heap.size e A c w6.heap.size e Ao co W) => (c_OwnExpr _ e Ao co W (Nat.le_refl _) (by omega) (Kd.C_below O.out (toS h)) hco).mono (R' := fun en W' => ∃ B b, en = .returned (.agg #[.int .i64 e.f0, .string e.f1, .slice B e.f2.length b]) ∧ (e.f2.length ≤ b ∧ Kd.C k24 W' B e.f2.length e.f2) ∧ Lw2 w20 w.heap.size e A c w6.heap.size e Ao co W') (by rintro en W' ⟨v, rfl, ho, h2⟩; obtain ⟨B, b, rfl, h3, h4⟩ := Kd.R_reads ho; exact ⟨B, b, rfl, ⟨h3, h4⟩, h.step h2⟩))
            have HSE := Lib.hid (fun W (h : Lw2 w20 w.heap.size e A c w6.heap.size e Ao co W) (B : Option Addr) (b : Nat) (hB : e.f2.length ≤ b ∧ Kd.C k24 W B e.f2.length e.f2) => keepS Lw2.step (v' := .bool true) h (by rw [sameE_iff.2 rfl]) (c_SameExpr e e Ao B co b W (Kd.C_below O.out (toS h)) hco hB.2 hB.1 (by omega) (by omega)))
            have HRS := Lib.hid (fun W (h : Lw2 w20 w.heap.size e A c w6.heap.size e Ao co W) => keepS Lw2.step (v' := .bool true) h (by rw [sameE_iff.2 rfl]) (c_rSame _ e e Ao A co c W (Nat.le_refl _) (Kd.C_below O.out (toS h)) hco (Kd.C_below HE.out (toE h)) hc))
            have HEq := Lib.hid (fun W (h : Lw2 w20 w.heap.size e A c w6.heap.size e Ao co W) => keepS Lw2.step (v' := .bool true) h (by simp) (c_EqS An Av cn cv vars vars W (Kd.C_below N.out (toS h)) hcn (Kd.C_below HV.out (toE h)) hcv))
            have HEf := Lib.hid (fun W (h : Lw2 w20 w.heap.size e A c w6.heap.size e Ao co W) => keepS Lw2.step (v' := .bool true) h (by rw [eqL_sameE.2 rfl]) (eqfE Ap Ab cp cb bys bys W hcp hcb (Kd.C_below T.out (toS h)) (Kd.C_below HBy.out (toE h)) 16 #[] (enters_of Try.func16 (by kernel_rfl) rfl) sameE (fun x y cs ds W' hx hy hKx hKy _ => by
              obtain ⟨A2, a2, rfl, hl2, hc2⟩ := k24_open hKx
              obtain ⟨A3, a3, rfl, hl3, hc3⟩ := k24_open hKy
              exact c_rSame _ x y A2 A3 a2 a3 W' (Nat.le_refl _) hc2 hl2 hc3 hl3)))
            have HAw := Lib.hid (fun W (h : Lw2 w20 w.heap.size e A c w6.heap.size e Ao co W) => keepS Lw2.step h rfl (c_awake W))
            clear toS toE
            go_wp2_with fail
            go_region_held3 (fun W => Lw2 w20 w.heap.size e A c w6.heap.size e Ao co W) (first | assumption | exact hS0.step (below_drew (Below.refl _ _))) (first | (go_at_call 12; refine (HOw.out _ (by assumption)).mono ?_; rintro e w' ⟨B, b, rfl, hva, hS⟩) | (go_at_call 24; refine (HSE.out _ (by assumption) _ _ (by assumption)).mono ?_; rintro e w' ⟨rfl, hS⟩) | (go_at_call 16; refine (HRS.out _ (by assumption)).mono ?_; rintro e w' ⟨rfl, hS⟩) | (go_at_call 21; refine (HEq.out _ (by assumption)).mono ?_; rintro e w' ⟨rfl, hS⟩) | (go_at_call 26; refine (HEf.out _ (by assumption)).mono ?_; rintro e w' ⟨rfl, hS⟩) | (go_at_call 11; refine (HAw.out _ (by assumption)).mono ?_; rintro e w' ⟨rfl, hS⟩))
            all_goals
              have hlast : Below w20.heap.size w20 _ := (by assumption : Lw2 w20 w.heap.size e A c w6.heap.size e Ao co _).1
              go_wp2
              go_ret
              exact ⟨rfl, QE20.out.trans (hlast.mono QE20.out.size)⟩
end Go.Proofs.Ytacefdkfbpgedaa.Mine
