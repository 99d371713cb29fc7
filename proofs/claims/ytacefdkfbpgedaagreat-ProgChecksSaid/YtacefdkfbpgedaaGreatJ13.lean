/- ProgChecks, the law: what is looked at (printed by mky6.py). -/
import Derived.Test.YtacefdkfbpgedaaGreatJ12
import Derived.Test.YtacefdkfbpgedaaGreatJ9
import Derived.Deep.Slices
import Derived.ChangeArms
import Derived.SizedLaws
namespace Go.Proofs.YtacefdkfbpgedaaGreat.Mine
open Go.Proofs.YtacefdkfbpgedaaGreat.PProgSmall
open Go.RowKit Go.Shelf Go.Proofs.YtacefdkfbpgedaaGreatW.PrintWords Go.Proofs.YtacefdkfbpgedaaGreatW.PrintLast Go.Proofs.YtacefdkfbpgedaaGreatW.PrintMore
set_option linter.unusedVariables false
set_option linter.unusedSimpArgs false
set_option maxRecDepth 100000
abbrev LcS (W0 : World) (b0 : Nat) (A0 : Option Addr) (n0 c0 : Nat) (b1 : Nat) (A1 : Option Addr) (n1 c1 : Nat) (b2 : Nat) (A2 : Option Addr) (n2 c2 : Nat) (b3 : Nat) (A3 : Option Addr) (n3 c3 : Nat) (W : World) : Prop := Below W0.heap.size W0 W ∧ W.cell? ⟨b0, 0, none⟩ = some (.slice A0 n0 c0) ∧ W.cell? ⟨b1, 0, none⟩ = some (.slice A1 n1 c1) ∧ W.cell? ⟨b2, 0, none⟩ = some (.slice A2 n2 c2) ∧ W.cell? ⟨b3, 0, none⟩ = some (.slice A3 n3 c3)
theorem LcS.step {W0 : World} {b0 : Nat} {A0 : Option Addr} {n0 c0 : Nat} {b1 : Nat} {A1 : Option Addr} {n1 c1 : Nat} {b2 : Nat} {A2 : Option Addr} {n2 c2 : Nat} {b3 : Nat} {A3 : Option Addr} {n3 c3 : Nat} {W W' : World} (h : LcS W0 b0 A0 n0 c0 b1 A1 n1 c1 b2 A2 n2 c2 b3 A3 n3 c3 W) (hb : Below W.heap.size W W') : LcS W0 b0 A0 n0 c0 b1 A1 n1 c1 b2 A2 n2 c2 b3 A3 n3 c3 W' := by
  obtain ⟨h0, h1, h2, h3, h4⟩ := h
  exact ⟨h0.trans (hb.mono h0.size), pw_cell_below hb h1, pw_cell_below hb h2, pw_cell_below hb h3, pw_cell_below hb h4⟩
theorem keepL {S : World → Prop} (st : ∀ {W W' : World}, S W → Below W.heap.size W W' → S W') {f : Nat} {args : Array Value} {W : World} {v v' : Value} (hS : S W) (hv : v = v') (h : Calls Tryz.prog f args W fun e W' => e = .returned v ∧ Below W.heap.size W W') : Calls Tryz.prog f args W fun e W' => e = .returned v' ∧ S W' :=
  h.mono (by rintro e W' ⟨rfl, h2⟩; exact ⟨by rw [hv], st hS h2⟩)
theorem def_ne_prog : ∀ q, q ∈ 59 :: (k59).E → q ≠ 24 := by decide
set_option maxHeartbeats 8000000 in
theorem c_lawChecksSmall (ps qs : List De) (A B : Option Addr) (c d : Nat) (w : World) (hr : Kd.C k59 w A ps.length ps) (hc : ps.length ≤ c) (hr2 : Kd.C k59 w B qs.length qs) (hd : qs.length ≤ d) (hn : ∀ d ∈ ps, nmD d) (hn2 : ∀ d ∈ qs, nmD d) (hb1 : bigP ps = false) (hb2 : bigP qs = false) :
    Calls Tryz.prog 5 #[.agg #[.slice A ps.length c], .agg #[.slice B qs.length d]] w fun en w' => en = .returned (.bool true) ∧ Below w.heap.size w w' := by
  have hok := bigP_okP hb1
  have hoo := bigP_okO hb1
  have hoo2 := bigP_okO hb2
  have hlp := (bigP_ok hb1).1
  have hlq := (bigP_ok hb2).1
  obtain ⟨W1, hW1⟩ : ∃ W1, (w.alloc (.cells #[.slice A ps.length c] 24)).alloc (.cells #[.slice B qs.length d] 24) = W1 := ⟨_, rfl⟩
  have q1 : Below w.heap.size w W1 := by rw [← hW1]; exact below_alloc2 _ _ _
  have bP : PBox w.heap.size A ps.length c W1 := by rw [← hW1]; exact blk_alloc (alloc_at _ _) _
  have bQ : PBox (w.heap.size + 1) B qs.length d W1 := by rw [← hW1]; have := alloc_at (w.alloc (.cells #[.slice A ps.length c] 24)) (.cells #[.slice B qs.length d] 24); rw [World.size_alloc] at this; exact this
  have z1 : W1.heap.size = w.heap.size + 1 + 1 := by rw [← hW1]; simp
  have hmp := hr.2.1
  have hmq := hr2.2.1
  have HR := Lib.hid hr
  have HR2 := Lib.hid hr2
  have Q := Aside0.mk q1
  have BP := Aside0.mk bP
  have BQ := Aside0.mk bQ
  have HW1 := Lib.hid hW1
  have hz1a := Nat.le_of_eq z1
  have hz1b := Nat.le_of_eq z1.symm
  have kP := (blk_cell bP 0).trans rfl
  have kQ := (blk_cell bQ 0).trans rfl
  clear hr hr2 q1 bP bQ hW1 z1
  have HB := Lib.hid (c_Big ps A c W1 (Kd.C_below HR.out Q.out) hc hn)
  have HB2 := Lib.hid (fun W (h : Below w.heap.size w W) => c_Big qs B d W (Kd.C_below HR2.out h) hd hn2)
  rw [hb1] at HB
  rw [hb2] at HB2
  go_enter Tryz.func5, Tryz.ntmps5
  go_wp2_with fail
  rw [HW1.out]
  go_wp2_with fail
  refine HB.out.mono ?_
  rintro en w2 ⟨rfl, hb⟩
  have Q := Aside0.mk (Q.out.trans (hb.mono Q.out.size))
  have BP := Aside0.mk (blk_below BP.out hb)
  have BQ := Aside0.mk (blk_below BQ.out hb)
  have hs2 := hb.size
  clear hb kP kQ HB
  have kQ := (blk_cell BQ.out 0).trans rfl
  have HC := Lib.hid (HB2.out w2 Q.out)
  go_wp2_with fail
  refine HC.out.mono ?_
  rintro en w3 ⟨rfl, hb⟩
  have Q := Aside0.mk (Q.out.trans (hb.mono Q.out.size))
  have BP := Aside0.mk (blk_below BP.out hb)
  have BQ := Aside0.mk (blk_below BQ.out hb)
  have hs3 := hb.size
  clear hb kQ HB2 HC HW1
  go_upto_region 3 with fail
  go_cut [5, 6] (fun s5 s6 wx => ∃ (p5 p6 : Nat) (A5 : Option Addr) (c5 : Nat) (A6 : Option Addr) (c6 : Nat), s5 = .pointer (some ⟨p5, 0, none⟩) ∧ s6 = .pointer (some ⟨p6, 0, none⟩) ∧ Aside0 (PBox p5 A5 ps.length c5 wx) ∧ Aside0 (PBox p6 A6 qs.length c6 wx) ∧ Aside0 (ps.length ≤ c5 ∧ Kd.C k59 wx A5 ps.length ps) ∧ Aside0 (qs.length ≤ c6 ∧ Kd.C k59 wx A6 qs.length qs) ∧ Aside0 (Below w3.heap.size w3 wx))
  case first =>
    have HO1 := Lib.hid (fun W (h : Below w3.heap.size w3 W) => c_Own ps A c W (Kd.C_below HR.out (Q.out.trans (h.mono Q.out.size))) hc (by omega) hoo)
    have HO3 := Lib.hid (fun W (h : Below w3.heap.size w3 W) => c_Own qs B d W (Kd.C_below HR2.out (Q.out.trans (h.mono Q.out.size))) hd (by omega) hoo2)
    obtain ⟨X0, hX⟩ : ∃ X0, w3.drew = X0 := ⟨_, rfl⟩
    have q0 : Below w3.heap.size w3 X0 := by rw [← hX]; exact below_drew (Below.refl _ _)
    have BP := Aside0.mk (blk_below BP.out q0)
    have BQ := Aside0.mk (blk_below BQ.out q0)
    have HW := Aside0.mk q0
    have hSd : (fun W => W.cell? ⟨w.heap.size, 0, none⟩ = some (.slice A ps.length c) ∧ W.cell? ⟨w.heap.size + 1, 0, none⟩ = some (.slice B qs.length d)) X0 := ⟨(blk_cell BP.out 0).trans rfl, (blk_cell BQ.out 0).trans rfl⟩
    refine wp_region_K (S := (fun W => W.cell? ⟨w.heap.size, 0, none⟩ = some (.slice A ps.length c) ∧ W.cell? ⟨w.heap.size + 1, 0, none⟩ = some (.slice B qs.length d))) (k := 7) (by kernel_rfl) ?_
    change wpAnyK _ _ _ _ _ _ 8 (Array.replicate 8 false) _ _
    rw [hX]
    clear hX q0
    refine wpAnyK_take (i := 0) (v := ?_) rfl (by kernel_rfl) (by kernel_rfl) (by kernel_rfl) (by kernel_rfl) (fun _ _ _ h => h) hSd (Or.inl ⟨by rfl, ?_⟩) ?_
    rotate_left 1
    (intro w hSw; (try dsimp only at hSw); go_simp; try (with_reducible rfl))
    (try dsimp only [Act.put]); (try simp only [List.setIfInBounds_toArray, List.set_cons_zero, List.set_cons_succ])
    refine wpAnyK_take (i := 2) (v := ?_) rfl (by kernel_rfl) (by kernel_rfl) (by kernel_rfl) (by kernel_rfl) (fun _ _ _ h => h) hSd (Or.inl ⟨by rfl, ?_⟩) ?_
    rotate_left 1
    (intro w hSw; (try dsimp only at hSw); go_simp; try (with_reducible rfl))
    (try dsimp only [Act.put]); (try simp only [List.setIfInBounds_toArray, List.set_cons_zero, List.set_cons_succ])
    refine wpAnyK_three (i := 1) (j := 4) (m := 5) (by kernel_rfl) rfl rfl rfl (fun K hK => ?_) (fun K hK => ?_) (fun K hK => ?_)
    · skip
      go_simp
      go_at_call 10
      (with_reducible refine (HO1.out X0 HW.out).mono ?_)
      rintro e X1 ⟨v, rfl, ho, hb⟩
      obtain ⟨A5, c5, rfl⟩ := Kd.R_slice ho
      have F1 := Aside0.mk (Kd.R_lower ho HW.out.size)
      have BP := Aside0.mk (blk_below BP.out hb)
      have BQ := Aside0.mk (blk_below BQ.out hb)
      have HW := Aside0.mk (HW.out.trans (hb.mono HW.out.size))
      have hsz := hb.size
      clear ho hb
      have hSd : (fun W => W.cell? ⟨w.heap.size, 0, none⟩ = some (.slice A ps.length c) ∧ W.cell? ⟨w.heap.size + 1, 0, none⟩ = some (.slice B qs.length d)) X1 := ⟨(blk_cell BP.out 0).trans rfl, (blk_cell BQ.out 0).trans rfl⟩
      refine hK.out _ _ (fun _ => hSd) ?_
      clear hK
      refine wpAnyK_three (i := 3) (j := 4) (m := 5) (by kernel_rfl) rfl rfl rfl (fun K hK => ?_) (fun K hK => ?_) (fun K hK => ?_)
      · skip
        go_simp
        go_at_call 10
        (with_reducible refine (HO3.out X1 HW.out).mono ?_)
        rintro e X2 ⟨v, rfl, ho, hb⟩
        obtain ⟨A6, c6, rfl⟩ := Kd.R_slice ho
        have F3 := Aside0.mk (Kd.R_lower ho HW.out.size)
        have BP := Aside0.mk (blk_below BP.out hb)
        have BQ := Aside0.mk (blk_below BQ.out hb)
        have HW := Aside0.mk (HW.out.trans (hb.mono HW.out.size))
        have hsz := hb.size
        have F1 := Aside0.mk (Kd.R_below F1.out hb)
        clear ho hb
        have hSd : (fun W => W.cell? ⟨w.heap.size, 0, none⟩ = some (.slice A ps.length c) ∧ W.cell? ⟨w.heap.size + 1, 0, none⟩ = some (.slice B qs.length d)) X2 := ⟨(blk_cell BP.out 0).trans rfl, (blk_cell BQ.out 0).trans rfl⟩
        refine hK.out _ _ (fun _ => hSd) ?_
        clear hK
        refine wpAnyK_two (i := 4) (j := 5) (by kernel_rfl) rfl rfl (fun K hK => ?_) (fun K hK => ?_)
        · skip
          go_simp
          obtain ⟨X3, hY⟩ : ∃ X3, X2.alloc (.cells #[.slice none 0 0] 24) = X3 := ⟨_, rfl⟩
          obtain ⟨p5, hp5⟩ : ∃ p5, X2.heap.size = p5 := ⟨_, rfl⟩
          have hb : Below X2.heap.size X2 X3 := by rw [← hY]; exact below_alloc1 _ _
          have G4 := Aside0.mk (show PBox p5 none 0 0 X3 by rw [← hY, ← hp5]; exact alloc_at _ _)
          have hp5s : p5 < X3.heap.size := by rw [← hY, ← hp5]; simp
          have hp5w : w3.heap.size ≤ p5 := by rw [← hp5]; exact HW.out.size
          rw [hY, hp5]
          have BP := Aside0.mk (blk_below BP.out hb)
          have BQ := Aside0.mk (blk_below BQ.out hb)
          have HW := Aside0.mk (HW.out.trans (hb.mono HW.out.size))
          have hsz := hb.size
          have F1 := Aside0.mk (Kd.R_below F1.out hb)
          have F3 := Aside0.mk (Kd.R_below F3.out hb)
          clear hb hY hp5
          have hSd : (fun W => W.cell? ⟨w.heap.size, 0, none⟩ = some (.slice A ps.length c) ∧ W.cell? ⟨w.heap.size + 1, 0, none⟩ = some (.slice B qs.length d)) X3 := ⟨(blk_cell BP.out 0).trans rfl, (blk_cell BQ.out 0).trans rfl⟩
          refine hK.out _ _ (fun _ => hSd) ?_
          clear hK
          refine wpAnyK_one (i := 5) (by kernel_rfl) rfl (fun K hK => ?_)
          go_simp
          obtain ⟨X4, hY⟩ : ∃ X4, X3.alloc (.cells #[.slice none 0 0] 24) = X4 := ⟨_, rfl⟩
          obtain ⟨p6, hp6⟩ : ∃ p6, X3.heap.size = p6 := ⟨_, rfl⟩
          have hb : Below X3.heap.size X3 X4 := by rw [← hY]; exact below_alloc1 _ _
          have G5 := Aside0.mk (show PBox p6 none 0 0 X4 by rw [← hY, ← hp6]; exact alloc_at _ _)
          have hp6s : p6 < X4.heap.size := by rw [← hY, ← hp6]; simp
          have hp6w : w3.heap.size ≤ p6 := by rw [← hp6]; exact HW.out.size
          rw [hY, hp6]
          have hne : p5 ≠ p6 := by omega
          have BP := Aside0.mk (blk_below BP.out hb)
          have BQ := Aside0.mk (blk_below BQ.out hb)
          have HW := Aside0.mk (HW.out.trans (hb.mono HW.out.size))
          have hsz := hb.size
          have F1 := Aside0.mk (Kd.R_below F1.out hb)
          have F3 := Aside0.mk (Kd.R_below F3.out hb)
          have G4 := Aside0.mk (blk_below G4.out hb)
          clear hb hY hp6
          have hSd : (fun W => W.cell? ⟨w.heap.size, 0, none⟩ = some (.slice A ps.length c) ∧ W.cell? ⟨w.heap.size + 1, 0, none⟩ = some (.slice B qs.length d)) X4 := ⟨(blk_cell BP.out 0).trans rfl, (blk_cell BQ.out 0).trans rfl⟩
          refine hK.out _ _ (fun _ => hSd) ?_
          clear hK
          have k5 := (blk_cell G4.out 0).trans rfl
          have f5 := blk_frozen G4.out 0
          have k6 := (blk_cell G5.out 0).trans rfl
          have f6 := blk_frozen G5.out 0
          refine wpAnyK_one (i := 6) (by kernel_rfl) rfl (fun K hK => ?_)
          go_simp
          obtain ⟨Z6, hY⟩ : ∃ Z6, X4.setCell ⟨p5, 0, none⟩ (.slice A5 ps.length c5) = Z6 := ⟨_, rfl⟩
          have hf1 := Kd.R_set F1.out (show X4.heap[p5]? = _ from G4.out) def_ne_prog 0 (.slice A5 ps.length c5)
          have hf3 := Kd.R_set F3.out (show X4.heap[p5]? = _ from G4.out) def_ne_prog 0 (.slice A5 ps.length c5)
          have hg := blk_put G4.out 0 (.slice A5 ps.length c5) rfl
          have hgo := blk_far (p := ⟨p5, 0, none⟩) G5.out (by simp only; omega) (.slice A5 ps.length c5)
          have hbp := blk_far (p := ⟨p5, 0, none⟩) BP.out (by simp only; omega) (.slice A5 ps.length c5)
          have hbq := blk_far (p := ⟨p5, 0, none⟩) BQ.out (by simp only; omega) (.slice A5 ps.length c5)
          have hw := HW.out.setCell (p := ⟨p5, 0, none⟩) (by simp only; omega) (.slice A5 ps.length c5)
          rw [hY] at hf1 hf3 hg hgo hbp hbq hw ⊢
          have F1 := Aside0.mk hf1
          have F3 := Aside0.mk hf3
          have G4 := Aside0.mk hg
          have G5 := Aside0.mk hgo
          have BP := Aside0.mk hbp
          have BQ := Aside0.mk hbq
          have HW := Aside0.mk hw
          clear hf1 hf3 hg hgo hbp hbq hw hY k5 f5 k6 f6
          have k6 := (blk_cell G5.out 0).trans rfl
          have f6 := blk_frozen G5.out 0
          have k5 := k6
          have f5 := f6
          have hSd : (fun W => W.cell? ⟨w.heap.size, 0, none⟩ = some (.slice A ps.length c) ∧ W.cell? ⟨w.heap.size + 1, 0, none⟩ = some (.slice B qs.length d)) Z6 := ⟨(blk_cell BP.out 0).trans rfl, (blk_cell BQ.out 0).trans rfl⟩
          refine hK.out _ _ (fun _ => hSd) ?_
          clear hK
          refine wpAnyK_one (i := 7) (by kernel_rfl) rfl (fun K hK => ?_)
          go_simp
          obtain ⟨Z7, hY⟩ : ∃ Z7, Z6.setCell ⟨p6, 0, none⟩ (.slice A6 qs.length c6) = Z7 := ⟨_, rfl⟩
          have hf1 := Kd.R_set F1.out (show Z6.heap[p6]? = _ from G5.out) def_ne_prog 0 (.slice A6 qs.length c6)
          have hf3 := Kd.R_set F3.out (show Z6.heap[p6]? = _ from G5.out) def_ne_prog 0 (.slice A6 qs.length c6)
          have hg := blk_put G5.out 0 (.slice A6 qs.length c6) rfl
          have hgo := blk_far (p := ⟨p6, 0, none⟩) G4.out (by simp only; omega) (.slice A6 qs.length c6)
          have hbp := blk_far (p := ⟨p6, 0, none⟩) BP.out (by simp only; omega) (.slice A6 qs.length c6)
          have hbq := blk_far (p := ⟨p6, 0, none⟩) BQ.out (by simp only; omega) (.slice A6 qs.length c6)
          have hw := HW.out.setCell (p := ⟨p6, 0, none⟩) (by simp only; omega) (.slice A6 qs.length c6)
          rw [hY] at hf1 hf3 hg hgo hbp hbq hw ⊢
          have F1 := Aside0.mk hf1
          have F3 := Aside0.mk hf3
          have G5 := Aside0.mk hg
          have G4 := Aside0.mk hgo
          have BP := Aside0.mk hbp
          have BQ := Aside0.mk hbq
          have HW := Aside0.mk hw
          clear hf1 hf3 hg hgo hbp hbq hw hY k5 f5
          refine hK.out _ _ (fun h => absurd rfl h) ?_
          clear hK hSd k6 f6
          refine wpAnyK_done (by kernel_rfl) ?_ _
          go_wp2_with fail
          go_meet
          obtain ⟨_, _, he5, hc5, hC5⟩ := Kd.R_reads F1.out
          cases he5
          obtain ⟨_, _, he6, hc6, hC6⟩ := Kd.R_reads F3.out
          cases he6
          exact ⟨p5, p6, _, _, _, _, rfl, rfl, ⟨by simpa using G4.out⟩, ⟨by simpa using G5.out⟩, ⟨hc5, hC5⟩, ⟨hc6, hC6⟩, HW⟩
        · skip
          go_simp
          obtain ⟨X3, hY⟩ : ∃ X3, X2.alloc (.cells #[.slice none 0 0] 24) = X3 := ⟨_, rfl⟩
          obtain ⟨p6, hp6⟩ : ∃ p6, X2.heap.size = p6 := ⟨_, rfl⟩
          have hb : Below X2.heap.size X2 X3 := by rw [← hY]; exact below_alloc1 _ _
          have G5 := Aside0.mk (show PBox p6 none 0 0 X3 by rw [← hY, ← hp6]; exact alloc_at _ _)
          have hp6s : p6 < X3.heap.size := by rw [← hY, ← hp6]; simp
          have hp6w : w3.heap.size ≤ p6 := by rw [← hp6]; exact HW.out.size
          rw [hY, hp6]
          have BP := Aside0.mk (blk_below BP.out hb)
          have BQ := Aside0.mk (blk_below BQ.out hb)
          have HW := Aside0.mk (HW.out.trans (hb.mono HW.out.size))
          have hsz := hb.size
          have F1 := Aside0.mk (Kd.R_below F1.out hb)
          have F3 := Aside0.mk (Kd.R_below F3.out hb)
          clear hb hY hp6
          have hSd : (fun W => W.cell? ⟨w.heap.size, 0, none⟩ = some (.slice A ps.length c) ∧ W.cell? ⟨w.heap.size + 1, 0, none⟩ = some (.slice B qs.length d)) X3 := ⟨(blk_cell BP.out 0).trans rfl, (blk_cell BQ.out 0).trans rfl⟩
          refine hK.out _ _ (fun _ => hSd) ?_
          clear hK
          refine wpAnyK_one (i := 4) (by kernel_rfl) rfl (fun K hK => ?_)
          go_simp
          obtain ⟨X4, hY⟩ : ∃ X4, X3.alloc (.cells #[.slice none 0 0] 24) = X4 := ⟨_, rfl⟩
          obtain ⟨p5, hp5⟩ : ∃ p5, X3.heap.size = p5 := ⟨_, rfl⟩
          have hb : Below X3.heap.size X3 X4 := by rw [← hY]; exact below_alloc1 _ _
          have G4 := Aside0.mk (show PBox p5 none 0 0 X4 by rw [← hY, ← hp5]; exact alloc_at _ _)
          have hp5s : p5 < X4.heap.size := by rw [← hY, ← hp5]; simp
          have hp5w : w3.heap.size ≤ p5 := by rw [← hp5]; exact HW.out.size
          rw [hY, hp5]
          have hne : p5 ≠ p6 := by omega
          have BP := Aside0.mk (blk_below BP.out hb)
          have BQ := Aside0.mk (blk_below BQ.out hb)
          have HW := Aside0.mk (HW.out.trans (hb.mono HW.out.size))
          have hsz := hb.size
          have F1 := Aside0.mk (Kd.R_below F1.out hb)
          have F3 := Aside0.mk (Kd.R_below F3.out hb)
          have G5 := Aside0.mk (blk_below G5.out hb)
          clear hb hY hp5
          have hSd : (fun W => W.cell? ⟨w.heap.size, 0, none⟩ = some (.slice A ps.length c) ∧ W.cell? ⟨w.heap.size + 1, 0, none⟩ = some (.slice B qs.length d)) X4 := ⟨(blk_cell BP.out 0).trans rfl, (blk_cell BQ.out 0).trans rfl⟩
          refine hK.out _ _ (fun _ => hSd) ?_
          clear hK
          have k5 := (blk_cell G4.out 0).trans rfl
          have f5 := blk_frozen G4.out 0
          have k6 := (blk_cell G5.out 0).trans rfl
          have f6 := blk_frozen G5.out 0
          refine wpAnyK_one (i := 6) (by kernel_rfl) rfl (fun K hK => ?_)
          go_simp
          obtain ⟨Z6, hY⟩ : ∃ Z6, X4.setCell ⟨p5, 0, none⟩ (.slice A5 ps.length c5) = Z6 := ⟨_, rfl⟩
          have hf1 := Kd.R_set F1.out (show X4.heap[p5]? = _ from G4.out) def_ne_prog 0 (.slice A5 ps.length c5)
          have hf3 := Kd.R_set F3.out (show X4.heap[p5]? = _ from G4.out) def_ne_prog 0 (.slice A5 ps.length c5)
          have hg := blk_put G4.out 0 (.slice A5 ps.length c5) rfl
          have hgo := blk_far (p := ⟨p5, 0, none⟩) G5.out (by simp only; omega) (.slice A5 ps.length c5)
          have hbp := blk_far (p := ⟨p5, 0, none⟩) BP.out (by simp only; omega) (.slice A5 ps.length c5)
          have hbq := blk_far (p := ⟨p5, 0, none⟩) BQ.out (by simp only; omega) (.slice A5 ps.length c5)
          have hw := HW.out.setCell (p := ⟨p5, 0, none⟩) (by simp only; omega) (.slice A5 ps.length c5)
          rw [hY] at hf1 hf3 hg hgo hbp hbq hw ⊢
          have F1 := Aside0.mk hf1
          have F3 := Aside0.mk hf3
          have G4 := Aside0.mk hg
          have G5 := Aside0.mk hgo
          have BP := Aside0.mk hbp
          have BQ := Aside0.mk hbq
          have HW := Aside0.mk hw
          clear hf1 hf3 hg hgo hbp hbq hw hY k5 f5 k6 f6
          have k6 := (blk_cell G5.out 0).trans rfl
          have f6 := blk_frozen G5.out 0
          have k5 := k6
          have f5 := f6
          have hSd : (fun W => W.cell? ⟨w.heap.size, 0, none⟩ = some (.slice A ps.length c) ∧ W.cell? ⟨w.heap.size + 1, 0, none⟩ = some (.slice B qs.length d)) Z6 := ⟨(blk_cell BP.out 0).trans rfl, (blk_cell BQ.out 0).trans rfl⟩
          refine hK.out _ _ (fun _ => hSd) ?_
          clear hK
          refine wpAnyK_one (i := 7) (by kernel_rfl) rfl (fun K hK => ?_)
          go_simp
          obtain ⟨Z7, hY⟩ : ∃ Z7, Z6.setCell ⟨p6, 0, none⟩ (.slice A6 qs.length c6) = Z7 := ⟨_, rfl⟩
          have hf1 := Kd.R_set F1.out (show Z6.heap[p6]? = _ from G5.out) def_ne_prog 0 (.slice A6 qs.length c6)
          have hf3 := Kd.R_set F3.out (show Z6.heap[p6]? = _ from G5.out) def_ne_prog 0 (.slice A6 qs.length c6)
          have hg := blk_put G5.out 0 (.slice A6 qs.length c6) rfl
          have hgo := blk_far (p := ⟨p6, 0, none⟩) G4.out (by simp only; omega) (.slice A6 qs.length c6)
          have hbp := blk_far (p := ⟨p6, 0, none⟩) BP.out (by simp only; omega) (.slice A6 qs.length c6)
          have hbq := blk_far (p := ⟨p6, 0, none⟩) BQ.out (by simp only; omega) (.slice A6 qs.length c6)
          have hw := HW.out.setCell (p := ⟨p6, 0, none⟩) (by simp only; omega) (.slice A6 qs.length c6)
          rw [hY] at hf1 hf3 hg hgo hbp hbq hw ⊢
          have F1 := Aside0.mk hf1
          have F3 := Aside0.mk hf3
          have G5 := Aside0.mk hg
          have G4 := Aside0.mk hgo
          have BP := Aside0.mk hbp
          have BQ := Aside0.mk hbq
          have HW := Aside0.mk hw
          clear hf1 hf3 hg hgo hbp hbq hw hY k5 f5
          refine hK.out _ _ (fun h => absurd rfl h) ?_
          clear hK hSd k6 f6
          refine wpAnyK_done (by kernel_rfl) ?_ _
          go_wp2_with fail
          go_meet
          obtain ⟨_, _, he5, hc5, hC5⟩ := Kd.R_reads F1.out
          cases he5
          obtain ⟨_, _, he6, hc6, hC6⟩ := Kd.R_reads F3.out
          cases he6
          exact ⟨p5, p6, _, _, _, _, rfl, rfl, ⟨by simpa using G4.out⟩, ⟨by simpa using G5.out⟩, ⟨hc5, hC5⟩, ⟨hc6, hC6⟩, HW⟩
      · skip
        go_simp
        obtain ⟨X2, hY⟩ : ∃ X2, X1.alloc (.cells #[.slice none 0 0] 24) = X2 := ⟨_, rfl⟩
        obtain ⟨p5, hp5⟩ : ∃ p5, X1.heap.size = p5 := ⟨_, rfl⟩
        have hb : Below X1.heap.size X1 X2 := by rw [← hY]; exact below_alloc1 _ _
        have G4 := Aside0.mk (show PBox p5 none 0 0 X2 by rw [← hY, ← hp5]; exact alloc_at _ _)
        have hp5s : p5 < X2.heap.size := by rw [← hY, ← hp5]; simp
        have hp5w : w3.heap.size ≤ p5 := by rw [← hp5]; exact HW.out.size
        rw [hY, hp5]
        have BP := Aside0.mk (blk_below BP.out hb)
        have BQ := Aside0.mk (blk_below BQ.out hb)
        have HW := Aside0.mk (HW.out.trans (hb.mono HW.out.size))
        have hsz := hb.size
        have F1 := Aside0.mk (Kd.R_below F1.out hb)
        clear hb hY hp5
        have hSd : (fun W => W.cell? ⟨w.heap.size, 0, none⟩ = some (.slice A ps.length c) ∧ W.cell? ⟨w.heap.size + 1, 0, none⟩ = some (.slice B qs.length d)) X2 := ⟨(blk_cell BP.out 0).trans rfl, (blk_cell BQ.out 0).trans rfl⟩
        refine hK.out _ _ (fun _ => hSd) ?_
        clear hK
        refine wpAnyK_two (i := 3) (j := 5) (by kernel_rfl) rfl rfl (fun K hK => ?_) (fun K hK => ?_)
        · skip
          go_simp
          go_at_call 10
          (with_reducible refine (HO3.out X2 HW.out).mono ?_)
          rintro e X3 ⟨v, rfl, ho, hb⟩
          obtain ⟨A6, c6, rfl⟩ := Kd.R_slice ho
          have F3 := Aside0.mk (Kd.R_lower ho HW.out.size)
          have BP := Aside0.mk (blk_below BP.out hb)
          have BQ := Aside0.mk (blk_below BQ.out hb)
          have HW := Aside0.mk (HW.out.trans (hb.mono HW.out.size))
          have hsz := hb.size
          have F1 := Aside0.mk (Kd.R_below F1.out hb)
          have G4 := Aside0.mk (blk_below G4.out hb)
          clear ho hb
          have hSd : (fun W => W.cell? ⟨w.heap.size, 0, none⟩ = some (.slice A ps.length c) ∧ W.cell? ⟨w.heap.size + 1, 0, none⟩ = some (.slice B qs.length d)) X3 := ⟨(blk_cell BP.out 0).trans rfl, (blk_cell BQ.out 0).trans rfl⟩
          refine hK.out _ _ (fun _ => hSd) ?_
          clear hK
          refine wpAnyK_one (i := 5) (by kernel_rfl) rfl (fun K hK => ?_)
          go_simp
          obtain ⟨X4, hY⟩ : ∃ X4, X3.alloc (.cells #[.slice none 0 0] 24) = X4 := ⟨_, rfl⟩
          obtain ⟨p6, hp6⟩ : ∃ p6, X3.heap.size = p6 := ⟨_, rfl⟩
          have hb : Below X3.heap.size X3 X4 := by rw [← hY]; exact below_alloc1 _ _
          have G5 := Aside0.mk (show PBox p6 none 0 0 X4 by rw [← hY, ← hp6]; exact alloc_at _ _)
          have hp6s : p6 < X4.heap.size := by rw [← hY, ← hp6]; simp
          have hp6w : w3.heap.size ≤ p6 := by rw [← hp6]; exact HW.out.size
          rw [hY, hp6]
          have hne : p5 ≠ p6 := by omega
          have BP := Aside0.mk (blk_below BP.out hb)
          have BQ := Aside0.mk (blk_below BQ.out hb)
          have HW := Aside0.mk (HW.out.trans (hb.mono HW.out.size))
          have hsz := hb.size
          have F1 := Aside0.mk (Kd.R_below F1.out hb)
          have F3 := Aside0.mk (Kd.R_below F3.out hb)
          have G4 := Aside0.mk (blk_below G4.out hb)
          clear hb hY hp6
          have hSd : (fun W => W.cell? ⟨w.heap.size, 0, none⟩ = some (.slice A ps.length c) ∧ W.cell? ⟨w.heap.size + 1, 0, none⟩ = some (.slice B qs.length d)) X4 := ⟨(blk_cell BP.out 0).trans rfl, (blk_cell BQ.out 0).trans rfl⟩
          refine hK.out _ _ (fun _ => hSd) ?_
          clear hK
          have k5 := (blk_cell G4.out 0).trans rfl
          have f5 := blk_frozen G4.out 0
          have k6 := (blk_cell G5.out 0).trans rfl
          have f6 := blk_frozen G5.out 0
          refine wpAnyK_one (i := 6) (by kernel_rfl) rfl (fun K hK => ?_)
          go_simp
          obtain ⟨Z6, hY⟩ : ∃ Z6, X4.setCell ⟨p5, 0, none⟩ (.slice A5 ps.length c5) = Z6 := ⟨_, rfl⟩
          have hf1 := Kd.R_set F1.out (show X4.heap[p5]? = _ from G4.out) def_ne_prog 0 (.slice A5 ps.length c5)
          have hf3 := Kd.R_set F3.out (show X4.heap[p5]? = _ from G4.out) def_ne_prog 0 (.slice A5 ps.length c5)
          have hg := blk_put G4.out 0 (.slice A5 ps.length c5) rfl
          have hgo := blk_far (p := ⟨p5, 0, none⟩) G5.out (by simp only; omega) (.slice A5 ps.length c5)
          have hbp := blk_far (p := ⟨p5, 0, none⟩) BP.out (by simp only; omega) (.slice A5 ps.length c5)
          have hbq := blk_far (p := ⟨p5, 0, none⟩) BQ.out (by simp only; omega) (.slice A5 ps.length c5)
          have hw := HW.out.setCell (p := ⟨p5, 0, none⟩) (by simp only; omega) (.slice A5 ps.length c5)
          rw [hY] at hf1 hf3 hg hgo hbp hbq hw ⊢
          have F1 := Aside0.mk hf1
          have F3 := Aside0.mk hf3
          have G4 := Aside0.mk hg
          have G5 := Aside0.mk hgo
          have BP := Aside0.mk hbp
          have BQ := Aside0.mk hbq
          have HW := Aside0.mk hw
          clear hf1 hf3 hg hgo hbp hbq hw hY k5 f5 k6 f6
          have k6 := (blk_cell G5.out 0).trans rfl
          have f6 := blk_frozen G5.out 0
          have k5 := k6
          have f5 := f6
          have hSd : (fun W => W.cell? ⟨w.heap.size, 0, none⟩ = some (.slice A ps.length c) ∧ W.cell? ⟨w.heap.size + 1, 0, none⟩ = some (.slice B qs.length d)) Z6 := ⟨(blk_cell BP.out 0).trans rfl, (blk_cell BQ.out 0).trans rfl⟩
          refine hK.out _ _ (fun _ => hSd) ?_
          clear hK
          refine wpAnyK_one (i := 7) (by kernel_rfl) rfl (fun K hK => ?_)
          go_simp
          obtain ⟨Z7, hY⟩ : ∃ Z7, Z6.setCell ⟨p6, 0, none⟩ (.slice A6 qs.length c6) = Z7 := ⟨_, rfl⟩
          have hf1 := Kd.R_set F1.out (show Z6.heap[p6]? = _ from G5.out) def_ne_prog 0 (.slice A6 qs.length c6)
          have hf3 := Kd.R_set F3.out (show Z6.heap[p6]? = _ from G5.out) def_ne_prog 0 (.slice A6 qs.length c6)
          have hg := blk_put G5.out 0 (.slice A6 qs.length c6) rfl
          have hgo := blk_far (p := ⟨p6, 0, none⟩) G4.out (by simp only; omega) (.slice A6 qs.length c6)
          have hbp := blk_far (p := ⟨p6, 0, none⟩) BP.out (by simp only; omega) (.slice A6 qs.length c6)
          have hbq := blk_far (p := ⟨p6, 0, none⟩) BQ.out (by simp only; omega) (.slice A6 qs.length c6)
          have hw := HW.out.setCell (p := ⟨p6, 0, none⟩) (by simp only; omega) (.slice A6 qs.length c6)
          rw [hY] at hf1 hf3 hg hgo hbp hbq hw ⊢
          have F1 := Aside0.mk hf1
          have F3 := Aside0.mk hf3
          have G5 := Aside0.mk hg
          have G4 := Aside0.mk hgo
          have BP := Aside0.mk hbp
          have BQ := Aside0.mk hbq
          have HW := Aside0.mk hw
          clear hf1 hf3 hg hgo hbp hbq hw hY k5 f5
          refine hK.out _ _ (fun h => absurd rfl h) ?_
          clear hK hSd k6 f6
          refine wpAnyK_done (by kernel_rfl) ?_ _
          go_wp2_with fail
          go_meet
          obtain ⟨_, _, he5, hc5, hC5⟩ := Kd.R_reads F1.out
          cases he5
          obtain ⟨_, _, he6, hc6, hC6⟩ := Kd.R_reads F3.out
          cases he6
          exact ⟨p5, p6, _, _, _, _, rfl, rfl, ⟨by simpa using G4.out⟩, ⟨by simpa using G5.out⟩, ⟨hc5, hC5⟩, ⟨hc6, hC6⟩, HW⟩
        · skip
          go_simp
          obtain ⟨X3, hY⟩ : ∃ X3, X2.alloc (.cells #[.slice none 0 0] 24) = X3 := ⟨_, rfl⟩
          obtain ⟨p6, hp6⟩ : ∃ p6, X2.heap.size = p6 := ⟨_, rfl⟩
          have hb : Below X2.heap.size X2 X3 := by rw [← hY]; exact below_alloc1 _ _
          have G5 := Aside0.mk (show PBox p6 none 0 0 X3 by rw [← hY, ← hp6]; exact alloc_at _ _)
          have hp6s : p6 < X3.heap.size := by rw [← hY, ← hp6]; simp
          have hp6w : w3.heap.size ≤ p6 := by rw [← hp6]; exact HW.out.size
          rw [hY, hp6]
          have hne : p5 ≠ p6 := by omega
          have BP := Aside0.mk (blk_below BP.out hb)
          have BQ := Aside0.mk (blk_below BQ.out hb)
          have HW := Aside0.mk (HW.out.trans (hb.mono HW.out.size))
          have hsz := hb.size
          have F1 := Aside0.mk (Kd.R_below F1.out hb)
          have G4 := Aside0.mk (blk_below G4.out hb)
          clear hb hY hp6
          have hSd : (fun W => W.cell? ⟨w.heap.size, 0, none⟩ = some (.slice A ps.length c) ∧ W.cell? ⟨w.heap.size + 1, 0, none⟩ = some (.slice B qs.length d)) X3 := ⟨(blk_cell BP.out 0).trans rfl, (blk_cell BQ.out 0).trans rfl⟩
          refine hK.out _ _ (fun _ => hSd) ?_
          clear hK
          refine wpAnyK_one (i := 3) (by kernel_rfl) rfl (fun K hK => ?_)
          go_simp
          go_at_call 10
          (with_reducible refine (HO3.out X3 HW.out).mono ?_)
          rintro e X4 ⟨v, rfl, ho, hb⟩
          obtain ⟨A6, c6, rfl⟩ := Kd.R_slice ho
          have F3 := Aside0.mk (Kd.R_lower ho HW.out.size)
          have BP := Aside0.mk (blk_below BP.out hb)
          have BQ := Aside0.mk (blk_below BQ.out hb)
          have HW := Aside0.mk (HW.out.trans (hb.mono HW.out.size))
          have hsz := hb.size
          have F1 := Aside0.mk (Kd.R_below F1.out hb)
          have G4 := Aside0.mk (blk_below G4.out hb)
          have G5 := Aside0.mk (blk_below G5.out hb)
          clear ho hb
          have hSd : (fun W => W.cell? ⟨w.heap.size, 0, none⟩ = some (.slice A ps.length c) ∧ W.cell? ⟨w.heap.size + 1, 0, none⟩ = some (.slice B qs.length d)) X4 := ⟨(blk_cell BP.out 0).trans rfl, (blk_cell BQ.out 0).trans rfl⟩
          refine hK.out _ _ (fun _ => hSd) ?_
          clear hK
          have k5 := (blk_cell G4.out 0).trans rfl
          have f5 := blk_frozen G4.out 0
          have k6 := (blk_cell G5.out 0).trans rfl
          have f6 := blk_frozen G5.out 0
          refine wpAnyK_one (i := 6) (by kernel_rfl) rfl (fun K hK => ?_)
          go_simp
          obtain ⟨Z6, hY⟩ : ∃ Z6, X4.setCell ⟨p5, 0, none⟩ (.slice A5 ps.length c5) = Z6 := ⟨_, rfl⟩
          have hf1 := Kd.R_set F1.out (show X4.heap[p5]? = _ from G4.out) def_ne_prog 0 (.slice A5 ps.length c5)
          have hf3 := Kd.R_set F3.out (show X4.heap[p5]? = _ from G4.out) def_ne_prog 0 (.slice A5 ps.length c5)
          have hg := blk_put G4.out 0 (.slice A5 ps.length c5) rfl
          have hgo := blk_far (p := ⟨p5, 0, none⟩) G5.out (by simp only; omega) (.slice A5 ps.length c5)
          have hbp := blk_far (p := ⟨p5, 0, none⟩) BP.out (by simp only; omega) (.slice A5 ps.length c5)
          have hbq := blk_far (p := ⟨p5, 0, none⟩) BQ.out (by simp only; omega) (.slice A5 ps.length c5)
          have hw := HW.out.setCell (p := ⟨p5, 0, none⟩) (by simp only; omega) (.slice A5 ps.length c5)
          rw [hY] at hf1 hf3 hg hgo hbp hbq hw ⊢
          have F1 := Aside0.mk hf1
          have F3 := Aside0.mk hf3
          have G4 := Aside0.mk hg
          have G5 := Aside0.mk hgo
          have BP := Aside0.mk hbp
          have BQ := Aside0.mk hbq
          have HW := Aside0.mk hw
          clear hf1 hf3 hg hgo hbp hbq hw hY k5 f5 k6 f6
          have k6 := (blk_cell G5.out 0).trans rfl
          have f6 := blk_frozen G5.out 0
          have k5 := k6
          have f5 := f6
          have hSd : (fun W => W.cell? ⟨w.heap.size, 0, none⟩ = some (.slice A ps.length c) ∧ W.cell? ⟨w.heap.size + 1, 0, none⟩ = some (.slice B qs.length d)) Z6 := ⟨(blk_cell BP.out 0).trans rfl, (blk_cell BQ.out 0).trans rfl⟩
          refine hK.out _ _ (fun _ => hSd) ?_
          clear hK
          refine wpAnyK_one (i := 7) (by kernel_rfl) rfl (fun K hK => ?_)
          go_simp
          obtain ⟨Z7, hY⟩ : ∃ Z7, Z6.setCell ⟨p6, 0, none⟩ (.slice A6 qs.length c6) = Z7 := ⟨_, rfl⟩
          have hf1 := Kd.R_set F1.out (show Z6.heap[p6]? = _ from G5.out) def_ne_prog 0 (.slice A6 qs.length c6)
          have hf3 := Kd.R_set F3.out (show Z6.heap[p6]? = _ from G5.out) def_ne_prog 0 (.slice A6 qs.length c6)
          have hg := blk_put G5.out 0 (.slice A6 qs.length c6) rfl
          have hgo := blk_far (p := ⟨p6, 0, none⟩) G4.out (by simp only; omega) (.slice A6 qs.length c6)
          have hbp := blk_far (p := ⟨p6, 0, none⟩) BP.out (by simp only; omega) (.slice A6 qs.length c6)
          have hbq := blk_far (p := ⟨p6, 0, none⟩) BQ.out (by simp only; omega) (.slice A6 qs.length c6)
          have hw := HW.out.setCell (p := ⟨p6, 0, none⟩) (by simp only; omega) (.slice A6 qs.length c6)
          rw [hY] at hf1 hf3 hg hgo hbp hbq hw ⊢
          have F1 := Aside0.mk hf1
          have F3 := Aside0.mk hf3
          have G5 := Aside0.mk hg
          have G4 := Aside0.mk hgo
          have BP := Aside0.mk hbp
          have BQ := Aside0.mk hbq
          have HW := Aside0.mk hw
          clear hf1 hf3 hg hgo hbp hbq hw hY k5 f5
          refine hK.out _ _ (fun h => absurd rfl h) ?_
          clear hK hSd k6 f6
          refine wpAnyK_done (by kernel_rfl) ?_ _
          go_wp2_with fail
          go_meet
          obtain ⟨_, _, he5, hc5, hC5⟩ := Kd.R_reads F1.out
          cases he5
          obtain ⟨_, _, he6, hc6, hC6⟩ := Kd.R_reads F3.out
          cases he6
          exact ⟨p5, p6, _, _, _, _, rfl, rfl, ⟨by simpa using G4.out⟩, ⟨by simpa using G5.out⟩, ⟨hc5, hC5⟩, ⟨hc6, hC6⟩, HW⟩
      · skip
        go_simp
        obtain ⟨X2, hY⟩ : ∃ X2, X1.alloc (.cells #[.slice none 0 0] 24) = X2 := ⟨_, rfl⟩
        obtain ⟨p6, hp6⟩ : ∃ p6, X1.heap.size = p6 := ⟨_, rfl⟩
        have hb : Below X1.heap.size X1 X2 := by rw [← hY]; exact below_alloc1 _ _
        have G5 := Aside0.mk (show PBox p6 none 0 0 X2 by rw [← hY, ← hp6]; exact alloc_at _ _)
        have hp6s : p6 < X2.heap.size := by rw [← hY, ← hp6]; simp
        have hp6w : w3.heap.size ≤ p6 := by rw [← hp6]; exact HW.out.size
        rw [hY, hp6]
        have BP := Aside0.mk (blk_below BP.out hb)
        have BQ := Aside0.mk (blk_below BQ.out hb)
        have HW := Aside0.mk (HW.out.trans (hb.mono HW.out.size))
        have hsz := hb.size
        have F1 := Aside0.mk (Kd.R_below F1.out hb)
        clear hb hY hp6
        have hSd : (fun W => W.cell? ⟨w.heap.size, 0, none⟩ = some (.slice A ps.length c) ∧ W.cell? ⟨w.heap.size + 1, 0, none⟩ = some (.slice B qs.length d)) X2 := ⟨(blk_cell BP.out 0).trans rfl, (blk_cell BQ.out 0).trans rfl⟩
        refine hK.out _ _ (fun _ => hSd) ?_
        clear hK
        refine wpAnyK_two (i := 3) (j := 4) (by kernel_rfl) rfl rfl (fun K hK => ?_) (fun K hK => ?_)
        · skip
          go_simp
          go_at_call 10
          (with_reducible refine (HO3.out X2 HW.out).mono ?_)
          rintro e X3 ⟨v, rfl, ho, hb⟩
          obtain ⟨A6, c6, rfl⟩ := Kd.R_slice ho
          have F3 := Aside0.mk (Kd.R_lower ho HW.out.size)
          have BP := Aside0.mk (blk_below BP.out hb)
          have BQ := Aside0.mk (blk_below BQ.out hb)
          have HW := Aside0.mk (HW.out.trans (hb.mono HW.out.size))
          have hsz := hb.size
          have F1 := Aside0.mk (Kd.R_below F1.out hb)
          have G5 := Aside0.mk (blk_below G5.out hb)
          clear ho hb
          have hSd : (fun W => W.cell? ⟨w.heap.size, 0, none⟩ = some (.slice A ps.length c) ∧ W.cell? ⟨w.heap.size + 1, 0, none⟩ = some (.slice B qs.length d)) X3 := ⟨(blk_cell BP.out 0).trans rfl, (blk_cell BQ.out 0).trans rfl⟩
          refine hK.out _ _ (fun _ => hSd) ?_
          clear hK
          refine wpAnyK_one (i := 4) (by kernel_rfl) rfl (fun K hK => ?_)
          go_simp
          obtain ⟨X4, hY⟩ : ∃ X4, X3.alloc (.cells #[.slice none 0 0] 24) = X4 := ⟨_, rfl⟩
          obtain ⟨p5, hp5⟩ : ∃ p5, X3.heap.size = p5 := ⟨_, rfl⟩
          have hb : Below X3.heap.size X3 X4 := by rw [← hY]; exact below_alloc1 _ _
          have G4 := Aside0.mk (show PBox p5 none 0 0 X4 by rw [← hY, ← hp5]; exact alloc_at _ _)
          have hp5s : p5 < X4.heap.size := by rw [← hY, ← hp5]; simp
          have hp5w : w3.heap.size ≤ p5 := by rw [← hp5]; exact HW.out.size
          rw [hY, hp5]
          have hne : p5 ≠ p6 := by omega
          have BP := Aside0.mk (blk_below BP.out hb)
          have BQ := Aside0.mk (blk_below BQ.out hb)
          have HW := Aside0.mk (HW.out.trans (hb.mono HW.out.size))
          have hsz := hb.size
          have F1 := Aside0.mk (Kd.R_below F1.out hb)
          have F3 := Aside0.mk (Kd.R_below F3.out hb)
          have G5 := Aside0.mk (blk_below G5.out hb)
          clear hb hY hp5
          have hSd : (fun W => W.cell? ⟨w.heap.size, 0, none⟩ = some (.slice A ps.length c) ∧ W.cell? ⟨w.heap.size + 1, 0, none⟩ = some (.slice B qs.length d)) X4 := ⟨(blk_cell BP.out 0).trans rfl, (blk_cell BQ.out 0).trans rfl⟩
          refine hK.out _ _ (fun _ => hSd) ?_
          clear hK
          have k5 := (blk_cell G4.out 0).trans rfl
          have f5 := blk_frozen G4.out 0
          have k6 := (blk_cell G5.out 0).trans rfl
          have f6 := blk_frozen G5.out 0
          refine wpAnyK_one (i := 6) (by kernel_rfl) rfl (fun K hK => ?_)
          go_simp
          obtain ⟨Z6, hY⟩ : ∃ Z6, X4.setCell ⟨p5, 0, none⟩ (.slice A5 ps.length c5) = Z6 := ⟨_, rfl⟩
          have hf1 := Kd.R_set F1.out (show X4.heap[p5]? = _ from G4.out) def_ne_prog 0 (.slice A5 ps.length c5)
          have hf3 := Kd.R_set F3.out (show X4.heap[p5]? = _ from G4.out) def_ne_prog 0 (.slice A5 ps.length c5)
          have hg := blk_put G4.out 0 (.slice A5 ps.length c5) rfl
          have hgo := blk_far (p := ⟨p5, 0, none⟩) G5.out (by simp only; omega) (.slice A5 ps.length c5)
          have hbp := blk_far (p := ⟨p5, 0, none⟩) BP.out (by simp only; omega) (.slice A5 ps.length c5)
          have hbq := blk_far (p := ⟨p5, 0, none⟩) BQ.out (by simp only; omega) (.slice A5 ps.length c5)
          have hw := HW.out.setCell (p := ⟨p5, 0, none⟩) (by simp only; omega) (.slice A5 ps.length c5)
          rw [hY] at hf1 hf3 hg hgo hbp hbq hw ⊢
          have F1 := Aside0.mk hf1
          have F3 := Aside0.mk hf3
          have G4 := Aside0.mk hg
          have G5 := Aside0.mk hgo
          have BP := Aside0.mk hbp
          have BQ := Aside0.mk hbq
          have HW := Aside0.mk hw
          clear hf1 hf3 hg hgo hbp hbq hw hY k5 f5 k6 f6
          have k6 := (blk_cell G5.out 0).trans rfl
          have f6 := blk_frozen G5.out 0
          have k5 := k6
          have f5 := f6
          have hSd : (fun W => W.cell? ⟨w.heap.size, 0, none⟩ = some (.slice A ps.length c) ∧ W.cell? ⟨w.heap.size + 1, 0, none⟩ = some (.slice B qs.length d)) Z6 := ⟨(blk_cell BP.out 0).trans rfl, (blk_cell BQ.out 0).trans rfl⟩
          refine hK.out _ _ (fun _ => hSd) ?_
          clear hK
          refine wpAnyK_one (i := 7) (by kernel_rfl) rfl (fun K hK => ?_)
          go_simp
          obtain ⟨Z7, hY⟩ : ∃ Z7, Z6.setCell ⟨p6, 0, none⟩ (.slice A6 qs.length c6) = Z7 := ⟨_, rfl⟩
          have hf1 := Kd.R_set F1.out (show Z6.heap[p6]? = _ from G5.out) def_ne_prog 0 (.slice A6 qs.length c6)
          have hf3 := Kd.R_set F3.out (show Z6.heap[p6]? = _ from G5.out) def_ne_prog 0 (.slice A6 qs.length c6)
          have hg := blk_put G5.out 0 (.slice A6 qs.length c6) rfl
          have hgo := blk_far (p := ⟨p6, 0, none⟩) G4.out (by simp only; omega) (.slice A6 qs.length c6)
          have hbp := blk_far (p := ⟨p6, 0, none⟩) BP.out (by simp only; omega) (.slice A6 qs.length c6)
          have hbq := blk_far (p := ⟨p6, 0, none⟩) BQ.out (by simp only; omega) (.slice A6 qs.length c6)
          have hw := HW.out.setCell (p := ⟨p6, 0, none⟩) (by simp only; omega) (.slice A6 qs.length c6)
          rw [hY] at hf1 hf3 hg hgo hbp hbq hw ⊢
          have F1 := Aside0.mk hf1
          have F3 := Aside0.mk hf3
          have G5 := Aside0.mk hg
          have G4 := Aside0.mk hgo
          have BP := Aside0.mk hbp
          have BQ := Aside0.mk hbq
          have HW := Aside0.mk hw
          clear hf1 hf3 hg hgo hbp hbq hw hY k5 f5
          refine hK.out _ _ (fun h => absurd rfl h) ?_
          clear hK hSd k6 f6
          refine wpAnyK_done (by kernel_rfl) ?_ _
          go_wp2_with fail
          go_meet
          obtain ⟨_, _, he5, hc5, hC5⟩ := Kd.R_reads F1.out
          cases he5
          obtain ⟨_, _, he6, hc6, hC6⟩ := Kd.R_reads F3.out
          cases he6
          exact ⟨p5, p6, _, _, _, _, rfl, rfl, ⟨by simpa using G4.out⟩, ⟨by simpa using G5.out⟩, ⟨hc5, hC5⟩, ⟨hc6, hC6⟩, HW⟩
        · skip
          go_simp
          obtain ⟨X3, hY⟩ : ∃ X3, X2.alloc (.cells #[.slice none 0 0] 24) = X3 := ⟨_, rfl⟩
          obtain ⟨p5, hp5⟩ : ∃ p5, X2.heap.size = p5 := ⟨_, rfl⟩
          have hb : Below X2.heap.size X2 X3 := by rw [← hY]; exact below_alloc1 _ _
          have G4 := Aside0.mk (show PBox p5 none 0 0 X3 by rw [← hY, ← hp5]; exact alloc_at _ _)
          have hp5s : p5 < X3.heap.size := by rw [← hY, ← hp5]; simp
          have hp5w : w3.heap.size ≤ p5 := by rw [← hp5]; exact HW.out.size
          rw [hY, hp5]
          have hne : p5 ≠ p6 := by omega
          have BP := Aside0.mk (blk_below BP.out hb)
          have BQ := Aside0.mk (blk_below BQ.out hb)
          have HW := Aside0.mk (HW.out.trans (hb.mono HW.out.size))
          have hsz := hb.size
          have F1 := Aside0.mk (Kd.R_below F1.out hb)
          have G5 := Aside0.mk (blk_below G5.out hb)
          clear hb hY hp5
          have hSd : (fun W => W.cell? ⟨w.heap.size, 0, none⟩ = some (.slice A ps.length c) ∧ W.cell? ⟨w.heap.size + 1, 0, none⟩ = some (.slice B qs.length d)) X3 := ⟨(blk_cell BP.out 0).trans rfl, (blk_cell BQ.out 0).trans rfl⟩
          refine hK.out _ _ (fun _ => hSd) ?_
          clear hK
          refine wpAnyK_one (i := 3) (by kernel_rfl) rfl (fun K hK => ?_)
          go_simp
          go_at_call 10
          (with_reducible refine (HO3.out X3 HW.out).mono ?_)
          rintro e X4 ⟨v, rfl, ho, hb⟩
          obtain ⟨A6, c6, rfl⟩ := Kd.R_slice ho
          have F3 := Aside0.mk (Kd.R_lower ho HW.out.size)
          have BP := Aside0.mk (blk_below BP.out hb)
          have BQ := Aside0.mk (blk_below BQ.out hb)
          have HW := Aside0.mk (HW.out.trans (hb.mono HW.out.size))
          have hsz := hb.size
          have F1 := Aside0.mk (Kd.R_below F1.out hb)
          have G4 := Aside0.mk (blk_below G4.out hb)
          have G5 := Aside0.mk (blk_below G5.out hb)
          clear ho hb
          have hSd : (fun W => W.cell? ⟨w.heap.size, 0, none⟩ = some (.slice A ps.length c) ∧ W.cell? ⟨w.heap.size + 1, 0, none⟩ = some (.slice B qs.length d)) X4 := ⟨(blk_cell BP.out 0).trans rfl, (blk_cell BQ.out 0).trans rfl⟩
          refine hK.out _ _ (fun _ => hSd) ?_
          clear hK
          have k5 := (blk_cell G4.out 0).trans rfl
          have f5 := blk_frozen G4.out 0
          have k6 := (blk_cell G5.out 0).trans rfl
          have f6 := blk_frozen G5.out 0
          refine wpAnyK_one (i := 6) (by kernel_rfl) rfl (fun K hK => ?_)
          go_simp
          obtain ⟨Z6, hY⟩ : ∃ Z6, X4.setCell ⟨p5, 0, none⟩ (.slice A5 ps.length c5) = Z6 := ⟨_, rfl⟩
          have hf1 := Kd.R_set F1.out (show X4.heap[p5]? = _ from G4.out) def_ne_prog 0 (.slice A5 ps.length c5)
          have hf3 := Kd.R_set F3.out (show X4.heap[p5]? = _ from G4.out) def_ne_prog 0 (.slice A5 ps.length c5)
          have hg := blk_put G4.out 0 (.slice A5 ps.length c5) rfl
          have hgo := blk_far (p := ⟨p5, 0, none⟩) G5.out (by simp only; omega) (.slice A5 ps.length c5)
          have hbp := blk_far (p := ⟨p5, 0, none⟩) BP.out (by simp only; omega) (.slice A5 ps.length c5)
          have hbq := blk_far (p := ⟨p5, 0, none⟩) BQ.out (by simp only; omega) (.slice A5 ps.length c5)
          have hw := HW.out.setCell (p := ⟨p5, 0, none⟩) (by simp only; omega) (.slice A5 ps.length c5)
          rw [hY] at hf1 hf3 hg hgo hbp hbq hw ⊢
          have F1 := Aside0.mk hf1
          have F3 := Aside0.mk hf3
          have G4 := Aside0.mk hg
          have G5 := Aside0.mk hgo
          have BP := Aside0.mk hbp
          have BQ := Aside0.mk hbq
          have HW := Aside0.mk hw
          clear hf1 hf3 hg hgo hbp hbq hw hY k5 f5 k6 f6
          have k6 := (blk_cell G5.out 0).trans rfl
          have f6 := blk_frozen G5.out 0
          have k5 := k6
          have f5 := f6
          have hSd : (fun W => W.cell? ⟨w.heap.size, 0, none⟩ = some (.slice A ps.length c) ∧ W.cell? ⟨w.heap.size + 1, 0, none⟩ = some (.slice B qs.length d)) Z6 := ⟨(blk_cell BP.out 0).trans rfl, (blk_cell BQ.out 0).trans rfl⟩
          refine hK.out _ _ (fun _ => hSd) ?_
          clear hK
          refine wpAnyK_one (i := 7) (by kernel_rfl) rfl (fun K hK => ?_)
          go_simp
          obtain ⟨Z7, hY⟩ : ∃ Z7, Z6.setCell ⟨p6, 0, none⟩ (.slice A6 qs.length c6) = Z7 := ⟨_, rfl⟩
          have hf1 := Kd.R_set F1.out (show Z6.heap[p6]? = _ from G5.out) def_ne_prog 0 (.slice A6 qs.length c6)
          have hf3 := Kd.R_set F3.out (show Z6.heap[p6]? = _ from G5.out) def_ne_prog 0 (.slice A6 qs.length c6)
          have hg := blk_put G5.out 0 (.slice A6 qs.length c6) rfl
          have hgo := blk_far (p := ⟨p6, 0, none⟩) G4.out (by simp only; omega) (.slice A6 qs.length c6)
          have hbp := blk_far (p := ⟨p6, 0, none⟩) BP.out (by simp only; omega) (.slice A6 qs.length c6)
          have hbq := blk_far (p := ⟨p6, 0, none⟩) BQ.out (by simp only; omega) (.slice A6 qs.length c6)
          have hw := HW.out.setCell (p := ⟨p6, 0, none⟩) (by simp only; omega) (.slice A6 qs.length c6)
          rw [hY] at hf1 hf3 hg hgo hbp hbq hw ⊢
          have F1 := Aside0.mk hf1
          have F3 := Aside0.mk hf3
          have G5 := Aside0.mk hg
          have G4 := Aside0.mk hgo
          have BP := Aside0.mk hbp
          have BQ := Aside0.mk hbq
          have HW := Aside0.mk hw
          clear hf1 hf3 hg hgo hbp hbq hw hY k5 f5
          refine hK.out _ _ (fun h => absurd rfl h) ?_
          clear hK hSd k6 f6
          refine wpAnyK_done (by kernel_rfl) ?_ _
          go_wp2_with fail
          go_meet
          obtain ⟨_, _, he5, hc5, hC5⟩ := Kd.R_reads F1.out
          cases he5
          obtain ⟨_, _, he6, hc6, hC6⟩ := Kd.R_reads F3.out
          cases he6
          exact ⟨p5, p6, _, _, _, _, rfl, rfl, ⟨by simpa using G4.out⟩, ⟨by simpa using G5.out⟩, ⟨hc5, hC5⟩, ⟨hc6, hC6⟩, HW⟩
    · skip
      go_simp
      obtain ⟨X1, hY⟩ : ∃ X1, X0.alloc (.cells #[.slice none 0 0] 24) = X1 := ⟨_, rfl⟩
      obtain ⟨p5, hp5⟩ : ∃ p5, X0.heap.size = p5 := ⟨_, rfl⟩
      have hb : Below X0.heap.size X0 X1 := by rw [← hY]; exact below_alloc1 _ _
      have G4 := Aside0.mk (show PBox p5 none 0 0 X1 by rw [← hY, ← hp5]; exact alloc_at _ _)
      have hp5s : p5 < X1.heap.size := by rw [← hY, ← hp5]; simp
      have hp5w : w3.heap.size ≤ p5 := by rw [← hp5]; exact HW.out.size
      rw [hY, hp5]
      have BP := Aside0.mk (blk_below BP.out hb)
      have BQ := Aside0.mk (blk_below BQ.out hb)
      have HW := Aside0.mk (HW.out.trans (hb.mono HW.out.size))
      have hsz := hb.size
      clear hb hY hp5
      have hSd : (fun W => W.cell? ⟨w.heap.size, 0, none⟩ = some (.slice A ps.length c) ∧ W.cell? ⟨w.heap.size + 1, 0, none⟩ = some (.slice B qs.length d)) X1 := ⟨(blk_cell BP.out 0).trans rfl, (blk_cell BQ.out 0).trans rfl⟩
      refine hK.out _ _ (fun _ => hSd) ?_
      clear hK
      refine wpAnyK_two (i := 1) (j := 5) (by kernel_rfl) rfl rfl (fun K hK => ?_) (fun K hK => ?_)
      · skip
        go_simp
        go_at_call 10
        (with_reducible refine (HO1.out X1 HW.out).mono ?_)
        rintro e X2 ⟨v, rfl, ho, hb⟩
        obtain ⟨A5, c5, rfl⟩ := Kd.R_slice ho
        have F1 := Aside0.mk (Kd.R_lower ho HW.out.size)
        have BP := Aside0.mk (blk_below BP.out hb)
        have BQ := Aside0.mk (blk_below BQ.out hb)
        have HW := Aside0.mk (HW.out.trans (hb.mono HW.out.size))
        have hsz := hb.size
        have G4 := Aside0.mk (blk_below G4.out hb)
        clear ho hb
        have hSd : (fun W => W.cell? ⟨w.heap.size, 0, none⟩ = some (.slice A ps.length c) ∧ W.cell? ⟨w.heap.size + 1, 0, none⟩ = some (.slice B qs.length d)) X2 := ⟨(blk_cell BP.out 0).trans rfl, (blk_cell BQ.out 0).trans rfl⟩
        refine hK.out _ _ (fun _ => hSd) ?_
        clear hK
        refine wpAnyK_two (i := 3) (j := 5) (by kernel_rfl) rfl rfl (fun K hK => ?_) (fun K hK => ?_)
        · skip
          go_simp
          go_at_call 10
          (with_reducible refine (HO3.out X2 HW.out).mono ?_)
          rintro e X3 ⟨v, rfl, ho, hb⟩
          obtain ⟨A6, c6, rfl⟩ := Kd.R_slice ho
          have F3 := Aside0.mk (Kd.R_lower ho HW.out.size)
          have BP := Aside0.mk (blk_below BP.out hb)
          have BQ := Aside0.mk (blk_below BQ.out hb)
          have HW := Aside0.mk (HW.out.trans (hb.mono HW.out.size))
          have hsz := hb.size
          have F1 := Aside0.mk (Kd.R_below F1.out hb)
          have G4 := Aside0.mk (blk_below G4.out hb)
          clear ho hb
          have hSd : (fun W => W.cell? ⟨w.heap.size, 0, none⟩ = some (.slice A ps.length c) ∧ W.cell? ⟨w.heap.size + 1, 0, none⟩ = some (.slice B qs.length d)) X3 := ⟨(blk_cell BP.out 0).trans rfl, (blk_cell BQ.out 0).trans rfl⟩
          refine hK.out _ _ (fun _ => hSd) ?_
          clear hK
          refine wpAnyK_one (i := 5) (by kernel_rfl) rfl (fun K hK => ?_)
          go_simp
          obtain ⟨X4, hY⟩ : ∃ X4, X3.alloc (.cells #[.slice none 0 0] 24) = X4 := ⟨_, rfl⟩
          obtain ⟨p6, hp6⟩ : ∃ p6, X3.heap.size = p6 := ⟨_, rfl⟩
          have hb : Below X3.heap.size X3 X4 := by rw [← hY]; exact below_alloc1 _ _
          have G5 := Aside0.mk (show PBox p6 none 0 0 X4 by rw [← hY, ← hp6]; exact alloc_at _ _)
          have hp6s : p6 < X4.heap.size := by rw [← hY, ← hp6]; simp
          have hp6w : w3.heap.size ≤ p6 := by rw [← hp6]; exact HW.out.size
          rw [hY, hp6]
          have hne : p5 ≠ p6 := by omega
          have BP := Aside0.mk (blk_below BP.out hb)
          have BQ := Aside0.mk (blk_below BQ.out hb)
          have HW := Aside0.mk (HW.out.trans (hb.mono HW.out.size))
          have hsz := hb.size
          have F1 := Aside0.mk (Kd.R_below F1.out hb)
          have F3 := Aside0.mk (Kd.R_below F3.out hb)
          have G4 := Aside0.mk (blk_below G4.out hb)
          clear hb hY hp6
          have hSd : (fun W => W.cell? ⟨w.heap.size, 0, none⟩ = some (.slice A ps.length c) ∧ W.cell? ⟨w.heap.size + 1, 0, none⟩ = some (.slice B qs.length d)) X4 := ⟨(blk_cell BP.out 0).trans rfl, (blk_cell BQ.out 0).trans rfl⟩
          refine hK.out _ _ (fun _ => hSd) ?_
          clear hK
          have k5 := (blk_cell G4.out 0).trans rfl
          have f5 := blk_frozen G4.out 0
          have k6 := (blk_cell G5.out 0).trans rfl
          have f6 := blk_frozen G5.out 0
          refine wpAnyK_one (i := 6) (by kernel_rfl) rfl (fun K hK => ?_)
          go_simp
          obtain ⟨Z6, hY⟩ : ∃ Z6, X4.setCell ⟨p5, 0, none⟩ (.slice A5 ps.length c5) = Z6 := ⟨_, rfl⟩
          have hf1 := Kd.R_set F1.out (show X4.heap[p5]? = _ from G4.out) def_ne_prog 0 (.slice A5 ps.length c5)
          have hf3 := Kd.R_set F3.out (show X4.heap[p5]? = _ from G4.out) def_ne_prog 0 (.slice A5 ps.length c5)
          have hg := blk_put G4.out 0 (.slice A5 ps.length c5) rfl
          have hgo := blk_far (p := ⟨p5, 0, none⟩) G5.out (by simp only; omega) (.slice A5 ps.length c5)
          have hbp := blk_far (p := ⟨p5, 0, none⟩) BP.out (by simp only; omega) (.slice A5 ps.length c5)
          have hbq := blk_far (p := ⟨p5, 0, none⟩) BQ.out (by simp only; omega) (.slice A5 ps.length c5)
          have hw := HW.out.setCell (p := ⟨p5, 0, none⟩) (by simp only; omega) (.slice A5 ps.length c5)
          rw [hY] at hf1 hf3 hg hgo hbp hbq hw ⊢
          have F1 := Aside0.mk hf1
          have F3 := Aside0.mk hf3
          have G4 := Aside0.mk hg
          have G5 := Aside0.mk hgo
          have BP := Aside0.mk hbp
          have BQ := Aside0.mk hbq
          have HW := Aside0.mk hw
          clear hf1 hf3 hg hgo hbp hbq hw hY k5 f5 k6 f6
          have k6 := (blk_cell G5.out 0).trans rfl
          have f6 := blk_frozen G5.out 0
          have k5 := k6
          have f5 := f6
          have hSd : (fun W => W.cell? ⟨w.heap.size, 0, none⟩ = some (.slice A ps.length c) ∧ W.cell? ⟨w.heap.size + 1, 0, none⟩ = some (.slice B qs.length d)) Z6 := ⟨(blk_cell BP.out 0).trans rfl, (blk_cell BQ.out 0).trans rfl⟩
          refine hK.out _ _ (fun _ => hSd) ?_
          clear hK
          refine wpAnyK_one (i := 7) (by kernel_rfl) rfl (fun K hK => ?_)
          go_simp
          obtain ⟨Z7, hY⟩ : ∃ Z7, Z6.setCell ⟨p6, 0, none⟩ (.slice A6 qs.length c6) = Z7 := ⟨_, rfl⟩
          have hf1 := Kd.R_set F1.out (show Z6.heap[p6]? = _ from G5.out) def_ne_prog 0 (.slice A6 qs.length c6)
          have hf3 := Kd.R_set F3.out (show Z6.heap[p6]? = _ from G5.out) def_ne_prog 0 (.slice A6 qs.length c6)
          have hg := blk_put G5.out 0 (.slice A6 qs.length c6) rfl
          have hgo := blk_far (p := ⟨p6, 0, none⟩) G4.out (by simp only; omega) (.slice A6 qs.length c6)
          have hbp := blk_far (p := ⟨p6, 0, none⟩) BP.out (by simp only; omega) (.slice A6 qs.length c6)
          have hbq := blk_far (p := ⟨p6, 0, none⟩) BQ.out (by simp only; omega) (.slice A6 qs.length c6)
          have hw := HW.out.setCell (p := ⟨p6, 0, none⟩) (by simp only; omega) (.slice A6 qs.length c6)
          rw [hY] at hf1 hf3 hg hgo hbp hbq hw ⊢
          have F1 := Aside0.mk hf1
          have F3 := Aside0.mk hf3
          have G5 := Aside0.mk hg
          have G4 := Aside0.mk hgo
          have BP := Aside0.mk hbp
          have BQ := Aside0.mk hbq
          have HW := Aside0.mk hw
          clear hf1 hf3 hg hgo hbp hbq hw hY k5 f5
          refine hK.out _ _ (fun h => absurd rfl h) ?_
          clear hK hSd k6 f6
          refine wpAnyK_done (by kernel_rfl) ?_ _
          go_wp2_with fail
          go_meet
          obtain ⟨_, _, he5, hc5, hC5⟩ := Kd.R_reads F1.out
          cases he5
          obtain ⟨_, _, he6, hc6, hC6⟩ := Kd.R_reads F3.out
          cases he6
          exact ⟨p5, p6, _, _, _, _, rfl, rfl, ⟨by simpa using G4.out⟩, ⟨by simpa using G5.out⟩, ⟨hc5, hC5⟩, ⟨hc6, hC6⟩, HW⟩
        · skip
          go_simp
          obtain ⟨X3, hY⟩ : ∃ X3, X2.alloc (.cells #[.slice none 0 0] 24) = X3 := ⟨_, rfl⟩
          obtain ⟨p6, hp6⟩ : ∃ p6, X2.heap.size = p6 := ⟨_, rfl⟩
          have hb : Below X2.heap.size X2 X3 := by rw [← hY]; exact below_alloc1 _ _
          have G5 := Aside0.mk (show PBox p6 none 0 0 X3 by rw [← hY, ← hp6]; exact alloc_at _ _)
          have hp6s : p6 < X3.heap.size := by rw [← hY, ← hp6]; simp
          have hp6w : w3.heap.size ≤ p6 := by rw [← hp6]; exact HW.out.size
          rw [hY, hp6]
          have hne : p5 ≠ p6 := by omega
          have BP := Aside0.mk (blk_below BP.out hb)
          have BQ := Aside0.mk (blk_below BQ.out hb)
          have HW := Aside0.mk (HW.out.trans (hb.mono HW.out.size))
          have hsz := hb.size
          have F1 := Aside0.mk (Kd.R_below F1.out hb)
          have G4 := Aside0.mk (blk_below G4.out hb)
          clear hb hY hp6
          have hSd : (fun W => W.cell? ⟨w.heap.size, 0, none⟩ = some (.slice A ps.length c) ∧ W.cell? ⟨w.heap.size + 1, 0, none⟩ = some (.slice B qs.length d)) X3 := ⟨(blk_cell BP.out 0).trans rfl, (blk_cell BQ.out 0).trans rfl⟩
          refine hK.out _ _ (fun _ => hSd) ?_
          clear hK
          refine wpAnyK_one (i := 3) (by kernel_rfl) rfl (fun K hK => ?_)
          go_simp
          go_at_call 10
          (with_reducible refine (HO3.out X3 HW.out).mono ?_)
          rintro e X4 ⟨v, rfl, ho, hb⟩
          obtain ⟨A6, c6, rfl⟩ := Kd.R_slice ho
          have F3 := Aside0.mk (Kd.R_lower ho HW.out.size)
          have BP := Aside0.mk (blk_below BP.out hb)
          have BQ := Aside0.mk (blk_below BQ.out hb)
          have HW := Aside0.mk (HW.out.trans (hb.mono HW.out.size))
          have hsz := hb.size
          have F1 := Aside0.mk (Kd.R_below F1.out hb)
          have G4 := Aside0.mk (blk_below G4.out hb)
          have G5 := Aside0.mk (blk_below G5.out hb)
          clear ho hb
          have hSd : (fun W => W.cell? ⟨w.heap.size, 0, none⟩ = some (.slice A ps.length c) ∧ W.cell? ⟨w.heap.size + 1, 0, none⟩ = some (.slice B qs.length d)) X4 := ⟨(blk_cell BP.out 0).trans rfl, (blk_cell BQ.out 0).trans rfl⟩
          refine hK.out _ _ (fun _ => hSd) ?_
          clear hK
          have k5 := (blk_cell G4.out 0).trans rfl
          have f5 := blk_frozen G4.out 0
          have k6 := (blk_cell G5.out 0).trans rfl
          have f6 := blk_frozen G5.out 0
          refine wpAnyK_one (i := 6) (by kernel_rfl) rfl (fun K hK => ?_)
          go_simp
          obtain ⟨Z6, hY⟩ : ∃ Z6, X4.setCell ⟨p5, 0, none⟩ (.slice A5 ps.length c5) = Z6 := ⟨_, rfl⟩
          have hf1 := Kd.R_set F1.out (show X4.heap[p5]? = _ from G4.out) def_ne_prog 0 (.slice A5 ps.length c5)
          have hf3 := Kd.R_set F3.out (show X4.heap[p5]? = _ from G4.out) def_ne_prog 0 (.slice A5 ps.length c5)
          have hg := blk_put G4.out 0 (.slice A5 ps.length c5) rfl
          have hgo := blk_far (p := ⟨p5, 0, none⟩) G5.out (by simp only; omega) (.slice A5 ps.length c5)
          have hbp := blk_far (p := ⟨p5, 0, none⟩) BP.out (by simp only; omega) (.slice A5 ps.length c5)
          have hbq := blk_far (p := ⟨p5, 0, none⟩) BQ.out (by simp only; omega) (.slice A5 ps.length c5)
          have hw := HW.out.setCell (p := ⟨p5, 0, none⟩) (by simp only; omega) (.slice A5 ps.length c5)
          rw [hY] at hf1 hf3 hg hgo hbp hbq hw ⊢
          have F1 := Aside0.mk hf1
          have F3 := Aside0.mk hf3
          have G4 := Aside0.mk hg
          have G5 := Aside0.mk hgo
          have BP := Aside0.mk hbp
          have BQ := Aside0.mk hbq
          have HW := Aside0.mk hw
          clear hf1 hf3 hg hgo hbp hbq hw hY k5 f5 k6 f6
          have k6 := (blk_cell G5.out 0).trans rfl
          have f6 := blk_frozen G5.out 0
          have k5 := k6
          have f5 := f6
          have hSd : (fun W => W.cell? ⟨w.heap.size, 0, none⟩ = some (.slice A ps.length c) ∧ W.cell? ⟨w.heap.size + 1, 0, none⟩ = some (.slice B qs.length d)) Z6 := ⟨(blk_cell BP.out 0).trans rfl, (blk_cell BQ.out 0).trans rfl⟩
          refine hK.out _ _ (fun _ => hSd) ?_
          clear hK
          refine wpAnyK_one (i := 7) (by kernel_rfl) rfl (fun K hK => ?_)
          go_simp
          obtain ⟨Z7, hY⟩ : ∃ Z7, Z6.setCell ⟨p6, 0, none⟩ (.slice A6 qs.length c6) = Z7 := ⟨_, rfl⟩
          have hf1 := Kd.R_set F1.out (show Z6.heap[p6]? = _ from G5.out) def_ne_prog 0 (.slice A6 qs.length c6)
          have hf3 := Kd.R_set F3.out (show Z6.heap[p6]? = _ from G5.out) def_ne_prog 0 (.slice A6 qs.length c6)
          have hg := blk_put G5.out 0 (.slice A6 qs.length c6) rfl
          have hgo := blk_far (p := ⟨p6, 0, none⟩) G4.out (by simp only; omega) (.slice A6 qs.length c6)
          have hbp := blk_far (p := ⟨p6, 0, none⟩) BP.out (by simp only; omega) (.slice A6 qs.length c6)
          have hbq := blk_far (p := ⟨p6, 0, none⟩) BQ.out (by simp only; omega) (.slice A6 qs.length c6)
          have hw := HW.out.setCell (p := ⟨p6, 0, none⟩) (by simp only; omega) (.slice A6 qs.length c6)
          rw [hY] at hf1 hf3 hg hgo hbp hbq hw ⊢
          have F1 := Aside0.mk hf1
          have F3 := Aside0.mk hf3
          have G5 := Aside0.mk hg
          have G4 := Aside0.mk hgo
          have BP := Aside0.mk hbp
          have BQ := Aside0.mk hbq
          have HW := Aside0.mk hw
          clear hf1 hf3 hg hgo hbp hbq hw hY k5 f5
          refine hK.out _ _ (fun h => absurd rfl h) ?_
          clear hK hSd k6 f6
          refine wpAnyK_done (by kernel_rfl) ?_ _
          go_wp2_with fail
          go_meet
          obtain ⟨_, _, he5, hc5, hC5⟩ := Kd.R_reads F1.out
          cases he5
          obtain ⟨_, _, he6, hc6, hC6⟩ := Kd.R_reads F3.out
          cases he6
          exact ⟨p5, p6, _, _, _, _, rfl, rfl, ⟨by simpa using G4.out⟩, ⟨by simpa using G5.out⟩, ⟨hc5, hC5⟩, ⟨hc6, hC6⟩, HW⟩
      · skip
        go_simp
        obtain ⟨X2, hY⟩ : ∃ X2, X1.alloc (.cells #[.slice none 0 0] 24) = X2 := ⟨_, rfl⟩
        obtain ⟨p6, hp6⟩ : ∃ p6, X1.heap.size = p6 := ⟨_, rfl⟩
        have hb : Below X1.heap.size X1 X2 := by rw [← hY]; exact below_alloc1 _ _
        have G5 := Aside0.mk (show PBox p6 none 0 0 X2 by rw [← hY, ← hp6]; exact alloc_at _ _)
        have hp6s : p6 < X2.heap.size := by rw [← hY, ← hp6]; simp
        have hp6w : w3.heap.size ≤ p6 := by rw [← hp6]; exact HW.out.size
        rw [hY, hp6]
        have hne : p5 ≠ p6 := by omega
        have BP := Aside0.mk (blk_below BP.out hb)
        have BQ := Aside0.mk (blk_below BQ.out hb)
        have HW := Aside0.mk (HW.out.trans (hb.mono HW.out.size))
        have hsz := hb.size
        have G4 := Aside0.mk (blk_below G4.out hb)
        clear hb hY hp6
        have hSd : (fun W => W.cell? ⟨w.heap.size, 0, none⟩ = some (.slice A ps.length c) ∧ W.cell? ⟨w.heap.size + 1, 0, none⟩ = some (.slice B qs.length d)) X2 := ⟨(blk_cell BP.out 0).trans rfl, (blk_cell BQ.out 0).trans rfl⟩
        refine hK.out _ _ (fun _ => hSd) ?_
        clear hK
        refine wpAnyK_one (i := 1) (by kernel_rfl) rfl (fun K hK => ?_)
        go_simp
        go_at_call 10
        (with_reducible refine (HO1.out X2 HW.out).mono ?_)
        rintro e X3 ⟨v, rfl, ho, hb⟩
        obtain ⟨A5, c5, rfl⟩ := Kd.R_slice ho
        have F1 := Aside0.mk (Kd.R_lower ho HW.out.size)
        have BP := Aside0.mk (blk_below BP.out hb)
        have BQ := Aside0.mk (blk_below BQ.out hb)
        have HW := Aside0.mk (HW.out.trans (hb.mono HW.out.size))
        have hsz := hb.size
        have G4 := Aside0.mk (blk_below G4.out hb)
        have G5 := Aside0.mk (blk_below G5.out hb)
        clear ho hb
        have hSd : (fun W => W.cell? ⟨w.heap.size, 0, none⟩ = some (.slice A ps.length c) ∧ W.cell? ⟨w.heap.size + 1, 0, none⟩ = some (.slice B qs.length d)) X3 := ⟨(blk_cell BP.out 0).trans rfl, (blk_cell BQ.out 0).trans rfl⟩
        refine hK.out _ _ (fun _ => hSd) ?_
        clear hK
        refine wpAnyK_one (i := 3) (by kernel_rfl) rfl (fun K hK => ?_)
        go_simp
        go_at_call 10
        (with_reducible refine (HO3.out X3 HW.out).mono ?_)
        rintro e X4 ⟨v, rfl, ho, hb⟩
        obtain ⟨A6, c6, rfl⟩ := Kd.R_slice ho
        have F3 := Aside0.mk (Kd.R_lower ho HW.out.size)
        have BP := Aside0.mk (blk_below BP.out hb)
        have BQ := Aside0.mk (blk_below BQ.out hb)
        have HW := Aside0.mk (HW.out.trans (hb.mono HW.out.size))
        have hsz := hb.size
        have F1 := Aside0.mk (Kd.R_below F1.out hb)
        have G4 := Aside0.mk (blk_below G4.out hb)
        have G5 := Aside0.mk (blk_below G5.out hb)
        clear ho hb
        have hSd : (fun W => W.cell? ⟨w.heap.size, 0, none⟩ = some (.slice A ps.length c) ∧ W.cell? ⟨w.heap.size + 1, 0, none⟩ = some (.slice B qs.length d)) X4 := ⟨(blk_cell BP.out 0).trans rfl, (blk_cell BQ.out 0).trans rfl⟩
        refine hK.out _ _ (fun _ => hSd) ?_
        clear hK
        have k5 := (blk_cell G4.out 0).trans rfl
        have f5 := blk_frozen G4.out 0
        have k6 := (blk_cell G5.out 0).trans rfl
        have f6 := blk_frozen G5.out 0
        refine wpAnyK_one (i := 6) (by kernel_rfl) rfl (fun K hK => ?_)
        go_simp
        obtain ⟨Z6, hY⟩ : ∃ Z6, X4.setCell ⟨p5, 0, none⟩ (.slice A5 ps.length c5) = Z6 := ⟨_, rfl⟩
        have hf1 := Kd.R_set F1.out (show X4.heap[p5]? = _ from G4.out) def_ne_prog 0 (.slice A5 ps.length c5)
        have hf3 := Kd.R_set F3.out (show X4.heap[p5]? = _ from G4.out) def_ne_prog 0 (.slice A5 ps.length c5)
        have hg := blk_put G4.out 0 (.slice A5 ps.length c5) rfl
        have hgo := blk_far (p := ⟨p5, 0, none⟩) G5.out (by simp only; omega) (.slice A5 ps.length c5)
        have hbp := blk_far (p := ⟨p5, 0, none⟩) BP.out (by simp only; omega) (.slice A5 ps.length c5)
        have hbq := blk_far (p := ⟨p5, 0, none⟩) BQ.out (by simp only; omega) (.slice A5 ps.length c5)
        have hw := HW.out.setCell (p := ⟨p5, 0, none⟩) (by simp only; omega) (.slice A5 ps.length c5)
        rw [hY] at hf1 hf3 hg hgo hbp hbq hw ⊢
        have F1 := Aside0.mk hf1
        have F3 := Aside0.mk hf3
        have G4 := Aside0.mk hg
        have G5 := Aside0.mk hgo
        have BP := Aside0.mk hbp
        have BQ := Aside0.mk hbq
        have HW := Aside0.mk hw
        clear hf1 hf3 hg hgo hbp hbq hw hY k5 f5 k6 f6
        have k6 := (blk_cell G5.out 0).trans rfl
        have f6 := blk_frozen G5.out 0
        have k5 := k6
        have f5 := f6
        have hSd : (fun W => W.cell? ⟨w.heap.size, 0, none⟩ = some (.slice A ps.length c) ∧ W.cell? ⟨w.heap.size + 1, 0, none⟩ = some (.slice B qs.length d)) Z6 := ⟨(blk_cell BP.out 0).trans rfl, (blk_cell BQ.out 0).trans rfl⟩
        refine hK.out _ _ (fun _ => hSd) ?_
        clear hK
        refine wpAnyK_one (i := 7) (by kernel_rfl) rfl (fun K hK => ?_)
        go_simp
        obtain ⟨Z7, hY⟩ : ∃ Z7, Z6.setCell ⟨p6, 0, none⟩ (.slice A6 qs.length c6) = Z7 := ⟨_, rfl⟩
        have hf1 := Kd.R_set F1.out (show Z6.heap[p6]? = _ from G5.out) def_ne_prog 0 (.slice A6 qs.length c6)
        have hf3 := Kd.R_set F3.out (show Z6.heap[p6]? = _ from G5.out) def_ne_prog 0 (.slice A6 qs.length c6)
        have hg := blk_put G5.out 0 (.slice A6 qs.length c6) rfl
        have hgo := blk_far (p := ⟨p6, 0, none⟩) G4.out (by simp only; omega) (.slice A6 qs.length c6)
        have hbp := blk_far (p := ⟨p6, 0, none⟩) BP.out (by simp only; omega) (.slice A6 qs.length c6)
        have hbq := blk_far (p := ⟨p6, 0, none⟩) BQ.out (by simp only; omega) (.slice A6 qs.length c6)
        have hw := HW.out.setCell (p := ⟨p6, 0, none⟩) (by simp only; omega) (.slice A6 qs.length c6)
        rw [hY] at hf1 hf3 hg hgo hbp hbq hw ⊢
        have F1 := Aside0.mk hf1
        have F3 := Aside0.mk hf3
        have G5 := Aside0.mk hg
        have G4 := Aside0.mk hgo
        have BP := Aside0.mk hbp
        have BQ := Aside0.mk hbq
        have HW := Aside0.mk hw
        clear hf1 hf3 hg hgo hbp hbq hw hY k5 f5
        refine hK.out _ _ (fun h => absurd rfl h) ?_
        clear hK hSd k6 f6
        refine wpAnyK_done (by kernel_rfl) ?_ _
        go_wp2_with fail
        go_meet
        obtain ⟨_, _, he5, hc5, hC5⟩ := Kd.R_reads F1.out
        cases he5
        obtain ⟨_, _, he6, hc6, hC6⟩ := Kd.R_reads F3.out
        cases he6
        exact ⟨p5, p6, _, _, _, _, rfl, rfl, ⟨by simpa using G4.out⟩, ⟨by simpa using G5.out⟩, ⟨hc5, hC5⟩, ⟨hc6, hC6⟩, HW⟩
    · skip
      go_simp
      obtain ⟨X1, hY⟩ : ∃ X1, X0.alloc (.cells #[.slice none 0 0] 24) = X1 := ⟨_, rfl⟩
      obtain ⟨p6, hp6⟩ : ∃ p6, X0.heap.size = p6 := ⟨_, rfl⟩
      have hb : Below X0.heap.size X0 X1 := by rw [← hY]; exact below_alloc1 _ _
      have G5 := Aside0.mk (show PBox p6 none 0 0 X1 by rw [← hY, ← hp6]; exact alloc_at _ _)
      have hp6s : p6 < X1.heap.size := by rw [← hY, ← hp6]; simp
      have hp6w : w3.heap.size ≤ p6 := by rw [← hp6]; exact HW.out.size
      rw [hY, hp6]
      have BP := Aside0.mk (blk_below BP.out hb)
      have BQ := Aside0.mk (blk_below BQ.out hb)
      have HW := Aside0.mk (HW.out.trans (hb.mono HW.out.size))
      have hsz := hb.size
      clear hb hY hp6
      have hSd : (fun W => W.cell? ⟨w.heap.size, 0, none⟩ = some (.slice A ps.length c) ∧ W.cell? ⟨w.heap.size + 1, 0, none⟩ = some (.slice B qs.length d)) X1 := ⟨(blk_cell BP.out 0).trans rfl, (blk_cell BQ.out 0).trans rfl⟩
      refine hK.out _ _ (fun _ => hSd) ?_
      clear hK
      refine wpAnyK_two (i := 1) (j := 4) (by kernel_rfl) rfl rfl (fun K hK => ?_) (fun K hK => ?_)
      · skip
        go_simp
        go_at_call 10
        (with_reducible refine (HO1.out X1 HW.out).mono ?_)
        rintro e X2 ⟨v, rfl, ho, hb⟩
        obtain ⟨A5, c5, rfl⟩ := Kd.R_slice ho
        have F1 := Aside0.mk (Kd.R_lower ho HW.out.size)
        have BP := Aside0.mk (blk_below BP.out hb)
        have BQ := Aside0.mk (blk_below BQ.out hb)
        have HW := Aside0.mk (HW.out.trans (hb.mono HW.out.size))
        have hsz := hb.size
        have G5 := Aside0.mk (blk_below G5.out hb)
        clear ho hb
        have hSd : (fun W => W.cell? ⟨w.heap.size, 0, none⟩ = some (.slice A ps.length c) ∧ W.cell? ⟨w.heap.size + 1, 0, none⟩ = some (.slice B qs.length d)) X2 := ⟨(blk_cell BP.out 0).trans rfl, (blk_cell BQ.out 0).trans rfl⟩
        refine hK.out _ _ (fun _ => hSd) ?_
        clear hK
        refine wpAnyK_two (i := 3) (j := 4) (by kernel_rfl) rfl rfl (fun K hK => ?_) (fun K hK => ?_)
        · skip
          go_simp
          go_at_call 10
          (with_reducible refine (HO3.out X2 HW.out).mono ?_)
          rintro e X3 ⟨v, rfl, ho, hb⟩
          obtain ⟨A6, c6, rfl⟩ := Kd.R_slice ho
          have F3 := Aside0.mk (Kd.R_lower ho HW.out.size)
          have BP := Aside0.mk (blk_below BP.out hb)
          have BQ := Aside0.mk (blk_below BQ.out hb)
          have HW := Aside0.mk (HW.out.trans (hb.mono HW.out.size))
          have hsz := hb.size
          have F1 := Aside0.mk (Kd.R_below F1.out hb)
          have G5 := Aside0.mk (blk_below G5.out hb)
          clear ho hb
          have hSd : (fun W => W.cell? ⟨w.heap.size, 0, none⟩ = some (.slice A ps.length c) ∧ W.cell? ⟨w.heap.size + 1, 0, none⟩ = some (.slice B qs.length d)) X3 := ⟨(blk_cell BP.out 0).trans rfl, (blk_cell BQ.out 0).trans rfl⟩
          refine hK.out _ _ (fun _ => hSd) ?_
          clear hK
          refine wpAnyK_one (i := 4) (by kernel_rfl) rfl (fun K hK => ?_)
          go_simp
          obtain ⟨X4, hY⟩ : ∃ X4, X3.alloc (.cells #[.slice none 0 0] 24) = X4 := ⟨_, rfl⟩
          obtain ⟨p5, hp5⟩ : ∃ p5, X3.heap.size = p5 := ⟨_, rfl⟩
          have hb : Below X3.heap.size X3 X4 := by rw [← hY]; exact below_alloc1 _ _
          have G4 := Aside0.mk (show PBox p5 none 0 0 X4 by rw [← hY, ← hp5]; exact alloc_at _ _)
          have hp5s : p5 < X4.heap.size := by rw [← hY, ← hp5]; simp
          have hp5w : w3.heap.size ≤ p5 := by rw [← hp5]; exact HW.out.size
          rw [hY, hp5]
          have hne : p5 ≠ p6 := by omega
          have BP := Aside0.mk (blk_below BP.out hb)
          have BQ := Aside0.mk (blk_below BQ.out hb)
          have HW := Aside0.mk (HW.out.trans (hb.mono HW.out.size))
          have hsz := hb.size
          have F1 := Aside0.mk (Kd.R_below F1.out hb)
          have F3 := Aside0.mk (Kd.R_below F3.out hb)
          have G5 := Aside0.mk (blk_below G5.out hb)
          clear hb hY hp5
          have hSd : (fun W => W.cell? ⟨w.heap.size, 0, none⟩ = some (.slice A ps.length c) ∧ W.cell? ⟨w.heap.size + 1, 0, none⟩ = some (.slice B qs.length d)) X4 := ⟨(blk_cell BP.out 0).trans rfl, (blk_cell BQ.out 0).trans rfl⟩
          refine hK.out _ _ (fun _ => hSd) ?_
          clear hK
          have k5 := (blk_cell G4.out 0).trans rfl
          have f5 := blk_frozen G4.out 0
          have k6 := (blk_cell G5.out 0).trans rfl
          have f6 := blk_frozen G5.out 0
          refine wpAnyK_one (i := 6) (by kernel_rfl) rfl (fun K hK => ?_)
          go_simp
          obtain ⟨Z6, hY⟩ : ∃ Z6, X4.setCell ⟨p5, 0, none⟩ (.slice A5 ps.length c5) = Z6 := ⟨_, rfl⟩
          have hf1 := Kd.R_set F1.out (show X4.heap[p5]? = _ from G4.out) def_ne_prog 0 (.slice A5 ps.length c5)
          have hf3 := Kd.R_set F3.out (show X4.heap[p5]? = _ from G4.out) def_ne_prog 0 (.slice A5 ps.length c5)
          have hg := blk_put G4.out 0 (.slice A5 ps.length c5) rfl
          have hgo := blk_far (p := ⟨p5, 0, none⟩) G5.out (by simp only; omega) (.slice A5 ps.length c5)
          have hbp := blk_far (p := ⟨p5, 0, none⟩) BP.out (by simp only; omega) (.slice A5 ps.length c5)
          have hbq := blk_far (p := ⟨p5, 0, none⟩) BQ.out (by simp only; omega) (.slice A5 ps.length c5)
          have hw := HW.out.setCell (p := ⟨p5, 0, none⟩) (by simp only; omega) (.slice A5 ps.length c5)
          rw [hY] at hf1 hf3 hg hgo hbp hbq hw ⊢
          have F1 := Aside0.mk hf1
          have F3 := Aside0.mk hf3
          have G4 := Aside0.mk hg
          have G5 := Aside0.mk hgo
          have BP := Aside0.mk hbp
          have BQ := Aside0.mk hbq
          have HW := Aside0.mk hw
          clear hf1 hf3 hg hgo hbp hbq hw hY k5 f5 k6 f6
          have k6 := (blk_cell G5.out 0).trans rfl
          have f6 := blk_frozen G5.out 0
          have k5 := k6
          have f5 := f6
          have hSd : (fun W => W.cell? ⟨w.heap.size, 0, none⟩ = some (.slice A ps.length c) ∧ W.cell? ⟨w.heap.size + 1, 0, none⟩ = some (.slice B qs.length d)) Z6 := ⟨(blk_cell BP.out 0).trans rfl, (blk_cell BQ.out 0).trans rfl⟩
          refine hK.out _ _ (fun _ => hSd) ?_
          clear hK
          refine wpAnyK_one (i := 7) (by kernel_rfl) rfl (fun K hK => ?_)
          go_simp
          obtain ⟨Z7, hY⟩ : ∃ Z7, Z6.setCell ⟨p6, 0, none⟩ (.slice A6 qs.length c6) = Z7 := ⟨_, rfl⟩
          have hf1 := Kd.R_set F1.out (show Z6.heap[p6]? = _ from G5.out) def_ne_prog 0 (.slice A6 qs.length c6)
          have hf3 := Kd.R_set F3.out (show Z6.heap[p6]? = _ from G5.out) def_ne_prog 0 (.slice A6 qs.length c6)
          have hg := blk_put G5.out 0 (.slice A6 qs.length c6) rfl
          have hgo := blk_far (p := ⟨p6, 0, none⟩) G4.out (by simp only; omega) (.slice A6 qs.length c6)
          have hbp := blk_far (p := ⟨p6, 0, none⟩) BP.out (by simp only; omega) (.slice A6 qs.length c6)
          have hbq := blk_far (p := ⟨p6, 0, none⟩) BQ.out (by simp only; omega) (.slice A6 qs.length c6)
          have hw := HW.out.setCell (p := ⟨p6, 0, none⟩) (by simp only; omega) (.slice A6 qs.length c6)
          rw [hY] at hf1 hf3 hg hgo hbp hbq hw ⊢
          have F1 := Aside0.mk hf1
          have F3 := Aside0.mk hf3
          have G5 := Aside0.mk hg
          have G4 := Aside0.mk hgo
          have BP := Aside0.mk hbp
          have BQ := Aside0.mk hbq
          have HW := Aside0.mk hw
          clear hf1 hf3 hg hgo hbp hbq hw hY k5 f5
          refine hK.out _ _ (fun h => absurd rfl h) ?_
          clear hK hSd k6 f6
          refine wpAnyK_done (by kernel_rfl) ?_ _
          go_wp2_with fail
          go_meet
          obtain ⟨_, _, he5, hc5, hC5⟩ := Kd.R_reads F1.out
          cases he5
          obtain ⟨_, _, he6, hc6, hC6⟩ := Kd.R_reads F3.out
          cases he6
          exact ⟨p5, p6, _, _, _, _, rfl, rfl, ⟨by simpa using G4.out⟩, ⟨by simpa using G5.out⟩, ⟨hc5, hC5⟩, ⟨hc6, hC6⟩, HW⟩
        · skip
          go_simp
          obtain ⟨X3, hY⟩ : ∃ X3, X2.alloc (.cells #[.slice none 0 0] 24) = X3 := ⟨_, rfl⟩
          obtain ⟨p5, hp5⟩ : ∃ p5, X2.heap.size = p5 := ⟨_, rfl⟩
          have hb : Below X2.heap.size X2 X3 := by rw [← hY]; exact below_alloc1 _ _
          have G4 := Aside0.mk (show PBox p5 none 0 0 X3 by rw [← hY, ← hp5]; exact alloc_at _ _)
          have hp5s : p5 < X3.heap.size := by rw [← hY, ← hp5]; simp
          have hp5w : w3.heap.size ≤ p5 := by rw [← hp5]; exact HW.out.size
          rw [hY, hp5]
          have hne : p5 ≠ p6 := by omega
          have BP := Aside0.mk (blk_below BP.out hb)
          have BQ := Aside0.mk (blk_below BQ.out hb)
          have HW := Aside0.mk (HW.out.trans (hb.mono HW.out.size))
          have hsz := hb.size
          have F1 := Aside0.mk (Kd.R_below F1.out hb)
          have G5 := Aside0.mk (blk_below G5.out hb)
          clear hb hY hp5
          have hSd : (fun W => W.cell? ⟨w.heap.size, 0, none⟩ = some (.slice A ps.length c) ∧ W.cell? ⟨w.heap.size + 1, 0, none⟩ = some (.slice B qs.length d)) X3 := ⟨(blk_cell BP.out 0).trans rfl, (blk_cell BQ.out 0).trans rfl⟩
          refine hK.out _ _ (fun _ => hSd) ?_
          clear hK
          refine wpAnyK_one (i := 3) (by kernel_rfl) rfl (fun K hK => ?_)
          go_simp
          go_at_call 10
          (with_reducible refine (HO3.out X3 HW.out).mono ?_)
          rintro e X4 ⟨v, rfl, ho, hb⟩
          obtain ⟨A6, c6, rfl⟩ := Kd.R_slice ho
          have F3 := Aside0.mk (Kd.R_lower ho HW.out.size)
          have BP := Aside0.mk (blk_below BP.out hb)
          have BQ := Aside0.mk (blk_below BQ.out hb)
          have HW := Aside0.mk (HW.out.trans (hb.mono HW.out.size))
          have hsz := hb.size
          have F1 := Aside0.mk (Kd.R_below F1.out hb)
          have G4 := Aside0.mk (blk_below G4.out hb)
          have G5 := Aside0.mk (blk_below G5.out hb)
          clear ho hb
          have hSd : (fun W => W.cell? ⟨w.heap.size, 0, none⟩ = some (.slice A ps.length c) ∧ W.cell? ⟨w.heap.size + 1, 0, none⟩ = some (.slice B qs.length d)) X4 := ⟨(blk_cell BP.out 0).trans rfl, (blk_cell BQ.out 0).trans rfl⟩
          refine hK.out _ _ (fun _ => hSd) ?_
          clear hK
          have k5 := (blk_cell G4.out 0).trans rfl
          have f5 := blk_frozen G4.out 0
          have k6 := (blk_cell G5.out 0).trans rfl
          have f6 := blk_frozen G5.out 0
          refine wpAnyK_one (i := 6) (by kernel_rfl) rfl (fun K hK => ?_)
          go_simp
          obtain ⟨Z6, hY⟩ : ∃ Z6, X4.setCell ⟨p5, 0, none⟩ (.slice A5 ps.length c5) = Z6 := ⟨_, rfl⟩
          have hf1 := Kd.R_set F1.out (show X4.heap[p5]? = _ from G4.out) def_ne_prog 0 (.slice A5 ps.length c5)
          have hf3 := Kd.R_set F3.out (show X4.heap[p5]? = _ from G4.out) def_ne_prog 0 (.slice A5 ps.length c5)
          have hg := blk_put G4.out 0 (.slice A5 ps.length c5) rfl
          have hgo := blk_far (p := ⟨p5, 0, none⟩) G5.out (by simp only; omega) (.slice A5 ps.length c5)
          have hbp := blk_far (p := ⟨p5, 0, none⟩) BP.out (by simp only; omega) (.slice A5 ps.length c5)
          have hbq := blk_far (p := ⟨p5, 0, none⟩) BQ.out (by simp only; omega) (.slice A5 ps.length c5)
          have hw := HW.out.setCell (p := ⟨p5, 0, none⟩) (by simp only; omega) (.slice A5 ps.length c5)
          rw [hY] at hf1 hf3 hg hgo hbp hbq hw ⊢
          have F1 := Aside0.mk hf1
          have F3 := Aside0.mk hf3
          have G4 := Aside0.mk hg
          have G5 := Aside0.mk hgo
          have BP := Aside0.mk hbp
          have BQ := Aside0.mk hbq
          have HW := Aside0.mk hw
          clear hf1 hf3 hg hgo hbp hbq hw hY k5 f5 k6 f6
          have k6 := (blk_cell G5.out 0).trans rfl
          have f6 := blk_frozen G5.out 0
          have k5 := k6
          have f5 := f6
          have hSd : (fun W => W.cell? ⟨w.heap.size, 0, none⟩ = some (.slice A ps.length c) ∧ W.cell? ⟨w.heap.size + 1, 0, none⟩ = some (.slice B qs.length d)) Z6 := ⟨(blk_cell BP.out 0).trans rfl, (blk_cell BQ.out 0).trans rfl⟩
          refine hK.out _ _ (fun _ => hSd) ?_
          clear hK
          refine wpAnyK_one (i := 7) (by kernel_rfl) rfl (fun K hK => ?_)
          go_simp
          obtain ⟨Z7, hY⟩ : ∃ Z7, Z6.setCell ⟨p6, 0, none⟩ (.slice A6 qs.length c6) = Z7 := ⟨_, rfl⟩
          have hf1 := Kd.R_set F1.out (show Z6.heap[p6]? = _ from G5.out) def_ne_prog 0 (.slice A6 qs.length c6)
          have hf3 := Kd.R_set F3.out (show Z6.heap[p6]? = _ from G5.out) def_ne_prog 0 (.slice A6 qs.length c6)
          have hg := blk_put G5.out 0 (.slice A6 qs.length c6) rfl
          have hgo := blk_far (p := ⟨p6, 0, none⟩) G4.out (by simp only; omega) (.slice A6 qs.length c6)
          have hbp := blk_far (p := ⟨p6, 0, none⟩) BP.out (by simp only; omega) (.slice A6 qs.length c6)
          have hbq := blk_far (p := ⟨p6, 0, none⟩) BQ.out (by simp only; omega) (.slice A6 qs.length c6)
          have hw := HW.out.setCell (p := ⟨p6, 0, none⟩) (by simp only; omega) (.slice A6 qs.length c6)
          rw [hY] at hf1 hf3 hg hgo hbp hbq hw ⊢
          have F1 := Aside0.mk hf1
          have F3 := Aside0.mk hf3
          have G5 := Aside0.mk hg
          have G4 := Aside0.mk hgo
          have BP := Aside0.mk hbp
          have BQ := Aside0.mk hbq
          have HW := Aside0.mk hw
          clear hf1 hf3 hg hgo hbp hbq hw hY k5 f5
          refine hK.out _ _ (fun h => absurd rfl h) ?_
          clear hK hSd k6 f6
          refine wpAnyK_done (by kernel_rfl) ?_ _
          go_wp2_with fail
          go_meet
          obtain ⟨_, _, he5, hc5, hC5⟩ := Kd.R_reads F1.out
          cases he5
          obtain ⟨_, _, he6, hc6, hC6⟩ := Kd.R_reads F3.out
          cases he6
          exact ⟨p5, p6, _, _, _, _, rfl, rfl, ⟨by simpa using G4.out⟩, ⟨by simpa using G5.out⟩, ⟨hc5, hC5⟩, ⟨hc6, hC6⟩, HW⟩
      · skip
        go_simp
        obtain ⟨X2, hY⟩ : ∃ X2, X1.alloc (.cells #[.slice none 0 0] 24) = X2 := ⟨_, rfl⟩
        obtain ⟨p5, hp5⟩ : ∃ p5, X1.heap.size = p5 := ⟨_, rfl⟩
        have hb : Below X1.heap.size X1 X2 := by rw [← hY]; exact below_alloc1 _ _
        have G4 := Aside0.mk (show PBox p5 none 0 0 X2 by rw [← hY, ← hp5]; exact alloc_at _ _)
        have hp5s : p5 < X2.heap.size := by rw [← hY, ← hp5]; simp
        have hp5w : w3.heap.size ≤ p5 := by rw [← hp5]; exact HW.out.size
        rw [hY, hp5]
        have hne : p5 ≠ p6 := by omega
        have BP := Aside0.mk (blk_below BP.out hb)
        have BQ := Aside0.mk (blk_below BQ.out hb)
        have HW := Aside0.mk (HW.out.trans (hb.mono HW.out.size))
        have hsz := hb.size
        have G5 := Aside0.mk (blk_below G5.out hb)
        clear hb hY hp5
        have hSd : (fun W => W.cell? ⟨w.heap.size, 0, none⟩ = some (.slice A ps.length c) ∧ W.cell? ⟨w.heap.size + 1, 0, none⟩ = some (.slice B qs.length d)) X2 := ⟨(blk_cell BP.out 0).trans rfl, (blk_cell BQ.out 0).trans rfl⟩
        refine hK.out _ _ (fun _ => hSd) ?_
        clear hK
        refine wpAnyK_one (i := 1) (by kernel_rfl) rfl (fun K hK => ?_)
        go_simp
        go_at_call 10
        (with_reducible refine (HO1.out X2 HW.out).mono ?_)
        rintro e X3 ⟨v, rfl, ho, hb⟩
        obtain ⟨A5, c5, rfl⟩ := Kd.R_slice ho
        have F1 := Aside0.mk (Kd.R_lower ho HW.out.size)
        have BP := Aside0.mk (blk_below BP.out hb)
        have BQ := Aside0.mk (blk_below BQ.out hb)
        have HW := Aside0.mk (HW.out.trans (hb.mono HW.out.size))
        have hsz := hb.size
        have G4 := Aside0.mk (blk_below G4.out hb)
        have G5 := Aside0.mk (blk_below G5.out hb)
        clear ho hb
        have hSd : (fun W => W.cell? ⟨w.heap.size, 0, none⟩ = some (.slice A ps.length c) ∧ W.cell? ⟨w.heap.size + 1, 0, none⟩ = some (.slice B qs.length d)) X3 := ⟨(blk_cell BP.out 0).trans rfl, (blk_cell BQ.out 0).trans rfl⟩
        refine hK.out _ _ (fun _ => hSd) ?_
        clear hK
        refine wpAnyK_one (i := 3) (by kernel_rfl) rfl (fun K hK => ?_)
        go_simp
        go_at_call 10
        (with_reducible refine (HO3.out X3 HW.out).mono ?_)
        rintro e X4 ⟨v, rfl, ho, hb⟩
        obtain ⟨A6, c6, rfl⟩ := Kd.R_slice ho
        have F3 := Aside0.mk (Kd.R_lower ho HW.out.size)
        have BP := Aside0.mk (blk_below BP.out hb)
        have BQ := Aside0.mk (blk_below BQ.out hb)
        have HW := Aside0.mk (HW.out.trans (hb.mono HW.out.size))
        have hsz := hb.size
        have F1 := Aside0.mk (Kd.R_below F1.out hb)
        have G4 := Aside0.mk (blk_below G4.out hb)
        have G5 := Aside0.mk (blk_below G5.out hb)
        clear ho hb
        have hSd : (fun W => W.cell? ⟨w.heap.size, 0, none⟩ = some (.slice A ps.length c) ∧ W.cell? ⟨w.heap.size + 1, 0, none⟩ = some (.slice B qs.length d)) X4 := ⟨(blk_cell BP.out 0).trans rfl, (blk_cell BQ.out 0).trans rfl⟩
        refine hK.out _ _ (fun _ => hSd) ?_
        clear hK
        have k5 := (blk_cell G4.out 0).trans rfl
        have f5 := blk_frozen G4.out 0
        have k6 := (blk_cell G5.out 0).trans rfl
        have f6 := blk_frozen G5.out 0
        refine wpAnyK_one (i := 6) (by kernel_rfl) rfl (fun K hK => ?_)
        go_simp
        obtain ⟨Z6, hY⟩ : ∃ Z6, X4.setCell ⟨p5, 0, none⟩ (.slice A5 ps.length c5) = Z6 := ⟨_, rfl⟩
        have hf1 := Kd.R_set F1.out (show X4.heap[p5]? = _ from G4.out) def_ne_prog 0 (.slice A5 ps.length c5)
        have hf3 := Kd.R_set F3.out (show X4.heap[p5]? = _ from G4.out) def_ne_prog 0 (.slice A5 ps.length c5)
        have hg := blk_put G4.out 0 (.slice A5 ps.length c5) rfl
        have hgo := blk_far (p := ⟨p5, 0, none⟩) G5.out (by simp only; omega) (.slice A5 ps.length c5)
        have hbp := blk_far (p := ⟨p5, 0, none⟩) BP.out (by simp only; omega) (.slice A5 ps.length c5)
        have hbq := blk_far (p := ⟨p5, 0, none⟩) BQ.out (by simp only; omega) (.slice A5 ps.length c5)
        have hw := HW.out.setCell (p := ⟨p5, 0, none⟩) (by simp only; omega) (.slice A5 ps.length c5)
        rw [hY] at hf1 hf3 hg hgo hbp hbq hw ⊢
        have F1 := Aside0.mk hf1
        have F3 := Aside0.mk hf3
        have G4 := Aside0.mk hg
        have G5 := Aside0.mk hgo
        have BP := Aside0.mk hbp
        have BQ := Aside0.mk hbq
        have HW := Aside0.mk hw
        clear hf1 hf3 hg hgo hbp hbq hw hY k5 f5 k6 f6
        have k6 := (blk_cell G5.out 0).trans rfl
        have f6 := blk_frozen G5.out 0
        have k5 := k6
        have f5 := f6
        have hSd : (fun W => W.cell? ⟨w.heap.size, 0, none⟩ = some (.slice A ps.length c) ∧ W.cell? ⟨w.heap.size + 1, 0, none⟩ = some (.slice B qs.length d)) Z6 := ⟨(blk_cell BP.out 0).trans rfl, (blk_cell BQ.out 0).trans rfl⟩
        refine hK.out _ _ (fun _ => hSd) ?_
        clear hK
        refine wpAnyK_one (i := 7) (by kernel_rfl) rfl (fun K hK => ?_)
        go_simp
        obtain ⟨Z7, hY⟩ : ∃ Z7, Z6.setCell ⟨p6, 0, none⟩ (.slice A6 qs.length c6) = Z7 := ⟨_, rfl⟩
        have hf1 := Kd.R_set F1.out (show Z6.heap[p6]? = _ from G5.out) def_ne_prog 0 (.slice A6 qs.length c6)
        have hf3 := Kd.R_set F3.out (show Z6.heap[p6]? = _ from G5.out) def_ne_prog 0 (.slice A6 qs.length c6)
        have hg := blk_put G5.out 0 (.slice A6 qs.length c6) rfl
        have hgo := blk_far (p := ⟨p6, 0, none⟩) G4.out (by simp only; omega) (.slice A6 qs.length c6)
        have hbp := blk_far (p := ⟨p6, 0, none⟩) BP.out (by simp only; omega) (.slice A6 qs.length c6)
        have hbq := blk_far (p := ⟨p6, 0, none⟩) BQ.out (by simp only; omega) (.slice A6 qs.length c6)
        have hw := HW.out.setCell (p := ⟨p6, 0, none⟩) (by simp only; omega) (.slice A6 qs.length c6)
        rw [hY] at hf1 hf3 hg hgo hbp hbq hw ⊢
        have F1 := Aside0.mk hf1
        have F3 := Aside0.mk hf3
        have G5 := Aside0.mk hg
        have G4 := Aside0.mk hgo
        have BP := Aside0.mk hbp
        have BQ := Aside0.mk hbq
        have HW := Aside0.mk hw
        clear hf1 hf3 hg hgo hbp hbq hw hY k5 f5
        refine hK.out _ _ (fun h => absurd rfl h) ?_
        clear hK hSd k6 f6
        refine wpAnyK_done (by kernel_rfl) ?_ _
        go_wp2_with fail
        go_meet
        obtain ⟨_, _, he5, hc5, hC5⟩ := Kd.R_reads F1.out
        cases he5
        obtain ⟨_, _, he6, hc6, hC6⟩ := Kd.R_reads F3.out
        cases he6
        exact ⟨p5, p6, _, _, _, _, rfl, rfl, ⟨by simpa using G4.out⟩, ⟨by simpa using G5.out⟩, ⟨hc5, hC5⟩, ⟨hc6, hC6⟩, HW⟩
  case rest =>
    obtain ⟨p5, p6, A5, c5, A6, c6, rfl, rfl, G5, G6, O1, O2, HW⟩ := hcut
    have Q := Aside0.mk (Q.out.trans (HW.out.mono Q.out.size))
    have BP := Aside0.mk (blk_below BP.out HW.out)
    have BQ := Aside0.mk (blk_below BQ.out HW.out)
    clear HW
    obtain ⟨ce, hce⟩ : ∃ ce, checkP ps = ce := ⟨_, rfl⟩
    obtain ⟨sim, hsim⟩ : ∃ sim, simpleP ps = sim := ⟨_, rfl⟩
    obtain ⟨hs, hhs⟩ : ∃ hs, headsE ps = hs := ⟨_, rfl⟩
    obtain ⟨ns, hns⟩ : ∃ ns, hs.map (·.f0) = ns := ⟨_, rfl⟩
    obtain ⟨ms, hms⟩ : ∃ ms, hs.map (·.f1) = ms := ⟨_, rfl⟩
    have HNm := Lib.hid (And.intro hce (And.intro hsim hhs))
    have HNs := Lib.hid (And.intro hns hms)
    have hcap : (headsP ps).length ≤ 16 * (10 * (60 + 1)) := heads_cap hlp (fun d hd => bodies_ok ((bigP_ok hb1).2 d hd))
    have hsz1 : ∀ d ∈ ps, szE d.f3 < 1000000 ∧ ∀ c ∈ d.f2, szE c.f2 < 1000000 := fun d hd => by
      obtain ⟨_, _, _, h3, _, h5⟩ := bigD_ok ((bigP_ok hb1).2 d hd)
      exact ⟨by omega, fun c hc => by have := (bigC_ok (h5 c hc)).2.2.2; omega⟩
    have hsz2 : ∀ d ∈ qs, szE d.f3 < 1000000 ∧ ∀ c ∈ d.f2, szE c.f2 < 1000000 := fun d hd => by
      obtain ⟨_, _, _, h3, _, h5⟩ := bigD_ok ((bigP_ok hb2).2 d hd)
      exact ⟨by omega, fun c hc => by have := (bigC_ok (h5 c hc)).2.2.2; omega⟩
    have hbod : ∀ d ∈ ps, ∀ b ∈ bodiesD d, szE b ≤ 60 := fun d hd b hb => (bodies_ok ((bigP_ok hb1).2 d hd)).2 b hb
    have hcas : ∀ d ∈ ps, d.f2.length ≤ 100000 := fun d hd => by have := (bigD_ok ((bigP_ok hb1).2 d hd)).2.2.2.2.1; omega
    clear hce hsim hhs hns hms
    have kP := (blk_cell BP.out 0).trans rfl
    have HC := Lib.hid (c_rCheck ps A c wc (Kd.C_below HR.out Q.out) hc hok)
    rw [HNm.out.1] at HC
    go_wp2_with fail
    refine HC.out.mono ?_
    rintro en w5 ⟨rfl, hb⟩
    have hs5 := hb.size
    have Q := Aside0.mk (Q.out.trans (hb.mono Q.out.size))
    have BP := Aside0.mk (blk_below BP.out hb)
    have BQ := Aside0.mk (blk_below BQ.out hb)
    have G5 := Aside0.mk (blk_below G5.out hb)
    have G6 := Aside0.mk (blk_below G6.out hb)
    have O1 := Aside0.mk (And.intro O1.out.1 (Kd.C_below O1.out.2 hb))
    have O2 := Aside0.mk (And.intro O2.out.1 (Kd.C_below O2.out.2 hb))
    clear hb kP HC
    go_upto_if 30 with fail
    go_cut [8, 9, 10] (fun s8 s9 s10 wx => ∃ (A9 : Option Addr) (c9 : Nat) (A10 : Option Addr) (c10 : Nat), s8 = .bool sim ∧ s9 = .slice A9 ns.length c9 ∧ s10 = .slice A10 ms.length c10 ∧ Aside0 (ns.length ≤ c9 ∧ Kd.C Kd.string wx A9 ns.length ns) ∧ Aside0 (ms.length ≤ c10 ∧ Kd.C (Kd.int .i64) wx A10 ms.length ms) ∧ Aside0 (Below w5.heap.size w5 wx))
    case first =>
      cases hf0 : (ce == 0) with
      | false =>
        have hne : ¬ checkP ps = 0 := by rw [HNm.out.1]; simpa using hf0
        have HNo := Lib.hid (show sim = false ∧ ns = [] ∧ ms = [] by
          obtain ⟨_, h2, h3⟩ := HNm.out
          obtain ⟨h4, h5⟩ := HNs.out
          refine ⟨by rw [← h2, simpleP, if_neg hne], ?_, ?_⟩
          · rw [← h4, ← h3, headsE, if_neg hne]; rfl
          · rw [← h5, ← h3, headsE, if_neg hne]; rfl)
        clear hne
        go_wp2_with fail
        go_meet
        obtain ⟨rfl, rfl, rfl⟩ := HNo.out
        exact ⟨none, 0, none, 0, rfl, rfl, rfl, ⟨Nat.le_refl _, Kd.C_nil _ _⟩, ⟨Nat.le_refl _, Kd.C_nil _ _⟩, ⟨Below.refl _ _⟩⟩
      | true =>
        have hne : checkP ps = 0 := by rw [HNm.out.1]; simpa using hf0
        have HYe := Lib.hid (show ps.all simpleD = sim ∧ headsP ps = hs by
          obtain ⟨_, h2, h3⟩ := HNm.out
          exact ⟨by rw [← h2, simpleP, if_pos hne], by rw [← h3, headsE, if_pos hne]⟩)
        have kP := (blk_cell BP.out 0).trans rfl
        have HC := Lib.hid (c_rSimple ps A c w5 (Kd.C_below HR.out Q.out) hc hok)
        rw [HYe.out.1] at HC
        clear hne
        go_wp2_with fail
        refine HC.out.mono ?_
        rintro en w6 ⟨rfl, hb⟩
        have HB6 := Aside0.mk hb
        have Q6 := Aside0.mk (Q.out.trans (hb.mono Q.out.size))
        have BP6 := Aside0.mk (blk_below BP.out hb)
        clear hb kP HC
        have kP := (blk_cell BP6.out 0).trans rfl
        have HC := Lib.hid (c_rHeads ps A c w6 (Kd.C_below HR.out Q6.out) hc (by omega) hcas (fun d hd b hb => by have := hbod d hd b hb; omega) (by omega))
        rw [HYe.out.2] at HC
        go_wp2_with fail
        refine HC.out.mono ?_
        rintro en w7 ⟨v1, v2, rfl, hS, hb⟩
        obtain ⟨A9, c9, rfl, hc9, hC9⟩ := Kd.R_reads hS.1
        obtain ⟨A10, c10, rfl, hc10, hC10⟩ := Kd.R_reads hS.2
        rw [HNs.out.1] at hc9 hC9 ⊢
        rw [HNs.out.2] at hc10 hC10 ⊢
        have X9 := Aside0.mk (And.intro hc9 hC9)
        have X10 := Aside0.mk (And.intro hc10 hC10)
        have HB7 := Aside0.mk (HB6.out.trans (hb.mono HB6.out.size))
        clear hb kP HC hS hc9 hC9 hc10 hC10
        go_wp2_with fail
        go_meet
        exact ⟨A9, c9, A10, c10, rfl, rfl, rfl, X9, X10, HB7⟩
    case rest =>
      rename World => wd
      obtain ⟨A9, c9, A10, c10, rfl, rfl, rfl, X9, X10, HW⟩ := hcut
      have Q := Aside0.mk (Q.out.trans (HW.out.mono Q.out.size))
      have BP := Aside0.mk (blk_below BP.out HW.out)
      have BQ := Aside0.mk (blk_below BQ.out HW.out)
      have G5 := Aside0.mk (blk_below G5.out HW.out)
      have G6 := Aside0.mk (blk_below G6.out HW.out)
      have O1 := Aside0.mk (And.intro O1.out.1 (Kd.C_below O1.out.2 HW.out))
      have O2 := Aside0.mk (And.intro O2.out.1 (Kd.C_below O2.out.2 HW.out))
      clear HW
      have k5 := (blk_cell G5.out 0).trans rfl
      have HC := Lib.hid (c_Simple ps A5 c5 wd O1.out.2 O1.out.1 hok)
      rw [HNm.out.1, HNm.out.2.1] at HC
      go_wp2_with fail
      refine HC.out.mono ?_
      rintro en w8 ⟨rfl, hb⟩
      have Q := Aside0.mk (Q.out.trans (hb.mono Q.out.size))
      have BP := Aside0.mk (blk_below BP.out hb)
      have BQ := Aside0.mk (blk_below BQ.out hb)
      have G5 := Aside0.mk (blk_below G5.out hb)
      have G6 := Aside0.mk (blk_below G6.out hb)
      have O1 := Aside0.mk (And.intro O1.out.1 (Kd.C_below O1.out.2 hb))
      have O2 := Aside0.mk (And.intro O2.out.1 (Kd.C_below O2.out.2 hb))
      have X9 := Aside0.mk (And.intro X9.out.1 (Kd.C_below X9.out.2 hb))
      have X10 := Aside0.mk (And.intro X10.out.1 (Kd.C_below X10.out.2 hb))
      clear hb k5 HC
      have k5 := (blk_cell G5.out 0).trans rfl
      have HC := Lib.hid (c_Heads ps A5 c5 w8 O1.out.2 O1.out.1 hok (by omega) (fun d hd b hb => by have := hbod d hd b hb; omega))
      rw [HNm.out.1, HNm.out.2.2] at HC
      go_wp2_with fail
      refine HC.out.mono ?_
      rintro en w9 ⟨v1, v2, rfl, hS, hb⟩
      obtain ⟨A13, c13, rfl, hc13, hC13⟩ := Kd.R_reads hS.1
      obtain ⟨A14, c14, rfl, hc14, hC14⟩ := Kd.R_reads hS.2
      rw [HNs.out.1] at hc13 hC13 ⊢
      rw [HNs.out.2] at hc14 hC14 ⊢
      have Y9 := Aside0.mk (And.intro hc13 hC13)
      have Y10 := Aside0.mk (And.intro hc14 hC14)
      have Q := Aside0.mk (Q.out.trans (hb.mono Q.out.size))
      have BP := Aside0.mk (blk_below BP.out hb)
      have BQ := Aside0.mk (blk_below BQ.out hb)
      have G5 := Aside0.mk (blk_below G5.out hb)
      have G6 := Aside0.mk (blk_below G6.out hb)
      have O1 := Aside0.mk (And.intro O1.out.1 (Kd.C_below O1.out.2 hb))
      have O2 := Aside0.mk (And.intro O2.out.1 (Kd.C_below O2.out.2 hb))
      have X9 := Aside0.mk (And.intro X9.out.1 (Kd.C_below X9.out.2 hb))
      have X10 := Aside0.mk (And.intro X10.out.1 (Kd.C_below X10.out.2 hb))
      clear hb k5 HC hS hc13 hC13 hc14 hC14
      have hce1 : (ce == ce) = true := by simp
      have hsi1 : (sim == sim) = true := by simp
      obtain ⟨eq, heq⟩ : ∃ eq, eqL sameD ps qs = eq := ⟨_, rfl⟩
      have heq1 : (eq == eq) = true := by simp
      have hS0 : LcS w9 w.heap.size A ps.length c (w.heap.size + 1) B qs.length d p5 A5 ps.length c5 p6 A6 qs.length c6 w9 := ⟨Below.refl _ _, (blk_cell BP.out 0).trans rfl, (blk_cell BQ.out 0).trans rfl, (blk_cell G5.out 0).trans rfl, (blk_cell G6.out 0).trans rfl⟩
      have toE : ∀ {W : World}, LcS w9 w.heap.size A ps.length c (w.heap.size + 1) B qs.length d p5 A5 ps.length c5 p6 A6 qs.length c6 W → Below w.heap.size w W := fun h => Q.out.trans (h.1.mono Q.out.size)
      have HCk := Lib.hid (fun W (h : LcS w9 w.heap.size A ps.length c (w.heap.size + 1) B qs.length d p5 A5 ps.length c5 p6 A6 qs.length c6 W) => keepL LcS.step (v' := .int .i64 ce) h (by rw [HNm.out.1]) (c_Check ps A5 c5 W (Kd.C_below O1.out.2 h.1) O1.out.1 hok))
      have HES := Lib.hid (fun W (h : LcS w9 w.heap.size A ps.length c (w.heap.size + 1) B qs.length d p5 A5 ps.length c5 p6 A6 qs.length c6 W) => keepL LcS.step (v' := .bool true) h (by simp) (c_EqS A13 A9 c13 c9 ns ns W (Kd.C_below Y9.out.2 h.1) Y9.out.1 (Kd.C_below X9.out.2 h.1) X9.out.1))
      have HEI := Lib.hid (fun W (h : LcS w9 w.heap.size A ps.length c (w.heap.size + 1) B qs.length d p5 A5 ps.length c5 p6 A6 qs.length c6 W) => keepL LcS.step (v' := .bool true) h (by simp) (c_EqI A14 A10 c14 c10 ms ms W (Kd.C_below Y10.out.2 h.1) Y10.out.1 (Kd.C_below X10.out.2 h.1) X10.out.1))
      have HS1 := Lib.hid (fun W (h : LcS w9 w.heap.size A ps.length c (w.heap.size + 1) B qs.length d p5 A5 ps.length c5 p6 A6 qs.length c6 W) => keepL LcS.step (v' := .bool eq) h (by rw [heq]) (c_Same ps qs A5 A6 c5 c6 W (Kd.C_below O1.out.2 h.1) O1.out.1 (Kd.C_below O2.out.2 h.1) O2.out.1 hsz1 hsz2))
      have HS2 := Lib.hid (fun W (h : LcS w9 w.heap.size A ps.length c (w.heap.size + 1) B qs.length d p5 A5 ps.length c5 p6 A6 qs.length c6 W) => keepL LcS.step (v' := .bool true) h (by rw [sameP_refl]) (c_Same ps ps A5 A5 c5 c5 W (Kd.C_below O1.out.2 h.1) O1.out.1 (Kd.C_below O1.out.2 h.1) O1.out.1 hsz1 hsz1))
      have HT1 := Lib.hid (fun W (h : LcS w9 w.heap.size A ps.length c (w.heap.size + 1) B qs.length d p5 A5 ps.length c5 p6 A6 qs.length c6 W) => keepL LcS.step (v' := .bool eq) h (by rw [heq]) (c_rSameP ps qs A B c d W (Kd.C_below HR.out (toE h)) hc (Kd.C_below HR2.out (toE h)) hd))
      have HT2 := Lib.hid (fun W (h : LcS w9 w.heap.size A ps.length c (w.heap.size + 1) B qs.length d p5 A5 ps.length c5 p6 A6 qs.length c6 W) => keepL LcS.step (v' := .bool true) h (by rw [sameP_refl]) (c_rSameP ps ps A5 A c5 c W (Kd.C_below O1.out.2 h.1) O1.out.1 (Kd.C_below HR.out (toE h)) hc))
      have HAw := Lib.hid (fun W (h : LcS w9 w.heap.size A ps.length c (w.heap.size + 1) B qs.length d p5 A5 ps.length c5 p6 A6 qs.length c6 W) => keepL LcS.step h rfl (c_awake W))
      clear toE heq hsz1 hsz2 hbod hcas hcap
      go_wp2_with fail
      go_region_held3 (fun W => LcS w9 w.heap.size A ps.length c (w.heap.size + 1) B qs.length d p5 A5 ps.length c5 p6 A6 qs.length c6 W) (first | assumption | exact hS0.step (below_drew (Below.refl _ _))) (first | (go_at_call 45; refine (HCk.out _ (by assumption)).mono ?_; rintro e w' ⟨rfl, hS⟩) | (go_at_call 20; refine (HES.out _ (by assumption)).mono ?_; rintro e w' ⟨rfl, hS⟩) | (go_at_call 46; refine (HEI.out _ (by assumption)).mono ?_; rintro e w' ⟨rfl, hS⟩) | (go_at_call 47; (with_reducible refine (HS1.out _ (by assumption)).mono ?_); rintro e w' ⟨rfl, hS⟩) | (go_at_call 47; (with_reducible refine (HS2.out _ (by assumption)).mono ?_); rintro e w' ⟨rfl, hS⟩) | (go_at_call 21; (with_reducible refine (HT1.out _ (by assumption)).mono ?_); rintro e w' ⟨rfl, hS⟩) | (go_at_call 21; (with_reducible refine (HT2.out _ (by assumption)).mono ?_); rintro e w' ⟨rfl, hS⟩) | (go_at_call 9; refine (HAw.out _ (by assumption)).mono ?_; rintro e w' ⟨rfl, hS⟩))
      all_goals
        have hlast : Below w9.heap.size w9 _ := (by assumption : LcS w9 w.heap.size A ps.length c (w.heap.size + 1) B qs.length d p5 A5 ps.length c5 p6 A6 qs.length c6 _).1
        go_wp2
        go_ret
        exact ⟨rfl, Q.out.trans (hlast.mono Q.out.size)⟩
end Go.Proofs.YtacefdkfbpgedaaGreat.Mine
namespace Go.Proofs.YtacefdkfbpgedaaGreat.Mine
open Go.Proofs.YtacefdkfbpgedaaGreat.PProgSmall
open Go.RowKit Go.Shelf Go.ChangeShapes Go.WideShapes Go.Proofs.YtacefdkfbpgedaaGreatW.PrintWords Go.Proofs.YtacefdkfbpgedaaGreatW.PrintLast Go.Proofs.YtacefdkfbpgedaaGreatW.PrintMore
set_option linter.unusedVariables false
set_option linter.unusedSimpArgs false
section
variable {H : Type} {enc : TypeId × Value → H} {w : World} {base : Nat} {spare : Nat → Bool} {held : Bool}
theorem cells_expr : Tryz.prog.cellsOf 57 = 3 := by kernel_rfl
theorem cells_int : Tryz.prog.cellsOf 3 = 1 := by kernel_rfl
theorem cells_str : Tryz.prog.cellsOf 9 = 1 := by kernel_rfl
theorem cells_sExpr : Tryz.prog.cellsOf 55 = 1 := by kernel_rfl
theorem nmL_all : ∀ {l : List Ex}, (∀ x ∈ l, nmE x) → nmL l
  | [], _ => by simp [nmL]
  | x :: xs, h => by rw [nmL]; exact ⟨h x List.mem_cons_self, nmL_all (fun y hy => h y (List.mem_cons_of_mem _ hy))⟩
theorem weights_mem_all {P : Program} {t : TypeId} {n : Nat} : ∀ {ds : List (DataW H)} {d : DataW H}, d ∈ ds → n ∈ d.weights P t → n ∈ DataW.weightsAll P t ds
  | [], d, h, _ => by simp at h
  | x :: xs, d, h, hn => by
    rw [DataW.weightsAll, List.mem_append]
    rcases List.mem_cons.1 h with rfl | h
    · exact .inl hn
    · exact .inr (weights_mem_all h hn)
theorem read_rows {α : Type} (z : α) {d : Kd α} {Q : α → Prop} {t e : TypeId} {fuel : Nat} {cs : List Value} {x : DataW H × List MemPlace} (hu : Tryz.prog.underlying t = some (.slice e)) (hsz : Tryz.prog.cellsOf e = d.sz)
    (h : DataW.trod enc Tryz.prog w base spare held fuel t cs = some x)
    (hw : ∀ k ∈ x.1.weights Tryz.prog t, k ≤ nmLim)
    (hel : ∀ n cs y, n < fuel → DataW.trod enc Tryz.prog w base spare held n e cs = some y → (∀ k ∈ y.1.weights Tryz.prog e, k ≤ nmLim) → ∃ x : α, d.K w x cs ∧ Q x) :
    ∃ (l : List α) (A : Option Addr) (c : Nat), cs = [.slice A l.length c] ∧ l.length ≤ c ∧ Kd.C d w A l.length l ∧ ∀ x ∈ l, Q x := by
  rcases DataW.trod_slice hu h with ⟨h0, _⟩ | ⟨a, len, cap, elems, rest, n, hf, hcs, hx, _, hl, hm, hlen, hcell, _⟩
  · exact ⟨[], none, 0, h0, Nat.le_refl _, Kd.C_nil d w, fun x hx => by simp at hx⟩
  · have each : ∀ i, i < len → ∃ x : α, ∃ c : List Value, c.length = d.sz ∧ d.K w x c ∧ (∀ j u, c[j]? = some u → w.cell? (a.add (i * d.sz + j)) = some u) ∧ Q x := by
      intro i hi
      have h1 := hcell i hi
      rw [List.getElem?_eq_getElem (by omega)] at h1
      obtain ⟨c, h2, h3⟩ := Option.bind_eq_some_iff.1 h1
      obtain ⟨_, h4, h5⟩ := World.cells?_some h2
      obtain ⟨x, h6, h7⟩ := hel n c _ (by omega) h3 (fun k hk => hw k (by
        rw [hx]
        simp only [DataW.weights, hu]
        exact List.mem_cons_of_mem _ (List.mem_append.2 (.inl (weights_mem_all (List.mem_map.2 ⟨_, List.getElem_mem (by omega), rfl⟩) hk)))))
      refine ⟨x, c, by rw [h4, hsz], h6, fun j u hu => ?_, h7⟩
      have hj := (List.getElem?_eq_some_iff.1 hu).1
      have h8 := h5 j (by omega)
      rw [hu, hsz] at h8
      rw [← h8, Go.Deep.add_add]
    haveI : Inhabited α := ⟨z⟩
    obtain ⟨f, hf'⟩ := Go.Deep.choose_lt each
    refine ⟨(List.range len).map f, some a, cap, by rw [List.length_map, List.length_range]; exact hcs, by simpa using hl, ⟨rfl, by rw [List.length_map, List.length_range]; have : maxLen ≤ 9223372036854775807 := (by decide); omega, fun _ => ⟨a, rfl, fun j p hj => ?_⟩⟩, fun x hx => ?_⟩
    · obtain ⟨hjl, rfl⟩ := List.getElem?_eq_some_iff.1 hj
      have hjl' : j < len := by simpa using hjl
      obtain ⟨c, g1, g2, g3, _⟩ := hf' j hjl'
      refine ⟨c, g1, ?_, g3⟩
      simpa using g2
    · obtain ⟨i, hi, rfl⟩ := List.mem_map.1 hx
      obtain ⟨c, _, _, _, g⟩ := hf' i (List.mem_range.1 hi)
      exact g
set_option maxRecDepth 100000 in
theorem read_expr : ∀ (fuel : Nat) (cs : List Value) (x : DataW H × List MemPlace), DataW.trod enc Tryz.prog w base spare held fuel 57 cs = some x → (∀ k ∈ x.1.weights Tryz.prog 57, k ≤ nmLim) → ∃ e : Ex, k57.K w e cs ∧ nmE e := by
  intro fuel
  induction fuel using Nat.strongRecOn with
  | _ fuel ih =>
    intro cs x h hw
    obtain ⟨xs, n, hf, hx, hl, hlen, hfs⟩ := DataW.trod_struct Tryz.underlying57 h
    rw [cells_expr] at hl
    match cs, hl with
    | [v0, v1, v2], _ =>
      match xs, hlen with
      | [y0, y1, y2], _ =>
        have hpart : ∀ (j t : Nat) (y : DataW H × List MemPlace), [3, 9, 55][j]? = some t → [y0.1, y1.1, y2.1][j]? = some y.1 → ∀ k ∈ y.1.weights Tryz.prog t, k ≤ nmLim := fun j t y h1 h2 k hk => hw k (by
          rw [hx]
          simp only [DataW.weights, Tryz.underlying57]
          exact DataW.weights_mem_each (ts := [3, 9, 55]) h1 h2 k hk)
        have f0 : DataW.trod enc Tryz.prog w base spare held n 3 (([v0, v1, v2].drop 0).take (Tryz.prog.cellsOf 3)) = some y0 := hfs 0 _ rfl
        have f1 : DataW.trod enc Tryz.prog w base spare held n 9 (([v0, v1, v2].drop 1).take (Tryz.prog.cellsOf 9)) = some y1 := hfs 1 _ rfl
        have f2 : DataW.trod enc Tryz.prog w base spare held n 55 (([v0, v1, v2].drop 2).take (Tryz.prog.cellsOf 55)) = some y2 := hfs 2 _ rfl
        rw [cells_int] at f0
        rw [cells_str] at f1
        rw [cells_sExpr] at f2
        obtain ⟨k, hk, _⟩ := DataW.trod_int Tryz.underlying3 (show DataW.trod enc Tryz.prog w base spare held n 3 [v0] = some y0 from f0)
        obtain ⟨s, hs, hsx, _⟩ := DataW.trod_string Tryz.underlying9 (show DataW.trod enc Tryz.prog w base spare held n 9 [v1] = some y1 from f1)
        obtain ⟨l, A, c, hv, hlc, hC, hq⟩ := read_rows z57 (d := k57) (Q := nmE) Tryz.underlying55 cells_expr (show DataW.trod enc Tryz.prog w base spare held n 55 [v2] = some y2 from f2) (hpart 2 _ y2 rfl rfl) (fun m cs' y hm hy hy2 => ih m (by omega) cs' y hy hy2)
        obtain rfl : v0 = _ := by simpa using hk
        obtain rfl : v1 = _ := by simpa using hs
        obtain rfl : v2 = _ := by simpa using hv
        refine ⟨⟨k, s, l⟩, k57_mk w ⟨k, s, l⟩ hlc hC, ?_⟩
        rw [nmE_eq]
        have h1 := hpart 1 _ y1 rfl rfl s.data.toList.length (by rw [hsx]; simp [DataW.weights])
        exact ⟨by simpa using h1, nmL_all hq⟩
theorem cells_Case : Tryz.prog.cellsOf 62 = 5 := by kernel_rfl
theorem cells_sCase : Tryz.prog.cellsOf 54 = 1 := by kernel_rfl
theorem cells_sStr : Tryz.prog.cellsOf 30 = 1 := by kernel_rfl
theorem cells_Def : Tryz.prog.cellsOf 59 = 6 := by kernel_rfl
theorem cells_sDef : Tryz.prog.cellsOf 22 = 1 := by kernel_rfl
theorem cells_Prog : Tryz.prog.cellsOf 24 = 1 := by kernel_rfl
theorem read_strs {fuel : Nat} {cs : List Value} {x : DataW H × List MemPlace} (h : DataW.trod enc Tryz.prog w base spare held fuel 30 cs = some x) (hw : ∀ k ∈ x.1.weights Tryz.prog 30, k ≤ nmLim) :
    ∃ (l : List ByteArray) (A : Option Addr) (c : Nat), cs = [.slice A l.length c] ∧ l.length ≤ c ∧ Kd.C Kd.string w A l.length l := by
  obtain ⟨l, A, c, h1, h2, h3, _⟩ := read_rows ByteArray.empty (d := Kd.string) (Q := fun _ => True) Tryz.underlying30 cells_str h hw (fun n cs y _ hy _ => by
    obtain ⟨s, hs, _, _⟩ := DataW.trod_string Tryz.underlying9 hy
    exact ⟨s, hs, trivial⟩)
  exact ⟨l, A, c, h1, h2, h3⟩
set_option maxRecDepth 100000 in
theorem read_case {fuel : Nat} {cs : List Value} {x : DataW H × List MemPlace} (h : DataW.trod enc Tryz.prog w base spare held fuel 62 cs = some x) (hw : ∀ k ∈ x.1.weights Tryz.prog 62, k ≤ nmLim) :
    ∃ d : Ca, k62.K w d cs ∧ nmE d.f2 := by
  obtain ⟨xs, n, hf, hx, hl, hlen, hfs⟩ := DataW.trod_struct Tryz.underlying62 h
  rw [cells_Case] at hl
  match cs, hl with
  | [v0, v1, v2, v3, v4], _ =>
    match xs, hlen with
    | [y0, y1, y2], _ =>
      have hpart : ∀ (j t : Nat) (y : DataW H × List MemPlace), [9, 30, 57][j]? = some t → [y0.1, y1.1, y2.1][j]? = some y.1 → ∀ k ∈ y.1.weights Tryz.prog t, k ≤ nmLim := fun j t y h1 h2 k hk => hw k (by
        rw [hx]
        simp only [DataW.weights, Tryz.underlying62]
        exact DataW.weights_mem_each (ts := [9, 30, 57]) h1 h2 k hk)
      have f0 : DataW.trod enc Tryz.prog w base spare held n 9 (([v0, v1, v2, v3, v4].drop 0).take (Tryz.prog.cellsOf 9)) = some y0 := hfs 0 _ rfl
      have f1 : DataW.trod enc Tryz.prog w base spare held n 30 (([v0, v1, v2, v3, v4].drop 1).take (Tryz.prog.cellsOf 30)) = some y1 := hfs 1 _ rfl
      have f2 : DataW.trod enc Tryz.prog w base spare held n 57 (([v0, v1, v2, v3, v4].drop 2).take (Tryz.prog.cellsOf 57)) = some y2 := hfs 2 _ rfl
      rw [cells_str] at f0
      rw [cells_sStr] at f1
      rw [cells_expr] at f2
      obtain ⟨s, hs, _, _⟩ := DataW.trod_string Tryz.underlying9 (show DataW.trod enc Tryz.prog w base spare held n 9 [v0] = some y0 from f0)
      obtain ⟨l, A, c, hv, hlc, hC⟩ := read_strs (show DataW.trod enc Tryz.prog w base spare held n 30 [v1] = some y1 from f1) (hpart 1 _ y1 rfl rfl)
      obtain ⟨e, hK, hn⟩ := read_expr n [v2, v3, v4] y2 (show DataW.trod enc Tryz.prog w base spare held n 57 [v2, v3, v4] = some y2 from f2) (hpart 2 _ y2 rfl rfl)
      obtain ⟨A4, c4, he, hl4, hC4⟩ := k57_open hK
      obtain rfl : v0 = _ := by simpa using hs
      obtain rfl : v1 = _ := by simpa using hv
      obtain ⟨rfl, rfl, rfl⟩ : v2 = _ ∧ v3 = _ ∧ v4 = _ := by simpa using he
      exact ⟨⟨s, l, e⟩, k62_mk w ⟨s, l, e⟩ hlc hC hl4 hC4, hn⟩
set_option maxRecDepth 100000 in
theorem read_def {fuel : Nat} {cs : List Value} {x : DataW H × List MemPlace} (h : DataW.trod enc Tryz.prog w base spare held fuel 59 cs = some x) (hw : ∀ k ∈ x.1.weights Tryz.prog 59, k ≤ nmLim) :
    ∃ d : De, k59.K w d cs ∧ nmD d := by
  obtain ⟨xs, n, hf, hx, hl, hlen, hfs⟩ := DataW.trod_struct Tryz.underlying59 h
  rw [cells_Def] at hl
  match cs, hl with
  | [v0, v1, v2, v3, v4, v5], _ =>
    match xs, hlen with
    | [y0, y1, y2, y3], _ =>
      have hpart : ∀ (j t : Nat) (y : DataW H × List MemPlace), [9, 30, 54, 57][j]? = some t → [y0.1, y1.1, y2.1, y3.1][j]? = some y.1 → ∀ k ∈ y.1.weights Tryz.prog t, k ≤ nmLim := fun j t y h1 h2 k hk => hw k (by
        rw [hx]
        simp only [DataW.weights, Tryz.underlying59]
        exact DataW.weights_mem_each (ts := [9, 30, 54, 57]) h1 h2 k hk)
      have f0 : DataW.trod enc Tryz.prog w base spare held n 9 (([v0, v1, v2, v3, v4, v5].drop 0).take (Tryz.prog.cellsOf 9)) = some y0 := hfs 0 _ rfl
      have f1 : DataW.trod enc Tryz.prog w base spare held n 30 (([v0, v1, v2, v3, v4, v5].drop 1).take (Tryz.prog.cellsOf 30)) = some y1 := hfs 1 _ rfl
      have f2 : DataW.trod enc Tryz.prog w base spare held n 54 (([v0, v1, v2, v3, v4, v5].drop 2).take (Tryz.prog.cellsOf 54)) = some y2 := hfs 2 _ rfl
      have f3 : DataW.trod enc Tryz.prog w base spare held n 57 (([v0, v1, v2, v3, v4, v5].drop 3).take (Tryz.prog.cellsOf 57)) = some y3 := hfs 3 _ rfl
      rw [cells_str] at f0
      rw [cells_sStr] at f1
      rw [cells_sCase] at f2
      rw [cells_expr] at f3
      obtain ⟨s, hs, _, _⟩ := DataW.trod_string Tryz.underlying9 (show DataW.trod enc Tryz.prog w base spare held n 9 [v0] = some y0 from f0)
      obtain ⟨l, A, c, hv, hlc, hC⟩ := read_strs (show DataW.trod enc Tryz.prog w base spare held n 30 [v1] = some y1 from f1) (hpart 1 _ y1 rfl rfl)
      obtain ⟨cas, A2, c2, hv2, hlc2, hC2, hq2⟩ := read_rows z62 (d := k62) (Q := fun x => nmE x.f2) Tryz.underlying54 cells_Case (show DataW.trod enc Tryz.prog w base spare held n 54 [v2] = some y2 from f2) (hpart 2 _ y2 rfl rfl) (fun m cs' y hm hy hy2 => read_case hy hy2)
      obtain ⟨e, hK, hn⟩ := read_expr n [v3, v4, v5] y3 (show DataW.trod enc Tryz.prog w base spare held n 57 [v3, v4, v5] = some y3 from f3) (hpart 3 _ y3 rfl rfl)
      obtain ⟨A5, c5, he, hl5, hC5⟩ := k57_open hK
      obtain rfl : v0 = _ := by simpa using hs
      obtain rfl : v1 = _ := by simpa using hv
      obtain rfl : v2 = _ := by simpa using hv2
      obtain ⟨rfl, rfl, rfl⟩ : v3 = _ ∧ v4 = _ ∧ v5 = _ := by simpa using he
      exact ⟨⟨s, l, cas, e⟩, k59_mk w ⟨s, l, cas, e⟩ hlc hC hlc2 hC2 hl5 hC5, hn, hq2⟩
set_option maxRecDepth 100000 in
theorem read_prog {fuel : Nat} {cs : List Value} {x : DataW H × List MemPlace} (h : DataW.trod enc Tryz.prog w base spare held fuel 24 cs = some x) (hw : ∀ k ∈ x.1.weights Tryz.prog 24, k ≤ nmLim) :
    ∃ (l : List De) (A : Option Addr) (c : Nat), cs = [.slice A l.length c] ∧ l.length ≤ c ∧ Kd.C k59 w A l.length l ∧ ∀ d ∈ l, nmD d := by
  obtain ⟨xs, n, hf, hx, hl, hlen, hfs⟩ := DataW.trod_struct Tryz.underlying24 h
  rw [cells_Prog] at hl
  match cs, hl with
  | [v0], _ =>
    match xs, hlen with
    | [y0], _ =>
      have f0 : DataW.trod enc Tryz.prog w base spare held n 22 (([v0].drop 0).take (Tryz.prog.cellsOf 22)) = some y0 := hfs 0 _ rfl
      rw [cells_sDef] at f0
      exact read_rows z59 (d := k59) (Q := nmD) Tryz.underlying22 cells_Def (show DataW.trod enc Tryz.prog w base spare held n 22 [v0] = some y0 from f0) (fun k hk => hw k (by
        rw [hx]
        simp only [DataW.weights, Tryz.underlying24]
        exact DataW.weights_mem_each (ts := [22]) (ds := [y0.1]) (j := 0) rfl rfl k hk)) (fun m cs' y hm hy hy2 => read_def hy hy2)
end
end Go.Proofs.YtacefdkfbpgedaaGreat.Mine
