/- The reference's Add (printed by mkr20.py). -/
import Derived.Test.YtacefdkfbpgedaaGreatCC8
import Derived.Test.YtacefdkfbpgedaaGreatCC11
import Derived.Test.YtacefdkfbpgedaaGreatCC1
import Derived.Test.YtacefdkfbpgedaaGreatCC9
import Derived.Test.YtacefdkfbpgedaaGreatCC10
import Derived.Deep.DeepCutAuto
namespace Go.Proofs.YtacefdkfbpgedaaGreat.Mine
open Go.Proofs.YtacefdkfbpgedaaGreat.PProgSmall
open Go.RowKit Go.Shelf Go.Proofs.YtacefdkfbpgedaaGreatW.PrintWords Go.Proofs.YtacefdkfbpgedaaGreatW.PrintLast Go.Proofs.YtacefdkfbpgedaaGreatW.PrintMore
set_option linter.unusedVariables false
set_option linter.unusedSimpArgs false
set_option maxRecDepth 100000
theorem DefN.new (X : World) (base : Nat) (ok : Nat → Prop) (hb : base ≤ X.heap.size) (hok : ok X.heap.size) : Kd.N k59 59 (X.alloc (.cells #[] 59)) base ok (.slice (some ⟨X.heap.size, 0, none⟩) 0 0) [] := by
 have h : Kd.R k59 59 (X.alloc (.cells #[] 59)) X.heap.size ok (.slice (some ⟨X.heap.size, 0, none⟩) 0 0) [] :=
  ⟨fun k hk => by cases hk; exact hok, [], World.ownsRow_lit (base := X.heap.size) (e := 59) (size := 6) X #[] 0 (Nat.le_refl _) (by simp [maxLen]) (by simp), Reps.none _ _⟩
 exact Kd.R_N (Kd.R_lower h hb)
abbrev ChS (a b : Nat) (A : Option Addr) (n c : Nat) (v0 v1 v2 v3 v4 v5 : Value) (W : World) : Prop := W.cell? ⟨a, 0, none⟩ = some (.slice A n c) ∧ W.cell? ⟨b, 0, none⟩ = some v0 ∧ W.cell? ⟨b, 1, none⟩ = some v1 ∧ W.cell? ⟨b, 2, none⟩ = some v2 ∧ W.cell? ⟨b, 3, none⟩ = some v3 ∧ W.cell? ⟨b, 4, none⟩ = some v4 ∧ W.cell? ⟨b, 5, none⟩ = some v5
theorem ChS.of {a b : Nat} {A : Option Addr} {n c : Nat} {v0 v1 v2 v3 v4 v5 : Value} {W : World} (h : W.heap[a]? = some (.cells #[.slice A n c] 24 (0, 0))) (k : W.heap[b]? = some (.cells #[v0, v1, v2, v3, v4, v5] 59 (0, 0))) : ChS a b A n c v0 v1 v2 v3 v4 v5 W :=
 ⟨(blk_cell h 0).trans rfl, (blk_cell k 0).trans rfl, (blk_cell k 1).trans rfl, (blk_cell k 2).trans rfl, (blk_cell k 3).trans rfl, (blk_cell k 4).trans rfl, (blk_cell k 5).trans rfl⟩
theorem one_def {W : World} {t : Nat} {d : De} {cs : List Value} {ok : Nat → Prop} (h : W.heap[t]? = some (.cells cs.toArray 59 (0, 0))) (hd : Kd.FK k59 W ok d cs) : Kd.F k59 W (fun k => ok k ∨ k = t) (some ⟨t, 0, none⟩) 1 [d] := fun W' hW => by
 have hbl : W'.heap[t]? = some (.cells cs.toArray 59 (0, 0)) := (hW t (.inr rfl) (blk_lt h)).trans h
 have hK : k59.K W' d cs := hd W' (fun k hk hlt => hW k (.inl hk) hlt)
 refine ⟨rfl, by decide, fun _ => ⟨_, rfl, fun j p hj => ?_⟩⟩
 cases j with
 | zero =>
  cases hj
  refine ⟨cs, k59.K_len hK, hK, fun i u hu => ?_⟩
  have e0 : (⟨t, 0, none⟩ : Addr).add (0 * (k59).sz + i) = ⟨t, i, none⟩ := by
   rw [Nat.zero_mul, Nat.zero_add]
   unfold Addr.add; split <;> simp_all
  rw [e0]
  exact (blk_cell hbl i).trans (by simpa using hu)
 | succ j => simp at hj
theorem N_ne_prog {W : World} {base : Nat} {ok : Nat → Prop} {v : Value} {xs : List De} {g : Nat} {cs : Array Value} (h : Kd.N k59 59 W base ok v xs) (hb : W.heap[g]? = some (.cells cs 24 (0, 0))) : some g ≠ v.ownBlock := by
 obtain ⟨_, rows, _, hR, _⟩ := h
 exact Kd.R_ne hR hb (by decide)
theorem okP_of {l : List De} (hl : l.length ≤ 100000) (h : ∀ d ∈ l, bigD d = false) : OkP l := by
 have hn : 40 ≤ nmLim := by decide
 refine ⟨hl, fun d hd => bigD_okD (h d hd), fun d hd => ?_, fun d hd => ?_⟩
 ·have := (bigD_ok (h d hd)).1; omega
 ·have hb := bodies_ok (h d hd)
  have := szL_le hb.2
  have : (bodiesD d).length * 60 ≤ 10 * 60 := Nat.mul_le_mul_right _ hb.1
  omega
def addR (ps : List De) (d : De) : List De × Int := if ps.length = 12 then ([], 2) else if checkP (ps ++ [d]) = 0 then (ps ++ [d], 0) else ([], checkP (ps ++ [d]))
set_option maxHeartbeats 8000000 in
theorem c_rAdd (ps : List De) (d : De) (A : Option Addr) (c : Nat) (cs : List Value) (w : World) (okF : Nat → Prop) (hF : Kd.F k59 w okF A ps.length ps) (hlow : ∀ k, okF k → k < w.heap.size) (hc : ps.length ≤ c) (hd : Kd.FK k59 w okF d cs) (hl : ps.length ≤ 100) (hb : ∀ x ∈ ps ++ [d], bigD x = false) :
  Calls Tryz.prog 50 #[.agg #[.slice A ps.length c], .agg cs.toArray] w fun en w' => ∃ A' c', en = .returned (.tuple #[.agg #[.slice A' (addR ps d).1.length c'], .int .i64 (addR ps d).2]) ∧ (addR ps d).1.length ≤ c' ∧ Kd.F k59 w' (fun k => okF k ∨ w.heap.size ≤ k) A' (addR ps d).1.length (addR ps d).1 ∧ Below w.heap.size w w' := by
 have hokp : OkP (ps ++ [d]) := okP_of (by simp; omega) hb
 obtain ⟨D1, e1, D2, e2, D5, e5, rfl, _⟩ := k59_openF hd
 have hmd := (Kd.F_now hF).2.1
 obtain ⟨qs, hqs⟩ : ∃ qs, ps ++ [d] = qs := ⟨_, rfl⟩
 have HQs := Lib.hid hqs
 have hql : qs.length ≤ 101 := by rw [← hqs]; simp; omega
 rw [hqs] at hokp
 clear hqs
 obtain ⟨W1, hW1⟩ : ∃ W1, ((w.alloc (.cells #[.slice A ps.length c] 24)).alloc (.cells #[.string d.f0, .slice D1 d.f1.length e1, .slice D2 d.f2.length e2, .int .i64 d.f3.f0, .string d.f3.f1, .slice D5 d.f3.f2.length e5] 59)).alloc (.cells #[.slice none 0 0] 24) = W1 := ⟨_, rfl⟩
 have q1 : Below w.heap.size w W1 := by rw [← hW1]; exact (below_alloc2 _ _ _).trans ((below_alloc1 _ _).mono (by simp; omega))
 have bP : PBox w.heap.size A ps.length c W1 := by rw [← hW1]; exact blk_alloc (blk_alloc (alloc_at _ _) _) _
 have bD : W1.heap[w.heap.size + 1]? = some (.cells #[.string d.f0, .slice D1 d.f1.length e1, .slice D2 d.f2.length e2, .int .i64 d.f3.f0, .string d.f3.f1, .slice D5 d.f3.f2.length e5] 59 (0, 0)) := by rw [← hW1]; have := alloc_at (w.alloc (.cells #[.slice A ps.length c] 24)) (.cells #[.string d.f0, .slice D1 d.f1.length e1, .slice D2 d.f2.length e2, .int .i64 d.f3.f0, .string d.f3.f1, .slice D5 d.f3.f2.length e5] 59); rw [World.size_alloc] at this; exact blk_alloc this _
 have bR : PBox (w.heap.size + 1 + 1) none 0 0 W1 := by rw [← hW1]; have := alloc_at ((w.alloc (.cells #[.slice A ps.length c] 24)).alloc (.cells #[.string d.f0, .slice D1 d.f1.length e1, .slice D2 d.f2.length e2, .int .i64 d.f3.f0, .string d.f3.f1, .slice D5 d.f3.f2.length e5] 59)) (.cells #[.slice none 0 0] 24); simpa only [World.size_alloc] using this
 have z1 : W1.heap.size = w.heap.size + 1 + 1 + 1 := by rw [← hW1]; simp
 have HPs := Aside0.mk (Kd.F_below hF q1)
 have HD := Aside0.mk (Kd.FK_below hd q1)
 have HLow := Lib.hid hlow
 have Q := Aside0.mk q1
 have BP := Aside0.mk bP
 have BD := Aside0.mk bD
 have BR := Aside0.mk bR
 have HW1 := Lib.hid hW1
 have hz1a := Nat.le_of_eq z1
 have hz1b := Nat.le_of_eq z1.symm
 have kP := (blk_cell bP 0).trans rfl
 clear hF hd hlow q1 bP bD bR hW1 z1
 by_cases h12 : ps.length = 12
 ·have h12b : ((ps.length : Int) == 12) = true := by rw [beq_iff_eq]; omega
  have HX := Lib.hid (show addR ps d = ([], 2) by rw [addR, if_pos h12])
  clear h12
  have f4 := blk_frozen BR.out 0
  have k4 := (blk_cell BR.out 0).trans rfl
  go_enter Tryz.func50, Tryz.ntmps50
  go_upto_region 1 with fail
  rw [HW1.out]
  go_wp2
  have b4 := blk_put BR.out 0 (.slice none 0 0) rfl
  refine bodyPost_ret (results_ct rfl _ _ _ _ _ _ _ rfl b4 Tryz.underlying24 rfl (by kernel_rfl)) rfl ?_
  rw [HX.out]
  exact ⟨none, 0, rfl, Nat.le_refl _, fun _ _ => Kd.C_nil _ _, Q.out.setCell (by simp only; omega) _⟩
 ·have h12b : ((ps.length : Int) == 12) = false := by rw [beq_eq_false_iff_ne]; omega
  go_enter Tryz.func50, Tryz.ntmps50
  go_upto_region 3 with fail
  rw [HW1.out]
  go_cut [6] (fun s6 wx => ∃ (p8 : Nat) (A6 : Option Addr) (c6 : Nat), s6 = .pointer (some ⟨p8, 0, none⟩) ∧ Aside0 (PBox p8 A6 qs.length c6 wx) ∧ Aside0 (qs.length ≤ c6 ∧ Kd.F k59 wx (fun k => okF k ∨ W1.heap.size ≤ k) A6 qs.length qs) ∧ (W1.heap.size ≤ p8 ∧ p8 < wx.heap.size) ∧ Aside0 (Below W1.heap.size W1 wx))
  case first =>
   obtain ⟨X0, hX⟩ : ∃ X0, W1.drew = X0 := ⟨_, rfl⟩
   have HW := Aside0.mk (show Below W1.heap.size W1 X0 by rw [← hX]; exact below_drew (Below.refl _ _))
   have hbp := blk_below BP.out HW.out
   have hbd := blk_below BD.out HW.out
   have hSd : (fun W => ChS w.heap.size (w.heap.size + 1) A ps.length c (.string d.f0) (.slice D1 d.f1.length e1) (.slice D2 d.f2.length e2) (.int .i64 d.f3.f0) (.string d.f3.f1) (.slice D5 d.f3.f2.length e5) W) X0 := ⟨(blk_cell hbp 0).trans rfl, (blk_cell hbd 0).trans rfl, (blk_cell hbd 1).trans rfl, (blk_cell hbd 2).trans rfl, (blk_cell hbd 3).trans rfl, (blk_cell hbd 4).trans rfl, (blk_cell hbd 5).trans rfl⟩
   refine wp_region_K (S := (fun W => ChS w.heap.size (w.heap.size + 1) A ps.length c (.string d.f0) (.slice D1 d.f1.length e1) (.slice D2 d.f2.length e2) (.int .i64 d.f3.f0) (.string d.f3.f1) (.slice D5 d.f3.f2.length e5) W)) (k := 9) (by kernel_rfl) ?_
   change wpAnyK _ _ _ _ _ _ 10 (Array.replicate 10 false) _ _
   rw [hX]
   have hsz := HW.out.size
   clear hX hbp hbd kP
   refine wpAnyK_take (i := 1) (v := ?_) rfl (by kernel_rfl) (by kernel_rfl) (by kernel_rfl) (by kernel_rfl) (fun _ _ _ h => h) hSd (Or.inl ⟨by rfl, ?_⟩) ?_
   rotate_left 1
   (intro w hSw; (try dsimp only at hSw); go_simp; try (with_reducible rfl))
   (try dsimp only [Act.put]); (try simp only [List.setIfInBounds_toArray, List.set_cons_zero, List.set_cons_succ])
   refine wpAnyK_take (i := 2) (v := ?_) rfl (by kernel_rfl) (by kernel_rfl) (by kernel_rfl) (by kernel_rfl) (fun _ _ _ h => h) hSd (Or.inl ⟨by rfl, ?_⟩) ?_
   rotate_left 1
   (intro w hSw; (try dsimp only at hSw); go_simp; try (with_reducible rfl))
   (try dsimp only [Act.put]); (try simp only [List.setIfInBounds_toArray, List.set_cons_zero, List.set_cons_succ])
   refine wpAnyK_take (i := 4) (v := ?_) rfl (by kernel_rfl) (by kernel_rfl) (by kernel_rfl) (by kernel_rfl) (fun _ _ _ h => h) hSd (Or.inl ⟨by rfl, ?_⟩) ?_
   rotate_left 1
   (intro w hSw; (try dsimp only at hSw); go_simp; try (with_reducible rfl))
   (try dsimp only [Act.put]); (try simp only [List.setIfInBounds_toArray, List.set_cons_zero, List.set_cons_succ])
   refine wpAnyK_three (i := 0) (j := 5) (m := 8) (by kernel_rfl) rfl rfl rfl (fun K hK => ?_) (fun K hK => ?_) (fun K hK => ?_)
   ·skip
    go_simp
    obtain ⟨X1, hY⟩ : ∃ X1, X0.alloc (.cells #[] 59) = X1 := ⟨_, rfl⟩
    obtain ⟨p0, hp0⟩ : ∃ p0, X0.heap.size = p0 := ⟨_, rfl⟩
    have hb : Below X0.heap.size X0 X1 := by rw [← hY]; exact below_alloc1 _ _
    have hp0s : p0 < X1.heap.size := by rw [← hY, ← hp0]; simp
    have hp0w : W1.heap.size ≤ p0 := by rw [← hp0]; exact HW.out.size
    have hp0l : X0.heap.size ≤ p0 := by rw [← hp0]; exact Nat.le_refl _
    have hn0 := DefN.new X0 W1.heap.size (fun k => okF k ∨ (W1.heap.size ≤ k ∧ k ≠ w.heap.size)) HW.out.size (by rw [hp0]; exact .inr ⟨by omega, by omega⟩)
    rw [hY, hp0] at hn0
    rw [hY, hp0]
    have HW := Aside0.mk (HW.out.trans (hb.mono HW.out.size))
    have hsz := hb.size
    have HN := Aside0.mk hn0
    clear hb hY hp0
    clear hn0
    have hSd := ChS.of (blk_below BP.out HW.out) (blk_below BD.out HW.out)
    refine hK.out _ _ (fun _ => hSd) ?_
    clear hK
    refine wpAnyK_three (i := 3) (j := 5) (m := 8) (by kernel_rfl) rfl rfl rfl (fun K hK => ?_) (fun K hK => ?_) (fun K hK => ?_)
    ·skip
     refine Kd.N_append_rows_step k59 (w0 := X1) W1.heap.size (by rfl) (.tmp 13) (.tmp 15) 22 59 _ 112 rfl Tryz.underlying22 infoDe rfl (by decide) (by decide) (.slice (some ⟨p0, 0, none⟩) 0 0) [] ps A ps.length c (fun k => okF k ∨ (W1.heap.size ≤ k ∧ k ≠ w.heap.size)) okF rfl rfl HN.out (Kd.F_below HPs.out HW.out) (fun k hk => ⟨.inl hk, fun he => by have h1 := HLow.out k hk; have h2 : k = p0 := (by simpa [Value.ownBlock] using he); omega⟩) (fun k hk => .inr (by have := HW.out.size; exact ⟨by omega, by omega⟩)) (Below.refl _ _) HW.out.size (by simp only [List.length_nil]; omega) ?_
     intro v3 X2 hN hB hg hat
     rw [List.nil_append] at hN
     obtain ⟨A3, c3, hv3⟩ := Kd.N_slice hN
     subst hv3
     have HN := Aside0.mk hN
     have HW := Aside0.mk (HW.out.trans hB)
     have hsz := hB.size
     clear hN hB hg hat
     have hSd := ChS.of (blk_below BP.out HW.out) (blk_below BD.out HW.out)
     refine hK.out _ _ (fun _ => hSd) ?_
     clear hK
     refine wpAnyK_two (i := 5) (j := 8) (by kernel_rfl) rfl rfl (fun K hK => ?_) (fun K hK => ?_)
     ·skip
      go_simp
      obtain ⟨X3, hY⟩ : ∃ X3, X2.alloc (.cells #[.string d.f0, .slice D1 d.f1.length e1, .slice D2 d.f2.length e2, .int .i64 d.f3.f0, .string d.f3.f1, .slice D5 d.f3.f2.length e5] 59) = X3 := ⟨_, rfl⟩
      obtain ⟨p5, hp5⟩ : ∃ p5, X2.heap.size = p5 := ⟨_, rfl⟩
      have hb : Below X2.heap.size X2 X3 := by rw [← hY]; exact below_alloc1 _ _
      have hp5s : p5 < X3.heap.size := by rw [← hY, ← hp5]; simp
      have hp5w : W1.heap.size ≤ p5 := by rw [← hp5]; exact HW.out.size
      have hp5l : X2.heap.size ≤ p5 := by rw [← hp5]; exact Nat.le_refl _
      have T5 := Aside0.mk (show X3.heap[p5]? = some (.cells #[.string d.f0, .slice D1 d.f1.length e1, .slice D2 d.f2.length e2, .int .i64 d.f3.f0, .string d.f3.f1, .slice D5 d.f3.f2.length e5] 59 (0, 0)) by rw [← hY, ← hp5]; exact alloc_at _ _)
      have hne5 : some p5 ≠ (Value.slice A3 ps.length c3).ownBlock := fun he => by have := Kd.N_lt HN.out _ he.symm; omega
      rw [hY, hp5]
      have HW := Aside0.mk (HW.out.trans (hb.mono HW.out.size))
      have hsz := hb.size
      have HN := Aside0.mk (Kd.N_below HN.out hb)
      clear hb hY hp5
      have hSd := ChS.of (blk_below BP.out HW.out) (blk_below BD.out HW.out)
      refine hK.out _ _ (fun _ => hSd) ?_
      clear hK
      refine wpAnyK_two (i := 6) (j := 8) (by kernel_rfl) rfl rfl (fun K hK => ?_) (fun K hK => ?_)
      ·skip
       refine Kd.N_append_rows_step k59 (w0 := X3) W1.heap.size (by rfl) (.tmp 16) (.tmp 18) 22 59 _ 112 rfl Tryz.underlying22 infoDe rfl (by decide) (by decide) (.slice A3 ps.length c3) ps [d] (some ⟨p5, 0, none⟩) 1 1 (fun k => okF k ∨ (W1.heap.size ≤ k ∧ k ≠ w.heap.size)) (fun k => okF k ∨ k = p5) rfl rfl HN.out (one_def T5.out (Kd.FK_below HD.out HW.out)) (fun k hk => ?_) (fun k hk => .inr (by have := HW.out.size; exact ⟨by omega, by omega⟩)) (Below.refl _ _) HW.out.size (by omega) ?_
       ·rcases hk with hk | hk
        ·exact ⟨.inl hk, fun he => by have := Kd.N_base HN.out _ he.symm; have := HLow.out k hk; omega⟩
        ·subst hk; exact ⟨.inr ⟨by omega, by omega⟩, hne5⟩
       intro v6 X4 hN hB hg hat
       rw [HQs.out] at hN
       obtain ⟨A6, c6, hv6⟩ := Kd.N_slice hN
       subst hv6
       have HN := Aside0.mk hN
       have HW := Aside0.mk (HW.out.trans hB)
       have hsz := hB.size
       clear hN hB hg hat
       have hSd := ChS.of (blk_below BP.out HW.out) (blk_below BD.out HW.out)
       refine hK.out _ _ (fun _ => hSd) ?_
       clear hK
       refine wpAnyK_take (i := 7) (v := ?_) rfl (by kernel_rfl) (by kernel_rfl) (by kernel_rfl) (by kernel_rfl) (fun _ _ _ h => h) hSd (Or.inl ⟨by rfl, ?_⟩) ?_
       rotate_left 1
       (intro w hSw; (try dsimp only at hSw); go_simp; try (with_reducible rfl))
       (try dsimp only [Act.put]); (try simp only [List.setIfInBounds_toArray, List.set_cons_zero, List.set_cons_succ])
       refine wpAnyK_one (i := 8) (by kernel_rfl) rfl (fun K hK => ?_)
       go_simp
       obtain ⟨X5, hY⟩ : ∃ X5, X4.alloc (.cells #[.slice none 0 0] 24) = X5 := ⟨_, rfl⟩
       obtain ⟨p8, hp8⟩ : ∃ p8, X4.heap.size = p8 := ⟨_, rfl⟩
       have hb : Below X4.heap.size X4 X5 := by rw [← hY]; exact below_alloc1 _ _
       have hp8s : p8 < X5.heap.size := by rw [← hY, ← hp8]; simp
       have hp8w : W1.heap.size ≤ p8 := by rw [← hp8]; exact HW.out.size
       have hp8l : X4.heap.size ≤ p8 := by rw [← hp8]; exact Nat.le_refl _
       have T8 := Aside0.mk (show PBox p8 none 0 0 X5 by rw [← hY, ← hp8]; exact alloc_at _ _)
       have HN := Aside0.mk (Kd.N_mono (Kd.N_bound HN.out) (ok' := (fun k => okF k ∨ (W1.heap.size ≤ k ∧ k ≠ p8))) (fun k hk => hk.1.imp id (fun h => ⟨h.1, by have := hk.2; omega⟩)))
       rw [hY, hp8]
       have HW := Aside0.mk (HW.out.trans (hb.mono HW.out.size))
       have hsz := hb.size
       have HN := Aside0.mk (Kd.N_below HN.out hb)
       clear hb hY hp8
       have hSd := ChS.of (blk_below BP.out HW.out) (blk_below BD.out HW.out)
       refine hK.out _ _ (fun _ => hSd) ?_
       clear hK
       have k8 := (blk_cell T8.out 0).trans rfl
       have f8 := blk_frozen T8.out 0
       refine wpAnyK_one (i := 9) (by kernel_rfl) rfl (fun K hK => ?_)
       go_simp
       refine hK.out _ _ (fun h => absurd rfl h) ?_
       clear hK hSd
       refine wpAnyK_done (by kernel_rfl) ?_ _
       clear k8 f8
       go_wp2_with fail
       go_meet
       have hf := Kd.N_far HN.out (p := ⟨p8, 0, none⟩) (fun k hk => by rcases hk with hk | hk; (have := HLow.out k hk; simp only; omega); exact hk.2) (.slice A6 qs.length c6)
       obtain ⟨_, _, he, hc6, _⟩ := Kd.N_reads hf
       cases he
       have hF := Kd.F_mono (Kd.N_F hf) (ok' := fun k => okF k ∨ W1.heap.size ≤ k) (fun k hk => hk.imp id (fun h => h.1))
       exact ⟨p8, A6, c6, rfl, ⟨blk_put T8.out 0 (.slice A6 qs.length c6) rfl⟩, ⟨hc6, hF⟩, ⟨by omega, by have := hp8s; simp only [World.setCell, Array.size_modify]; omega⟩, ⟨HW.out.setCell (by simp only; omega) _⟩⟩
      ·skip
       go_simp
       obtain ⟨X4, hY⟩ : ∃ X4, X3.alloc (.cells #[.slice none 0 0] 24) = X4 := ⟨_, rfl⟩
       obtain ⟨p8, hp8⟩ : ∃ p8, X3.heap.size = p8 := ⟨_, rfl⟩
       have hb : Below X3.heap.size X3 X4 := by rw [← hY]; exact below_alloc1 _ _
       have hp8s : p8 < X4.heap.size := by rw [← hY, ← hp8]; simp
       have hp8w : W1.heap.size ≤ p8 := by rw [← hp8]; exact HW.out.size
       have hp8l : X3.heap.size ≤ p8 := by rw [← hp8]; exact Nat.le_refl _
       have T8 := Aside0.mk (show PBox p8 none 0 0 X4 by rw [← hY, ← hp8]; exact alloc_at _ _)
       have HN := Aside0.mk (Kd.N_mono (Kd.N_bound HN.out) (ok' := (fun k => okF k ∨ (W1.heap.size ≤ k ∧ k ≠ p8))) (fun k hk => hk.1.imp id (fun h => ⟨h.1, by have := hk.2; omega⟩)))
       rw [hY, hp8]
       have HW := Aside0.mk (HW.out.trans (hb.mono HW.out.size))
       have hsz := hb.size
       have HN := Aside0.mk (Kd.N_below HN.out hb)
       have T5 := Aside0.mk (blk_below T5.out hb)
       clear hb hY hp8
       have hSd := ChS.of (blk_below BP.out HW.out) (blk_below BD.out HW.out)
       refine hK.out _ _ (fun _ => hSd) ?_
       clear hK
       refine wpAnyK_one (i := 6) (by kernel_rfl) rfl (fun K hK => ?_)
       refine Kd.N_append_rows_step k59 (w0 := X4) W1.heap.size (by rfl) (.tmp 16) (.tmp 18) 22 59 _ 112 rfl Tryz.underlying22 infoDe rfl (by decide) (by decide) (.slice A3 ps.length c3) ps [d] (some ⟨p5, 0, none⟩) 1 1 (fun k => okF k ∨ (W1.heap.size ≤ k ∧ k ≠ p8)) (fun k => okF k ∨ k = p5) rfl rfl HN.out (one_def T5.out (Kd.FK_below HD.out HW.out)) (fun k hk => ?_) (fun k hk => .inr (by have := HW.out.size; exact ⟨by omega, by omega⟩)) (Below.refl _ _) HW.out.size (by omega) ?_
       ·rcases hk with hk | hk
        ·exact ⟨.inl hk, fun he => by have := Kd.N_base HN.out _ he.symm; have := HLow.out k hk; omega⟩
        ·subst hk; exact ⟨.inr ⟨by omega, by omega⟩, hne5⟩
       intro v6 X5 hN hB hg hat
       rw [HQs.out] at hN
       obtain ⟨A6, c6, hv6⟩ := Kd.N_slice hN
       subst hv6
       have T8 := Aside0.mk (blk_grown T8.out hg (fun he => N_ne_prog HN.out T8.out he))
       have HN := Aside0.mk hN
       have HW := Aside0.mk (HW.out.trans hB)
       have hsz := hB.size
       clear hN hB hg hat
       have hSd := ChS.of (blk_below BP.out HW.out) (blk_below BD.out HW.out)
       refine hK.out _ _ (fun _ => hSd) ?_
       clear hK
       refine wpAnyK_take (i := 7) (v := ?_) rfl (by kernel_rfl) (by kernel_rfl) (by kernel_rfl) (by kernel_rfl) (fun _ _ _ h => h) hSd (Or.inl ⟨by rfl, ?_⟩) ?_
       rotate_left 1
       (intro w hSw; (try dsimp only at hSw); go_simp; try (with_reducible rfl))
       (try dsimp only [Act.put]); (try simp only [List.setIfInBounds_toArray, List.set_cons_zero, List.set_cons_succ])
       have k8 := (blk_cell T8.out 0).trans rfl
       have f8 := blk_frozen T8.out 0
       refine wpAnyK_one (i := 9) (by kernel_rfl) rfl (fun K hK => ?_)
       go_simp
       refine hK.out _ _ (fun h => absurd rfl h) ?_
       clear hK hSd
       refine wpAnyK_done (by kernel_rfl) ?_ _
       clear k8 f8
       go_wp2_with fail
       go_meet
       have hf := Kd.N_far HN.out (p := ⟨p8, 0, none⟩) (fun k hk => by rcases hk with hk | hk; (have := HLow.out k hk; simp only; omega); exact hk.2) (.slice A6 qs.length c6)
       obtain ⟨_, _, he, hc6, _⟩ := Kd.N_reads hf
       cases he
       have hF := Kd.F_mono (Kd.N_F hf) (ok' := fun k => okF k ∨ W1.heap.size ≤ k) (fun k hk => hk.imp id (fun h => h.1))
       exact ⟨p8, A6, c6, rfl, ⟨blk_put T8.out 0 (.slice A6 qs.length c6) rfl⟩, ⟨hc6, hF⟩, ⟨by omega, by have := hp8s; simp only [World.setCell, Array.size_modify]; omega⟩, ⟨HW.out.setCell (by simp only; omega) _⟩⟩
     ·skip
      go_simp
      obtain ⟨X3, hY⟩ : ∃ X3, X2.alloc (.cells #[.slice none 0 0] 24) = X3 := ⟨_, rfl⟩
      obtain ⟨p8, hp8⟩ : ∃ p8, X2.heap.size = p8 := ⟨_, rfl⟩
      have hb : Below X2.heap.size X2 X3 := by rw [← hY]; exact below_alloc1 _ _
      have hp8s : p8 < X3.heap.size := by rw [← hY, ← hp8]; simp
      have hp8w : W1.heap.size ≤ p8 := by rw [← hp8]; exact HW.out.size
      have hp8l : X2.heap.size ≤ p8 := by rw [← hp8]; exact Nat.le_refl _
      have T8 := Aside0.mk (show PBox p8 none 0 0 X3 by rw [← hY, ← hp8]; exact alloc_at _ _)
      have HN := Aside0.mk (Kd.N_mono (Kd.N_bound HN.out) (ok' := (fun k => okF k ∨ (W1.heap.size ≤ k ∧ k ≠ p8))) (fun k hk => hk.1.imp id (fun h => ⟨h.1, by have := hk.2; omega⟩)))
      rw [hY, hp8]
      have HW := Aside0.mk (HW.out.trans (hb.mono HW.out.size))
      have hsz := hb.size
      have HN := Aside0.mk (Kd.N_below HN.out hb)
      clear hb hY hp8
      have hSd := ChS.of (blk_below BP.out HW.out) (blk_below BD.out HW.out)
      refine hK.out _ _ (fun _ => hSd) ?_
      clear hK
      refine wpAnyK_one (i := 5) (by kernel_rfl) rfl (fun K hK => ?_)
      go_simp
      obtain ⟨X4, hY⟩ : ∃ X4, X3.alloc (.cells #[.string d.f0, .slice D1 d.f1.length e1, .slice D2 d.f2.length e2, .int .i64 d.f3.f0, .string d.f3.f1, .slice D5 d.f3.f2.length e5] 59) = X4 := ⟨_, rfl⟩
      obtain ⟨p5, hp5⟩ : ∃ p5, X3.heap.size = p5 := ⟨_, rfl⟩
      have hb : Below X3.heap.size X3 X4 := by rw [← hY]; exact below_alloc1 _ _
      have hp5s : p5 < X4.heap.size := by rw [← hY, ← hp5]; simp
      have hp5w : W1.heap.size ≤ p5 := by rw [← hp5]; exact HW.out.size
      have hp5l : X3.heap.size ≤ p5 := by rw [← hp5]; exact Nat.le_refl _
      have T5 := Aside0.mk (show X4.heap[p5]? = some (.cells #[.string d.f0, .slice D1 d.f1.length e1, .slice D2 d.f2.length e2, .int .i64 d.f3.f0, .string d.f3.f1, .slice D5 d.f3.f2.length e5] 59 (0, 0)) by rw [← hY, ← hp5]; exact alloc_at _ _)
      have hne5 : some p5 ≠ (Value.slice A3 ps.length c3).ownBlock := fun he => by have := Kd.N_lt HN.out _ he.symm; omega
      rw [hY, hp5]
      have HW := Aside0.mk (HW.out.trans (hb.mono HW.out.size))
      have hsz := hb.size
      have HN := Aside0.mk (Kd.N_below HN.out hb)
      have T8 := Aside0.mk (blk_below T8.out hb)
      clear hb hY hp5
      have hSd := ChS.of (blk_below BP.out HW.out) (blk_below BD.out HW.out)
      refine hK.out _ _ (fun _ => hSd) ?_
      clear hK
      refine wpAnyK_one (i := 6) (by kernel_rfl) rfl (fun K hK => ?_)
      refine Kd.N_append_rows_step k59 (w0 := X4) W1.heap.size (by rfl) (.tmp 16) (.tmp 18) 22 59 _ 112 rfl Tryz.underlying22 infoDe rfl (by decide) (by decide) (.slice A3 ps.length c3) ps [d] (some ⟨p5, 0, none⟩) 1 1 (fun k => okF k ∨ (W1.heap.size ≤ k ∧ k ≠ p8)) (fun k => okF k ∨ k = p5) rfl rfl HN.out (one_def T5.out (Kd.FK_below HD.out HW.out)) (fun k hk => ?_) (fun k hk => .inr (by have := HW.out.size; exact ⟨by omega, by omega⟩)) (Below.refl _ _) HW.out.size (by omega) ?_
      ·rcases hk with hk | hk
       ·exact ⟨.inl hk, fun he => by have := Kd.N_base HN.out _ he.symm; have := HLow.out k hk; omega⟩
       ·subst hk; exact ⟨.inr ⟨by omega, by omega⟩, hne5⟩
      intro v6 X5 hN hB hg hat
      rw [HQs.out] at hN
      obtain ⟨A6, c6, hv6⟩ := Kd.N_slice hN
      subst hv6
      have T8 := Aside0.mk (blk_grown T8.out hg (fun he => N_ne_prog HN.out T8.out he))
      have HN := Aside0.mk hN
      have HW := Aside0.mk (HW.out.trans hB)
      have hsz := hB.size
      clear hN hB hg hat
      have hSd := ChS.of (blk_below BP.out HW.out) (blk_below BD.out HW.out)
      refine hK.out _ _ (fun _ => hSd) ?_
      clear hK
      refine wpAnyK_take (i := 7) (v := ?_) rfl (by kernel_rfl) (by kernel_rfl) (by kernel_rfl) (by kernel_rfl) (fun _ _ _ h => h) hSd (Or.inl ⟨by rfl, ?_⟩) ?_
      rotate_left 1
      (intro w hSw; (try dsimp only at hSw); go_simp; try (with_reducible rfl))
      (try dsimp only [Act.put]); (try simp only [List.setIfInBounds_toArray, List.set_cons_zero, List.set_cons_succ])
      have k8 := (blk_cell T8.out 0).trans rfl
      have f8 := blk_frozen T8.out 0
      refine wpAnyK_one (i := 9) (by kernel_rfl) rfl (fun K hK => ?_)
      go_simp
      refine hK.out _ _ (fun h => absurd rfl h) ?_
      clear hK hSd
      refine wpAnyK_done (by kernel_rfl) ?_ _
      clear k8 f8
      go_wp2_with fail
      go_meet
      have hf := Kd.N_far HN.out (p := ⟨p8, 0, none⟩) (fun k hk => by rcases hk with hk | hk; (have := HLow.out k hk; simp only; omega); exact hk.2) (.slice A6 qs.length c6)
      obtain ⟨_, _, he, hc6, _⟩ := Kd.N_reads hf
      cases he
      have hF := Kd.F_mono (Kd.N_F hf) (ok' := fun k => okF k ∨ W1.heap.size ≤ k) (fun k hk => hk.imp id (fun h => h.1))
      exact ⟨p8, A6, c6, rfl, ⟨blk_put T8.out 0 (.slice A6 qs.length c6) rfl⟩, ⟨hc6, hF⟩, ⟨by omega, by have := hp8s; simp only [World.setCell, Array.size_modify]; omega⟩, ⟨HW.out.setCell (by simp only; omega) _⟩⟩
    ·skip
     go_simp
     obtain ⟨X2, hY⟩ : ∃ X2, X1.alloc (.cells #[.string d.f0, .slice D1 d.f1.length e1, .slice D2 d.f2.length e2, .int .i64 d.f3.f0, .string d.f3.f1, .slice D5 d.f3.f2.length e5] 59) = X2 := ⟨_, rfl⟩
     obtain ⟨p5, hp5⟩ : ∃ p5, X1.heap.size = p5 := ⟨_, rfl⟩
     have hb : Below X1.heap.size X1 X2 := by rw [← hY]; exact below_alloc1 _ _
     have hp5s : p5 < X2.heap.size := by rw [← hY, ← hp5]; simp
     have hp5w : W1.heap.size ≤ p5 := by rw [← hp5]; exact HW.out.size
     have hp5l : X1.heap.size ≤ p5 := by rw [← hp5]; exact Nat.le_refl _
     have T5 := Aside0.mk (show X2.heap[p5]? = some (.cells #[.string d.f0, .slice D1 d.f1.length e1, .slice D2 d.f2.length e2, .int .i64 d.f3.f0, .string d.f3.f1, .slice D5 d.f3.f2.length e5] 59 (0, 0)) by rw [← hY, ← hp5]; exact alloc_at _ _)
     rw [hY, hp5]
     have HW := Aside0.mk (HW.out.trans (hb.mono HW.out.size))
     have hsz := hb.size
     have HN := Aside0.mk (Kd.N_below HN.out hb)
     clear hb hY hp5
     have hSd := ChS.of (blk_below BP.out HW.out) (blk_below BD.out HW.out)
     refine hK.out _ _ (fun _ => hSd) ?_
     clear hK
     refine wpAnyK_two (i := 3) (j := 8) (by kernel_rfl) rfl rfl (fun K hK => ?_) (fun K hK => ?_)
     ·skip
      refine Kd.N_append_rows_step k59 (w0 := X2) W1.heap.size (by rfl) (.tmp 13) (.tmp 15) 22 59 _ 112 rfl Tryz.underlying22 infoDe rfl (by decide) (by decide) (.slice (some ⟨p0, 0, none⟩) 0 0) [] ps A ps.length c (fun k => okF k ∨ (W1.heap.size ≤ k ∧ k ≠ w.heap.size)) okF rfl rfl HN.out (Kd.F_below HPs.out HW.out) (fun k hk => ⟨.inl hk, fun he => by have h1 := HLow.out k hk; have h2 : k = p0 := (by simpa [Value.ownBlock] using he); omega⟩) (fun k hk => .inr (by have := HW.out.size; exact ⟨by omega, by omega⟩)) (Below.refl _ _) HW.out.size (by simp only [List.length_nil]; omega) ?_
      intro v3 X3 hN hB hg hat
      rw [List.nil_append] at hN
      obtain ⟨A3, c3, hv3⟩ := Kd.N_slice hN
      subst hv3
      have hne5 : some p5 ≠ (Value.slice A3 ps.length c3).ownBlock := by
       rcases hat with h | ⟨b, h, hb⟩
       ·rw [h]; intro he; have h2 : p5 = p0 := (by simpa [Value.ownBlock] using he); omega
       ·rw [h]; intro he; have h2 : p5 = b := (by simpa using he); omega
      have T5 := Aside0.mk (blk_grown T5.out hg (fun he => by have h2 : p5 = p0 := (by simpa [Value.ownBlock] using he); omega))
      have HN := Aside0.mk hN
      have HW := Aside0.mk (HW.out.trans hB)
      have hsz := hB.size
      clear hN hB hg hat
      have hSd := ChS.of (blk_below BP.out HW.out) (blk_below BD.out HW.out)
      refine hK.out _ _ (fun _ => hSd) ?_
      clear hK
      refine wpAnyK_two (i := 6) (j := 8) (by kernel_rfl) rfl rfl (fun K hK => ?_) (fun K hK => ?_)
      ·skip
       refine Kd.N_append_rows_step k59 (w0 := X3) W1.heap.size (by rfl) (.tmp 16) (.tmp 18) 22 59 _ 112 rfl Tryz.underlying22 infoDe rfl (by decide) (by decide) (.slice A3 ps.length c3) ps [d] (some ⟨p5, 0, none⟩) 1 1 (fun k => okF k ∨ (W1.heap.size ≤ k ∧ k ≠ w.heap.size)) (fun k => okF k ∨ k = p5) rfl rfl HN.out (one_def T5.out (Kd.FK_below HD.out HW.out)) (fun k hk => ?_) (fun k hk => .inr (by have := HW.out.size; exact ⟨by omega, by omega⟩)) (Below.refl _ _) HW.out.size (by omega) ?_
       ·rcases hk with hk | hk
        ·exact ⟨.inl hk, fun he => by have := Kd.N_base HN.out _ he.symm; have := HLow.out k hk; omega⟩
        ·subst hk; exact ⟨.inr ⟨by omega, by omega⟩, hne5⟩
       intro v6 X4 hN hB hg hat
       rw [HQs.out] at hN
       obtain ⟨A6, c6, hv6⟩ := Kd.N_slice hN
       subst hv6
       have HN := Aside0.mk hN
       have HW := Aside0.mk (HW.out.trans hB)
       have hsz := hB.size
       clear hN hB hg hat
       have hSd := ChS.of (blk_below BP.out HW.out) (blk_below BD.out HW.out)
       refine hK.out _ _ (fun _ => hSd) ?_
       clear hK
       refine wpAnyK_take (i := 7) (v := ?_) rfl (by kernel_rfl) (by kernel_rfl) (by kernel_rfl) (by kernel_rfl) (fun _ _ _ h => h) hSd (Or.inl ⟨by rfl, ?_⟩) ?_
       rotate_left 1
       (intro w hSw; (try dsimp only at hSw); go_simp; try (with_reducible rfl))
       (try dsimp only [Act.put]); (try simp only [List.setIfInBounds_toArray, List.set_cons_zero, List.set_cons_succ])
       refine wpAnyK_one (i := 8) (by kernel_rfl) rfl (fun K hK => ?_)
       go_simp
       obtain ⟨X5, hY⟩ : ∃ X5, X4.alloc (.cells #[.slice none 0 0] 24) = X5 := ⟨_, rfl⟩
       obtain ⟨p8, hp8⟩ : ∃ p8, X4.heap.size = p8 := ⟨_, rfl⟩
       have hb : Below X4.heap.size X4 X5 := by rw [← hY]; exact below_alloc1 _ _
       have hp8s : p8 < X5.heap.size := by rw [← hY, ← hp8]; simp
       have hp8w : W1.heap.size ≤ p8 := by rw [← hp8]; exact HW.out.size
       have hp8l : X4.heap.size ≤ p8 := by rw [← hp8]; exact Nat.le_refl _
       have T8 := Aside0.mk (show PBox p8 none 0 0 X5 by rw [← hY, ← hp8]; exact alloc_at _ _)
       have HN := Aside0.mk (Kd.N_mono (Kd.N_bound HN.out) (ok' := (fun k => okF k ∨ (W1.heap.size ≤ k ∧ k ≠ p8))) (fun k hk => hk.1.imp id (fun h => ⟨h.1, by have := hk.2; omega⟩)))
       rw [hY, hp8]
       have HW := Aside0.mk (HW.out.trans (hb.mono HW.out.size))
       have hsz := hb.size
       have HN := Aside0.mk (Kd.N_below HN.out hb)
       clear hb hY hp8
       have hSd := ChS.of (blk_below BP.out HW.out) (blk_below BD.out HW.out)
       refine hK.out _ _ (fun _ => hSd) ?_
       clear hK
       have k8 := (blk_cell T8.out 0).trans rfl
       have f8 := blk_frozen T8.out 0
       refine wpAnyK_one (i := 9) (by kernel_rfl) rfl (fun K hK => ?_)
       go_simp
       refine hK.out _ _ (fun h => absurd rfl h) ?_
       clear hK hSd
       refine wpAnyK_done (by kernel_rfl) ?_ _
       clear k8 f8
       go_wp2_with fail
       go_meet
       have hf := Kd.N_far HN.out (p := ⟨p8, 0, none⟩) (fun k hk => by rcases hk with hk | hk; (have := HLow.out k hk; simp only; omega); exact hk.2) (.slice A6 qs.length c6)
       obtain ⟨_, _, he, hc6, _⟩ := Kd.N_reads hf
       cases he
       have hF := Kd.F_mono (Kd.N_F hf) (ok' := fun k => okF k ∨ W1.heap.size ≤ k) (fun k hk => hk.imp id (fun h => h.1))
       exact ⟨p8, A6, c6, rfl, ⟨blk_put T8.out 0 (.slice A6 qs.length c6) rfl⟩, ⟨hc6, hF⟩, ⟨by omega, by have := hp8s; simp only [World.setCell, Array.size_modify]; omega⟩, ⟨HW.out.setCell (by simp only; omega) _⟩⟩
      ·skip
       go_simp
       obtain ⟨X4, hY⟩ : ∃ X4, X3.alloc (.cells #[.slice none 0 0] 24) = X4 := ⟨_, rfl⟩
       obtain ⟨p8, hp8⟩ : ∃ p8, X3.heap.size = p8 := ⟨_, rfl⟩
       have hb : Below X3.heap.size X3 X4 := by rw [← hY]; exact below_alloc1 _ _
       have hp8s : p8 < X4.heap.size := by rw [← hY, ← hp8]; simp
       have hp8w : W1.heap.size ≤ p8 := by rw [← hp8]; exact HW.out.size
       have hp8l : X3.heap.size ≤ p8 := by rw [← hp8]; exact Nat.le_refl _
       have T8 := Aside0.mk (show PBox p8 none 0 0 X4 by rw [← hY, ← hp8]; exact alloc_at _ _)
       have HN := Aside0.mk (Kd.N_mono (Kd.N_bound HN.out) (ok' := (fun k => okF k ∨ (W1.heap.size ≤ k ∧ k ≠ p8))) (fun k hk => hk.1.imp id (fun h => ⟨h.1, by have := hk.2; omega⟩)))
       rw [hY, hp8]
       have HW := Aside0.mk (HW.out.trans (hb.mono HW.out.size))
       have hsz := hb.size
       have HN := Aside0.mk (Kd.N_below HN.out hb)
       have T5 := Aside0.mk (blk_below T5.out hb)
       clear hb hY hp8
       have hSd := ChS.of (blk_below BP.out HW.out) (blk_below BD.out HW.out)
       refine hK.out _ _ (fun _ => hSd) ?_
       clear hK
       refine wpAnyK_one (i := 6) (by kernel_rfl) rfl (fun K hK => ?_)
       refine Kd.N_append_rows_step k59 (w0 := X4) W1.heap.size (by rfl) (.tmp 16) (.tmp 18) 22 59 _ 112 rfl Tryz.underlying22 infoDe rfl (by decide) (by decide) (.slice A3 ps.length c3) ps [d] (some ⟨p5, 0, none⟩) 1 1 (fun k => okF k ∨ (W1.heap.size ≤ k ∧ k ≠ p8)) (fun k => okF k ∨ k = p5) rfl rfl HN.out (one_def T5.out (Kd.FK_below HD.out HW.out)) (fun k hk => ?_) (fun k hk => .inr (by have := HW.out.size; exact ⟨by omega, by omega⟩)) (Below.refl _ _) HW.out.size (by omega) ?_
       ·rcases hk with hk | hk
        ·exact ⟨.inl hk, fun he => by have := Kd.N_base HN.out _ he.symm; have := HLow.out k hk; omega⟩
        ·subst hk; exact ⟨.inr ⟨by omega, by omega⟩, hne5⟩
       intro v6 X5 hN hB hg hat
       rw [HQs.out] at hN
       obtain ⟨A6, c6, hv6⟩ := Kd.N_slice hN
       subst hv6
       have T8 := Aside0.mk (blk_grown T8.out hg (fun he => N_ne_prog HN.out T8.out he))
       have HN := Aside0.mk hN
       have HW := Aside0.mk (HW.out.trans hB)
       have hsz := hB.size
       clear hN hB hg hat
       have hSd := ChS.of (blk_below BP.out HW.out) (blk_below BD.out HW.out)
       refine hK.out _ _ (fun _ => hSd) ?_
       clear hK
       refine wpAnyK_take (i := 7) (v := ?_) rfl (by kernel_rfl) (by kernel_rfl) (by kernel_rfl) (by kernel_rfl) (fun _ _ _ h => h) hSd (Or.inl ⟨by rfl, ?_⟩) ?_
       rotate_left 1
       (intro w hSw; (try dsimp only at hSw); go_simp; try (with_reducible rfl))
       (try dsimp only [Act.put]); (try simp only [List.setIfInBounds_toArray, List.set_cons_zero, List.set_cons_succ])
       have k8 := (blk_cell T8.out 0).trans rfl
       have f8 := blk_frozen T8.out 0
       refine wpAnyK_one (i := 9) (by kernel_rfl) rfl (fun K hK => ?_)
       go_simp
       refine hK.out _ _ (fun h => absurd rfl h) ?_
       clear hK hSd
       refine wpAnyK_done (by kernel_rfl) ?_ _
       clear k8 f8
       go_wp2_with fail
       go_meet
       have hf := Kd.N_far HN.out (p := ⟨p8, 0, none⟩) (fun k hk => by rcases hk with hk | hk; (have := HLow.out k hk; simp only; omega); exact hk.2) (.slice A6 qs.length c6)
       obtain ⟨_, _, he, hc6, _⟩ := Kd.N_reads hf
       cases he
       have hF := Kd.F_mono (Kd.N_F hf) (ok' := fun k => okF k ∨ W1.heap.size ≤ k) (fun k hk => hk.imp id (fun h => h.1))
       exact ⟨p8, A6, c6, rfl, ⟨blk_put T8.out 0 (.slice A6 qs.length c6) rfl⟩, ⟨hc6, hF⟩, ⟨by omega, by have := hp8s; simp only [World.setCell, Array.size_modify]; omega⟩, ⟨HW.out.setCell (by simp only; omega) _⟩⟩
     ·skip
      go_simp
      obtain ⟨X3, hY⟩ : ∃ X3, X2.alloc (.cells #[.slice none 0 0] 24) = X3 := ⟨_, rfl⟩
      obtain ⟨p8, hp8⟩ : ∃ p8, X2.heap.size = p8 := ⟨_, rfl⟩
      have hb : Below X2.heap.size X2 X3 := by rw [← hY]; exact below_alloc1 _ _
      have hp8s : p8 < X3.heap.size := by rw [← hY, ← hp8]; simp
      have hp8w : W1.heap.size ≤ p8 := by rw [← hp8]; exact HW.out.size
      have hp8l : X2.heap.size ≤ p8 := by rw [← hp8]; exact Nat.le_refl _
      have T8 := Aside0.mk (show PBox p8 none 0 0 X3 by rw [← hY, ← hp8]; exact alloc_at _ _)
      have HN := Aside0.mk (Kd.N_mono (Kd.N_bound HN.out) (ok' := (fun k => okF k ∨ (W1.heap.size ≤ k ∧ k ≠ p8))) (fun k hk => hk.1.imp id (fun h => ⟨h.1, by have := hk.2; omega⟩)))
      rw [hY, hp8]
      have HW := Aside0.mk (HW.out.trans (hb.mono HW.out.size))
      have hsz := hb.size
      have HN := Aside0.mk (Kd.N_below HN.out hb)
      have T5 := Aside0.mk (blk_below T5.out hb)
      clear hb hY hp8
      have hSd := ChS.of (blk_below BP.out HW.out) (blk_below BD.out HW.out)
      refine hK.out _ _ (fun _ => hSd) ?_
      clear hK
      refine wpAnyK_one (i := 3) (by kernel_rfl) rfl (fun K hK => ?_)
      refine Kd.N_append_rows_step k59 (w0 := X3) W1.heap.size (by rfl) (.tmp 13) (.tmp 15) 22 59 _ 112 rfl Tryz.underlying22 infoDe rfl (by decide) (by decide) (.slice (some ⟨p0, 0, none⟩) 0 0) [] ps A ps.length c (fun k => okF k ∨ (W1.heap.size ≤ k ∧ k ≠ p8)) okF rfl rfl HN.out (Kd.F_below HPs.out HW.out) (fun k hk => ⟨.inl hk, fun he => by have h1 := HLow.out k hk; have h2 : k = p0 := (by simpa [Value.ownBlock] using he); omega⟩) (fun k hk => .inr (by have := HW.out.size; exact ⟨by omega, by omega⟩)) (Below.refl _ _) HW.out.size (by simp only [List.length_nil]; omega) ?_
      intro v3 X4 hN hB hg hat
      rw [List.nil_append] at hN
      obtain ⟨A3, c3, hv3⟩ := Kd.N_slice hN
      subst hv3
      have hne5 : some p5 ≠ (Value.slice A3 ps.length c3).ownBlock := by
       rcases hat with h | ⟨b, h, hb⟩
       ·rw [h]; intro he; have h2 : p5 = p0 := (by simpa [Value.ownBlock] using he); omega
       ·rw [h]; intro he; have h2 : p5 = b := (by simpa using he); omega
      have T5 := Aside0.mk (blk_grown T5.out hg (fun he => by have h2 : p5 = p0 := (by simpa [Value.ownBlock] using he); omega))
      have T8 := Aside0.mk (blk_grown T8.out hg (fun he => by have h2 : p8 = p0 := (by simpa [Value.ownBlock] using he); omega))
      have HN := Aside0.mk hN
      have HW := Aside0.mk (HW.out.trans hB)
      have hsz := hB.size
      clear hN hB hg hat
      have hSd := ChS.of (blk_below BP.out HW.out) (blk_below BD.out HW.out)
      refine hK.out _ _ (fun _ => hSd) ?_
      clear hK
      refine wpAnyK_one (i := 6) (by kernel_rfl) rfl (fun K hK => ?_)
      refine Kd.N_append_rows_step k59 (w0 := X4) W1.heap.size (by rfl) (.tmp 16) (.tmp 18) 22 59 _ 112 rfl Tryz.underlying22 infoDe rfl (by decide) (by decide) (.slice A3 ps.length c3) ps [d] (some ⟨p5, 0, none⟩) 1 1 (fun k => okF k ∨ (W1.heap.size ≤ k ∧ k ≠ p8)) (fun k => okF k ∨ k = p5) rfl rfl HN.out (one_def T5.out (Kd.FK_below HD.out HW.out)) (fun k hk => ?_) (fun k hk => .inr (by have := HW.out.size; exact ⟨by omega, by omega⟩)) (Below.refl _ _) HW.out.size (by omega) ?_
      ·rcases hk with hk | hk
       ·exact ⟨.inl hk, fun he => by have := Kd.N_base HN.out _ he.symm; have := HLow.out k hk; omega⟩
       ·subst hk; exact ⟨.inr ⟨by omega, by omega⟩, hne5⟩
      intro v6 X5 hN hB hg hat
      rw [HQs.out] at hN
      obtain ⟨A6, c6, hv6⟩ := Kd.N_slice hN
      subst hv6
      have T8 := Aside0.mk (blk_grown T8.out hg (fun he => N_ne_prog HN.out T8.out he))
      have HN := Aside0.mk hN
      have HW := Aside0.mk (HW.out.trans hB)
      have hsz := hB.size
      clear hN hB hg hat
      have hSd := ChS.of (blk_below BP.out HW.out) (blk_below BD.out HW.out)
      refine hK.out _ _ (fun _ => hSd) ?_
      clear hK
      refine wpAnyK_take (i := 7) (v := ?_) rfl (by kernel_rfl) (by kernel_rfl) (by kernel_rfl) (by kernel_rfl) (fun _ _ _ h => h) hSd (Or.inl ⟨by rfl, ?_⟩) ?_
      rotate_left 1
      (intro w hSw; (try dsimp only at hSw); go_simp; try (with_reducible rfl))
      (try dsimp only [Act.put]); (try simp only [List.setIfInBounds_toArray, List.set_cons_zero, List.set_cons_succ])
      have k8 := (blk_cell T8.out 0).trans rfl
      have f8 := blk_frozen T8.out 0
      refine wpAnyK_one (i := 9) (by kernel_rfl) rfl (fun K hK => ?_)
      go_simp
      refine hK.out _ _ (fun h => absurd rfl h) ?_
      clear hK hSd
      refine wpAnyK_done (by kernel_rfl) ?_ _
      clear k8 f8
      go_wp2_with fail
      go_meet
      have hf := Kd.N_far HN.out (p := ⟨p8, 0, none⟩) (fun k hk => by rcases hk with hk | hk; (have := HLow.out k hk; simp only; omega); exact hk.2) (.slice A6 qs.length c6)
      obtain ⟨_, _, he, hc6, _⟩ := Kd.N_reads hf
      cases he
      have hF := Kd.F_mono (Kd.N_F hf) (ok' := fun k => okF k ∨ W1.heap.size ≤ k) (fun k hk => hk.imp id (fun h => h.1))
      exact ⟨p8, A6, c6, rfl, ⟨blk_put T8.out 0 (.slice A6 qs.length c6) rfl⟩, ⟨hc6, hF⟩, ⟨by omega, by have := hp8s; simp only [World.setCell, Array.size_modify]; omega⟩, ⟨HW.out.setCell (by simp only; omega) _⟩⟩
    ·skip
     go_simp
     obtain ⟨X2, hY⟩ : ∃ X2, X1.alloc (.cells #[.slice none 0 0] 24) = X2 := ⟨_, rfl⟩
     obtain ⟨p8, hp8⟩ : ∃ p8, X1.heap.size = p8 := ⟨_, rfl⟩
     have hb : Below X1.heap.size X1 X2 := by rw [← hY]; exact below_alloc1 _ _
     have hp8s : p8 < X2.heap.size := by rw [← hY, ← hp8]; simp
     have hp8w : W1.heap.size ≤ p8 := by rw [← hp8]; exact HW.out.size
     have hp8l : X1.heap.size ≤ p8 := by rw [← hp8]; exact Nat.le_refl _
     have T8 := Aside0.mk (show PBox p8 none 0 0 X2 by rw [← hY, ← hp8]; exact alloc_at _ _)
     have HN := Aside0.mk (Kd.N_mono (Kd.N_bound HN.out) (ok' := (fun k => okF k ∨ (W1.heap.size ≤ k ∧ k ≠ p8))) (fun k hk => hk.1.imp id (fun h => ⟨h.1, by have := hk.2; omega⟩)))
     rw [hY, hp8]
     have HW := Aside0.mk (HW.out.trans (hb.mono HW.out.size))
     have hsz := hb.size
     have HN := Aside0.mk (Kd.N_below HN.out hb)
     clear hb hY hp8
     have hSd := ChS.of (blk_below BP.out HW.out) (blk_below BD.out HW.out)
     refine hK.out _ _ (fun _ => hSd) ?_
     clear hK
     refine wpAnyK_two (i := 3) (j := 5) (by kernel_rfl) rfl rfl (fun K hK => ?_) (fun K hK => ?_)
     ·skip
      refine Kd.N_append_rows_step k59 (w0 := X2) W1.heap.size (by rfl) (.tmp 13) (.tmp 15) 22 59 _ 112 rfl Tryz.underlying22 infoDe rfl (by decide) (by decide) (.slice (some ⟨p0, 0, none⟩) 0 0) [] ps A ps.length c (fun k => okF k ∨ (W1.heap.size ≤ k ∧ k ≠ p8)) okF rfl rfl HN.out (Kd.F_below HPs.out HW.out) (fun k hk => ⟨.inl hk, fun he => by have h1 := HLow.out k hk; have h2 : k = p0 := (by simpa [Value.ownBlock] using he); omega⟩) (fun k hk => .inr (by have := HW.out.size; exact ⟨by omega, by omega⟩)) (Below.refl _ _) HW.out.size (by simp only [List.length_nil]; omega) ?_
      intro v3 X3 hN hB hg hat
      rw [List.nil_append] at hN
      obtain ⟨A3, c3, hv3⟩ := Kd.N_slice hN
      subst hv3
      have T8 := Aside0.mk (blk_grown T8.out hg (fun he => by have h2 : p8 = p0 := (by simpa [Value.ownBlock] using he); omega))
      have HN := Aside0.mk hN
      have HW := Aside0.mk (HW.out.trans hB)
      have hsz := hB.size
      clear hN hB hg hat
      have hSd := ChS.of (blk_below BP.out HW.out) (blk_below BD.out HW.out)
      refine hK.out _ _ (fun _ => hSd) ?_
      clear hK
      refine wpAnyK_one (i := 5) (by kernel_rfl) rfl (fun K hK => ?_)
      go_simp
      obtain ⟨X4, hY⟩ : ∃ X4, X3.alloc (.cells #[.string d.f0, .slice D1 d.f1.length e1, .slice D2 d.f2.length e2, .int .i64 d.f3.f0, .string d.f3.f1, .slice D5 d.f3.f2.length e5] 59) = X4 := ⟨_, rfl⟩
      obtain ⟨p5, hp5⟩ : ∃ p5, X3.heap.size = p5 := ⟨_, rfl⟩
      have hb : Below X3.heap.size X3 X4 := by rw [← hY]; exact below_alloc1 _ _
      have hp5s : p5 < X4.heap.size := by rw [← hY, ← hp5]; simp
      have hp5w : W1.heap.size ≤ p5 := by rw [← hp5]; exact HW.out.size
      have hp5l : X3.heap.size ≤ p5 := by rw [← hp5]; exact Nat.le_refl _
      have T5 := Aside0.mk (show X4.heap[p5]? = some (.cells #[.string d.f0, .slice D1 d.f1.length e1, .slice D2 d.f2.length e2, .int .i64 d.f3.f0, .string d.f3.f1, .slice D5 d.f3.f2.length e5] 59 (0, 0)) by rw [← hY, ← hp5]; exact alloc_at _ _)
      have hne5 : some p5 ≠ (Value.slice A3 ps.length c3).ownBlock := fun he => by have := Kd.N_lt HN.out _ he.symm; omega
      rw [hY, hp5]
      have HW := Aside0.mk (HW.out.trans (hb.mono HW.out.size))
      have hsz := hb.size
      have HN := Aside0.mk (Kd.N_below HN.out hb)
      have T8 := Aside0.mk (blk_below T8.out hb)
      clear hb hY hp5
      have hSd := ChS.of (blk_below BP.out HW.out) (blk_below BD.out HW.out)
      refine hK.out _ _ (fun _ => hSd) ?_
      clear hK
      refine wpAnyK_one (i := 6) (by kernel_rfl) rfl (fun K hK => ?_)
      refine Kd.N_append_rows_step k59 (w0 := X4) W1.heap.size (by rfl) (.tmp 16) (.tmp 18) 22 59 _ 112 rfl Tryz.underlying22 infoDe rfl (by decide) (by decide) (.slice A3 ps.length c3) ps [d] (some ⟨p5, 0, none⟩) 1 1 (fun k => okF k ∨ (W1.heap.size ≤ k ∧ k ≠ p8)) (fun k => okF k ∨ k = p5) rfl rfl HN.out (one_def T5.out (Kd.FK_below HD.out HW.out)) (fun k hk => ?_) (fun k hk => .inr (by have := HW.out.size; exact ⟨by omega, by omega⟩)) (Below.refl _ _) HW.out.size (by omega) ?_
      ·rcases hk with hk | hk
       ·exact ⟨.inl hk, fun he => by have := Kd.N_base HN.out _ he.symm; have := HLow.out k hk; omega⟩
       ·subst hk; exact ⟨.inr ⟨by omega, by omega⟩, hne5⟩
      intro v6 X5 hN hB hg hat
      rw [HQs.out] at hN
      obtain ⟨A6, c6, hv6⟩ := Kd.N_slice hN
      subst hv6
      have T8 := Aside0.mk (blk_grown T8.out hg (fun he => N_ne_prog HN.out T8.out he))
      have HN := Aside0.mk hN
      have HW := Aside0.mk (HW.out.trans hB)
      have hsz := hB.size
      clear hN hB hg hat
      have hSd := ChS.of (blk_below BP.out HW.out) (blk_below BD.out HW.out)
      refine hK.out _ _ (fun _ => hSd) ?_
      clear hK
      refine wpAnyK_take (i := 7) (v := ?_) rfl (by kernel_rfl) (by kernel_rfl) (by kernel_rfl) (by kernel_rfl) (fun _ _ _ h => h) hSd (Or.inl ⟨by rfl, ?_⟩) ?_
      rotate_left 1
      (intro w hSw; (try dsimp only at hSw); go_simp; try (with_reducible rfl))
      (try dsimp only [Act.put]); (try simp only [List.setIfInBounds_toArray, List.set_cons_zero, List.set_cons_succ])
      have k8 := (blk_cell T8.out 0).trans rfl
      have f8 := blk_frozen T8.out 0
      refine wpAnyK_one (i := 9) (by kernel_rfl) rfl (fun K hK => ?_)
      go_simp
      refine hK.out _ _ (fun h => absurd rfl h) ?_
      clear hK hSd
      refine wpAnyK_done (by kernel_rfl) ?_ _
      clear k8 f8
      go_wp2_with fail
      go_meet
      have hf := Kd.N_far HN.out (p := ⟨p8, 0, none⟩) (fun k hk => by rcases hk with hk | hk; (have := HLow.out k hk; simp only; omega); exact hk.2) (.slice A6 qs.length c6)
      obtain ⟨_, _, he, hc6, _⟩ := Kd.N_reads hf
      cases he
      have hF := Kd.F_mono (Kd.N_F hf) (ok' := fun k => okF k ∨ W1.heap.size ≤ k) (fun k hk => hk.imp id (fun h => h.1))
      exact ⟨p8, A6, c6, rfl, ⟨blk_put T8.out 0 (.slice A6 qs.length c6) rfl⟩, ⟨hc6, hF⟩, ⟨by omega, by have := hp8s; simp only [World.setCell, Array.size_modify]; omega⟩, ⟨HW.out.setCell (by simp only; omega) _⟩⟩
     ·skip
      go_simp
      obtain ⟨X3, hY⟩ : ∃ X3, X2.alloc (.cells #[.string d.f0, .slice D1 d.f1.length e1, .slice D2 d.f2.length e2, .int .i64 d.f3.f0, .string d.f3.f1, .slice D5 d.f3.f2.length e5] 59) = X3 := ⟨_, rfl⟩
      obtain ⟨p5, hp5⟩ : ∃ p5, X2.heap.size = p5 := ⟨_, rfl⟩
      have hb : Below X2.heap.size X2 X3 := by rw [← hY]; exact below_alloc1 _ _
      have hp5s : p5 < X3.heap.size := by rw [← hY, ← hp5]; simp
      have hp5w : W1.heap.size ≤ p5 := by rw [← hp5]; exact HW.out.size
      have hp5l : X2.heap.size ≤ p5 := by rw [← hp5]; exact Nat.le_refl _
      have T5 := Aside0.mk (show X3.heap[p5]? = some (.cells #[.string d.f0, .slice D1 d.f1.length e1, .slice D2 d.f2.length e2, .int .i64 d.f3.f0, .string d.f3.f1, .slice D5 d.f3.f2.length e5] 59 (0, 0)) by rw [← hY, ← hp5]; exact alloc_at _ _)
      rw [hY, hp5]
      have HW := Aside0.mk (HW.out.trans (hb.mono HW.out.size))
      have hsz := hb.size
      have HN := Aside0.mk (Kd.N_below HN.out hb)
      have T8 := Aside0.mk (blk_below T8.out hb)
      clear hb hY hp5
      have hSd := ChS.of (blk_below BP.out HW.out) (blk_below BD.out HW.out)
      refine hK.out _ _ (fun _ => hSd) ?_
      clear hK
      refine wpAnyK_one (i := 3) (by kernel_rfl) rfl (fun K hK => ?_)
      refine Kd.N_append_rows_step k59 (w0 := X3) W1.heap.size (by rfl) (.tmp 13) (.tmp 15) 22 59 _ 112 rfl Tryz.underlying22 infoDe rfl (by decide) (by decide) (.slice (some ⟨p0, 0, none⟩) 0 0) [] ps A ps.length c (fun k => okF k ∨ (W1.heap.size ≤ k ∧ k ≠ p8)) okF rfl rfl HN.out (Kd.F_below HPs.out HW.out) (fun k hk => ⟨.inl hk, fun he => by have h1 := HLow.out k hk; have h2 : k = p0 := (by simpa [Value.ownBlock] using he); omega⟩) (fun k hk => .inr (by have := HW.out.size; exact ⟨by omega, by omega⟩)) (Below.refl _ _) HW.out.size (by simp only [List.length_nil]; omega) ?_
      intro v3 X4 hN hB hg hat
      rw [List.nil_append] at hN
      obtain ⟨A3, c3, hv3⟩ := Kd.N_slice hN
      subst hv3
      have hne5 : some p5 ≠ (Value.slice A3 ps.length c3).ownBlock := by
       rcases hat with h | ⟨b, h, hb⟩
       ·rw [h]; intro he; have h2 : p5 = p0 := (by simpa [Value.ownBlock] using he); omega
       ·rw [h]; intro he; have h2 : p5 = b := (by simpa using he); omega
      have T5 := Aside0.mk (blk_grown T5.out hg (fun he => by have h2 : p5 = p0 := (by simpa [Value.ownBlock] using he); omega))
      have T8 := Aside0.mk (blk_grown T8.out hg (fun he => by have h2 : p8 = p0 := (by simpa [Value.ownBlock] using he); omega))
      have HN := Aside0.mk hN
      have HW := Aside0.mk (HW.out.trans hB)
      have hsz := hB.size
      clear hN hB hg hat
      have hSd := ChS.of (blk_below BP.out HW.out) (blk_below BD.out HW.out)
      refine hK.out _ _ (fun _ => hSd) ?_
      clear hK
      refine wpAnyK_one (i := 6) (by kernel_rfl) rfl (fun K hK => ?_)
      refine Kd.N_append_rows_step k59 (w0 := X4) W1.heap.size (by rfl) (.tmp 16) (.tmp 18) 22 59 _ 112 rfl Tryz.underlying22 infoDe rfl (by decide) (by decide) (.slice A3 ps.length c3) ps [d] (some ⟨p5, 0, none⟩) 1 1 (fun k => okF k ∨ (W1.heap.size ≤ k ∧ k ≠ p8)) (fun k => okF k ∨ k = p5) rfl rfl HN.out (one_def T5.out (Kd.FK_below HD.out HW.out)) (fun k hk => ?_) (fun k hk => .inr (by have := HW.out.size; exact ⟨by omega, by omega⟩)) (Below.refl _ _) HW.out.size (by omega) ?_
      ·rcases hk with hk | hk
       ·exact ⟨.inl hk, fun he => by have := Kd.N_base HN.out _ he.symm; have := HLow.out k hk; omega⟩
       ·subst hk; exact ⟨.inr ⟨by omega, by omega⟩, hne5⟩
      intro v6 X5 hN hB hg hat
      rw [HQs.out] at hN
      obtain ⟨A6, c6, hv6⟩ := Kd.N_slice hN
      subst hv6
      have T8 := Aside0.mk (blk_grown T8.out hg (fun he => N_ne_prog HN.out T8.out he))
      have HN := Aside0.mk hN
      have HW := Aside0.mk (HW.out.trans hB)
      have hsz := hB.size
      clear hN hB hg hat
      have hSd := ChS.of (blk_below BP.out HW.out) (blk_below BD.out HW.out)
      refine hK.out _ _ (fun _ => hSd) ?_
      clear hK
      refine wpAnyK_take (i := 7) (v := ?_) rfl (by kernel_rfl) (by kernel_rfl) (by kernel_rfl) (by kernel_rfl) (fun _ _ _ h => h) hSd (Or.inl ⟨by rfl, ?_⟩) ?_
      rotate_left 1
      (intro w hSw; (try dsimp only at hSw); go_simp; try (with_reducible rfl))
      (try dsimp only [Act.put]); (try simp only [List.setIfInBounds_toArray, List.set_cons_zero, List.set_cons_succ])
      have k8 := (blk_cell T8.out 0).trans rfl
      have f8 := blk_frozen T8.out 0
      refine wpAnyK_one (i := 9) (by kernel_rfl) rfl (fun K hK => ?_)
      go_simp
      refine hK.out _ _ (fun h => absurd rfl h) ?_
      clear hK hSd
      refine wpAnyK_done (by kernel_rfl) ?_ _
      clear k8 f8
      go_wp2_with fail
      go_meet
      have hf := Kd.N_far HN.out (p := ⟨p8, 0, none⟩) (fun k hk => by rcases hk with hk | hk; (have := HLow.out k hk; simp only; omega); exact hk.2) (.slice A6 qs.length c6)
      obtain ⟨_, _, he, hc6, _⟩ := Kd.N_reads hf
      cases he
      have hF := Kd.F_mono (Kd.N_F hf) (ok' := fun k => okF k ∨ W1.heap.size ≤ k) (fun k hk => hk.imp id (fun h => h.1))
      exact ⟨p8, A6, c6, rfl, ⟨blk_put T8.out 0 (.slice A6 qs.length c6) rfl⟩, ⟨hc6, hF⟩, ⟨by omega, by have := hp8s; simp only [World.setCell, Array.size_modify]; omega⟩, ⟨HW.out.setCell (by simp only; omega) _⟩⟩
   ·skip
    go_simp
    obtain ⟨X1, hY⟩ : ∃ X1, X0.alloc (.cells #[.string d.f0, .slice D1 d.f1.length e1, .slice D2 d.f2.length e2, .int .i64 d.f3.f0, .string d.f3.f1, .slice D5 d.f3.f2.length e5] 59) = X1 := ⟨_, rfl⟩
    obtain ⟨p5, hp5⟩ : ∃ p5, X0.heap.size = p5 := ⟨_, rfl⟩
    have hb : Below X0.heap.size X0 X1 := by rw [← hY]; exact below_alloc1 _ _
    have hp5s : p5 < X1.heap.size := by rw [← hY, ← hp5]; simp
    have hp5w : W1.heap.size ≤ p5 := by rw [← hp5]; exact HW.out.size
    have hp5l : X0.heap.size ≤ p5 := by rw [← hp5]; exact Nat.le_refl _
    have T5 := Aside0.mk (show X1.heap[p5]? = some (.cells #[.string d.f0, .slice D1 d.f1.length e1, .slice D2 d.f2.length e2, .int .i64 d.f3.f0, .string d.f3.f1, .slice D5 d.f3.f2.length e5] 59 (0, 0)) by rw [← hY, ← hp5]; exact alloc_at _ _)
    rw [hY, hp5]
    have HW := Aside0.mk (HW.out.trans (hb.mono HW.out.size))
    have hsz := hb.size
    clear hb hY hp5
    have hSd := ChS.of (blk_below BP.out HW.out) (blk_below BD.out HW.out)
    refine hK.out _ _ (fun _ => hSd) ?_
    clear hK
    refine wpAnyK_two (i := 0) (j := 8) (by kernel_rfl) rfl rfl (fun K hK => ?_) (fun K hK => ?_)
    ·skip
     go_simp
     obtain ⟨X2, hY⟩ : ∃ X2, X1.alloc (.cells #[] 59) = X2 := ⟨_, rfl⟩
     obtain ⟨p0, hp0⟩ : ∃ p0, X1.heap.size = p0 := ⟨_, rfl⟩
     have hb : Below X1.heap.size X1 X2 := by rw [← hY]; exact below_alloc1 _ _
     have hp0s : p0 < X2.heap.size := by rw [← hY, ← hp0]; simp
     have hp0w : W1.heap.size ≤ p0 := by rw [← hp0]; exact HW.out.size
     have hp0l : X1.heap.size ≤ p0 := by rw [← hp0]; exact Nat.le_refl _
     have hn0 := DefN.new X1 W1.heap.size (fun k => okF k ∨ (W1.heap.size ≤ k ∧ k ≠ w.heap.size)) HW.out.size (by rw [hp0]; exact .inr ⟨by omega, by omega⟩)
     rw [hY, hp0] at hn0
     rw [hY, hp0]
     have HW := Aside0.mk (HW.out.trans (hb.mono HW.out.size))
     have hsz := hb.size
     have T5 := Aside0.mk (blk_below T5.out hb)
     have HN := Aside0.mk hn0
     clear hb hY hp0
     clear hn0
     have hSd := ChS.of (blk_below BP.out HW.out) (blk_below BD.out HW.out)
     refine hK.out _ _ (fun _ => hSd) ?_
     clear hK
     refine wpAnyK_two (i := 3) (j := 8) (by kernel_rfl) rfl rfl (fun K hK => ?_) (fun K hK => ?_)
     ·skip
      refine Kd.N_append_rows_step k59 (w0 := X2) W1.heap.size (by rfl) (.tmp 13) (.tmp 15) 22 59 _ 112 rfl Tryz.underlying22 infoDe rfl (by decide) (by decide) (.slice (some ⟨p0, 0, none⟩) 0 0) [] ps A ps.length c (fun k => okF k ∨ (W1.heap.size ≤ k ∧ k ≠ w.heap.size)) okF rfl rfl HN.out (Kd.F_below HPs.out HW.out) (fun k hk => ⟨.inl hk, fun he => by have h1 := HLow.out k hk; have h2 : k = p0 := (by simpa [Value.ownBlock] using he); omega⟩) (fun k hk => .inr (by have := HW.out.size; exact ⟨by omega, by omega⟩)) (Below.refl _ _) HW.out.size (by simp only [List.length_nil]; omega) ?_
      intro v3 X3 hN hB hg hat
      rw [List.nil_append] at hN
      obtain ⟨A3, c3, hv3⟩ := Kd.N_slice hN
      subst hv3
      have hne5 : some p5 ≠ (Value.slice A3 ps.length c3).ownBlock := by
       rcases hat with h | ⟨b, h, hb⟩
       ·rw [h]; intro he; have h2 : p5 = p0 := (by simpa [Value.ownBlock] using he); omega
       ·rw [h]; intro he; have h2 : p5 = b := (by simpa using he); omega
      have T5 := Aside0.mk (blk_grown T5.out hg (fun he => by have h2 : p5 = p0 := (by simpa [Value.ownBlock] using he); omega))
      have HN := Aside0.mk hN
      have HW := Aside0.mk (HW.out.trans hB)
      have hsz := hB.size
      clear hN hB hg hat
      have hSd := ChS.of (blk_below BP.out HW.out) (blk_below BD.out HW.out)
      refine hK.out _ _ (fun _ => hSd) ?_
      clear hK
      refine wpAnyK_two (i := 6) (j := 8) (by kernel_rfl) rfl rfl (fun K hK => ?_) (fun K hK => ?_)
      ·skip
       refine Kd.N_append_rows_step k59 (w0 := X3) W1.heap.size (by rfl) (.tmp 16) (.tmp 18) 22 59 _ 112 rfl Tryz.underlying22 infoDe rfl (by decide) (by decide) (.slice A3 ps.length c3) ps [d] (some ⟨p5, 0, none⟩) 1 1 (fun k => okF k ∨ (W1.heap.size ≤ k ∧ k ≠ w.heap.size)) (fun k => okF k ∨ k = p5) rfl rfl HN.out (one_def T5.out (Kd.FK_below HD.out HW.out)) (fun k hk => ?_) (fun k hk => .inr (by have := HW.out.size; exact ⟨by omega, by omega⟩)) (Below.refl _ _) HW.out.size (by omega) ?_
       ·rcases hk with hk | hk
        ·exact ⟨.inl hk, fun he => by have := Kd.N_base HN.out _ he.symm; have := HLow.out k hk; omega⟩
        ·subst hk; exact ⟨.inr ⟨by omega, by omega⟩, hne5⟩
       intro v6 X4 hN hB hg hat
       rw [HQs.out] at hN
       obtain ⟨A6, c6, hv6⟩ := Kd.N_slice hN
       subst hv6
       have HN := Aside0.mk hN
       have HW := Aside0.mk (HW.out.trans hB)
       have hsz := hB.size
       clear hN hB hg hat
       have hSd := ChS.of (blk_below BP.out HW.out) (blk_below BD.out HW.out)
       refine hK.out _ _ (fun _ => hSd) ?_
       clear hK
       refine wpAnyK_take (i := 7) (v := ?_) rfl (by kernel_rfl) (by kernel_rfl) (by kernel_rfl) (by kernel_rfl) (fun _ _ _ h => h) hSd (Or.inl ⟨by rfl, ?_⟩) ?_
       rotate_left 1
       (intro w hSw; (try dsimp only at hSw); go_simp; try (with_reducible rfl))
       (try dsimp only [Act.put]); (try simp only [List.setIfInBounds_toArray, List.set_cons_zero, List.set_cons_succ])
       refine wpAnyK_one (i := 8) (by kernel_rfl) rfl (fun K hK => ?_)
       go_simp
       obtain ⟨X5, hY⟩ : ∃ X5, X4.alloc (.cells #[.slice none 0 0] 24) = X5 := ⟨_, rfl⟩
       obtain ⟨p8, hp8⟩ : ∃ p8, X4.heap.size = p8 := ⟨_, rfl⟩
       have hb : Below X4.heap.size X4 X5 := by rw [← hY]; exact below_alloc1 _ _
       have hp8s : p8 < X5.heap.size := by rw [← hY, ← hp8]; simp
       have hp8w : W1.heap.size ≤ p8 := by rw [← hp8]; exact HW.out.size
       have hp8l : X4.heap.size ≤ p8 := by rw [← hp8]; exact Nat.le_refl _
       have T8 := Aside0.mk (show PBox p8 none 0 0 X5 by rw [← hY, ← hp8]; exact alloc_at _ _)
       have HN := Aside0.mk (Kd.N_mono (Kd.N_bound HN.out) (ok' := (fun k => okF k ∨ (W1.heap.size ≤ k ∧ k ≠ p8))) (fun k hk => hk.1.imp id (fun h => ⟨h.1, by have := hk.2; omega⟩)))
       rw [hY, hp8]
       have HW := Aside0.mk (HW.out.trans (hb.mono HW.out.size))
       have hsz := hb.size
       have HN := Aside0.mk (Kd.N_below HN.out hb)
       clear hb hY hp8
       have hSd := ChS.of (blk_below BP.out HW.out) (blk_below BD.out HW.out)
       refine hK.out _ _ (fun _ => hSd) ?_
       clear hK
       have k8 := (blk_cell T8.out 0).trans rfl
       have f8 := blk_frozen T8.out 0
       refine wpAnyK_one (i := 9) (by kernel_rfl) rfl (fun K hK => ?_)
       go_simp
       refine hK.out _ _ (fun h => absurd rfl h) ?_
       clear hK hSd
       refine wpAnyK_done (by kernel_rfl) ?_ _
       clear k8 f8
       go_wp2_with fail
       go_meet
       have hf := Kd.N_far HN.out (p := ⟨p8, 0, none⟩) (fun k hk => by rcases hk with hk | hk; (have := HLow.out k hk; simp only; omega); exact hk.2) (.slice A6 qs.length c6)
       obtain ⟨_, _, he, hc6, _⟩ := Kd.N_reads hf
       cases he
       have hF := Kd.F_mono (Kd.N_F hf) (ok' := fun k => okF k ∨ W1.heap.size ≤ k) (fun k hk => hk.imp id (fun h => h.1))
       exact ⟨p8, A6, c6, rfl, ⟨blk_put T8.out 0 (.slice A6 qs.length c6) rfl⟩, ⟨hc6, hF⟩, ⟨by omega, by have := hp8s; simp only [World.setCell, Array.size_modify]; omega⟩, ⟨HW.out.setCell (by simp only; omega) _⟩⟩
      ·skip
       go_simp
       obtain ⟨X4, hY⟩ : ∃ X4, X3.alloc (.cells #[.slice none 0 0] 24) = X4 := ⟨_, rfl⟩
       obtain ⟨p8, hp8⟩ : ∃ p8, X3.heap.size = p8 := ⟨_, rfl⟩
       have hb : Below X3.heap.size X3 X4 := by rw [← hY]; exact below_alloc1 _ _
       have hp8s : p8 < X4.heap.size := by rw [← hY, ← hp8]; simp
       have hp8w : W1.heap.size ≤ p8 := by rw [← hp8]; exact HW.out.size
       have hp8l : X3.heap.size ≤ p8 := by rw [← hp8]; exact Nat.le_refl _
       have T8 := Aside0.mk (show PBox p8 none 0 0 X4 by rw [← hY, ← hp8]; exact alloc_at _ _)
       have HN := Aside0.mk (Kd.N_mono (Kd.N_bound HN.out) (ok' := (fun k => okF k ∨ (W1.heap.size ≤ k ∧ k ≠ p8))) (fun k hk => hk.1.imp id (fun h => ⟨h.1, by have := hk.2; omega⟩)))
       rw [hY, hp8]
       have HW := Aside0.mk (HW.out.trans (hb.mono HW.out.size))
       have hsz := hb.size
       have HN := Aside0.mk (Kd.N_below HN.out hb)
       have T5 := Aside0.mk (blk_below T5.out hb)
       clear hb hY hp8
       have hSd := ChS.of (blk_below BP.out HW.out) (blk_below BD.out HW.out)
       refine hK.out _ _ (fun _ => hSd) ?_
       clear hK
       refine wpAnyK_one (i := 6) (by kernel_rfl) rfl (fun K hK => ?_)
       refine Kd.N_append_rows_step k59 (w0 := X4) W1.heap.size (by rfl) (.tmp 16) (.tmp 18) 22 59 _ 112 rfl Tryz.underlying22 infoDe rfl (by decide) (by decide) (.slice A3 ps.length c3) ps [d] (some ⟨p5, 0, none⟩) 1 1 (fun k => okF k ∨ (W1.heap.size ≤ k ∧ k ≠ p8)) (fun k => okF k ∨ k = p5) rfl rfl HN.out (one_def T5.out (Kd.FK_below HD.out HW.out)) (fun k hk => ?_) (fun k hk => .inr (by have := HW.out.size; exact ⟨by omega, by omega⟩)) (Below.refl _ _) HW.out.size (by omega) ?_
       ·rcases hk with hk | hk
        ·exact ⟨.inl hk, fun he => by have := Kd.N_base HN.out _ he.symm; have := HLow.out k hk; omega⟩
        ·subst hk; exact ⟨.inr ⟨by omega, by omega⟩, hne5⟩
       intro v6 X5 hN hB hg hat
       rw [HQs.out] at hN
       obtain ⟨A6, c6, hv6⟩ := Kd.N_slice hN
       subst hv6
       have T8 := Aside0.mk (blk_grown T8.out hg (fun he => N_ne_prog HN.out T8.out he))
       have HN := Aside0.mk hN
       have HW := Aside0.mk (HW.out.trans hB)
       have hsz := hB.size
       clear hN hB hg hat
       have hSd := ChS.of (blk_below BP.out HW.out) (blk_below BD.out HW.out)
       refine hK.out _ _ (fun _ => hSd) ?_
       clear hK
       refine wpAnyK_take (i := 7) (v := ?_) rfl (by kernel_rfl) (by kernel_rfl) (by kernel_rfl) (by kernel_rfl) (fun _ _ _ h => h) hSd (Or.inl ⟨by rfl, ?_⟩) ?_
       rotate_left 1
       (intro w hSw; (try dsimp only at hSw); go_simp; try (with_reducible rfl))
       (try dsimp only [Act.put]); (try simp only [List.setIfInBounds_toArray, List.set_cons_zero, List.set_cons_succ])
       have k8 := (blk_cell T8.out 0).trans rfl
       have f8 := blk_frozen T8.out 0
       refine wpAnyK_one (i := 9) (by kernel_rfl) rfl (fun K hK => ?_)
       go_simp
       refine hK.out _ _ (fun h => absurd rfl h) ?_
       clear hK hSd
       refine wpAnyK_done (by kernel_rfl) ?_ _
       clear k8 f8
       go_wp2_with fail
       go_meet
       have hf := Kd.N_far HN.out (p := ⟨p8, 0, none⟩) (fun k hk => by rcases hk with hk | hk; (have := HLow.out k hk; simp only; omega); exact hk.2) (.slice A6 qs.length c6)
       obtain ⟨_, _, he, hc6, _⟩ := Kd.N_reads hf
       cases he
       have hF := Kd.F_mono (Kd.N_F hf) (ok' := fun k => okF k ∨ W1.heap.size ≤ k) (fun k hk => hk.imp id (fun h => h.1))
       exact ⟨p8, A6, c6, rfl, ⟨blk_put T8.out 0 (.slice A6 qs.length c6) rfl⟩, ⟨hc6, hF⟩, ⟨by omega, by have := hp8s; simp only [World.setCell, Array.size_modify]; omega⟩, ⟨HW.out.setCell (by simp only; omega) _⟩⟩
     ·skip
      go_simp
      obtain ⟨X3, hY⟩ : ∃ X3, X2.alloc (.cells #[.slice none 0 0] 24) = X3 := ⟨_, rfl⟩
      obtain ⟨p8, hp8⟩ : ∃ p8, X2.heap.size = p8 := ⟨_, rfl⟩
      have hb : Below X2.heap.size X2 X3 := by rw [← hY]; exact below_alloc1 _ _
      have hp8s : p8 < X3.heap.size := by rw [← hY, ← hp8]; simp
      have hp8w : W1.heap.size ≤ p8 := by rw [← hp8]; exact HW.out.size
      have hp8l : X2.heap.size ≤ p8 := by rw [← hp8]; exact Nat.le_refl _
      have T8 := Aside0.mk (show PBox p8 none 0 0 X3 by rw [← hY, ← hp8]; exact alloc_at _ _)
      have HN := Aside0.mk (Kd.N_mono (Kd.N_bound HN.out) (ok' := (fun k => okF k ∨ (W1.heap.size ≤ k ∧ k ≠ p8))) (fun k hk => hk.1.imp id (fun h => ⟨h.1, by have := hk.2; omega⟩)))
      rw [hY, hp8]
      have HW := Aside0.mk (HW.out.trans (hb.mono HW.out.size))
      have hsz := hb.size
      have HN := Aside0.mk (Kd.N_below HN.out hb)
      have T5 := Aside0.mk (blk_below T5.out hb)
      clear hb hY hp8
      have hSd := ChS.of (blk_below BP.out HW.out) (blk_below BD.out HW.out)
      refine hK.out _ _ (fun _ => hSd) ?_
      clear hK
      refine wpAnyK_one (i := 3) (by kernel_rfl) rfl (fun K hK => ?_)
      refine Kd.N_append_rows_step k59 (w0 := X3) W1.heap.size (by rfl) (.tmp 13) (.tmp 15) 22 59 _ 112 rfl Tryz.underlying22 infoDe rfl (by decide) (by decide) (.slice (some ⟨p0, 0, none⟩) 0 0) [] ps A ps.length c (fun k => okF k ∨ (W1.heap.size ≤ k ∧ k ≠ p8)) okF rfl rfl HN.out (Kd.F_below HPs.out HW.out) (fun k hk => ⟨.inl hk, fun he => by have h1 := HLow.out k hk; have h2 : k = p0 := (by simpa [Value.ownBlock] using he); omega⟩) (fun k hk => .inr (by have := HW.out.size; exact ⟨by omega, by omega⟩)) (Below.refl _ _) HW.out.size (by simp only [List.length_nil]; omega) ?_
      intro v3 X4 hN hB hg hat
      rw [List.nil_append] at hN
      obtain ⟨A3, c3, hv3⟩ := Kd.N_slice hN
      subst hv3
      have hne5 : some p5 ≠ (Value.slice A3 ps.length c3).ownBlock := by
       rcases hat with h | ⟨b, h, hb⟩
       ·rw [h]; intro he; have h2 : p5 = p0 := (by simpa [Value.ownBlock] using he); omega
       ·rw [h]; intro he; have h2 : p5 = b := (by simpa using he); omega
      have T5 := Aside0.mk (blk_grown T5.out hg (fun he => by have h2 : p5 = p0 := (by simpa [Value.ownBlock] using he); omega))
      have T8 := Aside0.mk (blk_grown T8.out hg (fun he => by have h2 : p8 = p0 := (by simpa [Value.ownBlock] using he); omega))
      have HN := Aside0.mk hN
      have HW := Aside0.mk (HW.out.trans hB)
      have hsz := hB.size
      clear hN hB hg hat
      have hSd := ChS.of (blk_below BP.out HW.out) (blk_below BD.out HW.out)
      refine hK.out _ _ (fun _ => hSd) ?_
      clear hK
      refine wpAnyK_one (i := 6) (by kernel_rfl) rfl (fun K hK => ?_)
      refine Kd.N_append_rows_step k59 (w0 := X4) W1.heap.size (by rfl) (.tmp 16) (.tmp 18) 22 59 _ 112 rfl Tryz.underlying22 infoDe rfl (by decide) (by decide) (.slice A3 ps.length c3) ps [d] (some ⟨p5, 0, none⟩) 1 1 (fun k => okF k ∨ (W1.heap.size ≤ k ∧ k ≠ p8)) (fun k => okF k ∨ k = p5) rfl rfl HN.out (one_def T5.out (Kd.FK_below HD.out HW.out)) (fun k hk => ?_) (fun k hk => .inr (by have := HW.out.size; exact ⟨by omega, by omega⟩)) (Below.refl _ _) HW.out.size (by omega) ?_
      ·rcases hk with hk | hk
       ·exact ⟨.inl hk, fun he => by have := Kd.N_base HN.out _ he.symm; have := HLow.out k hk; omega⟩
       ·subst hk; exact ⟨.inr ⟨by omega, by omega⟩, hne5⟩
      intro v6 X5 hN hB hg hat
      rw [HQs.out] at hN
      obtain ⟨A6, c6, hv6⟩ := Kd.N_slice hN
      subst hv6
      have T8 := Aside0.mk (blk_grown T8.out hg (fun he => N_ne_prog HN.out T8.out he))
      have HN := Aside0.mk hN
      have HW := Aside0.mk (HW.out.trans hB)
      have hsz := hB.size
      clear hN hB hg hat
      have hSd := ChS.of (blk_below BP.out HW.out) (blk_below BD.out HW.out)
      refine hK.out _ _ (fun _ => hSd) ?_
      clear hK
      refine wpAnyK_take (i := 7) (v := ?_) rfl (by kernel_rfl) (by kernel_rfl) (by kernel_rfl) (by kernel_rfl) (fun _ _ _ h => h) hSd (Or.inl ⟨by rfl, ?_⟩) ?_
      rotate_left 1
      (intro w hSw; (try dsimp only at hSw); go_simp; try (with_reducible rfl))
      (try dsimp only [Act.put]); (try simp only [List.setIfInBounds_toArray, List.set_cons_zero, List.set_cons_succ])
      have k8 := (blk_cell T8.out 0).trans rfl
      have f8 := blk_frozen T8.out 0
      refine wpAnyK_one (i := 9) (by kernel_rfl) rfl (fun K hK => ?_)
      go_simp
      refine hK.out _ _ (fun h => absurd rfl h) ?_
      clear hK hSd
      refine wpAnyK_done (by kernel_rfl) ?_ _
      clear k8 f8
      go_wp2_with fail
      go_meet
      have hf := Kd.N_far HN.out (p := ⟨p8, 0, none⟩) (fun k hk => by rcases hk with hk | hk; (have := HLow.out k hk; simp only; omega); exact hk.2) (.slice A6 qs.length c6)
      obtain ⟨_, _, he, hc6, _⟩ := Kd.N_reads hf
      cases he
      have hF := Kd.F_mono (Kd.N_F hf) (ok' := fun k => okF k ∨ W1.heap.size ≤ k) (fun k hk => hk.imp id (fun h => h.1))
      exact ⟨p8, A6, c6, rfl, ⟨blk_put T8.out 0 (.slice A6 qs.length c6) rfl⟩, ⟨hc6, hF⟩, ⟨by omega, by have := hp8s; simp only [World.setCell, Array.size_modify]; omega⟩, ⟨HW.out.setCell (by simp only; omega) _⟩⟩
    ·skip
     go_simp
     obtain ⟨X2, hY⟩ : ∃ X2, X1.alloc (.cells #[.slice none 0 0] 24) = X2 := ⟨_, rfl⟩
     obtain ⟨p8, hp8⟩ : ∃ p8, X1.heap.size = p8 := ⟨_, rfl⟩
     have hb : Below X1.heap.size X1 X2 := by rw [← hY]; exact below_alloc1 _ _
     have hp8s : p8 < X2.heap.size := by rw [← hY, ← hp8]; simp
     have hp8w : W1.heap.size ≤ p8 := by rw [← hp8]; exact HW.out.size
     have hp8l : X1.heap.size ≤ p8 := by rw [← hp8]; exact Nat.le_refl _
     have T8 := Aside0.mk (show PBox p8 none 0 0 X2 by rw [← hY, ← hp8]; exact alloc_at _ _)
     rw [hY, hp8]
     have HW := Aside0.mk (HW.out.trans (hb.mono HW.out.size))
     have hsz := hb.size
     have T5 := Aside0.mk (blk_below T5.out hb)
     clear hb hY hp8
     have hSd := ChS.of (blk_below BP.out HW.out) (blk_below BD.out HW.out)
     refine hK.out _ _ (fun _ => hSd) ?_
     clear hK
     refine wpAnyK_one (i := 0) (by kernel_rfl) rfl (fun K hK => ?_)
     go_simp
     obtain ⟨X3, hY⟩ : ∃ X3, X2.alloc (.cells #[] 59) = X3 := ⟨_, rfl⟩
     obtain ⟨p0, hp0⟩ : ∃ p0, X2.heap.size = p0 := ⟨_, rfl⟩
     have hb : Below X2.heap.size X2 X3 := by rw [← hY]; exact below_alloc1 _ _
     have hp0s : p0 < X3.heap.size := by rw [← hY, ← hp0]; simp
     have hp0w : W1.heap.size ≤ p0 := by rw [← hp0]; exact HW.out.size
     have hp0l : X2.heap.size ≤ p0 := by rw [← hp0]; exact Nat.le_refl _
     have hn0 := DefN.new X2 W1.heap.size (fun k => okF k ∨ (W1.heap.size ≤ k ∧ k ≠ p8)) HW.out.size (by rw [hp0]; exact .inr ⟨by omega, by omega⟩)
     rw [hY, hp0] at hn0
     rw [hY, hp0]
     have HW := Aside0.mk (HW.out.trans (hb.mono HW.out.size))
     have hsz := hb.size
     have T5 := Aside0.mk (blk_below T5.out hb)
     have T8 := Aside0.mk (blk_below T8.out hb)
     have HN := Aside0.mk hn0
     clear hb hY hp0
     clear hn0
     have hSd := ChS.of (blk_below BP.out HW.out) (blk_below BD.out HW.out)
     refine hK.out _ _ (fun _ => hSd) ?_
     clear hK
     refine wpAnyK_one (i := 3) (by kernel_rfl) rfl (fun K hK => ?_)
     refine Kd.N_append_rows_step k59 (w0 := X3) W1.heap.size (by rfl) (.tmp 13) (.tmp 15) 22 59 _ 112 rfl Tryz.underlying22 infoDe rfl (by decide) (by decide) (.slice (some ⟨p0, 0, none⟩) 0 0) [] ps A ps.length c (fun k => okF k ∨ (W1.heap.size ≤ k ∧ k ≠ p8)) okF rfl rfl HN.out (Kd.F_below HPs.out HW.out) (fun k hk => ⟨.inl hk, fun he => by have h1 := HLow.out k hk; have h2 : k = p0 := (by simpa [Value.ownBlock] using he); omega⟩) (fun k hk => .inr (by have := HW.out.size; exact ⟨by omega, by omega⟩)) (Below.refl _ _) HW.out.size (by simp only [List.length_nil]; omega) ?_
     intro v3 X4 hN hB hg hat
     rw [List.nil_append] at hN
     obtain ⟨A3, c3, hv3⟩ := Kd.N_slice hN
     subst hv3
     have hne5 : some p5 ≠ (Value.slice A3 ps.length c3).ownBlock := by
      rcases hat with h | ⟨b, h, hb⟩
      ·rw [h]; intro he; have h2 : p5 = p0 := (by simpa [Value.ownBlock] using he); omega
      ·rw [h]; intro he; have h2 : p5 = b := (by simpa using he); omega
     have T5 := Aside0.mk (blk_grown T5.out hg (fun he => by have h2 : p5 = p0 := (by simpa [Value.ownBlock] using he); omega))
     have T8 := Aside0.mk (blk_grown T8.out hg (fun he => by have h2 : p8 = p0 := (by simpa [Value.ownBlock] using he); omega))
     have HN := Aside0.mk hN
     have HW := Aside0.mk (HW.out.trans hB)
     have hsz := hB.size
     clear hN hB hg hat
     have hSd := ChS.of (blk_below BP.out HW.out) (blk_below BD.out HW.out)
     refine hK.out _ _ (fun _ => hSd) ?_
     clear hK
     refine wpAnyK_one (i := 6) (by kernel_rfl) rfl (fun K hK => ?_)
     refine Kd.N_append_rows_step k59 (w0 := X4) W1.heap.size (by rfl) (.tmp 16) (.tmp 18) 22 59 _ 112 rfl Tryz.underlying22 infoDe rfl (by decide) (by decide) (.slice A3 ps.length c3) ps [d] (some ⟨p5, 0, none⟩) 1 1 (fun k => okF k ∨ (W1.heap.size ≤ k ∧ k ≠ p8)) (fun k => okF k ∨ k = p5) rfl rfl HN.out (one_def T5.out (Kd.FK_below HD.out HW.out)) (fun k hk => ?_) (fun k hk => .inr (by have := HW.out.size; exact ⟨by omega, by omega⟩)) (Below.refl _ _) HW.out.size (by omega) ?_
     ·rcases hk with hk | hk
      ·exact ⟨.inl hk, fun he => by have := Kd.N_base HN.out _ he.symm; have := HLow.out k hk; omega⟩
      ·subst hk; exact ⟨.inr ⟨by omega, by omega⟩, hne5⟩
     intro v6 X5 hN hB hg hat
     rw [HQs.out] at hN
     obtain ⟨A6, c6, hv6⟩ := Kd.N_slice hN
     subst hv6
     have T8 := Aside0.mk (blk_grown T8.out hg (fun he => N_ne_prog HN.out T8.out he))
     have HN := Aside0.mk hN
     have HW := Aside0.mk (HW.out.trans hB)
     have hsz := hB.size
     clear hN hB hg hat
     have hSd := ChS.of (blk_below BP.out HW.out) (blk_below BD.out HW.out)
     refine hK.out _ _ (fun _ => hSd) ?_
     clear hK
     refine wpAnyK_take (i := 7) (v := ?_) rfl (by kernel_rfl) (by kernel_rfl) (by kernel_rfl) (by kernel_rfl) (fun _ _ _ h => h) hSd (Or.inl ⟨by rfl, ?_⟩) ?_
     rotate_left 1
     (intro w hSw; (try dsimp only at hSw); go_simp; try (with_reducible rfl))
     (try dsimp only [Act.put]); (try simp only [List.setIfInBounds_toArray, List.set_cons_zero, List.set_cons_succ])
     have k8 := (blk_cell T8.out 0).trans rfl
     have f8 := blk_frozen T8.out 0
     refine wpAnyK_one (i := 9) (by kernel_rfl) rfl (fun K hK => ?_)
     go_simp
     refine hK.out _ _ (fun h => absurd rfl h) ?_
     clear hK hSd
     refine wpAnyK_done (by kernel_rfl) ?_ _
     clear k8 f8
     go_wp2_with fail
     go_meet
     have hf := Kd.N_far HN.out (p := ⟨p8, 0, none⟩) (fun k hk => by rcases hk with hk | hk; (have := HLow.out k hk; simp only; omega); exact hk.2) (.slice A6 qs.length c6)
     obtain ⟨_, _, he, hc6, _⟩ := Kd.N_reads hf
     cases he
     have hF := Kd.F_mono (Kd.N_F hf) (ok' := fun k => okF k ∨ W1.heap.size ≤ k) (fun k hk => hk.imp id (fun h => h.1))
     exact ⟨p8, A6, c6, rfl, ⟨blk_put T8.out 0 (.slice A6 qs.length c6) rfl⟩, ⟨hc6, hF⟩, ⟨by omega, by have := hp8s; simp only [World.setCell, Array.size_modify]; omega⟩, ⟨HW.out.setCell (by simp only; omega) _⟩⟩
   ·skip
    go_simp
    obtain ⟨X1, hY⟩ : ∃ X1, X0.alloc (.cells #[.slice none 0 0] 24) = X1 := ⟨_, rfl⟩
    obtain ⟨p8, hp8⟩ : ∃ p8, X0.heap.size = p8 := ⟨_, rfl⟩
    have hb : Below X0.heap.size X0 X1 := by rw [← hY]; exact below_alloc1 _ _
    have hp8s : p8 < X1.heap.size := by rw [← hY, ← hp8]; simp
    have hp8w : W1.heap.size ≤ p8 := by rw [← hp8]; exact HW.out.size
    have hp8l : X0.heap.size ≤ p8 := by rw [← hp8]; exact Nat.le_refl _
    have T8 := Aside0.mk (show PBox p8 none 0 0 X1 by rw [← hY, ← hp8]; exact alloc_at _ _)
    rw [hY, hp8]
    have HW := Aside0.mk (HW.out.trans (hb.mono HW.out.size))
    have hsz := hb.size
    clear hb hY hp8
    have hSd := ChS.of (blk_below BP.out HW.out) (blk_below BD.out HW.out)
    refine hK.out _ _ (fun _ => hSd) ?_
    clear hK
    refine wpAnyK_two (i := 0) (j := 5) (by kernel_rfl) rfl rfl (fun K hK => ?_) (fun K hK => ?_)
    ·skip
     go_simp
     obtain ⟨X2, hY⟩ : ∃ X2, X1.alloc (.cells #[] 59) = X2 := ⟨_, rfl⟩
     obtain ⟨p0, hp0⟩ : ∃ p0, X1.heap.size = p0 := ⟨_, rfl⟩
     have hb : Below X1.heap.size X1 X2 := by rw [← hY]; exact below_alloc1 _ _
     have hp0s : p0 < X2.heap.size := by rw [← hY, ← hp0]; simp
     have hp0w : W1.heap.size ≤ p0 := by rw [← hp0]; exact HW.out.size
     have hp0l : X1.heap.size ≤ p0 := by rw [← hp0]; exact Nat.le_refl _
     have hn0 := DefN.new X1 W1.heap.size (fun k => okF k ∨ (W1.heap.size ≤ k ∧ k ≠ p8)) HW.out.size (by rw [hp0]; exact .inr ⟨by omega, by omega⟩)
     rw [hY, hp0] at hn0
     rw [hY, hp0]
     have HW := Aside0.mk (HW.out.trans (hb.mono HW.out.size))
     have hsz := hb.size
     have T8 := Aside0.mk (blk_below T8.out hb)
     have HN := Aside0.mk hn0
     clear hb hY hp0
     clear hn0
     have hSd := ChS.of (blk_below BP.out HW.out) (blk_below BD.out HW.out)
     refine hK.out _ _ (fun _ => hSd) ?_
     clear hK
     refine wpAnyK_two (i := 3) (j := 5) (by kernel_rfl) rfl rfl (fun K hK => ?_) (fun K hK => ?_)
     ·skip
      refine Kd.N_append_rows_step k59 (w0 := X2) W1.heap.size (by rfl) (.tmp 13) (.tmp 15) 22 59 _ 112 rfl Tryz.underlying22 infoDe rfl (by decide) (by decide) (.slice (some ⟨p0, 0, none⟩) 0 0) [] ps A ps.length c (fun k => okF k ∨ (W1.heap.size ≤ k ∧ k ≠ p8)) okF rfl rfl HN.out (Kd.F_below HPs.out HW.out) (fun k hk => ⟨.inl hk, fun he => by have h1 := HLow.out k hk; have h2 : k = p0 := (by simpa [Value.ownBlock] using he); omega⟩) (fun k hk => .inr (by have := HW.out.size; exact ⟨by omega, by omega⟩)) (Below.refl _ _) HW.out.size (by simp only [List.length_nil]; omega) ?_
      intro v3 X3 hN hB hg hat
      rw [List.nil_append] at hN
      obtain ⟨A3, c3, hv3⟩ := Kd.N_slice hN
      subst hv3
      have T8 := Aside0.mk (blk_grown T8.out hg (fun he => by have h2 : p8 = p0 := (by simpa [Value.ownBlock] using he); omega))
      have HN := Aside0.mk hN
      have HW := Aside0.mk (HW.out.trans hB)
      have hsz := hB.size
      clear hN hB hg hat
      have hSd := ChS.of (blk_below BP.out HW.out) (blk_below BD.out HW.out)
      refine hK.out _ _ (fun _ => hSd) ?_
      clear hK
      refine wpAnyK_one (i := 5) (by kernel_rfl) rfl (fun K hK => ?_)
      go_simp
      obtain ⟨X4, hY⟩ : ∃ X4, X3.alloc (.cells #[.string d.f0, .slice D1 d.f1.length e1, .slice D2 d.f2.length e2, .int .i64 d.f3.f0, .string d.f3.f1, .slice D5 d.f3.f2.length e5] 59) = X4 := ⟨_, rfl⟩
      obtain ⟨p5, hp5⟩ : ∃ p5, X3.heap.size = p5 := ⟨_, rfl⟩
      have hb : Below X3.heap.size X3 X4 := by rw [← hY]; exact below_alloc1 _ _
      have hp5s : p5 < X4.heap.size := by rw [← hY, ← hp5]; simp
      have hp5w : W1.heap.size ≤ p5 := by rw [← hp5]; exact HW.out.size
      have hp5l : X3.heap.size ≤ p5 := by rw [← hp5]; exact Nat.le_refl _
      have T5 := Aside0.mk (show X4.heap[p5]? = some (.cells #[.string d.f0, .slice D1 d.f1.length e1, .slice D2 d.f2.length e2, .int .i64 d.f3.f0, .string d.f3.f1, .slice D5 d.f3.f2.length e5] 59 (0, 0)) by rw [← hY, ← hp5]; exact alloc_at _ _)
      have hne5 : some p5 ≠ (Value.slice A3 ps.length c3).ownBlock := fun he => by have := Kd.N_lt HN.out _ he.symm; omega
      rw [hY, hp5]
      have HW := Aside0.mk (HW.out.trans (hb.mono HW.out.size))
      have hsz := hb.size
      have HN := Aside0.mk (Kd.N_below HN.out hb)
      have T8 := Aside0.mk (blk_below T8.out hb)
      clear hb hY hp5
      have hSd := ChS.of (blk_below BP.out HW.out) (blk_below BD.out HW.out)
      refine hK.out _ _ (fun _ => hSd) ?_
      clear hK
      refine wpAnyK_one (i := 6) (by kernel_rfl) rfl (fun K hK => ?_)
      refine Kd.N_append_rows_step k59 (w0 := X4) W1.heap.size (by rfl) (.tmp 16) (.tmp 18) 22 59 _ 112 rfl Tryz.underlying22 infoDe rfl (by decide) (by decide) (.slice A3 ps.length c3) ps [d] (some ⟨p5, 0, none⟩) 1 1 (fun k => okF k ∨ (W1.heap.size ≤ k ∧ k ≠ p8)) (fun k => okF k ∨ k = p5) rfl rfl HN.out (one_def T5.out (Kd.FK_below HD.out HW.out)) (fun k hk => ?_) (fun k hk => .inr (by have := HW.out.size; exact ⟨by omega, by omega⟩)) (Below.refl _ _) HW.out.size (by omega) ?_
      ·rcases hk with hk | hk
       ·exact ⟨.inl hk, fun he => by have := Kd.N_base HN.out _ he.symm; have := HLow.out k hk; omega⟩
       ·subst hk; exact ⟨.inr ⟨by omega, by omega⟩, hne5⟩
      intro v6 X5 hN hB hg hat
      rw [HQs.out] at hN
      obtain ⟨A6, c6, hv6⟩ := Kd.N_slice hN
      subst hv6
      have T8 := Aside0.mk (blk_grown T8.out hg (fun he => N_ne_prog HN.out T8.out he))
      have HN := Aside0.mk hN
      have HW := Aside0.mk (HW.out.trans hB)
      have hsz := hB.size
      clear hN hB hg hat
      have hSd := ChS.of (blk_below BP.out HW.out) (blk_below BD.out HW.out)
      refine hK.out _ _ (fun _ => hSd) ?_
      clear hK
      refine wpAnyK_take (i := 7) (v := ?_) rfl (by kernel_rfl) (by kernel_rfl) (by kernel_rfl) (by kernel_rfl) (fun _ _ _ h => h) hSd (Or.inl ⟨by rfl, ?_⟩) ?_
      rotate_left 1
      (intro w hSw; (try dsimp only at hSw); go_simp; try (with_reducible rfl))
      (try dsimp only [Act.put]); (try simp only [List.setIfInBounds_toArray, List.set_cons_zero, List.set_cons_succ])
      have k8 := (blk_cell T8.out 0).trans rfl
      have f8 := blk_frozen T8.out 0
      refine wpAnyK_one (i := 9) (by kernel_rfl) rfl (fun K hK => ?_)
      go_simp
      refine hK.out _ _ (fun h => absurd rfl h) ?_
      clear hK hSd
      refine wpAnyK_done (by kernel_rfl) ?_ _
      clear k8 f8
      go_wp2_with fail
      go_meet
      have hf := Kd.N_far HN.out (p := ⟨p8, 0, none⟩) (fun k hk => by rcases hk with hk | hk; (have := HLow.out k hk; simp only; omega); exact hk.2) (.slice A6 qs.length c6)
      obtain ⟨_, _, he, hc6, _⟩ := Kd.N_reads hf
      cases he
      have hF := Kd.F_mono (Kd.N_F hf) (ok' := fun k => okF k ∨ W1.heap.size ≤ k) (fun k hk => hk.imp id (fun h => h.1))
      exact ⟨p8, A6, c6, rfl, ⟨blk_put T8.out 0 (.slice A6 qs.length c6) rfl⟩, ⟨hc6, hF⟩, ⟨by omega, by have := hp8s; simp only [World.setCell, Array.size_modify]; omega⟩, ⟨HW.out.setCell (by simp only; omega) _⟩⟩
     ·skip
      go_simp
      obtain ⟨X3, hY⟩ : ∃ X3, X2.alloc (.cells #[.string d.f0, .slice D1 d.f1.length e1, .slice D2 d.f2.length e2, .int .i64 d.f3.f0, .string d.f3.f1, .slice D5 d.f3.f2.length e5] 59) = X3 := ⟨_, rfl⟩
      obtain ⟨p5, hp5⟩ : ∃ p5, X2.heap.size = p5 := ⟨_, rfl⟩
      have hb : Below X2.heap.size X2 X3 := by rw [← hY]; exact below_alloc1 _ _
      have hp5s : p5 < X3.heap.size := by rw [← hY, ← hp5]; simp
      have hp5w : W1.heap.size ≤ p5 := by rw [← hp5]; exact HW.out.size
      have hp5l : X2.heap.size ≤ p5 := by rw [← hp5]; exact Nat.le_refl _
      have T5 := Aside0.mk (show X3.heap[p5]? = some (.cells #[.string d.f0, .slice D1 d.f1.length e1, .slice D2 d.f2.length e2, .int .i64 d.f3.f0, .string d.f3.f1, .slice D5 d.f3.f2.length e5] 59 (0, 0)) by rw [← hY, ← hp5]; exact alloc_at _ _)
      rw [hY, hp5]
      have HW := Aside0.mk (HW.out.trans (hb.mono HW.out.size))
      have hsz := hb.size
      have HN := Aside0.mk (Kd.N_below HN.out hb)
      have T8 := Aside0.mk (blk_below T8.out hb)
      clear hb hY hp5
      have hSd := ChS.of (blk_below BP.out HW.out) (blk_below BD.out HW.out)
      refine hK.out _ _ (fun _ => hSd) ?_
      clear hK
      refine wpAnyK_one (i := 3) (by kernel_rfl) rfl (fun K hK => ?_)
      refine Kd.N_append_rows_step k59 (w0 := X3) W1.heap.size (by rfl) (.tmp 13) (.tmp 15) 22 59 _ 112 rfl Tryz.underlying22 infoDe rfl (by decide) (by decide) (.slice (some ⟨p0, 0, none⟩) 0 0) [] ps A ps.length c (fun k => okF k ∨ (W1.heap.size ≤ k ∧ k ≠ p8)) okF rfl rfl HN.out (Kd.F_below HPs.out HW.out) (fun k hk => ⟨.inl hk, fun he => by have h1 := HLow.out k hk; have h2 : k = p0 := (by simpa [Value.ownBlock] using he); omega⟩) (fun k hk => .inr (by have := HW.out.size; exact ⟨by omega, by omega⟩)) (Below.refl _ _) HW.out.size (by simp only [List.length_nil]; omega) ?_
      intro v3 X4 hN hB hg hat
      rw [List.nil_append] at hN
      obtain ⟨A3, c3, hv3⟩ := Kd.N_slice hN
      subst hv3
      have hne5 : some p5 ≠ (Value.slice A3 ps.length c3).ownBlock := by
       rcases hat with h | ⟨b, h, hb⟩
       ·rw [h]; intro he; have h2 : p5 = p0 := (by simpa [Value.ownBlock] using he); omega
       ·rw [h]; intro he; have h2 : p5 = b := (by simpa using he); omega
      have T5 := Aside0.mk (blk_grown T5.out hg (fun he => by have h2 : p5 = p0 := (by simpa [Value.ownBlock] using he); omega))
      have T8 := Aside0.mk (blk_grown T8.out hg (fun he => by have h2 : p8 = p0 := (by simpa [Value.ownBlock] using he); omega))
      have HN := Aside0.mk hN
      have HW := Aside0.mk (HW.out.trans hB)
      have hsz := hB.size
      clear hN hB hg hat
      have hSd := ChS.of (blk_below BP.out HW.out) (blk_below BD.out HW.out)
      refine hK.out _ _ (fun _ => hSd) ?_
      clear hK
      refine wpAnyK_one (i := 6) (by kernel_rfl) rfl (fun K hK => ?_)
      refine Kd.N_append_rows_step k59 (w0 := X4) W1.heap.size (by rfl) (.tmp 16) (.tmp 18) 22 59 _ 112 rfl Tryz.underlying22 infoDe rfl (by decide) (by decide) (.slice A3 ps.length c3) ps [d] (some ⟨p5, 0, none⟩) 1 1 (fun k => okF k ∨ (W1.heap.size ≤ k ∧ k ≠ p8)) (fun k => okF k ∨ k = p5) rfl rfl HN.out (one_def T5.out (Kd.FK_below HD.out HW.out)) (fun k hk => ?_) (fun k hk => .inr (by have := HW.out.size; exact ⟨by omega, by omega⟩)) (Below.refl _ _) HW.out.size (by omega) ?_
      ·rcases hk with hk | hk
       ·exact ⟨.inl hk, fun he => by have := Kd.N_base HN.out _ he.symm; have := HLow.out k hk; omega⟩
       ·subst hk; exact ⟨.inr ⟨by omega, by omega⟩, hne5⟩
      intro v6 X5 hN hB hg hat
      rw [HQs.out] at hN
      obtain ⟨A6, c6, hv6⟩ := Kd.N_slice hN
      subst hv6
      have T8 := Aside0.mk (blk_grown T8.out hg (fun he => N_ne_prog HN.out T8.out he))
      have HN := Aside0.mk hN
      have HW := Aside0.mk (HW.out.trans hB)
      have hsz := hB.size
      clear hN hB hg hat
      have hSd := ChS.of (blk_below BP.out HW.out) (blk_below BD.out HW.out)
      refine hK.out _ _ (fun _ => hSd) ?_
      clear hK
      refine wpAnyK_take (i := 7) (v := ?_) rfl (by kernel_rfl) (by kernel_rfl) (by kernel_rfl) (by kernel_rfl) (fun _ _ _ h => h) hSd (Or.inl ⟨by rfl, ?_⟩) ?_
      rotate_left 1
      (intro w hSw; (try dsimp only at hSw); go_simp; try (with_reducible rfl))
      (try dsimp only [Act.put]); (try simp only [List.setIfInBounds_toArray, List.set_cons_zero, List.set_cons_succ])
      have k8 := (blk_cell T8.out 0).trans rfl
      have f8 := blk_frozen T8.out 0
      refine wpAnyK_one (i := 9) (by kernel_rfl) rfl (fun K hK => ?_)
      go_simp
      refine hK.out _ _ (fun h => absurd rfl h) ?_
      clear hK hSd
      refine wpAnyK_done (by kernel_rfl) ?_ _
      clear k8 f8
      go_wp2_with fail
      go_meet
      have hf := Kd.N_far HN.out (p := ⟨p8, 0, none⟩) (fun k hk => by rcases hk with hk | hk; (have := HLow.out k hk; simp only; omega); exact hk.2) (.slice A6 qs.length c6)
      obtain ⟨_, _, he, hc6, _⟩ := Kd.N_reads hf
      cases he
      have hF := Kd.F_mono (Kd.N_F hf) (ok' := fun k => okF k ∨ W1.heap.size ≤ k) (fun k hk => hk.imp id (fun h => h.1))
      exact ⟨p8, A6, c6, rfl, ⟨blk_put T8.out 0 (.slice A6 qs.length c6) rfl⟩, ⟨hc6, hF⟩, ⟨by omega, by have := hp8s; simp only [World.setCell, Array.size_modify]; omega⟩, ⟨HW.out.setCell (by simp only; omega) _⟩⟩
    ·skip
     go_simp
     obtain ⟨X2, hY⟩ : ∃ X2, X1.alloc (.cells #[.string d.f0, .slice D1 d.f1.length e1, .slice D2 d.f2.length e2, .int .i64 d.f3.f0, .string d.f3.f1, .slice D5 d.f3.f2.length e5] 59) = X2 := ⟨_, rfl⟩
     obtain ⟨p5, hp5⟩ : ∃ p5, X1.heap.size = p5 := ⟨_, rfl⟩
     have hb : Below X1.heap.size X1 X2 := by rw [← hY]; exact below_alloc1 _ _
     have hp5s : p5 < X2.heap.size := by rw [← hY, ← hp5]; simp
     have hp5w : W1.heap.size ≤ p5 := by rw [← hp5]; exact HW.out.size
     have hp5l : X1.heap.size ≤ p5 := by rw [← hp5]; exact Nat.le_refl _
     have T5 := Aside0.mk (show X2.heap[p5]? = some (.cells #[.string d.f0, .slice D1 d.f1.length e1, .slice D2 d.f2.length e2, .int .i64 d.f3.f0, .string d.f3.f1, .slice D5 d.f3.f2.length e5] 59 (0, 0)) by rw [← hY, ← hp5]; exact alloc_at _ _)
     rw [hY, hp5]
     have HW := Aside0.mk (HW.out.trans (hb.mono HW.out.size))
     have hsz := hb.size
     have T8 := Aside0.mk (blk_below T8.out hb)
     clear hb hY hp5
     have hSd := ChS.of (blk_below BP.out HW.out) (blk_below BD.out HW.out)
     refine hK.out _ _ (fun _ => hSd) ?_
     clear hK
     refine wpAnyK_one (i := 0) (by kernel_rfl) rfl (fun K hK => ?_)
     go_simp
     obtain ⟨X3, hY⟩ : ∃ X3, X2.alloc (.cells #[] 59) = X3 := ⟨_, rfl⟩
     obtain ⟨p0, hp0⟩ : ∃ p0, X2.heap.size = p0 := ⟨_, rfl⟩
     have hb : Below X2.heap.size X2 X3 := by rw [← hY]; exact below_alloc1 _ _
     have hp0s : p0 < X3.heap.size := by rw [← hY, ← hp0]; simp
     have hp0w : W1.heap.size ≤ p0 := by rw [← hp0]; exact HW.out.size
     have hp0l : X2.heap.size ≤ p0 := by rw [← hp0]; exact Nat.le_refl _
     have hn0 := DefN.new X2 W1.heap.size (fun k => okF k ∨ (W1.heap.size ≤ k ∧ k ≠ p8)) HW.out.size (by rw [hp0]; exact .inr ⟨by omega, by omega⟩)
     rw [hY, hp0] at hn0
     rw [hY, hp0]
     have HW := Aside0.mk (HW.out.trans (hb.mono HW.out.size))
     have hsz := hb.size
     have T5 := Aside0.mk (blk_below T5.out hb)
     have T8 := Aside0.mk (blk_below T8.out hb)
     have HN := Aside0.mk hn0
     clear hb hY hp0
     clear hn0
     have hSd := ChS.of (blk_below BP.out HW.out) (blk_below BD.out HW.out)
     refine hK.out _ _ (fun _ => hSd) ?_
     clear hK
     refine wpAnyK_one (i := 3) (by kernel_rfl) rfl (fun K hK => ?_)
     refine Kd.N_append_rows_step k59 (w0 := X3) W1.heap.size (by rfl) (.tmp 13) (.tmp 15) 22 59 _ 112 rfl Tryz.underlying22 infoDe rfl (by decide) (by decide) (.slice (some ⟨p0, 0, none⟩) 0 0) [] ps A ps.length c (fun k => okF k ∨ (W1.heap.size ≤ k ∧ k ≠ p8)) okF rfl rfl HN.out (Kd.F_below HPs.out HW.out) (fun k hk => ⟨.inl hk, fun he => by have h1 := HLow.out k hk; have h2 : k = p0 := (by simpa [Value.ownBlock] using he); omega⟩) (fun k hk => .inr (by have := HW.out.size; exact ⟨by omega, by omega⟩)) (Below.refl _ _) HW.out.size (by simp only [List.length_nil]; omega) ?_
     intro v3 X4 hN hB hg hat
     rw [List.nil_append] at hN
     obtain ⟨A3, c3, hv3⟩ := Kd.N_slice hN
     subst hv3
     have hne5 : some p5 ≠ (Value.slice A3 ps.length c3).ownBlock := by
      rcases hat with h | ⟨b, h, hb⟩
      ·rw [h]; intro he; have h2 : p5 = p0 := (by simpa [Value.ownBlock] using he); omega
      ·rw [h]; intro he; have h2 : p5 = b := (by simpa using he); omega
     have T5 := Aside0.mk (blk_grown T5.out hg (fun he => by have h2 : p5 = p0 := (by simpa [Value.ownBlock] using he); omega))
     have T8 := Aside0.mk (blk_grown T8.out hg (fun he => by have h2 : p8 = p0 := (by simpa [Value.ownBlock] using he); omega))
     have HN := Aside0.mk hN
     have HW := Aside0.mk (HW.out.trans hB)
     have hsz := hB.size
     clear hN hB hg hat
     have hSd := ChS.of (blk_below BP.out HW.out) (blk_below BD.out HW.out)
     refine hK.out _ _ (fun _ => hSd) ?_
     clear hK
     refine wpAnyK_one (i := 6) (by kernel_rfl) rfl (fun K hK => ?_)
     refine Kd.N_append_rows_step k59 (w0 := X4) W1.heap.size (by rfl) (.tmp 16) (.tmp 18) 22 59 _ 112 rfl Tryz.underlying22 infoDe rfl (by decide) (by decide) (.slice A3 ps.length c3) ps [d] (some ⟨p5, 0, none⟩) 1 1 (fun k => okF k ∨ (W1.heap.size ≤ k ∧ k ≠ p8)) (fun k => okF k ∨ k = p5) rfl rfl HN.out (one_def T5.out (Kd.FK_below HD.out HW.out)) (fun k hk => ?_) (fun k hk => .inr (by have := HW.out.size; exact ⟨by omega, by omega⟩)) (Below.refl _ _) HW.out.size (by omega) ?_
     ·rcases hk with hk | hk
      ·exact ⟨.inl hk, fun he => by have := Kd.N_base HN.out _ he.symm; have := HLow.out k hk; omega⟩
      ·subst hk; exact ⟨.inr ⟨by omega, by omega⟩, hne5⟩
     intro v6 X5 hN hB hg hat
     rw [HQs.out] at hN
     obtain ⟨A6, c6, hv6⟩ := Kd.N_slice hN
     subst hv6
     have T8 := Aside0.mk (blk_grown T8.out hg (fun he => N_ne_prog HN.out T8.out he))
     have HN := Aside0.mk hN
     have HW := Aside0.mk (HW.out.trans hB)
     have hsz := hB.size
     clear hN hB hg hat
     have hSd := ChS.of (blk_below BP.out HW.out) (blk_below BD.out HW.out)
     refine hK.out _ _ (fun _ => hSd) ?_
     clear hK
     refine wpAnyK_take (i := 7) (v := ?_) rfl (by kernel_rfl) (by kernel_rfl) (by kernel_rfl) (by kernel_rfl) (fun _ _ _ h => h) hSd (Or.inl ⟨by rfl, ?_⟩) ?_
     rotate_left 1
     (intro w hSw; (try dsimp only at hSw); go_simp; try (with_reducible rfl))
     (try dsimp only [Act.put]); (try simp only [List.setIfInBounds_toArray, List.set_cons_zero, List.set_cons_succ])
     have k8 := (blk_cell T8.out 0).trans rfl
     have f8 := blk_frozen T8.out 0
     refine wpAnyK_one (i := 9) (by kernel_rfl) rfl (fun K hK => ?_)
     go_simp
     refine hK.out _ _ (fun h => absurd rfl h) ?_
     clear hK hSd
     refine wpAnyK_done (by kernel_rfl) ?_ _
     clear k8 f8
     go_wp2_with fail
     go_meet
     have hf := Kd.N_far HN.out (p := ⟨p8, 0, none⟩) (fun k hk => by rcases hk with hk | hk; (have := HLow.out k hk; simp only; omega); exact hk.2) (.slice A6 qs.length c6)
     obtain ⟨_, _, he, hc6, _⟩ := Kd.N_reads hf
     cases he
     have hF := Kd.F_mono (Kd.N_F hf) (ok' := fun k => okF k ∨ W1.heap.size ≤ k) (fun k hk => hk.imp id (fun h => h.1))
     exact ⟨p8, A6, c6, rfl, ⟨blk_put T8.out 0 (.slice A6 qs.length c6) rfl⟩, ⟨hc6, hF⟩, ⟨by omega, by have := hp8s; simp only [World.setCell, Array.size_modify]; omega⟩, ⟨HW.out.setCell (by simp only; omega) _⟩⟩
  case rest =>
   obtain ⟨p8, A6, c6, rfl, G6, F6, hp8, HW⟩ := hcut
   obtain ⟨ce, hce⟩ : ∃ ce, checkP qs = ce := ⟨_, rfl⟩
   have HX := Lib.hid (show addR ps d = if ce = 0 then (qs, 0) else ([], ce) by rw [addR, if_neg h12, HQs.out, hce])
   have k6 := (blk_cell G6.out 0).trans rfl
   have HC := Lib.hid (c_rCheck qs A6 c6 wc (Kd.F_now F6.out.2) F6.out.1 hokp)
   rw [hce] at HC
   clear hce h12
   go_wp2_with fail
   refine HC.out.mono ?_
   rintro en w2 ⟨rfl, hb⟩
   have hs2 := hb.size
   have HW2 := Aside0.mk (HW.out.trans (hb.mono HW.out.size))
   have G6 := Aside0.mk (blk_below G6.out hb)
   have F6 := Aside0.mk (And.intro F6.out.1 (Kd.F_below F6.out.2 hb))
   have BR2 := Aside0.mk (blk_below BR.out HW2.out)
   have Q2 := Aside0.mk (Q.out.trans (HW2.out.mono Q.out.size))
   clear hb HC k6
   have k6 := (blk_cell G6.out 0).trans rfl
   have k4 := (blk_cell BR2.out 0).trans rfl
   have f4 := blk_frozen BR2.out 0
   cases he : (ce != 0) with
   | true =>
    have hne : ¬ ce = 0 := by simpa using he
    have HX2 := Lib.hid (show addR ps d = ([], ce) by rw [HX.out, if_neg hne])
    clear hne
    go_wp2
    have b4 := blk_put BR2.out 0 (.slice none 0 0) rfl
    refine bodyPost_ret (results_ct rfl _ _ _ _ _ _ _ rfl b4 Tryz.underlying24 rfl (by kernel_rfl)) rfl ?_
    rw [HX2.out]
    exact ⟨none, 0, rfl, Nat.le_refl _, fun _ _ => Kd.C_nil _ _, Q2.out.setCell (by simp only; omega) _⟩
   | false =>
    have hne : ce = 0 := by simpa using he
    have HX2 := Lib.hid (show addR ps d = (qs, 0) by rw [HX.out, if_pos hne])
    clear hne
    go_wp2
    have b4 := blk_put BR2.out 0 (.slice A6 qs.length c6) rfl
    refine bodyPost_ret (results_ct rfl _ _ _ _ _ _ _ rfl b4 Tryz.underlying24 rfl (by kernel_rfl)) rfl ?_
    rw [HX2.out]
    exact ⟨A6, c6, rfl, F6.out.1, Kd.F_mono (Kd.F_step F6.out.2 (fun k hk _ => Below.heap_setCell _ _ _ _ (by rcases hk with hk | hk; (have := HLow.out k hk; simp only; omega); simp only; omega))) (fun k hk => hk.imp id (fun h => by omega)), Q2.out.setCell (by simp only; omega) _⟩
end Go.Proofs.YtacefdkfbpgedaaGreat.Mine
