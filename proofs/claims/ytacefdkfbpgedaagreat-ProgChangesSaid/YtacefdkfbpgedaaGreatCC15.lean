/- ProgChanges, the law: more than what is looked at. -/
import Derived.Test.YtacefdkfbpgedaaGreatCC10
import Derived.Test.YtacefdkfbpgedaaGreatCC1
import Derived.Test.YtacefdkfbpgedaaGreatCC13
import Derived.Test.YtacefdkfbpgedaaGreatCC14
import Derived.Test.YtacefdkfbpgedaaGreatCC11
import Derived.Deep.DeepCutAuto
import Derived.Deep.RegionHeld3
namespace Go.Proofs.YtacefdkfbpgedaaGreat.Mine
open Go.Proofs.YtacefdkfbpgedaaGreat.PProgSmall
open Go.RowKit Go.Shelf Go.Proofs.YtacefdkfbpgedaaGreatW.PrintWords Go.Proofs.YtacefdkfbpgedaaGreatW.PrintLast Go.Proofs.YtacefdkfbpgedaaGreatW.PrintMore
set_option linter.unusedVariables false
set_option linter.unusedSimpArgs false
set_option maxRecDepth 100000
set_option maxHeartbeats 4000000 in
theorem c_lawChangesBig (ps : List De) (d : De) (A : Option Addr) (c : Nat) (cs : List Value) (s t : ByteArray) (kids : Int) (w : World) (hr : Kd.C k59 w A ps.length ps) (hc : ps.length ≤ c) (hd : Kd.FK k59 w (fun k => k < w.heap.size) d cs) (hn : ∀ d ∈ ps, nmD d) (hn2 : nmD d)
  (hbig : (bigP ps || (bigD d || (decide ((40 : Int) < (s.size : Int)) || decide ((40 : Int) < (t.size : Int))))) = true) :
  Calls Tryz.prog 6 #[.agg #[.slice A ps.length c], .agg cs.toArray, .string s, .string t, .int .i64 kids] w fun en w' => en = .returned (.bool true) ∧ Below w.heap.size w w' := by
 obtain ⟨D1, e1, D2, e2, D5, e5, rfl, _⟩ := k59_openF hd
 obtain ⟨W1, hW1⟩ : ∃ W1, (w.alloc (.cells #[.slice A ps.length c] 24)).alloc (.cells #[.string d.f0, .slice D1 d.f1.length e1, .slice D2 d.f2.length e2, .int .i64 d.f3.f0, .string d.f3.f1, .slice D5 d.f3.f2.length e5] 59) = W1 := ⟨_, rfl⟩
 have q1 : Below w.heap.size w W1 := by rw [← hW1]; exact below_alloc2 _ _ _
 have bP : PBox w.heap.size A ps.length c W1 := by rw [← hW1]; exact blk_alloc (alloc_at _ _) _
 have bD : W1.heap[w.heap.size + 1]? = some (.cells #[.string d.f0, .slice D1 d.f1.length e1, .slice D2 d.f2.length e2, .int .i64 d.f3.f0, .string d.f3.f1, .slice D5 d.f3.f2.length e5] 59 (0, 0)) := by rw [← hW1]; have := alloc_at (w.alloc (.cells #[.slice A ps.length c] 24)) (.cells #[.string d.f0, .slice D1 d.f1.length e1, .slice D2 d.f2.length e2, .int .i64 d.f3.f0, .string d.f3.f1, .slice D5 d.f3.f2.length e5] 59); rw [World.size_alloc] at this; exact this
 have z1 : W1.heap.size = w.heap.size + 1 + 1 := by rw [← hW1]; simp
 have hmp := hr.2.1
 have HR := Lib.hid hr
 have HD := Aside0.mk hd
 have Q := Aside0.mk q1
 have BP := Aside0.mk bP
 have BD := Aside0.mk bD
 have HW1 := Lib.hid hW1
 have hz1a := Nat.le_of_eq z1
 have hz1b := Nat.le_of_eq z1.symm
 have kP := (blk_cell bP 0).trans rfl
 clear hr hd q1 bP bD hW1 z1
 have HB := Lib.hid (c_Big ps A c W1 (Kd.C_below HR.out Q.out) hc hn)
 have HB2 := Lib.hid (fun W (h : Below w.heap.size w W) => c_bigDef d _ W (Kd.FK_now (Kd.FK_below HD.out h)) hn2)
 cases h1 : bigP ps with
 | true =>
  rw [h1] at HB
  clear hbig
  go_enter Tryz.func6, Tryz.ntmps6
  go_wp2_with fail
  rw [HW1.out]
  go_wp2_with fail
  refine HB.out.mono ?_
  rintro en w2 ⟨rfl, hb⟩
  have Q := Aside0.mk (Q.out.trans (hb.mono Q.out.size))
  clear hb
  go_wp2_with fail
  refine (c_awake _).mono ?_
  rintro en w3 ⟨rfl, hb⟩
  go_wp2
  go_ret
  exact ⟨rfl, Q.out.trans (hb.mono Q.out.size)⟩
 | false =>
  rw [h1] at HB
  rw [h1, Bool.false_or] at hbig
  cases h2 : bigD d with
  | true =>
   clear hbig
   rw [h2] at HB2
   go_enter Tryz.func6, Tryz.ntmps6
   go_wp2_with fail
   rw [HW1.out]
   go_wp2_with fail
   refine HB.out.mono ?_
   rintro en w2 ⟨rfl, hb⟩
   have Q := Aside0.mk (Q.out.trans (hb.mono Q.out.size))
   have BD := Aside0.mk (blk_below BD.out hb)
   clear hb
   have d0 := (blk_cell BD.out 0).trans rfl
   have d1 := (blk_cell BD.out 1).trans rfl
   have d2 := (blk_cell BD.out 2).trans rfl
   have d3 := (blk_cell BD.out 3).trans rfl
   have d4 := (blk_cell BD.out 4).trans rfl
   have d5 := (blk_cell BD.out 5).trans rfl
   have HC := Lib.hid (HB2.out w2 Q.out)
   go_wp2_with fail
   refine HC.out.mono ?_
   rintro en w3 ⟨rfl, hb⟩
   have Q := Aside0.mk (Q.out.trans (hb.mono Q.out.size))
   clear hb
   go_wp2_with fail
   refine (c_awake _).mono ?_
   rintro en w3 ⟨rfl, hb⟩
   go_wp2
   go_ret
   exact ⟨rfl, Q.out.trans (hb.mono Q.out.size)⟩
  | false =>
   rw [h2, Bool.false_or] at hbig
   rw [h2] at HB2
   cases h3 : decide ((40 : Int) < (s.size : Int)) with
   | true =>
    clear hbig
    go_enter Tryz.func6, Tryz.ntmps6
    go_wp2_with fail
    rw [HW1.out]
    go_wp2_with fail
    refine HB.out.mono ?_
    rintro en w2 ⟨rfl, hb⟩
    have Q := Aside0.mk (Q.out.trans (hb.mono Q.out.size))
    have BD := Aside0.mk (blk_below BD.out hb)
    clear hb
    have d0 := (blk_cell BD.out 0).trans rfl
    have d1 := (blk_cell BD.out 1).trans rfl
    have d2 := (blk_cell BD.out 2).trans rfl
    have d3 := (blk_cell BD.out 3).trans rfl
    have d4 := (blk_cell BD.out 4).trans rfl
    have d5 := (blk_cell BD.out 5).trans rfl
    have HC := Lib.hid (HB2.out w2 Q.out)
    go_wp2_with fail
    refine HC.out.mono ?_
    rintro en w3 ⟨rfl, hb⟩
    have Q := Aside0.mk (Q.out.trans (hb.mono Q.out.size))
    clear hb
    go_wp2_with fail
    refine (c_awake _).mono ?_
    rintro en w3 ⟨rfl, hb⟩
    go_wp2
    go_ret
    exact ⟨rfl, Q.out.trans (hb.mono Q.out.size)⟩
   | false =>
    rw [h3, Bool.false_or] at hbig
    go_enter Tryz.func6, Tryz.ntmps6
    go_wp2_with fail
    rw [HW1.out]
    go_wp2_with fail
    refine HB.out.mono ?_
    rintro en w2 ⟨rfl, hb⟩
    have Q := Aside0.mk (Q.out.trans (hb.mono Q.out.size))
    have BD := Aside0.mk (blk_below BD.out hb)
    clear hb
    have d0 := (blk_cell BD.out 0).trans rfl
    have d1 := (blk_cell BD.out 1).trans rfl
    have d2 := (blk_cell BD.out 2).trans rfl
    have d3 := (blk_cell BD.out 3).trans rfl
    have d4 := (blk_cell BD.out 4).trans rfl
    have d5 := (blk_cell BD.out 5).trans rfl
    have HC := Lib.hid (HB2.out w2 Q.out)
    go_wp2_with fail
    refine HC.out.mono ?_
    rintro en w3 ⟨rfl, hb⟩
    have Q := Aside0.mk (Q.out.trans (hb.mono Q.out.size))
    clear hb
    go_wp2_with fail
    refine (c_awake _).mono ?_
    rintro en w3 ⟨rfl, hb⟩
    go_wp2
    go_ret
    exact ⟨rfl, Q.out.trans (hb.mono Q.out.size)⟩
end Go.Proofs.YtacefdkfbpgedaaGreat.Mine
namespace Go.Proofs.YtacefdkfbpgedaaGreat.Mine
open Go.Proofs.YtacefdkfbpgedaaGreat.PProgSmall
open Go.RowKit Go.Shelf Go.Proofs.YtacefdkfbpgedaaGreatW.PrintWords Go.Proofs.YtacefdkfbpgedaaGreatW.PrintLast Go.Proofs.YtacefdkfbpgedaaGreatW.PrintMore
set_option linter.unusedVariables false
set_option linter.unusedSimpArgs false
set_option maxRecDepth 100000
set_option maxHeartbeats 8000000 in
theorem c_lawChangesSmall (ps : List De) (d : De) (A : Option Addr) (c : Nat) (cs : List Value) (s t : ByteArray) (kids : Int) (w : World) (hr : Kd.C k59 w A ps.length ps) (hc : ps.length ≤ c) (hd : Kd.FK k59 w (fun k => k < w.heap.size) d cs) (hn : ∀ d ∈ ps, nmD d) (hn2 : nmD d)
  (hb1 : bigP ps = false) (hb2 : bigD d = false) (hs40 : decide ((40 : Int) < (s.size : Int)) = false) (ht40 : decide ((40 : Int) < (t.size : Int)) = false) :
  Calls Tryz.prog 6 #[.agg #[.slice A ps.length c], .agg cs.toArray, .string s, .string t, .int .i64 kids] w fun en w' => en = .returned (.bool true) ∧ Below w.heap.size w w' := by
 have hok := bigP_okP hb1
 have hoo := bigP_okO hb1
 have hod := bigD_okO hb2
 have hlp := (bigP_ok hb1).1
 have hbp := (bigP_ok hb1).2
 have hbq : ∀ x ∈ ps ++ [d], bigD x = false := fun x hx => by
  rcases List.mem_append.1 hx with h | h
  ·exact hbp x h
  ·rw [List.mem_singleton.1 h]; exact hb2
 obtain ⟨D1, e1, D2, e2, D5, e5, rfl, _⟩ := k59_openF hd
 obtain ⟨W1, hW1⟩ : ∃ W1, (w.alloc (.cells #[.slice A ps.length c] 24)).alloc (.cells #[.string d.f0, .slice D1 d.f1.length e1, .slice D2 d.f2.length e2, .int .i64 d.f3.f0, .string d.f3.f1, .slice D5 d.f3.f2.length e5] 59) = W1 := ⟨_, rfl⟩
 have q1 : Below w.heap.size w W1 := by rw [← hW1]; exact below_alloc2 _ _ _
 have bP : PBox w.heap.size A ps.length c W1 := by rw [← hW1]; exact blk_alloc (alloc_at _ _) _
 have bD : W1.heap[w.heap.size + 1]? = some (.cells #[.string d.f0, .slice D1 d.f1.length e1, .slice D2 d.f2.length e2, .int .i64 d.f3.f0, .string d.f3.f1, .slice D5 d.f3.f2.length e5] 59 (0, 0)) := by rw [← hW1]; have := alloc_at (w.alloc (.cells #[.slice A ps.length c] 24)) (.cells #[.string d.f0, .slice D1 d.f1.length e1, .slice D2 d.f2.length e2, .int .i64 d.f3.f0, .string d.f3.f1, .slice D5 d.f3.f2.length e5] 59); rw [World.size_alloc] at this; exact this
 have z1 : W1.heap.size = w.heap.size + 1 + 1 := by rw [← hW1]; simp
 have hmp := hr.2.1
 have HR := Lib.hid hr
 have HD := Aside0.mk hd
 have Q := Aside0.mk q1
 have BP := Aside0.mk bP
 have BD := Aside0.mk bD
 have HW1 := Lib.hid hW1
 have hz1a := Nat.le_of_eq z1
 have hz1b := Nat.le_of_eq z1.symm
 have kP := (blk_cell bP 0).trans rfl
 clear hr hd q1 bP bD hW1 z1
 have HB := Lib.hid (c_Big ps A c W1 (Kd.C_below HR.out Q.out) hc hn)
 have HB2 := Lib.hid (fun W (h : Below w.heap.size w W) => c_bigDef d _ W (Kd.FK_now (Kd.FK_below HD.out h)) hn2)
 rw [hb1] at HB
 rw [hb2] at HB2
 go_enter Tryz.func6, Tryz.ntmps6
 go_wp2_with fail
 rw [HW1.out]
 go_wp2_with fail
 refine HB.out.mono ?_
 rintro en w2 ⟨rfl, hb⟩
 have Q := Aside0.mk (Q.out.trans (hb.mono Q.out.size))
 have BP := Aside0.mk (blk_below BP.out hb)
 have BD := Aside0.mk (blk_below BD.out hb)
 have hs2 := hb.size
 clear hb kP HB
 have d0 := (blk_cell BD.out 0).trans rfl
 have d1 := (blk_cell BD.out 1).trans rfl
 have d2 := (blk_cell BD.out 2).trans rfl
 have d3 := (blk_cell BD.out 3).trans rfl
 have d4 := (blk_cell BD.out 4).trans rfl
 have d5 := (blk_cell BD.out 5).trans rfl
 have HC := Lib.hid (HB2.out w2 Q.out)
 go_wp2_with fail
 refine HC.out.mono ?_
 rintro en w3 ⟨rfl, hb⟩
 have Q := Aside0.mk (Q.out.trans (hb.mono Q.out.size))
 have BP := Aside0.mk (blk_below BP.out hb)
 have BD := Aside0.mk (blk_below BD.out hb)
 have hs3 := hb.size
 clear hb HB2 HC HW1 d0 d1 d2 d3 d4 d5
 go_upto_region 3 with fail
 go_cut [11, 12] (fun s11 s12 wx => ∃ (p5 p6 : Nat) (A5 : Option Addr) (c5 : Nat) (E1 : Option Addr) (h1 : Nat) (E2 : Option Addr) (h2 : Nat) (E5 : Option Addr) (h5 : Nat), s11 = .pointer (some ⟨p5, 0, none⟩) ∧ s12 = .pointer (some ⟨p6, 0, none⟩) ∧ Aside0 (PBox p5 A5 ps.length c5 wx) ∧ Aside0 (wx.heap[p6]? = some (.cells #[.string d.f0, .slice E1 d.f1.length h1, .slice E2 d.f2.length h2, .int .i64 d.f3.f0, .string d.f3.f1, .slice E5 d.f3.f2.length h5] 59 (0, 0))) ∧ Aside0 (ps.length ≤ c5 ∧ Kd.C k59 wx A5 ps.length ps) ∧ Aside0 (k59.K wx d [.string d.f0, .slice E1 d.f1.length h1, .slice E2 d.f2.length h2, .int .i64 d.f3.f0, .string d.f3.f1, .slice E5 d.f3.f2.length h5]) ∧ Aside0 (Below w3.heap.size w3 wx))
 case first =>
  have HO1 := Lib.hid (fun W (h : Below w3.heap.size w3 W) => c_Own ps A c W (Kd.C_below HR.out (Q.out.trans (h.mono Q.out.size))) hc (by omega) hoo)
  have HO3 := Lib.hid (fun W (h : Below w3.heap.size w3 W) => c_ownDef d _ W (Kd.FK_mono (Kd.FK_below HD.out (Q.out.trans (h.mono Q.out.size))) (fun k hk => Nat.lt_of_lt_of_le hk (Q.out.trans (h.mono Q.out.size)).size)) hod.c hod.p hod.v hod.b hod.z)
  obtain ⟨X0, hX⟩ : ∃ X0, w3.drew = X0 := ⟨_, rfl⟩
  have q0 : Below w3.heap.size w3 X0 := by rw [← hX]; exact below_drew (Below.refl _ _)
  have BP := Aside0.mk (blk_below BP.out q0)
  have BD := Aside0.mk (blk_below BD.out q0)
  have HW := Aside0.mk q0
  have hsz := q0.size
  have hSd : (fun W => ChS w.heap.size (w.heap.size + 1) A ps.length c (.string d.f0) (.slice D1 d.f1.length e1) (.slice D2 d.f2.length e2) (.int .i64 d.f3.f0) (.string d.f3.f1) (.slice D5 d.f3.f2.length e5) W) X0 := ChS.of BP.out BD.out
  refine wp_region_K (S := (fun W => ChS w.heap.size (w.heap.size + 1) A ps.length c (.string d.f0) (.slice D1 d.f1.length e1) (.slice D2 d.f2.length e2) (.int .i64 d.f3.f0) (.string d.f3.f1) (.slice D5 d.f3.f2.length e5) W)) (k := 7) (by kernel_rfl) ?_
  change wpAnyK _ _ _ _ _ _ 8 (Array.replicate 8 false) _ _
  rw [hX]
  clear hX q0 hok hoo hod hlp hbp hbq hs40 ht40
  refine wpAnyK_take (i := 0) (v := ?_) rfl (by kernel_rfl) (by kernel_rfl) (by kernel_rfl) (by kernel_rfl) (fun _ _ _ h => h) hSd (Or.inl ⟨by rfl, ?_⟩) ?_
  rotate_left 1
  (intro w hSw; (try dsimp only at hSw); go_simp; try (with_reducible rfl))
  (try dsimp only [Act.put]); (try simp only [List.setIfInBounds_toArray, List.set_cons_zero, List.set_cons_succ])
  refine wpAnyK_take (i := 2) (v := ?_) rfl (by kernel_rfl) (by kernel_rfl) (by kernel_rfl) (by kernel_rfl) (fun _ _ _ h => h) hSd (Or.inl ⟨by rfl, ?_⟩) ?_
  rotate_left 1
  (intro w hSw; (try dsimp only at hSw); go_simp; try (with_reducible rfl))
  (try dsimp only [Act.put]); (try simp only [List.setIfInBounds_toArray, List.set_cons_zero, List.set_cons_succ])
  refine wpAnyK_three (i := 1) (j := 4) (m := 5) (by kernel_rfl) rfl rfl rfl (fun K hK => ?_) (fun K hK => ?_) (fun K hK => ?_)
  ·skip
   go_simp
   go_at_call 10
   (with_reducible refine (HO1.out X0 HW.out).mono ?_)
   rintro e X1 ⟨v, rfl, ho, hb⟩
   obtain ⟨A5, c5, rfl, hc5, _⟩ := Kd.R_reads ho
   have F1 := Aside0.mk (Kd.F_mono (Kd.R_F (Kd.R_bound ho)) (ok' := (fun k => w3.heap.size ≤ k)) (fun k hk => by have h1 := HW.out.size; have h2 := hk.2.1; (try dsimp only); omega))
   have BP := Aside0.mk (blk_below BP.out hb)
   have BD := Aside0.mk (blk_below BD.out hb)
   have HW := Aside0.mk (HW.out.trans (hb.mono HW.out.size))
   have hsz := hb.size
   clear ho hb
   have hSd := ChS.of BP.out BD.out
   refine hK.out _ _ (fun _ => hSd) ?_
   clear hK
   refine wpAnyK_three (i := 3) (j := 4) (m := 5) (by kernel_rfl) rfl rfl rfl (fun K hK => ?_) (fun K hK => ?_) (fun K hK => ?_)
   ·skip
    go_simp
    go_at_call 49
    (with_reducible refine (HO3.out X1 HW.out).mono ?_)
    rintro e X2 ⟨v1, v2, v5, rfl, hT, hCs, hE, hb⟩
    obtain ⟨E1, h1, rfl⟩ := Kd.R_slice hT
    obtain ⟨E2, h2, rfl⟩ := Kd.R_slice hCs
    obtain ⟨E5, h5, rfl⟩ := Kd.R_slice hE
    have F3 := Aside0.mk (Kd.FK_mono (Kd.FK_of_M (k59_mkM X2 X1.heap.size (fun k => X1.heap.size ≤ k) d (Kd.R_mono (Kd.R_bound hT) (fun k hk => hk.2.1)) (Kd.R_mono (Kd.R_bound hCs) (fun k hk => hk.2.1)) (Kd.R_mono (Kd.R_bound hE) (fun k hk => hk.2.1)))) (ok' := (fun k => w3.heap.size ≤ k)) (fun k hk => by have h1 := HW.out.size; have h2 := hk; (try dsimp only at h2 ⊢); omega))
    have BP := Aside0.mk (blk_below BP.out hb)
    have BD := Aside0.mk (blk_below BD.out hb)
    have HW := Aside0.mk (HW.out.trans (hb.mono HW.out.size))
    have hsz := hb.size
    have F1 := Aside0.mk (Kd.F_below F1.out hb)
    clear hT hCs hE hb
    have hSd := ChS.of BP.out BD.out
    refine hK.out _ _ (fun _ => hSd) ?_
    clear hK
    refine wpAnyK_two (i := 4) (j := 5) (by kernel_rfl) rfl rfl (fun K hK => ?_) (fun K hK => ?_)
    ·skip
     go_simp
     obtain ⟨X3, hY⟩ : ∃ X3, X2.alloc (.cells #[.slice none 0 0] 24) = X3 := ⟨_, rfl⟩
     obtain ⟨p5, hp5⟩ : ∃ p5, X2.heap.size = p5 := ⟨_, rfl⟩
     have hb : Below X2.heap.size X2 X3 := by rw [← hY]; exact below_alloc1 _ _
     have G4 := Aside0.mk (show X3.heap[p5]? = some (.cells #[.slice none 0 0] 24 (0, 0)) by rw [← hY, ← hp5]; exact alloc_at _ _)
     have hp5s : p5 < X3.heap.size := by rw [← hY, ← hp5]; simp
     have hp5w : w3.heap.size ≤ p5 := by rw [← hp5]; exact HW.out.size
     rw [hY, hp5]
     have F1 := Aside0.mk (Kd.F_mono (Kd.F_bound F1.out) (ok' := (fun k => w3.heap.size ≤ k ∧ k ≠ p5)) (fun k hk => by have h2 := hk; (try dsimp only at h2 ⊢); omega))
     have F3 := Aside0.mk (Kd.FK_mono (Kd.FK_bound F3.out) (ok' := (fun k => w3.heap.size ≤ k ∧ k ≠ p5)) (fun k hk => by have h2 := hk; (try dsimp only at h2 ⊢); omega))
     have BP := Aside0.mk (blk_below BP.out hb)
     have BD := Aside0.mk (blk_below BD.out hb)
     have HW := Aside0.mk (HW.out.trans (hb.mono HW.out.size))
     have hsz := hb.size
     have F1 := Aside0.mk (Kd.F_below F1.out hb)
     have F3 := Aside0.mk (Kd.FK_below F3.out hb)
     clear hb hY hp5
     have hSd := ChS.of BP.out BD.out
     refine hK.out _ _ (fun _ => hSd) ?_
     clear hK
     refine wpAnyK_one (i := 5) (by kernel_rfl) rfl (fun K hK => ?_)
     go_simp
     obtain ⟨X4, hY⟩ : ∃ X4, X3.alloc (.cells #[.string ⟨#[]⟩, .slice none 0 0, .slice none 0 0, .int .i64 0, .string ⟨#[]⟩, .slice none 0 0] 59) = X4 := ⟨_, rfl⟩
     obtain ⟨p6, hp6⟩ : ∃ p6, X3.heap.size = p6 := ⟨_, rfl⟩
     have hb : Below X3.heap.size X3 X4 := by rw [← hY]; exact below_alloc1 _ _
     have G5 := Aside0.mk (show X4.heap[p6]? = some (.cells #[.string ⟨#[]⟩, .slice none 0 0, .slice none 0 0, .int .i64 0, .string ⟨#[]⟩, .slice none 0 0] 59 (0, 0)) by rw [← hY, ← hp6]; exact alloc_at _ _)
     have hp6s : p6 < X4.heap.size := by rw [← hY, ← hp6]; simp
     have hp6w : w3.heap.size ≤ p6 := by rw [← hp6]; exact HW.out.size
     rw [hY, hp6]
     have hne : p5 ≠ p6 := by omega
     have F1 := Aside0.mk (Kd.F_mono (Kd.F_bound F1.out) (ok' := (fun k => w3.heap.size ≤ k ∧ k ≠ p5 ∧ k ≠ p6)) (fun k hk => by have h2 := hk; (try dsimp only at h2 ⊢); omega))
     have F3 := Aside0.mk (Kd.FK_mono (Kd.FK_bound F3.out) (ok' := (fun k => w3.heap.size ≤ k ∧ k ≠ p5 ∧ k ≠ p6)) (fun k hk => by have h2 := hk; (try dsimp only at h2 ⊢); omega))
     have BP := Aside0.mk (blk_below BP.out hb)
     have BD := Aside0.mk (blk_below BD.out hb)
     have HW := Aside0.mk (HW.out.trans (hb.mono HW.out.size))
     have hsz := hb.size
     have F1 := Aside0.mk (Kd.F_below F1.out hb)
     have F3 := Aside0.mk (Kd.FK_below F3.out hb)
     have G4 := Aside0.mk (blk_below G4.out hb)
     clear hb hY hp6
     have hSd := ChS.of BP.out BD.out
     refine hK.out _ _ (fun _ => hSd) ?_
     clear hK
     have k5 := (blk_cell G4.out 0).trans rfl
     have f5 := blk_frozen G4.out 0
     refine wpAnyK_one (i := 6) (by kernel_rfl) rfl (fun K hK => ?_)
     go_simp
     obtain ⟨Z6, hY⟩ : ∃ Z6, X4.setCell ⟨p5, 0, none⟩ (.slice A5 ps.length c5) = Z6 := ⟨_, rfl⟩
     have hst : ∀ k, k ≠ p5 → Z6.heap[k]? = X4.heap[k]? := fun k hk => by rw [← hY]; exact Below.heap_setCell _ _ _ _ hk
     have hz6 : Z6.heap.size = X4.heap.size := by rw [← hY]; simp only [World.setCell, Array.size_modify]
     have F1 := Aside0.mk (Kd.F_step F1.out (W1 := Z6) (fun k hk _ => hst k (by have h2 := hk; (try dsimp only at h2); omega)))
     have F3 := Aside0.mk (Kd.FK_step F3.out (W1 := Z6) (fun k hk _ => hst k (by have h2 := hk; (try dsimp only at h2); omega)))
     have hg := blk_put G4.out 0 (.slice A5 ps.length c5) rfl
     have hw := HW.out.setCell (p := ⟨p5, 0, none⟩) (by simp only; omega) (.slice A5 ps.length c5)
     rw [hY] at hg hw ⊢
     have G4 := Aside0.mk hg
     have G5 := Aside0.mk ((hst p6 (by omega)).trans G5.out)
     have BP := Aside0.mk ((hst _ (by omega)).trans BP.out)
     have BD := Aside0.mk ((hst _ (by omega)).trans BD.out)
     have HW := Aside0.mk hw
     clear hst hg hw hY k5 f5
     have x0 := (blk_cell G5.out 0).trans rfl
     have x1 := (blk_cell G5.out 1).trans rfl
     have x2 := (blk_cell G5.out 2).trans rfl
     have x3 := (blk_cell G5.out 3).trans rfl
     have x4 := (blk_cell G5.out 4).trans rfl
     have x5 := (blk_cell G5.out 5).trans rfl
     have fx := fun i => blk_frozen G5.out i
     have hSd := ChS.of BP.out BD.out
     refine hK.out _ _ (fun _ => hSd) ?_
     clear hK
     refine wpAnyK_one (i := 7) (by kernel_rfl) rfl (fun K hK => ?_)
     go_simp
     obtain ⟨Z7, hY⟩ : ∃ Z7, ((((((Z6.setCell ⟨p6, 0, none⟩ (.string d.f0)).setCell ⟨p6, 1, none⟩ (.slice E1 d.f1.length h1)).setCell ⟨p6, 2, none⟩ (.slice E2 d.f2.length h2)).setCell ⟨p6, 3, none⟩ (.int .i64 d.f3.f0)).setCell ⟨p6, 4, none⟩ (.string d.f3.f1)).setCell ⟨p6, 5, none⟩ (.slice E5 d.f3.f2.length h5)) = Z7 := ⟨_, rfl⟩
     have hst : ∀ k, k ≠ p6 → Z7.heap[k]? = Z6.heap[k]? := fun k hk => by rw [← hY]; exact (Below.heap_setCell _ _ _ _ hk).trans ((Below.heap_setCell _ _ _ _ hk).trans ((Below.heap_setCell _ _ _ _ hk).trans ((Below.heap_setCell _ _ _ _ hk).trans ((Below.heap_setCell _ _ _ _ hk).trans (Below.heap_setCell _ _ _ _ hk)))))
     have hg := blk_put (blk_put (blk_put (blk_put (blk_put (blk_put G5.out 0 (.string d.f0) rfl) 1 (.slice E1 d.f1.length h1) rfl) 2 (.slice E2 d.f2.length h2) rfl) 3 (.int .i64 d.f3.f0) rfl) 4 (.string d.f3.f1) rfl) 5 (.slice E5 d.f3.f2.length h5) rfl
     have hw := (((((HW.out.setCell (p := ⟨p6, 0, none⟩) (by simp only; omega) (.string d.f0)).setCell (p := ⟨p6, 1, none⟩) (by simp only; omega) (.slice E1 d.f1.length h1)).setCell (p := ⟨p6, 2, none⟩) (by simp only; omega) (.slice E2 d.f2.length h2)).setCell (p := ⟨p6, 3, none⟩) (by simp only; omega) (.int .i64 d.f3.f0)).setCell (p := ⟨p6, 4, none⟩) (by simp only; omega) (.string d.f3.f1)).setCell (p := ⟨p6, 5, none⟩) (by simp only; omega) (.slice E5 d.f3.f2.length h5)
     rw [hY] at hg hw ⊢
     have F1 := Aside0.mk (Kd.F_step F1.out (W1 := Z7) (fun k hk _ => hst k (by have h2 := hk; (try dsimp only at h2); omega)))
     have F3 := Aside0.mk (Kd.FK_step F3.out (W1 := Z7) (fun k hk _ => hst k (by have h2 := hk; (try dsimp only at h2); omega)))
     have G5 := Aside0.mk (show Z7.heap[p6]? = some (.cells #[.string d.f0, .slice E1 d.f1.length h1, .slice E2 d.f2.length h2, .int .i64 d.f3.f0, .string d.f3.f1, .slice E5 d.f3.f2.length h5] 59 (0, 0)) from hg)
     have G4 := Aside0.mk ((hst p5 (by omega)).trans G4.out)
     have HW := Aside0.mk hw
     clear hst hg hw hY x0 x1 x2 x3 x4 x5 fx
     refine hK.out _ _ (fun h => absurd rfl h) ?_
     clear hK hSd
     refine wpAnyK_done (by kernel_rfl) ?_ _
     go_wp2_with fail
     go_meet
     exact ⟨p5, p6, A5, c5, E1, h1, E2, h2, E5, h5, rfl, rfl, ⟨by simpa using G4.out⟩, G5, ⟨hc5, Kd.F_now F1.out⟩, ⟨Kd.FK_now F3.out⟩, HW⟩
    ·skip
     go_simp
     obtain ⟨X3, hY⟩ : ∃ X3, X2.alloc (.cells #[.string ⟨#[]⟩, .slice none 0 0, .slice none 0 0, .int .i64 0, .string ⟨#[]⟩, .slice none 0 0] 59) = X3 := ⟨_, rfl⟩
     obtain ⟨p6, hp6⟩ : ∃ p6, X2.heap.size = p6 := ⟨_, rfl⟩
     have hb : Below X2.heap.size X2 X3 := by rw [← hY]; exact below_alloc1 _ _
     have G5 := Aside0.mk (show X3.heap[p6]? = some (.cells #[.string ⟨#[]⟩, .slice none 0 0, .slice none 0 0, .int .i64 0, .string ⟨#[]⟩, .slice none 0 0] 59 (0, 0)) by rw [← hY, ← hp6]; exact alloc_at _ _)
     have hp6s : p6 < X3.heap.size := by rw [← hY, ← hp6]; simp
     have hp6w : w3.heap.size ≤ p6 := by rw [← hp6]; exact HW.out.size
     rw [hY, hp6]
     have F1 := Aside0.mk (Kd.F_mono (Kd.F_bound F1.out) (ok' := (fun k => w3.heap.size ≤ k ∧ k ≠ p6)) (fun k hk => by have h2 := hk; (try dsimp only at h2 ⊢); omega))
     have F3 := Aside0.mk (Kd.FK_mono (Kd.FK_bound F3.out) (ok' := (fun k => w3.heap.size ≤ k ∧ k ≠ p6)) (fun k hk => by have h2 := hk; (try dsimp only at h2 ⊢); omega))
     have BP := Aside0.mk (blk_below BP.out hb)
     have BD := Aside0.mk (blk_below BD.out hb)
     have HW := Aside0.mk (HW.out.trans (hb.mono HW.out.size))
     have hsz := hb.size
     have F1 := Aside0.mk (Kd.F_below F1.out hb)
     have F3 := Aside0.mk (Kd.FK_below F3.out hb)
     clear hb hY hp6
     have hSd := ChS.of BP.out BD.out
     refine hK.out _ _ (fun _ => hSd) ?_
     clear hK
     refine wpAnyK_one (i := 4) (by kernel_rfl) rfl (fun K hK => ?_)
     go_simp
     obtain ⟨X4, hY⟩ : ∃ X4, X3.alloc (.cells #[.slice none 0 0] 24) = X4 := ⟨_, rfl⟩
     obtain ⟨p5, hp5⟩ : ∃ p5, X3.heap.size = p5 := ⟨_, rfl⟩
     have hb : Below X3.heap.size X3 X4 := by rw [← hY]; exact below_alloc1 _ _
     have G4 := Aside0.mk (show X4.heap[p5]? = some (.cells #[.slice none 0 0] 24 (0, 0)) by rw [← hY, ← hp5]; exact alloc_at _ _)
     have hp5s : p5 < X4.heap.size := by rw [← hY, ← hp5]; simp
     have hp5w : w3.heap.size ≤ p5 := by rw [← hp5]; exact HW.out.size
     rw [hY, hp5]
     have hne : p5 ≠ p6 := by omega
     have F1 := Aside0.mk (Kd.F_mono (Kd.F_bound F1.out) (ok' := (fun k => w3.heap.size ≤ k ∧ k ≠ p5 ∧ k ≠ p6)) (fun k hk => by have h2 := hk; (try dsimp only at h2 ⊢); omega))
     have F3 := Aside0.mk (Kd.FK_mono (Kd.FK_bound F3.out) (ok' := (fun k => w3.heap.size ≤ k ∧ k ≠ p5 ∧ k ≠ p6)) (fun k hk => by have h2 := hk; (try dsimp only at h2 ⊢); omega))
     have BP := Aside0.mk (blk_below BP.out hb)
     have BD := Aside0.mk (blk_below BD.out hb)
     have HW := Aside0.mk (HW.out.trans (hb.mono HW.out.size))
     have hsz := hb.size
     have F1 := Aside0.mk (Kd.F_below F1.out hb)
     have F3 := Aside0.mk (Kd.FK_below F3.out hb)
     have G5 := Aside0.mk (blk_below G5.out hb)
     clear hb hY hp5
     have hSd := ChS.of BP.out BD.out
     refine hK.out _ _ (fun _ => hSd) ?_
     clear hK
     have k5 := (blk_cell G4.out 0).trans rfl
     have f5 := blk_frozen G4.out 0
     refine wpAnyK_one (i := 6) (by kernel_rfl) rfl (fun K hK => ?_)
     go_simp
     obtain ⟨Z6, hY⟩ : ∃ Z6, X4.setCell ⟨p5, 0, none⟩ (.slice A5 ps.length c5) = Z6 := ⟨_, rfl⟩
     have hst : ∀ k, k ≠ p5 → Z6.heap[k]? = X4.heap[k]? := fun k hk => by rw [← hY]; exact Below.heap_setCell _ _ _ _ hk
     have hz6 : Z6.heap.size = X4.heap.size := by rw [← hY]; simp only [World.setCell, Array.size_modify]
     have F1 := Aside0.mk (Kd.F_step F1.out (W1 := Z6) (fun k hk _ => hst k (by have h2 := hk; (try dsimp only at h2); omega)))
     have F3 := Aside0.mk (Kd.FK_step F3.out (W1 := Z6) (fun k hk _ => hst k (by have h2 := hk; (try dsimp only at h2); omega)))
     have hg := blk_put G4.out 0 (.slice A5 ps.length c5) rfl
     have hw := HW.out.setCell (p := ⟨p5, 0, none⟩) (by simp only; omega) (.slice A5 ps.length c5)
     rw [hY] at hg hw ⊢
     have G4 := Aside0.mk hg
     have G5 := Aside0.mk ((hst p6 (by omega)).trans G5.out)
     have BP := Aside0.mk ((hst _ (by omega)).trans BP.out)
     have BD := Aside0.mk ((hst _ (by omega)).trans BD.out)
     have HW := Aside0.mk hw
     clear hst hg hw hY k5 f5
     have x0 := (blk_cell G5.out 0).trans rfl
     have x1 := (blk_cell G5.out 1).trans rfl
     have x2 := (blk_cell G5.out 2).trans rfl
     have x3 := (blk_cell G5.out 3).trans rfl
     have x4 := (blk_cell G5.out 4).trans rfl
     have x5 := (blk_cell G5.out 5).trans rfl
     have fx := fun i => blk_frozen G5.out i
     have hSd := ChS.of BP.out BD.out
     refine hK.out _ _ (fun _ => hSd) ?_
     clear hK
     refine wpAnyK_one (i := 7) (by kernel_rfl) rfl (fun K hK => ?_)
     go_simp
     obtain ⟨Z7, hY⟩ : ∃ Z7, ((((((Z6.setCell ⟨p6, 0, none⟩ (.string d.f0)).setCell ⟨p6, 1, none⟩ (.slice E1 d.f1.length h1)).setCell ⟨p6, 2, none⟩ (.slice E2 d.f2.length h2)).setCell ⟨p6, 3, none⟩ (.int .i64 d.f3.f0)).setCell ⟨p6, 4, none⟩ (.string d.f3.f1)).setCell ⟨p6, 5, none⟩ (.slice E5 d.f3.f2.length h5)) = Z7 := ⟨_, rfl⟩
     have hst : ∀ k, k ≠ p6 → Z7.heap[k]? = Z6.heap[k]? := fun k hk => by rw [← hY]; exact (Below.heap_setCell _ _ _ _ hk).trans ((Below.heap_setCell _ _ _ _ hk).trans ((Below.heap_setCell _ _ _ _ hk).trans ((Below.heap_setCell _ _ _ _ hk).trans ((Below.heap_setCell _ _ _ _ hk).trans (Below.heap_setCell _ _ _ _ hk)))))
     have hg := blk_put (blk_put (blk_put (blk_put (blk_put (blk_put G5.out 0 (.string d.f0) rfl) 1 (.slice E1 d.f1.length h1) rfl) 2 (.slice E2 d.f2.length h2) rfl) 3 (.int .i64 d.f3.f0) rfl) 4 (.string d.f3.f1) rfl) 5 (.slice E5 d.f3.f2.length h5) rfl
     have hw := (((((HW.out.setCell (p := ⟨p6, 0, none⟩) (by simp only; omega) (.string d.f0)).setCell (p := ⟨p6, 1, none⟩) (by simp only; omega) (.slice E1 d.f1.length h1)).setCell (p := ⟨p6, 2, none⟩) (by simp only; omega) (.slice E2 d.f2.length h2)).setCell (p := ⟨p6, 3, none⟩) (by simp only; omega) (.int .i64 d.f3.f0)).setCell (p := ⟨p6, 4, none⟩) (by simp only; omega) (.string d.f3.f1)).setCell (p := ⟨p6, 5, none⟩) (by simp only; omega) (.slice E5 d.f3.f2.length h5)
     rw [hY] at hg hw ⊢
     have F1 := Aside0.mk (Kd.F_step F1.out (W1 := Z7) (fun k hk _ => hst k (by have h2 := hk; (try dsimp only at h2); omega)))
     have F3 := Aside0.mk (Kd.FK_step F3.out (W1 := Z7) (fun k hk _ => hst k (by have h2 := hk; (try dsimp only at h2); omega)))
     have G5 := Aside0.mk (show Z7.heap[p6]? = some (.cells #[.string d.f0, .slice E1 d.f1.length h1, .slice E2 d.f2.length h2, .int .i64 d.f3.f0, .string d.f3.f1, .slice E5 d.f3.f2.length h5] 59 (0, 0)) from hg)
     have G4 := Aside0.mk ((hst p5 (by omega)).trans G4.out)
     have HW := Aside0.mk hw
     clear hst hg hw hY x0 x1 x2 x3 x4 x5 fx
     refine hK.out _ _ (fun h => absurd rfl h) ?_
     clear hK hSd
     refine wpAnyK_done (by kernel_rfl) ?_ _
     go_wp2_with fail
     go_meet
     exact ⟨p5, p6, A5, c5, E1, h1, E2, h2, E5, h5, rfl, rfl, ⟨by simpa using G4.out⟩, G5, ⟨hc5, Kd.F_now F1.out⟩, ⟨Kd.FK_now F3.out⟩, HW⟩
   ·skip
    go_simp
    obtain ⟨X2, hY⟩ : ∃ X2, X1.alloc (.cells #[.slice none 0 0] 24) = X2 := ⟨_, rfl⟩
    obtain ⟨p5, hp5⟩ : ∃ p5, X1.heap.size = p5 := ⟨_, rfl⟩
    have hb : Below X1.heap.size X1 X2 := by rw [← hY]; exact below_alloc1 _ _
    have G4 := Aside0.mk (show X2.heap[p5]? = some (.cells #[.slice none 0 0] 24 (0, 0)) by rw [← hY, ← hp5]; exact alloc_at _ _)
    have hp5s : p5 < X2.heap.size := by rw [← hY, ← hp5]; simp
    have hp5w : w3.heap.size ≤ p5 := by rw [← hp5]; exact HW.out.size
    rw [hY, hp5]
    have F1 := Aside0.mk (Kd.F_mono (Kd.F_bound F1.out) (ok' := (fun k => w3.heap.size ≤ k ∧ k ≠ p5)) (fun k hk => by have h2 := hk; (try dsimp only at h2 ⊢); omega))
    have BP := Aside0.mk (blk_below BP.out hb)
    have BD := Aside0.mk (blk_below BD.out hb)
    have HW := Aside0.mk (HW.out.trans (hb.mono HW.out.size))
    have hsz := hb.size
    have F1 := Aside0.mk (Kd.F_below F1.out hb)
    clear hb hY hp5
    have hSd := ChS.of BP.out BD.out
    refine hK.out _ _ (fun _ => hSd) ?_
    clear hK
    refine wpAnyK_two (i := 3) (j := 5) (by kernel_rfl) rfl rfl (fun K hK => ?_) (fun K hK => ?_)
    ·skip
     go_simp
     go_at_call 49
     (with_reducible refine (HO3.out X2 HW.out).mono ?_)
     rintro e X3 ⟨v1, v2, v5, rfl, hT, hCs, hE, hb⟩
     obtain ⟨E1, h1, rfl⟩ := Kd.R_slice hT
     obtain ⟨E2, h2, rfl⟩ := Kd.R_slice hCs
     obtain ⟨E5, h5, rfl⟩ := Kd.R_slice hE
     have F3 := Aside0.mk (Kd.FK_mono (Kd.FK_of_M (k59_mkM X3 X2.heap.size (fun k => X2.heap.size ≤ k) d (Kd.R_mono (Kd.R_bound hT) (fun k hk => hk.2.1)) (Kd.R_mono (Kd.R_bound hCs) (fun k hk => hk.2.1)) (Kd.R_mono (Kd.R_bound hE) (fun k hk => hk.2.1)))) (ok' := (fun k => w3.heap.size ≤ k ∧ k ≠ p5)) (fun k hk => by have h1 := HW.out.size; have h2 := hk; (try dsimp only at h2 ⊢); omega))
     have BP := Aside0.mk (blk_below BP.out hb)
     have BD := Aside0.mk (blk_below BD.out hb)
     have HW := Aside0.mk (HW.out.trans (hb.mono HW.out.size))
     have hsz := hb.size
     have F1 := Aside0.mk (Kd.F_below F1.out hb)
     have G4 := Aside0.mk (blk_below G4.out hb)
     clear hT hCs hE hb
     have hSd := ChS.of BP.out BD.out
     refine hK.out _ _ (fun _ => hSd) ?_
     clear hK
     refine wpAnyK_one (i := 5) (by kernel_rfl) rfl (fun K hK => ?_)
     go_simp
     obtain ⟨X4, hY⟩ : ∃ X4, X3.alloc (.cells #[.string ⟨#[]⟩, .slice none 0 0, .slice none 0 0, .int .i64 0, .string ⟨#[]⟩, .slice none 0 0] 59) = X4 := ⟨_, rfl⟩
     obtain ⟨p6, hp6⟩ : ∃ p6, X3.heap.size = p6 := ⟨_, rfl⟩
     have hb : Below X3.heap.size X3 X4 := by rw [← hY]; exact below_alloc1 _ _
     have G5 := Aside0.mk (show X4.heap[p6]? = some (.cells #[.string ⟨#[]⟩, .slice none 0 0, .slice none 0 0, .int .i64 0, .string ⟨#[]⟩, .slice none 0 0] 59 (0, 0)) by rw [← hY, ← hp6]; exact alloc_at _ _)
     have hp6s : p6 < X4.heap.size := by rw [← hY, ← hp6]; simp
     have hp6w : w3.heap.size ≤ p6 := by rw [← hp6]; exact HW.out.size
     rw [hY, hp6]
     have hne : p5 ≠ p6 := by omega
     have F1 := Aside0.mk (Kd.F_mono (Kd.F_bound F1.out) (ok' := (fun k => w3.heap.size ≤ k ∧ k ≠ p5 ∧ k ≠ p6)) (fun k hk => by have h2 := hk; (try dsimp only at h2 ⊢); omega))
     have F3 := Aside0.mk (Kd.FK_mono (Kd.FK_bound F3.out) (ok' := (fun k => w3.heap.size ≤ k ∧ k ≠ p5 ∧ k ≠ p6)) (fun k hk => by have h2 := hk; (try dsimp only at h2 ⊢); omega))
     have BP := Aside0.mk (blk_below BP.out hb)
     have BD := Aside0.mk (blk_below BD.out hb)
     have HW := Aside0.mk (HW.out.trans (hb.mono HW.out.size))
     have hsz := hb.size
     have F1 := Aside0.mk (Kd.F_below F1.out hb)
     have F3 := Aside0.mk (Kd.FK_below F3.out hb)
     have G4 := Aside0.mk (blk_below G4.out hb)
     clear hb hY hp6
     have hSd := ChS.of BP.out BD.out
     refine hK.out _ _ (fun _ => hSd) ?_
     clear hK
     have k5 := (blk_cell G4.out 0).trans rfl
     have f5 := blk_frozen G4.out 0
     refine wpAnyK_one (i := 6) (by kernel_rfl) rfl (fun K hK => ?_)
     go_simp
     obtain ⟨Z6, hY⟩ : ∃ Z6, X4.setCell ⟨p5, 0, none⟩ (.slice A5 ps.length c5) = Z6 := ⟨_, rfl⟩
     have hst : ∀ k, k ≠ p5 → Z6.heap[k]? = X4.heap[k]? := fun k hk => by rw [← hY]; exact Below.heap_setCell _ _ _ _ hk
     have hz6 : Z6.heap.size = X4.heap.size := by rw [← hY]; simp only [World.setCell, Array.size_modify]
     have F1 := Aside0.mk (Kd.F_step F1.out (W1 := Z6) (fun k hk _ => hst k (by have h2 := hk; (try dsimp only at h2); omega)))
     have F3 := Aside0.mk (Kd.FK_step F3.out (W1 := Z6) (fun k hk _ => hst k (by have h2 := hk; (try dsimp only at h2); omega)))
     have hg := blk_put G4.out 0 (.slice A5 ps.length c5) rfl
     have hw := HW.out.setCell (p := ⟨p5, 0, none⟩) (by simp only; omega) (.slice A5 ps.length c5)
     rw [hY] at hg hw ⊢
     have G4 := Aside0.mk hg
     have G5 := Aside0.mk ((hst p6 (by omega)).trans G5.out)
     have BP := Aside0.mk ((hst _ (by omega)).trans BP.out)
     have BD := Aside0.mk ((hst _ (by omega)).trans BD.out)
     have HW := Aside0.mk hw
     clear hst hg hw hY k5 f5
     have x0 := (blk_cell G5.out 0).trans rfl
     have x1 := (blk_cell G5.out 1).trans rfl
     have x2 := (blk_cell G5.out 2).trans rfl
     have x3 := (blk_cell G5.out 3).trans rfl
     have x4 := (blk_cell G5.out 4).trans rfl
     have x5 := (blk_cell G5.out 5).trans rfl
     have fx := fun i => blk_frozen G5.out i
     have hSd := ChS.of BP.out BD.out
     refine hK.out _ _ (fun _ => hSd) ?_
     clear hK
     refine wpAnyK_one (i := 7) (by kernel_rfl) rfl (fun K hK => ?_)
     go_simp
     obtain ⟨Z7, hY⟩ : ∃ Z7, ((((((Z6.setCell ⟨p6, 0, none⟩ (.string d.f0)).setCell ⟨p6, 1, none⟩ (.slice E1 d.f1.length h1)).setCell ⟨p6, 2, none⟩ (.slice E2 d.f2.length h2)).setCell ⟨p6, 3, none⟩ (.int .i64 d.f3.f0)).setCell ⟨p6, 4, none⟩ (.string d.f3.f1)).setCell ⟨p6, 5, none⟩ (.slice E5 d.f3.f2.length h5)) = Z7 := ⟨_, rfl⟩
     have hst : ∀ k, k ≠ p6 → Z7.heap[k]? = Z6.heap[k]? := fun k hk => by rw [← hY]; exact (Below.heap_setCell _ _ _ _ hk).trans ((Below.heap_setCell _ _ _ _ hk).trans ((Below.heap_setCell _ _ _ _ hk).trans ((Below.heap_setCell _ _ _ _ hk).trans ((Below.heap_setCell _ _ _ _ hk).trans (Below.heap_setCell _ _ _ _ hk)))))
     have hg := blk_put (blk_put (blk_put (blk_put (blk_put (blk_put G5.out 0 (.string d.f0) rfl) 1 (.slice E1 d.f1.length h1) rfl) 2 (.slice E2 d.f2.length h2) rfl) 3 (.int .i64 d.f3.f0) rfl) 4 (.string d.f3.f1) rfl) 5 (.slice E5 d.f3.f2.length h5) rfl
     have hw := (((((HW.out.setCell (p := ⟨p6, 0, none⟩) (by simp only; omega) (.string d.f0)).setCell (p := ⟨p6, 1, none⟩) (by simp only; omega) (.slice E1 d.f1.length h1)).setCell (p := ⟨p6, 2, none⟩) (by simp only; omega) (.slice E2 d.f2.length h2)).setCell (p := ⟨p6, 3, none⟩) (by simp only; omega) (.int .i64 d.f3.f0)).setCell (p := ⟨p6, 4, none⟩) (by simp only; omega) (.string d.f3.f1)).setCell (p := ⟨p6, 5, none⟩) (by simp only; omega) (.slice E5 d.f3.f2.length h5)
     rw [hY] at hg hw ⊢
     have F1 := Aside0.mk (Kd.F_step F1.out (W1 := Z7) (fun k hk _ => hst k (by have h2 := hk; (try dsimp only at h2); omega)))
     have F3 := Aside0.mk (Kd.FK_step F3.out (W1 := Z7) (fun k hk _ => hst k (by have h2 := hk; (try dsimp only at h2); omega)))
     have G5 := Aside0.mk (show Z7.heap[p6]? = some (.cells #[.string d.f0, .slice E1 d.f1.length h1, .slice E2 d.f2.length h2, .int .i64 d.f3.f0, .string d.f3.f1, .slice E5 d.f3.f2.length h5] 59 (0, 0)) from hg)
     have G4 := Aside0.mk ((hst p5 (by omega)).trans G4.out)
     have HW := Aside0.mk hw
     clear hst hg hw hY x0 x1 x2 x3 x4 x5 fx
     refine hK.out _ _ (fun h => absurd rfl h) ?_
     clear hK hSd
     refine wpAnyK_done (by kernel_rfl) ?_ _
     go_wp2_with fail
     go_meet
     exact ⟨p5, p6, A5, c5, E1, h1, E2, h2, E5, h5, rfl, rfl, ⟨by simpa using G4.out⟩, G5, ⟨hc5, Kd.F_now F1.out⟩, ⟨Kd.FK_now F3.out⟩, HW⟩
    ·skip
     go_simp
     obtain ⟨X3, hY⟩ : ∃ X3, X2.alloc (.cells #[.string ⟨#[]⟩, .slice none 0 0, .slice none 0 0, .int .i64 0, .string ⟨#[]⟩, .slice none 0 0] 59) = X3 := ⟨_, rfl⟩
     obtain ⟨p6, hp6⟩ : ∃ p6, X2.heap.size = p6 := ⟨_, rfl⟩
     have hb : Below X2.heap.size X2 X3 := by rw [← hY]; exact below_alloc1 _ _
     have G5 := Aside0.mk (show X3.heap[p6]? = some (.cells #[.string ⟨#[]⟩, .slice none 0 0, .slice none 0 0, .int .i64 0, .string ⟨#[]⟩, .slice none 0 0] 59 (0, 0)) by rw [← hY, ← hp6]; exact alloc_at _ _)
     have hp6s : p6 < X3.heap.size := by rw [← hY, ← hp6]; simp
     have hp6w : w3.heap.size ≤ p6 := by rw [← hp6]; exact HW.out.size
     rw [hY, hp6]
     have hne : p5 ≠ p6 := by omega
     have F1 := Aside0.mk (Kd.F_mono (Kd.F_bound F1.out) (ok' := (fun k => w3.heap.size ≤ k ∧ k ≠ p5 ∧ k ≠ p6)) (fun k hk => by have h2 := hk; (try dsimp only at h2 ⊢); omega))
     have BP := Aside0.mk (blk_below BP.out hb)
     have BD := Aside0.mk (blk_below BD.out hb)
     have HW := Aside0.mk (HW.out.trans (hb.mono HW.out.size))
     have hsz := hb.size
     have F1 := Aside0.mk (Kd.F_below F1.out hb)
     have G4 := Aside0.mk (blk_below G4.out hb)
     clear hb hY hp6
     have hSd := ChS.of BP.out BD.out
     refine hK.out _ _ (fun _ => hSd) ?_
     clear hK
     refine wpAnyK_one (i := 3) (by kernel_rfl) rfl (fun K hK => ?_)
     go_simp
     go_at_call 49
     (with_reducible refine (HO3.out X3 HW.out).mono ?_)
     rintro e X4 ⟨v1, v2, v5, rfl, hT, hCs, hE, hb⟩
     obtain ⟨E1, h1, rfl⟩ := Kd.R_slice hT
     obtain ⟨E2, h2, rfl⟩ := Kd.R_slice hCs
     obtain ⟨E5, h5, rfl⟩ := Kd.R_slice hE
     have F3 := Aside0.mk (Kd.FK_mono (Kd.FK_of_M (k59_mkM X4 X3.heap.size (fun k => X3.heap.size ≤ k) d (Kd.R_mono (Kd.R_bound hT) (fun k hk => hk.2.1)) (Kd.R_mono (Kd.R_bound hCs) (fun k hk => hk.2.1)) (Kd.R_mono (Kd.R_bound hE) (fun k hk => hk.2.1)))) (ok' := (fun k => w3.heap.size ≤ k ∧ k ≠ p5 ∧ k ≠ p6)) (fun k hk => by have h1 := HW.out.size; have h2 := hk; (try dsimp only at h2 ⊢); omega))
     have BP := Aside0.mk (blk_below BP.out hb)
     have BD := Aside0.mk (blk_below BD.out hb)
     have HW := Aside0.mk (HW.out.trans (hb.mono HW.out.size))
     have hsz := hb.size
     have F1 := Aside0.mk (Kd.F_below F1.out hb)
     have G4 := Aside0.mk (blk_below G4.out hb)
     have G5 := Aside0.mk (blk_below G5.out hb)
     clear hT hCs hE hb
     have hSd := ChS.of BP.out BD.out
     refine hK.out _ _ (fun _ => hSd) ?_
     clear hK
     have k5 := (blk_cell G4.out 0).trans rfl
     have f5 := blk_frozen G4.out 0
     refine wpAnyK_one (i := 6) (by kernel_rfl) rfl (fun K hK => ?_)
     go_simp
     obtain ⟨Z6, hY⟩ : ∃ Z6, X4.setCell ⟨p5, 0, none⟩ (.slice A5 ps.length c5) = Z6 := ⟨_, rfl⟩
     have hst : ∀ k, k ≠ p5 → Z6.heap[k]? = X4.heap[k]? := fun k hk => by rw [← hY]; exact Below.heap_setCell _ _ _ _ hk
     have hz6 : Z6.heap.size = X4.heap.size := by rw [← hY]; simp only [World.setCell, Array.size_modify]
     have F1 := Aside0.mk (Kd.F_step F1.out (W1 := Z6) (fun k hk _ => hst k (by have h2 := hk; (try dsimp only at h2); omega)))
     have F3 := Aside0.mk (Kd.FK_step F3.out (W1 := Z6) (fun k hk _ => hst k (by have h2 := hk; (try dsimp only at h2); omega)))
     have hg := blk_put G4.out 0 (.slice A5 ps.length c5) rfl
     have hw := HW.out.setCell (p := ⟨p5, 0, none⟩) (by simp only; omega) (.slice A5 ps.length c5)
     rw [hY] at hg hw ⊢
     have G4 := Aside0.mk hg
     have G5 := Aside0.mk ((hst p6 (by omega)).trans G5.out)
     have BP := Aside0.mk ((hst _ (by omega)).trans BP.out)
     have BD := Aside0.mk ((hst _ (by omega)).trans BD.out)
     have HW := Aside0.mk hw
     clear hst hg hw hY k5 f5
     have x0 := (blk_cell G5.out 0).trans rfl
     have x1 := (blk_cell G5.out 1).trans rfl
     have x2 := (blk_cell G5.out 2).trans rfl
     have x3 := (blk_cell G5.out 3).trans rfl
     have x4 := (blk_cell G5.out 4).trans rfl
     have x5 := (blk_cell G5.out 5).trans rfl
     have fx := fun i => blk_frozen G5.out i
     have hSd := ChS.of BP.out BD.out
     refine hK.out _ _ (fun _ => hSd) ?_
     clear hK
     refine wpAnyK_one (i := 7) (by kernel_rfl) rfl (fun K hK => ?_)
     go_simp
     obtain ⟨Z7, hY⟩ : ∃ Z7, ((((((Z6.setCell ⟨p6, 0, none⟩ (.string d.f0)).setCell ⟨p6, 1, none⟩ (.slice E1 d.f1.length h1)).setCell ⟨p6, 2, none⟩ (.slice E2 d.f2.length h2)).setCell ⟨p6, 3, none⟩ (.int .i64 d.f3.f0)).setCell ⟨p6, 4, none⟩ (.string d.f3.f1)).setCell ⟨p6, 5, none⟩ (.slice E5 d.f3.f2.length h5)) = Z7 := ⟨_, rfl⟩
     have hst : ∀ k, k ≠ p6 → Z7.heap[k]? = Z6.heap[k]? := fun k hk => by rw [← hY]; exact (Below.heap_setCell _ _ _ _ hk).trans ((Below.heap_setCell _ _ _ _ hk).trans ((Below.heap_setCell _ _ _ _ hk).trans ((Below.heap_setCell _ _ _ _ hk).trans ((Below.heap_setCell _ _ _ _ hk).trans (Below.heap_setCell _ _ _ _ hk)))))
     have hg := blk_put (blk_put (blk_put (blk_put (blk_put (blk_put G5.out 0 (.string d.f0) rfl) 1 (.slice E1 d.f1.length h1) rfl) 2 (.slice E2 d.f2.length h2) rfl) 3 (.int .i64 d.f3.f0) rfl) 4 (.string d.f3.f1) rfl) 5 (.slice E5 d.f3.f2.length h5) rfl
     have hw := (((((HW.out.setCell (p := ⟨p6, 0, none⟩) (by simp only; omega) (.string d.f0)).setCell (p := ⟨p6, 1, none⟩) (by simp only; omega) (.slice E1 d.f1.length h1)).setCell (p := ⟨p6, 2, none⟩) (by simp only; omega) (.slice E2 d.f2.length h2)).setCell (p := ⟨p6, 3, none⟩) (by simp only; omega) (.int .i64 d.f3.f0)).setCell (p := ⟨p6, 4, none⟩) (by simp only; omega) (.string d.f3.f1)).setCell (p := ⟨p6, 5, none⟩) (by simp only; omega) (.slice E5 d.f3.f2.length h5)
     rw [hY] at hg hw ⊢
     have F1 := Aside0.mk (Kd.F_step F1.out (W1 := Z7) (fun k hk _ => hst k (by have h2 := hk; (try dsimp only at h2); omega)))
     have F3 := Aside0.mk (Kd.FK_step F3.out (W1 := Z7) (fun k hk _ => hst k (by have h2 := hk; (try dsimp only at h2); omega)))
     have G5 := Aside0.mk (show Z7.heap[p6]? = some (.cells #[.string d.f0, .slice E1 d.f1.length h1, .slice E2 d.f2.length h2, .int .i64 d.f3.f0, .string d.f3.f1, .slice E5 d.f3.f2.length h5] 59 (0, 0)) from hg)
     have G4 := Aside0.mk ((hst p5 (by omega)).trans G4.out)
     have HW := Aside0.mk hw
     clear hst hg hw hY x0 x1 x2 x3 x4 x5 fx
     refine hK.out _ _ (fun h => absurd rfl h) ?_
     clear hK hSd
     refine wpAnyK_done (by kernel_rfl) ?_ _
     go_wp2_with fail
     go_meet
     exact ⟨p5, p6, A5, c5, E1, h1, E2, h2, E5, h5, rfl, rfl, ⟨by simpa using G4.out⟩, G5, ⟨hc5, Kd.F_now F1.out⟩, ⟨Kd.FK_now F3.out⟩, HW⟩
   ·skip
    go_simp
    obtain ⟨X2, hY⟩ : ∃ X2, X1.alloc (.cells #[.string ⟨#[]⟩, .slice none 0 0, .slice none 0 0, .int .i64 0, .string ⟨#[]⟩, .slice none 0 0] 59) = X2 := ⟨_, rfl⟩
    obtain ⟨p6, hp6⟩ : ∃ p6, X1.heap.size = p6 := ⟨_, rfl⟩
    have hb : Below X1.heap.size X1 X2 := by rw [← hY]; exact below_alloc1 _ _
    have G5 := Aside0.mk (show X2.heap[p6]? = some (.cells #[.string ⟨#[]⟩, .slice none 0 0, .slice none 0 0, .int .i64 0, .string ⟨#[]⟩, .slice none 0 0] 59 (0, 0)) by rw [← hY, ← hp6]; exact alloc_at _ _)
    have hp6s : p6 < X2.heap.size := by rw [← hY, ← hp6]; simp
    have hp6w : w3.heap.size ≤ p6 := by rw [← hp6]; exact HW.out.size
    rw [hY, hp6]
    have F1 := Aside0.mk (Kd.F_mono (Kd.F_bound F1.out) (ok' := (fun k => w3.heap.size ≤ k ∧ k ≠ p6)) (fun k hk => by have h2 := hk; (try dsimp only at h2 ⊢); omega))
    have BP := Aside0.mk (blk_below BP.out hb)
    have BD := Aside0.mk (blk_below BD.out hb)
    have HW := Aside0.mk (HW.out.trans (hb.mono HW.out.size))
    have hsz := hb.size
    have F1 := Aside0.mk (Kd.F_below F1.out hb)
    clear hb hY hp6
    have hSd := ChS.of BP.out BD.out
    refine hK.out _ _ (fun _ => hSd) ?_
    clear hK
    refine wpAnyK_two (i := 3) (j := 4) (by kernel_rfl) rfl rfl (fun K hK => ?_) (fun K hK => ?_)
    ·skip
     go_simp
     go_at_call 49
     (with_reducible refine (HO3.out X2 HW.out).mono ?_)
     rintro e X3 ⟨v1, v2, v5, rfl, hT, hCs, hE, hb⟩
     obtain ⟨E1, h1, rfl⟩ := Kd.R_slice hT
     obtain ⟨E2, h2, rfl⟩ := Kd.R_slice hCs
     obtain ⟨E5, h5, rfl⟩ := Kd.R_slice hE
     have F3 := Aside0.mk (Kd.FK_mono (Kd.FK_of_M (k59_mkM X3 X2.heap.size (fun k => X2.heap.size ≤ k) d (Kd.R_mono (Kd.R_bound hT) (fun k hk => hk.2.1)) (Kd.R_mono (Kd.R_bound hCs) (fun k hk => hk.2.1)) (Kd.R_mono (Kd.R_bound hE) (fun k hk => hk.2.1)))) (ok' := (fun k => w3.heap.size ≤ k ∧ k ≠ p6)) (fun k hk => by have h1 := HW.out.size; have h2 := hk; (try dsimp only at h2 ⊢); omega))
     have BP := Aside0.mk (blk_below BP.out hb)
     have BD := Aside0.mk (blk_below BD.out hb)
     have HW := Aside0.mk (HW.out.trans (hb.mono HW.out.size))
     have hsz := hb.size
     have F1 := Aside0.mk (Kd.F_below F1.out hb)
     have G5 := Aside0.mk (blk_below G5.out hb)
     clear hT hCs hE hb
     have hSd := ChS.of BP.out BD.out
     refine hK.out _ _ (fun _ => hSd) ?_
     clear hK
     refine wpAnyK_one (i := 4) (by kernel_rfl) rfl (fun K hK => ?_)
     go_simp
     obtain ⟨X4, hY⟩ : ∃ X4, X3.alloc (.cells #[.slice none 0 0] 24) = X4 := ⟨_, rfl⟩
     obtain ⟨p5, hp5⟩ : ∃ p5, X3.heap.size = p5 := ⟨_, rfl⟩
     have hb : Below X3.heap.size X3 X4 := by rw [← hY]; exact below_alloc1 _ _
     have G4 := Aside0.mk (show X4.heap[p5]? = some (.cells #[.slice none 0 0] 24 (0, 0)) by rw [← hY, ← hp5]; exact alloc_at _ _)
     have hp5s : p5 < X4.heap.size := by rw [← hY, ← hp5]; simp
     have hp5w : w3.heap.size ≤ p5 := by rw [← hp5]; exact HW.out.size
     rw [hY, hp5]
     have hne : p5 ≠ p6 := by omega
     have F1 := Aside0.mk (Kd.F_mono (Kd.F_bound F1.out) (ok' := (fun k => w3.heap.size ≤ k ∧ k ≠ p5 ∧ k ≠ p6)) (fun k hk => by have h2 := hk; (try dsimp only at h2 ⊢); omega))
     have F3 := Aside0.mk (Kd.FK_mono (Kd.FK_bound F3.out) (ok' := (fun k => w3.heap.size ≤ k ∧ k ≠ p5 ∧ k ≠ p6)) (fun k hk => by have h2 := hk; (try dsimp only at h2 ⊢); omega))
     have BP := Aside0.mk (blk_below BP.out hb)
     have BD := Aside0.mk (blk_below BD.out hb)
     have HW := Aside0.mk (HW.out.trans (hb.mono HW.out.size))
     have hsz := hb.size
     have F1 := Aside0.mk (Kd.F_below F1.out hb)
     have F3 := Aside0.mk (Kd.FK_below F3.out hb)
     have G5 := Aside0.mk (blk_below G5.out hb)
     clear hb hY hp5
     have hSd := ChS.of BP.out BD.out
     refine hK.out _ _ (fun _ => hSd) ?_
     clear hK
     have k5 := (blk_cell G4.out 0).trans rfl
     have f5 := blk_frozen G4.out 0
     refine wpAnyK_one (i := 6) (by kernel_rfl) rfl (fun K hK => ?_)
     go_simp
     obtain ⟨Z6, hY⟩ : ∃ Z6, X4.setCell ⟨p5, 0, none⟩ (.slice A5 ps.length c5) = Z6 := ⟨_, rfl⟩
     have hst : ∀ k, k ≠ p5 → Z6.heap[k]? = X4.heap[k]? := fun k hk => by rw [← hY]; exact Below.heap_setCell _ _ _ _ hk
     have hz6 : Z6.heap.size = X4.heap.size := by rw [← hY]; simp only [World.setCell, Array.size_modify]
     have F1 := Aside0.mk (Kd.F_step F1.out (W1 := Z6) (fun k hk _ => hst k (by have h2 := hk; (try dsimp only at h2); omega)))
     have F3 := Aside0.mk (Kd.FK_step F3.out (W1 := Z6) (fun k hk _ => hst k (by have h2 := hk; (try dsimp only at h2); omega)))
     have hg := blk_put G4.out 0 (.slice A5 ps.length c5) rfl
     have hw := HW.out.setCell (p := ⟨p5, 0, none⟩) (by simp only; omega) (.slice A5 ps.length c5)
     rw [hY] at hg hw ⊢
     have G4 := Aside0.mk hg
     have G5 := Aside0.mk ((hst p6 (by omega)).trans G5.out)
     have BP := Aside0.mk ((hst _ (by omega)).trans BP.out)
     have BD := Aside0.mk ((hst _ (by omega)).trans BD.out)
     have HW := Aside0.mk hw
     clear hst hg hw hY k5 f5
     have x0 := (blk_cell G5.out 0).trans rfl
     have x1 := (blk_cell G5.out 1).trans rfl
     have x2 := (blk_cell G5.out 2).trans rfl
     have x3 := (blk_cell G5.out 3).trans rfl
     have x4 := (blk_cell G5.out 4).trans rfl
     have x5 := (blk_cell G5.out 5).trans rfl
     have fx := fun i => blk_frozen G5.out i
     have hSd := ChS.of BP.out BD.out
     refine hK.out _ _ (fun _ => hSd) ?_
     clear hK
     refine wpAnyK_one (i := 7) (by kernel_rfl) rfl (fun K hK => ?_)
     go_simp
     obtain ⟨Z7, hY⟩ : ∃ Z7, ((((((Z6.setCell ⟨p6, 0, none⟩ (.string d.f0)).setCell ⟨p6, 1, none⟩ (.slice E1 d.f1.length h1)).setCell ⟨p6, 2, none⟩ (.slice E2 d.f2.length h2)).setCell ⟨p6, 3, none⟩ (.int .i64 d.f3.f0)).setCell ⟨p6, 4, none⟩ (.string d.f3.f1)).setCell ⟨p6, 5, none⟩ (.slice E5 d.f3.f2.length h5)) = Z7 := ⟨_, rfl⟩
     have hst : ∀ k, k ≠ p6 → Z7.heap[k]? = Z6.heap[k]? := fun k hk => by rw [← hY]; exact (Below.heap_setCell _ _ _ _ hk).trans ((Below.heap_setCell _ _ _ _ hk).trans ((Below.heap_setCell _ _ _ _ hk).trans ((Below.heap_setCell _ _ _ _ hk).trans ((Below.heap_setCell _ _ _ _ hk).trans (Below.heap_setCell _ _ _ _ hk)))))
     have hg := blk_put (blk_put (blk_put (blk_put (blk_put (blk_put G5.out 0 (.string d.f0) rfl) 1 (.slice E1 d.f1.length h1) rfl) 2 (.slice E2 d.f2.length h2) rfl) 3 (.int .i64 d.f3.f0) rfl) 4 (.string d.f3.f1) rfl) 5 (.slice E5 d.f3.f2.length h5) rfl
     have hw := (((((HW.out.setCell (p := ⟨p6, 0, none⟩) (by simp only; omega) (.string d.f0)).setCell (p := ⟨p6, 1, none⟩) (by simp only; omega) (.slice E1 d.f1.length h1)).setCell (p := ⟨p6, 2, none⟩) (by simp only; omega) (.slice E2 d.f2.length h2)).setCell (p := ⟨p6, 3, none⟩) (by simp only; omega) (.int .i64 d.f3.f0)).setCell (p := ⟨p6, 4, none⟩) (by simp only; omega) (.string d.f3.f1)).setCell (p := ⟨p6, 5, none⟩) (by simp only; omega) (.slice E5 d.f3.f2.length h5)
     rw [hY] at hg hw ⊢
     have F1 := Aside0.mk (Kd.F_step F1.out (W1 := Z7) (fun k hk _ => hst k (by have h2 := hk; (try dsimp only at h2); omega)))
     have F3 := Aside0.mk (Kd.FK_step F3.out (W1 := Z7) (fun k hk _ => hst k (by have h2 := hk; (try dsimp only at h2); omega)))
     have G5 := Aside0.mk (show Z7.heap[p6]? = some (.cells #[.string d.f0, .slice E1 d.f1.length h1, .slice E2 d.f2.length h2, .int .i64 d.f3.f0, .string d.f3.f1, .slice E5 d.f3.f2.length h5] 59 (0, 0)) from hg)
     have G4 := Aside0.mk ((hst p5 (by omega)).trans G4.out)
     have HW := Aside0.mk hw
     clear hst hg hw hY x0 x1 x2 x3 x4 x5 fx
     refine hK.out _ _ (fun h => absurd rfl h) ?_
     clear hK hSd
     refine wpAnyK_done (by kernel_rfl) ?_ _
     go_wp2_with fail
     go_meet
     exact ⟨p5, p6, A5, c5, E1, h1, E2, h2, E5, h5, rfl, rfl, ⟨by simpa using G4.out⟩, G5, ⟨hc5, Kd.F_now F1.out⟩, ⟨Kd.FK_now F3.out⟩, HW⟩
    ·skip
     go_simp
     obtain ⟨X3, hY⟩ : ∃ X3, X2.alloc (.cells #[.slice none 0 0] 24) = X3 := ⟨_, rfl⟩
     obtain ⟨p5, hp5⟩ : ∃ p5, X2.heap.size = p5 := ⟨_, rfl⟩
     have hb : Below X2.heap.size X2 X3 := by rw [← hY]; exact below_alloc1 _ _
     have G4 := Aside0.mk (show X3.heap[p5]? = some (.cells #[.slice none 0 0] 24 (0, 0)) by rw [← hY, ← hp5]; exact alloc_at _ _)
     have hp5s : p5 < X3.heap.size := by rw [← hY, ← hp5]; simp
     have hp5w : w3.heap.size ≤ p5 := by rw [← hp5]; exact HW.out.size
     rw [hY, hp5]
     have hne : p5 ≠ p6 := by omega
     have F1 := Aside0.mk (Kd.F_mono (Kd.F_bound F1.out) (ok' := (fun k => w3.heap.size ≤ k ∧ k ≠ p5 ∧ k ≠ p6)) (fun k hk => by have h2 := hk; (try dsimp only at h2 ⊢); omega))
     have BP := Aside0.mk (blk_below BP.out hb)
     have BD := Aside0.mk (blk_below BD.out hb)
     have HW := Aside0.mk (HW.out.trans (hb.mono HW.out.size))
     have hsz := hb.size
     have F1 := Aside0.mk (Kd.F_below F1.out hb)
     have G5 := Aside0.mk (blk_below G5.out hb)
     clear hb hY hp5
     have hSd := ChS.of BP.out BD.out
     refine hK.out _ _ (fun _ => hSd) ?_
     clear hK
     refine wpAnyK_one (i := 3) (by kernel_rfl) rfl (fun K hK => ?_)
     go_simp
     go_at_call 49
     (with_reducible refine (HO3.out X3 HW.out).mono ?_)
     rintro e X4 ⟨v1, v2, v5, rfl, hT, hCs, hE, hb⟩
     obtain ⟨E1, h1, rfl⟩ := Kd.R_slice hT
     obtain ⟨E2, h2, rfl⟩ := Kd.R_slice hCs
     obtain ⟨E5, h5, rfl⟩ := Kd.R_slice hE
     have F3 := Aside0.mk (Kd.FK_mono (Kd.FK_of_M (k59_mkM X4 X3.heap.size (fun k => X3.heap.size ≤ k) d (Kd.R_mono (Kd.R_bound hT) (fun k hk => hk.2.1)) (Kd.R_mono (Kd.R_bound hCs) (fun k hk => hk.2.1)) (Kd.R_mono (Kd.R_bound hE) (fun k hk => hk.2.1)))) (ok' := (fun k => w3.heap.size ≤ k ∧ k ≠ p5 ∧ k ≠ p6)) (fun k hk => by have h1 := HW.out.size; have h2 := hk; (try dsimp only at h2 ⊢); omega))
     have BP := Aside0.mk (blk_below BP.out hb)
     have BD := Aside0.mk (blk_below BD.out hb)
     have HW := Aside0.mk (HW.out.trans (hb.mono HW.out.size))
     have hsz := hb.size
     have F1 := Aside0.mk (Kd.F_below F1.out hb)
     have G4 := Aside0.mk (blk_below G4.out hb)
     have G5 := Aside0.mk (blk_below G5.out hb)
     clear hT hCs hE hb
     have hSd := ChS.of BP.out BD.out
     refine hK.out _ _ (fun _ => hSd) ?_
     clear hK
     have k5 := (blk_cell G4.out 0).trans rfl
     have f5 := blk_frozen G4.out 0
     refine wpAnyK_one (i := 6) (by kernel_rfl) rfl (fun K hK => ?_)
     go_simp
     obtain ⟨Z6, hY⟩ : ∃ Z6, X4.setCell ⟨p5, 0, none⟩ (.slice A5 ps.length c5) = Z6 := ⟨_, rfl⟩
     have hst : ∀ k, k ≠ p5 → Z6.heap[k]? = X4.heap[k]? := fun k hk => by rw [← hY]; exact Below.heap_setCell _ _ _ _ hk
     have hz6 : Z6.heap.size = X4.heap.size := by rw [← hY]; simp only [World.setCell, Array.size_modify]
     have F1 := Aside0.mk (Kd.F_step F1.out (W1 := Z6) (fun k hk _ => hst k (by have h2 := hk; (try dsimp only at h2); omega)))
     have F3 := Aside0.mk (Kd.FK_step F3.out (W1 := Z6) (fun k hk _ => hst k (by have h2 := hk; (try dsimp only at h2); omega)))
     have hg := blk_put G4.out 0 (.slice A5 ps.length c5) rfl
     have hw := HW.out.setCell (p := ⟨p5, 0, none⟩) (by simp only; omega) (.slice A5 ps.length c5)
     rw [hY] at hg hw ⊢
     have G4 := Aside0.mk hg
     have G5 := Aside0.mk ((hst p6 (by omega)).trans G5.out)
     have BP := Aside0.mk ((hst _ (by omega)).trans BP.out)
     have BD := Aside0.mk ((hst _ (by omega)).trans BD.out)
     have HW := Aside0.mk hw
     clear hst hg hw hY k5 f5
     have x0 := (blk_cell G5.out 0).trans rfl
     have x1 := (blk_cell G5.out 1).trans rfl
     have x2 := (blk_cell G5.out 2).trans rfl
     have x3 := (blk_cell G5.out 3).trans rfl
     have x4 := (blk_cell G5.out 4).trans rfl
     have x5 := (blk_cell G5.out 5).trans rfl
     have fx := fun i => blk_frozen G5.out i
     have hSd := ChS.of BP.out BD.out
     refine hK.out _ _ (fun _ => hSd) ?_
     clear hK
     refine wpAnyK_one (i := 7) (by kernel_rfl) rfl (fun K hK => ?_)
     go_simp
     obtain ⟨Z7, hY⟩ : ∃ Z7, ((((((Z6.setCell ⟨p6, 0, none⟩ (.string d.f0)).setCell ⟨p6, 1, none⟩ (.slice E1 d.f1.length h1)).setCell ⟨p6, 2, none⟩ (.slice E2 d.f2.length h2)).setCell ⟨p6, 3, none⟩ (.int .i64 d.f3.f0)).setCell ⟨p6, 4, none⟩ (.string d.f3.f1)).setCell ⟨p6, 5, none⟩ (.slice E5 d.f3.f2.length h5)) = Z7 := ⟨_, rfl⟩
     have hst : ∀ k, k ≠ p6 → Z7.heap[k]? = Z6.heap[k]? := fun k hk => by rw [← hY]; exact (Below.heap_setCell _ _ _ _ hk).trans ((Below.heap_setCell _ _ _ _ hk).trans ((Below.heap_setCell _ _ _ _ hk).trans ((Below.heap_setCell _ _ _ _ hk).trans ((Below.heap_setCell _ _ _ _ hk).trans (Below.heap_setCell _ _ _ _ hk)))))
     have hg := blk_put (blk_put (blk_put (blk_put (blk_put (blk_put G5.out 0 (.string d.f0) rfl) 1 (.slice E1 d.f1.length h1) rfl) 2 (.slice E2 d.f2.length h2) rfl) 3 (.int .i64 d.f3.f0) rfl) 4 (.string d.f3.f1) rfl) 5 (.slice E5 d.f3.f2.length h5) rfl
     have hw := (((((HW.out.setCell (p := ⟨p6, 0, none⟩) (by simp only; omega) (.string d.f0)).setCell (p := ⟨p6, 1, none⟩) (by simp only; omega) (.slice E1 d.f1.length h1)).setCell (p := ⟨p6, 2, none⟩) (by simp only; omega) (.slice E2 d.f2.length h2)).setCell (p := ⟨p6, 3, none⟩) (by simp only; omega) (.int .i64 d.f3.f0)).setCell (p := ⟨p6, 4, none⟩) (by simp only; omega) (.string d.f3.f1)).setCell (p := ⟨p6, 5, none⟩) (by simp only; omega) (.slice E5 d.f3.f2.length h5)
     rw [hY] at hg hw ⊢
     have F1 := Aside0.mk (Kd.F_step F1.out (W1 := Z7) (fun k hk _ => hst k (by have h2 := hk; (try dsimp only at h2); omega)))
     have F3 := Aside0.mk (Kd.FK_step F3.out (W1 := Z7) (fun k hk _ => hst k (by have h2 := hk; (try dsimp only at h2); omega)))
     have G5 := Aside0.mk (show Z7.heap[p6]? = some (.cells #[.string d.f0, .slice E1 d.f1.length h1, .slice E2 d.f2.length h2, .int .i64 d.f3.f0, .string d.f3.f1, .slice E5 d.f3.f2.length h5] 59 (0, 0)) from hg)
     have G4 := Aside0.mk ((hst p5 (by omega)).trans G4.out)
     have HW := Aside0.mk hw
     clear hst hg hw hY x0 x1 x2 x3 x4 x5 fx
     refine hK.out _ _ (fun h => absurd rfl h) ?_
     clear hK hSd
     refine wpAnyK_done (by kernel_rfl) ?_ _
     go_wp2_with fail
     go_meet
     exact ⟨p5, p6, A5, c5, E1, h1, E2, h2, E5, h5, rfl, rfl, ⟨by simpa using G4.out⟩, G5, ⟨hc5, Kd.F_now F1.out⟩, ⟨Kd.FK_now F3.out⟩, HW⟩
  ·skip
   go_simp
   obtain ⟨X1, hY⟩ : ∃ X1, X0.alloc (.cells #[.slice none 0 0] 24) = X1 := ⟨_, rfl⟩
   obtain ⟨p5, hp5⟩ : ∃ p5, X0.heap.size = p5 := ⟨_, rfl⟩
   have hb : Below X0.heap.size X0 X1 := by rw [← hY]; exact below_alloc1 _ _
   have G4 := Aside0.mk (show X1.heap[p5]? = some (.cells #[.slice none 0 0] 24 (0, 0)) by rw [← hY, ← hp5]; exact alloc_at _ _)
   have hp5s : p5 < X1.heap.size := by rw [← hY, ← hp5]; simp
   have hp5w : w3.heap.size ≤ p5 := by rw [← hp5]; exact HW.out.size
   rw [hY, hp5]
   have BP := Aside0.mk (blk_below BP.out hb)
   have BD := Aside0.mk (blk_below BD.out hb)
   have HW := Aside0.mk (HW.out.trans (hb.mono HW.out.size))
   have hsz := hb.size
   clear hb hY hp5
   have hSd := ChS.of BP.out BD.out
   refine hK.out _ _ (fun _ => hSd) ?_
   clear hK
   refine wpAnyK_two (i := 1) (j := 5) (by kernel_rfl) rfl rfl (fun K hK => ?_) (fun K hK => ?_)
   ·skip
    go_simp
    go_at_call 10
    (with_reducible refine (HO1.out X1 HW.out).mono ?_)
    rintro e X2 ⟨v, rfl, ho, hb⟩
    obtain ⟨A5, c5, rfl, hc5, _⟩ := Kd.R_reads ho
    have F1 := Aside0.mk (Kd.F_mono (Kd.R_F (Kd.R_bound ho)) (ok' := (fun k => w3.heap.size ≤ k ∧ k ≠ p5)) (fun k hk => by have h1 := HW.out.size; have h2 := hk.2.1; (try dsimp only); omega))
    have BP := Aside0.mk (blk_below BP.out hb)
    have BD := Aside0.mk (blk_below BD.out hb)
    have HW := Aside0.mk (HW.out.trans (hb.mono HW.out.size))
    have hsz := hb.size
    have G4 := Aside0.mk (blk_below G4.out hb)
    clear ho hb
    have hSd := ChS.of BP.out BD.out
    refine hK.out _ _ (fun _ => hSd) ?_
    clear hK
    refine wpAnyK_two (i := 3) (j := 5) (by kernel_rfl) rfl rfl (fun K hK => ?_) (fun K hK => ?_)
    ·skip
     go_simp
     go_at_call 49
     (with_reducible refine (HO3.out X2 HW.out).mono ?_)
     rintro e X3 ⟨v1, v2, v5, rfl, hT, hCs, hE, hb⟩
     obtain ⟨E1, h1, rfl⟩ := Kd.R_slice hT
     obtain ⟨E2, h2, rfl⟩ := Kd.R_slice hCs
     obtain ⟨E5, h5, rfl⟩ := Kd.R_slice hE
     have F3 := Aside0.mk (Kd.FK_mono (Kd.FK_of_M (k59_mkM X3 X2.heap.size (fun k => X2.heap.size ≤ k) d (Kd.R_mono (Kd.R_bound hT) (fun k hk => hk.2.1)) (Kd.R_mono (Kd.R_bound hCs) (fun k hk => hk.2.1)) (Kd.R_mono (Kd.R_bound hE) (fun k hk => hk.2.1)))) (ok' := (fun k => w3.heap.size ≤ k ∧ k ≠ p5)) (fun k hk => by have h1 := HW.out.size; have h2 := hk; (try dsimp only at h2 ⊢); omega))
     have BP := Aside0.mk (blk_below BP.out hb)
     have BD := Aside0.mk (blk_below BD.out hb)
     have HW := Aside0.mk (HW.out.trans (hb.mono HW.out.size))
     have hsz := hb.size
     have F1 := Aside0.mk (Kd.F_below F1.out hb)
     have G4 := Aside0.mk (blk_below G4.out hb)
     clear hT hCs hE hb
     have hSd := ChS.of BP.out BD.out
     refine hK.out _ _ (fun _ => hSd) ?_
     clear hK
     refine wpAnyK_one (i := 5) (by kernel_rfl) rfl (fun K hK => ?_)
     go_simp
     obtain ⟨X4, hY⟩ : ∃ X4, X3.alloc (.cells #[.string ⟨#[]⟩, .slice none 0 0, .slice none 0 0, .int .i64 0, .string ⟨#[]⟩, .slice none 0 0] 59) = X4 := ⟨_, rfl⟩
     obtain ⟨p6, hp6⟩ : ∃ p6, X3.heap.size = p6 := ⟨_, rfl⟩
     have hb : Below X3.heap.size X3 X4 := by rw [← hY]; exact below_alloc1 _ _
     have G5 := Aside0.mk (show X4.heap[p6]? = some (.cells #[.string ⟨#[]⟩, .slice none 0 0, .slice none 0 0, .int .i64 0, .string ⟨#[]⟩, .slice none 0 0] 59 (0, 0)) by rw [← hY, ← hp6]; exact alloc_at _ _)
     have hp6s : p6 < X4.heap.size := by rw [← hY, ← hp6]; simp
     have hp6w : w3.heap.size ≤ p6 := by rw [← hp6]; exact HW.out.size
     rw [hY, hp6]
     have hne : p5 ≠ p6 := by omega
     have F1 := Aside0.mk (Kd.F_mono (Kd.F_bound F1.out) (ok' := (fun k => w3.heap.size ≤ k ∧ k ≠ p5 ∧ k ≠ p6)) (fun k hk => by have h2 := hk; (try dsimp only at h2 ⊢); omega))
     have F3 := Aside0.mk (Kd.FK_mono (Kd.FK_bound F3.out) (ok' := (fun k => w3.heap.size ≤ k ∧ k ≠ p5 ∧ k ≠ p6)) (fun k hk => by have h2 := hk; (try dsimp only at h2 ⊢); omega))
     have BP := Aside0.mk (blk_below BP.out hb)
     have BD := Aside0.mk (blk_below BD.out hb)
     have HW := Aside0.mk (HW.out.trans (hb.mono HW.out.size))
     have hsz := hb.size
     have F1 := Aside0.mk (Kd.F_below F1.out hb)
     have F3 := Aside0.mk (Kd.FK_below F3.out hb)
     have G4 := Aside0.mk (blk_below G4.out hb)
     clear hb hY hp6
     have hSd := ChS.of BP.out BD.out
     refine hK.out _ _ (fun _ => hSd) ?_
     clear hK
     have k5 := (blk_cell G4.out 0).trans rfl
     have f5 := blk_frozen G4.out 0
     refine wpAnyK_one (i := 6) (by kernel_rfl) rfl (fun K hK => ?_)
     go_simp
     obtain ⟨Z6, hY⟩ : ∃ Z6, X4.setCell ⟨p5, 0, none⟩ (.slice A5 ps.length c5) = Z6 := ⟨_, rfl⟩
     have hst : ∀ k, k ≠ p5 → Z6.heap[k]? = X4.heap[k]? := fun k hk => by rw [← hY]; exact Below.heap_setCell _ _ _ _ hk
     have hz6 : Z6.heap.size = X4.heap.size := by rw [← hY]; simp only [World.setCell, Array.size_modify]
     have F1 := Aside0.mk (Kd.F_step F1.out (W1 := Z6) (fun k hk _ => hst k (by have h2 := hk; (try dsimp only at h2); omega)))
     have F3 := Aside0.mk (Kd.FK_step F3.out (W1 := Z6) (fun k hk _ => hst k (by have h2 := hk; (try dsimp only at h2); omega)))
     have hg := blk_put G4.out 0 (.slice A5 ps.length c5) rfl
     have hw := HW.out.setCell (p := ⟨p5, 0, none⟩) (by simp only; omega) (.slice A5 ps.length c5)
     rw [hY] at hg hw ⊢
     have G4 := Aside0.mk hg
     have G5 := Aside0.mk ((hst p6 (by omega)).trans G5.out)
     have BP := Aside0.mk ((hst _ (by omega)).trans BP.out)
     have BD := Aside0.mk ((hst _ (by omega)).trans BD.out)
     have HW := Aside0.mk hw
     clear hst hg hw hY k5 f5
     have x0 := (blk_cell G5.out 0).trans rfl
     have x1 := (blk_cell G5.out 1).trans rfl
     have x2 := (blk_cell G5.out 2).trans rfl
     have x3 := (blk_cell G5.out 3).trans rfl
     have x4 := (blk_cell G5.out 4).trans rfl
     have x5 := (blk_cell G5.out 5).trans rfl
     have fx := fun i => blk_frozen G5.out i
     have hSd := ChS.of BP.out BD.out
     refine hK.out _ _ (fun _ => hSd) ?_
     clear hK
     refine wpAnyK_one (i := 7) (by kernel_rfl) rfl (fun K hK => ?_)
     go_simp
     obtain ⟨Z7, hY⟩ : ∃ Z7, ((((((Z6.setCell ⟨p6, 0, none⟩ (.string d.f0)).setCell ⟨p6, 1, none⟩ (.slice E1 d.f1.length h1)).setCell ⟨p6, 2, none⟩ (.slice E2 d.f2.length h2)).setCell ⟨p6, 3, none⟩ (.int .i64 d.f3.f0)).setCell ⟨p6, 4, none⟩ (.string d.f3.f1)).setCell ⟨p6, 5, none⟩ (.slice E5 d.f3.f2.length h5)) = Z7 := ⟨_, rfl⟩
     have hst : ∀ k, k ≠ p6 → Z7.heap[k]? = Z6.heap[k]? := fun k hk => by rw [← hY]; exact (Below.heap_setCell _ _ _ _ hk).trans ((Below.heap_setCell _ _ _ _ hk).trans ((Below.heap_setCell _ _ _ _ hk).trans ((Below.heap_setCell _ _ _ _ hk).trans ((Below.heap_setCell _ _ _ _ hk).trans (Below.heap_setCell _ _ _ _ hk)))))
     have hg := blk_put (blk_put (blk_put (blk_put (blk_put (blk_put G5.out 0 (.string d.f0) rfl) 1 (.slice E1 d.f1.length h1) rfl) 2 (.slice E2 d.f2.length h2) rfl) 3 (.int .i64 d.f3.f0) rfl) 4 (.string d.f3.f1) rfl) 5 (.slice E5 d.f3.f2.length h5) rfl
     have hw := (((((HW.out.setCell (p := ⟨p6, 0, none⟩) (by simp only; omega) (.string d.f0)).setCell (p := ⟨p6, 1, none⟩) (by simp only; omega) (.slice E1 d.f1.length h1)).setCell (p := ⟨p6, 2, none⟩) (by simp only; omega) (.slice E2 d.f2.length h2)).setCell (p := ⟨p6, 3, none⟩) (by simp only; omega) (.int .i64 d.f3.f0)).setCell (p := ⟨p6, 4, none⟩) (by simp only; omega) (.string d.f3.f1)).setCell (p := ⟨p6, 5, none⟩) (by simp only; omega) (.slice E5 d.f3.f2.length h5)
     rw [hY] at hg hw ⊢
     have F1 := Aside0.mk (Kd.F_step F1.out (W1 := Z7) (fun k hk _ => hst k (by have h2 := hk; (try dsimp only at h2); omega)))
     have F3 := Aside0.mk (Kd.FK_step F3.out (W1 := Z7) (fun k hk _ => hst k (by have h2 := hk; (try dsimp only at h2); omega)))
     have G5 := Aside0.mk (show Z7.heap[p6]? = some (.cells #[.string d.f0, .slice E1 d.f1.length h1, .slice E2 d.f2.length h2, .int .i64 d.f3.f0, .string d.f3.f1, .slice E5 d.f3.f2.length h5] 59 (0, 0)) from hg)
     have G4 := Aside0.mk ((hst p5 (by omega)).trans G4.out)
     have HW := Aside0.mk hw
     clear hst hg hw hY x0 x1 x2 x3 x4 x5 fx
     refine hK.out _ _ (fun h => absurd rfl h) ?_
     clear hK hSd
     refine wpAnyK_done (by kernel_rfl) ?_ _
     go_wp2_with fail
     go_meet
     exact ⟨p5, p6, A5, c5, E1, h1, E2, h2, E5, h5, rfl, rfl, ⟨by simpa using G4.out⟩, G5, ⟨hc5, Kd.F_now F1.out⟩, ⟨Kd.FK_now F3.out⟩, HW⟩
    ·skip
     go_simp
     obtain ⟨X3, hY⟩ : ∃ X3, X2.alloc (.cells #[.string ⟨#[]⟩, .slice none 0 0, .slice none 0 0, .int .i64 0, .string ⟨#[]⟩, .slice none 0 0] 59) = X3 := ⟨_, rfl⟩
     obtain ⟨p6, hp6⟩ : ∃ p6, X2.heap.size = p6 := ⟨_, rfl⟩
     have hb : Below X2.heap.size X2 X3 := by rw [← hY]; exact below_alloc1 _ _
     have G5 := Aside0.mk (show X3.heap[p6]? = some (.cells #[.string ⟨#[]⟩, .slice none 0 0, .slice none 0 0, .int .i64 0, .string ⟨#[]⟩, .slice none 0 0] 59 (0, 0)) by rw [← hY, ← hp6]; exact alloc_at _ _)
     have hp6s : p6 < X3.heap.size := by rw [← hY, ← hp6]; simp
     have hp6w : w3.heap.size ≤ p6 := by rw [← hp6]; exact HW.out.size
     rw [hY, hp6]
     have hne : p5 ≠ p6 := by omega
     have F1 := Aside0.mk (Kd.F_mono (Kd.F_bound F1.out) (ok' := (fun k => w3.heap.size ≤ k ∧ k ≠ p5 ∧ k ≠ p6)) (fun k hk => by have h2 := hk; (try dsimp only at h2 ⊢); omega))
     have BP := Aside0.mk (blk_below BP.out hb)
     have BD := Aside0.mk (blk_below BD.out hb)
     have HW := Aside0.mk (HW.out.trans (hb.mono HW.out.size))
     have hsz := hb.size
     have F1 := Aside0.mk (Kd.F_below F1.out hb)
     have G4 := Aside0.mk (blk_below G4.out hb)
     clear hb hY hp6
     have hSd := ChS.of BP.out BD.out
     refine hK.out _ _ (fun _ => hSd) ?_
     clear hK
     refine wpAnyK_one (i := 3) (by kernel_rfl) rfl (fun K hK => ?_)
     go_simp
     go_at_call 49
     (with_reducible refine (HO3.out X3 HW.out).mono ?_)
     rintro e X4 ⟨v1, v2, v5, rfl, hT, hCs, hE, hb⟩
     obtain ⟨E1, h1, rfl⟩ := Kd.R_slice hT
     obtain ⟨E2, h2, rfl⟩ := Kd.R_slice hCs
     obtain ⟨E5, h5, rfl⟩ := Kd.R_slice hE
     have F3 := Aside0.mk (Kd.FK_mono (Kd.FK_of_M (k59_mkM X4 X3.heap.size (fun k => X3.heap.size ≤ k) d (Kd.R_mono (Kd.R_bound hT) (fun k hk => hk.2.1)) (Kd.R_mono (Kd.R_bound hCs) (fun k hk => hk.2.1)) (Kd.R_mono (Kd.R_bound hE) (fun k hk => hk.2.1)))) (ok' := (fun k => w3.heap.size ≤ k ∧ k ≠ p5 ∧ k ≠ p6)) (fun k hk => by have h1 := HW.out.size; have h2 := hk; (try dsimp only at h2 ⊢); omega))
     have BP := Aside0.mk (blk_below BP.out hb)
     have BD := Aside0.mk (blk_below BD.out hb)
     have HW := Aside0.mk (HW.out.trans (hb.mono HW.out.size))
     have hsz := hb.size
     have F1 := Aside0.mk (Kd.F_below F1.out hb)
     have G4 := Aside0.mk (blk_below G4.out hb)
     have G5 := Aside0.mk (blk_below G5.out hb)
     clear hT hCs hE hb
     have hSd := ChS.of BP.out BD.out
     refine hK.out _ _ (fun _ => hSd) ?_
     clear hK
     have k5 := (blk_cell G4.out 0).trans rfl
     have f5 := blk_frozen G4.out 0
     refine wpAnyK_one (i := 6) (by kernel_rfl) rfl (fun K hK => ?_)
     go_simp
     obtain ⟨Z6, hY⟩ : ∃ Z6, X4.setCell ⟨p5, 0, none⟩ (.slice A5 ps.length c5) = Z6 := ⟨_, rfl⟩
     have hst : ∀ k, k ≠ p5 → Z6.heap[k]? = X4.heap[k]? := fun k hk => by rw [← hY]; exact Below.heap_setCell _ _ _ _ hk
     have hz6 : Z6.heap.size = X4.heap.size := by rw [← hY]; simp only [World.setCell, Array.size_modify]
     have F1 := Aside0.mk (Kd.F_step F1.out (W1 := Z6) (fun k hk _ => hst k (by have h2 := hk; (try dsimp only at h2); omega)))
     have F3 := Aside0.mk (Kd.FK_step F3.out (W1 := Z6) (fun k hk _ => hst k (by have h2 := hk; (try dsimp only at h2); omega)))
     have hg := blk_put G4.out 0 (.slice A5 ps.length c5) rfl
     have hw := HW.out.setCell (p := ⟨p5, 0, none⟩) (by simp only; omega) (.slice A5 ps.length c5)
     rw [hY] at hg hw ⊢
     have G4 := Aside0.mk hg
     have G5 := Aside0.mk ((hst p6 (by omega)).trans G5.out)
     have BP := Aside0.mk ((hst _ (by omega)).trans BP.out)
     have BD := Aside0.mk ((hst _ (by omega)).trans BD.out)
     have HW := Aside0.mk hw
     clear hst hg hw hY k5 f5
     have x0 := (blk_cell G5.out 0).trans rfl
     have x1 := (blk_cell G5.out 1).trans rfl
     have x2 := (blk_cell G5.out 2).trans rfl
     have x3 := (blk_cell G5.out 3).trans rfl
     have x4 := (blk_cell G5.out 4).trans rfl
     have x5 := (blk_cell G5.out 5).trans rfl
     have fx := fun i => blk_frozen G5.out i
     have hSd := ChS.of BP.out BD.out
     refine hK.out _ _ (fun _ => hSd) ?_
     clear hK
     refine wpAnyK_one (i := 7) (by kernel_rfl) rfl (fun K hK => ?_)
     go_simp
     obtain ⟨Z7, hY⟩ : ∃ Z7, ((((((Z6.setCell ⟨p6, 0, none⟩ (.string d.f0)).setCell ⟨p6, 1, none⟩ (.slice E1 d.f1.length h1)).setCell ⟨p6, 2, none⟩ (.slice E2 d.f2.length h2)).setCell ⟨p6, 3, none⟩ (.int .i64 d.f3.f0)).setCell ⟨p6, 4, none⟩ (.string d.f3.f1)).setCell ⟨p6, 5, none⟩ (.slice E5 d.f3.f2.length h5)) = Z7 := ⟨_, rfl⟩
     have hst : ∀ k, k ≠ p6 → Z7.heap[k]? = Z6.heap[k]? := fun k hk => by rw [← hY]; exact (Below.heap_setCell _ _ _ _ hk).trans ((Below.heap_setCell _ _ _ _ hk).trans ((Below.heap_setCell _ _ _ _ hk).trans ((Below.heap_setCell _ _ _ _ hk).trans ((Below.heap_setCell _ _ _ _ hk).trans (Below.heap_setCell _ _ _ _ hk)))))
     have hg := blk_put (blk_put (blk_put (blk_put (blk_put (blk_put G5.out 0 (.string d.f0) rfl) 1 (.slice E1 d.f1.length h1) rfl) 2 (.slice E2 d.f2.length h2) rfl) 3 (.int .i64 d.f3.f0) rfl) 4 (.string d.f3.f1) rfl) 5 (.slice E5 d.f3.f2.length h5) rfl
     have hw := (((((HW.out.setCell (p := ⟨p6, 0, none⟩) (by simp only; omega) (.string d.f0)).setCell (p := ⟨p6, 1, none⟩) (by simp only; omega) (.slice E1 d.f1.length h1)).setCell (p := ⟨p6, 2, none⟩) (by simp only; omega) (.slice E2 d.f2.length h2)).setCell (p := ⟨p6, 3, none⟩) (by simp only; omega) (.int .i64 d.f3.f0)).setCell (p := ⟨p6, 4, none⟩) (by simp only; omega) (.string d.f3.f1)).setCell (p := ⟨p6, 5, none⟩) (by simp only; omega) (.slice E5 d.f3.f2.length h5)
     rw [hY] at hg hw ⊢
     have F1 := Aside0.mk (Kd.F_step F1.out (W1 := Z7) (fun k hk _ => hst k (by have h2 := hk; (try dsimp only at h2); omega)))
     have F3 := Aside0.mk (Kd.FK_step F3.out (W1 := Z7) (fun k hk _ => hst k (by have h2 := hk; (try dsimp only at h2); omega)))
     have G5 := Aside0.mk (show Z7.heap[p6]? = some (.cells #[.string d.f0, .slice E1 d.f1.length h1, .slice E2 d.f2.length h2, .int .i64 d.f3.f0, .string d.f3.f1, .slice E5 d.f3.f2.length h5] 59 (0, 0)) from hg)
     have G4 := Aside0.mk ((hst p5 (by omega)).trans G4.out)
     have HW := Aside0.mk hw
     clear hst hg hw hY x0 x1 x2 x3 x4 x5 fx
     refine hK.out _ _ (fun h => absurd rfl h) ?_
     clear hK hSd
     refine wpAnyK_done (by kernel_rfl) ?_ _
     go_wp2_with fail
     go_meet
     exact ⟨p5, p6, A5, c5, E1, h1, E2, h2, E5, h5, rfl, rfl, ⟨by simpa using G4.out⟩, G5, ⟨hc5, Kd.F_now F1.out⟩, ⟨Kd.FK_now F3.out⟩, HW⟩
   ·skip
    go_simp
    obtain ⟨X2, hY⟩ : ∃ X2, X1.alloc (.cells #[.string ⟨#[]⟩, .slice none 0 0, .slice none 0 0, .int .i64 0, .string ⟨#[]⟩, .slice none 0 0] 59) = X2 := ⟨_, rfl⟩
    obtain ⟨p6, hp6⟩ : ∃ p6, X1.heap.size = p6 := ⟨_, rfl⟩
    have hb : Below X1.heap.size X1 X2 := by rw [← hY]; exact below_alloc1 _ _
    have G5 := Aside0.mk (show X2.heap[p6]? = some (.cells #[.string ⟨#[]⟩, .slice none 0 0, .slice none 0 0, .int .i64 0, .string ⟨#[]⟩, .slice none 0 0] 59 (0, 0)) by rw [← hY, ← hp6]; exact alloc_at _ _)
    have hp6s : p6 < X2.heap.size := by rw [← hY, ← hp6]; simp
    have hp6w : w3.heap.size ≤ p6 := by rw [← hp6]; exact HW.out.size
    rw [hY, hp6]
    have hne : p5 ≠ p6 := by omega
    have BP := Aside0.mk (blk_below BP.out hb)
    have BD := Aside0.mk (blk_below BD.out hb)
    have HW := Aside0.mk (HW.out.trans (hb.mono HW.out.size))
    have hsz := hb.size
    have G4 := Aside0.mk (blk_below G4.out hb)
    clear hb hY hp6
    have hSd := ChS.of BP.out BD.out
    refine hK.out _ _ (fun _ => hSd) ?_
    clear hK
    refine wpAnyK_one (i := 1) (by kernel_rfl) rfl (fun K hK => ?_)
    go_simp
    go_at_call 10
    (with_reducible refine (HO1.out X2 HW.out).mono ?_)
    rintro e X3 ⟨v, rfl, ho, hb⟩
    obtain ⟨A5, c5, rfl, hc5, _⟩ := Kd.R_reads ho
    have F1 := Aside0.mk (Kd.F_mono (Kd.R_F (Kd.R_bound ho)) (ok' := (fun k => w3.heap.size ≤ k ∧ k ≠ p5 ∧ k ≠ p6)) (fun k hk => by have h1 := HW.out.size; have h2 := hk.2.1; (try dsimp only); omega))
    have BP := Aside0.mk (blk_below BP.out hb)
    have BD := Aside0.mk (blk_below BD.out hb)
    have HW := Aside0.mk (HW.out.trans (hb.mono HW.out.size))
    have hsz := hb.size
    have G4 := Aside0.mk (blk_below G4.out hb)
    have G5 := Aside0.mk (blk_below G5.out hb)
    clear ho hb
    have hSd := ChS.of BP.out BD.out
    refine hK.out _ _ (fun _ => hSd) ?_
    clear hK
    refine wpAnyK_one (i := 3) (by kernel_rfl) rfl (fun K hK => ?_)
    go_simp
    go_at_call 49
    (with_reducible refine (HO3.out X3 HW.out).mono ?_)
    rintro e X4 ⟨v1, v2, v5, rfl, hT, hCs, hE, hb⟩
    obtain ⟨E1, h1, rfl⟩ := Kd.R_slice hT
    obtain ⟨E2, h2, rfl⟩ := Kd.R_slice hCs
    obtain ⟨E5, h5, rfl⟩ := Kd.R_slice hE
    have F3 := Aside0.mk (Kd.FK_mono (Kd.FK_of_M (k59_mkM X4 X3.heap.size (fun k => X3.heap.size ≤ k) d (Kd.R_mono (Kd.R_bound hT) (fun k hk => hk.2.1)) (Kd.R_mono (Kd.R_bound hCs) (fun k hk => hk.2.1)) (Kd.R_mono (Kd.R_bound hE) (fun k hk => hk.2.1)))) (ok' := (fun k => w3.heap.size ≤ k ∧ k ≠ p5 ∧ k ≠ p6)) (fun k hk => by have h1 := HW.out.size; have h2 := hk; (try dsimp only at h2 ⊢); omega))
    have BP := Aside0.mk (blk_below BP.out hb)
    have BD := Aside0.mk (blk_below BD.out hb)
    have HW := Aside0.mk (HW.out.trans (hb.mono HW.out.size))
    have hsz := hb.size
    have F1 := Aside0.mk (Kd.F_below F1.out hb)
    have G4 := Aside0.mk (blk_below G4.out hb)
    have G5 := Aside0.mk (blk_below G5.out hb)
    clear hT hCs hE hb
    have hSd := ChS.of BP.out BD.out
    refine hK.out _ _ (fun _ => hSd) ?_
    clear hK
    have k5 := (blk_cell G4.out 0).trans rfl
    have f5 := blk_frozen G4.out 0
    refine wpAnyK_one (i := 6) (by kernel_rfl) rfl (fun K hK => ?_)
    go_simp
    obtain ⟨Z6, hY⟩ : ∃ Z6, X4.setCell ⟨p5, 0, none⟩ (.slice A5 ps.length c5) = Z6 := ⟨_, rfl⟩
    have hst : ∀ k, k ≠ p5 → Z6.heap[k]? = X4.heap[k]? := fun k hk => by rw [← hY]; exact Below.heap_setCell _ _ _ _ hk
    have hz6 : Z6.heap.size = X4.heap.size := by rw [← hY]; simp only [World.setCell, Array.size_modify]
    have F1 := Aside0.mk (Kd.F_step F1.out (W1 := Z6) (fun k hk _ => hst k (by have h2 := hk; (try dsimp only at h2); omega)))
    have F3 := Aside0.mk (Kd.FK_step F3.out (W1 := Z6) (fun k hk _ => hst k (by have h2 := hk; (try dsimp only at h2); omega)))
    have hg := blk_put G4.out 0 (.slice A5 ps.length c5) rfl
    have hw := HW.out.setCell (p := ⟨p5, 0, none⟩) (by simp only; omega) (.slice A5 ps.length c5)
    rw [hY] at hg hw ⊢
    have G4 := Aside0.mk hg
    have G5 := Aside0.mk ((hst p6 (by omega)).trans G5.out)
    have BP := Aside0.mk ((hst _ (by omega)).trans BP.out)
    have BD := Aside0.mk ((hst _ (by omega)).trans BD.out)
    have HW := Aside0.mk hw
    clear hst hg hw hY k5 f5
    have x0 := (blk_cell G5.out 0).trans rfl
    have x1 := (blk_cell G5.out 1).trans rfl
    have x2 := (blk_cell G5.out 2).trans rfl
    have x3 := (blk_cell G5.out 3).trans rfl
    have x4 := (blk_cell G5.out 4).trans rfl
    have x5 := (blk_cell G5.out 5).trans rfl
    have fx := fun i => blk_frozen G5.out i
    have hSd := ChS.of BP.out BD.out
    refine hK.out _ _ (fun _ => hSd) ?_
    clear hK
    refine wpAnyK_one (i := 7) (by kernel_rfl) rfl (fun K hK => ?_)
    go_simp
    obtain ⟨Z7, hY⟩ : ∃ Z7, ((((((Z6.setCell ⟨p6, 0, none⟩ (.string d.f0)).setCell ⟨p6, 1, none⟩ (.slice E1 d.f1.length h1)).setCell ⟨p6, 2, none⟩ (.slice E2 d.f2.length h2)).setCell ⟨p6, 3, none⟩ (.int .i64 d.f3.f0)).setCell ⟨p6, 4, none⟩ (.string d.f3.f1)).setCell ⟨p6, 5, none⟩ (.slice E5 d.f3.f2.length h5)) = Z7 := ⟨_, rfl⟩
    have hst : ∀ k, k ≠ p6 → Z7.heap[k]? = Z6.heap[k]? := fun k hk => by rw [← hY]; exact (Below.heap_setCell _ _ _ _ hk).trans ((Below.heap_setCell _ _ _ _ hk).trans ((Below.heap_setCell _ _ _ _ hk).trans ((Below.heap_setCell _ _ _ _ hk).trans ((Below.heap_setCell _ _ _ _ hk).trans (Below.heap_setCell _ _ _ _ hk)))))
    have hg := blk_put (blk_put (blk_put (blk_put (blk_put (blk_put G5.out 0 (.string d.f0) rfl) 1 (.slice E1 d.f1.length h1) rfl) 2 (.slice E2 d.f2.length h2) rfl) 3 (.int .i64 d.f3.f0) rfl) 4 (.string d.f3.f1) rfl) 5 (.slice E5 d.f3.f2.length h5) rfl
    have hw := (((((HW.out.setCell (p := ⟨p6, 0, none⟩) (by simp only; omega) (.string d.f0)).setCell (p := ⟨p6, 1, none⟩) (by simp only; omega) (.slice E1 d.f1.length h1)).setCell (p := ⟨p6, 2, none⟩) (by simp only; omega) (.slice E2 d.f2.length h2)).setCell (p := ⟨p6, 3, none⟩) (by simp only; omega) (.int .i64 d.f3.f0)).setCell (p := ⟨p6, 4, none⟩) (by simp only; omega) (.string d.f3.f1)).setCell (p := ⟨p6, 5, none⟩) (by simp only; omega) (.slice E5 d.f3.f2.length h5)
    rw [hY] at hg hw ⊢
    have F1 := Aside0.mk (Kd.F_step F1.out (W1 := Z7) (fun k hk _ => hst k (by have h2 := hk; (try dsimp only at h2); omega)))
    have F3 := Aside0.mk (Kd.FK_step F3.out (W1 := Z7) (fun k hk _ => hst k (by have h2 := hk; (try dsimp only at h2); omega)))
    have G5 := Aside0.mk (show Z7.heap[p6]? = some (.cells #[.string d.f0, .slice E1 d.f1.length h1, .slice E2 d.f2.length h2, .int .i64 d.f3.f0, .string d.f3.f1, .slice E5 d.f3.f2.length h5] 59 (0, 0)) from hg)
    have G4 := Aside0.mk ((hst p5 (by omega)).trans G4.out)
    have HW := Aside0.mk hw
    clear hst hg hw hY x0 x1 x2 x3 x4 x5 fx
    refine hK.out _ _ (fun h => absurd rfl h) ?_
    clear hK hSd
    refine wpAnyK_done (by kernel_rfl) ?_ _
    go_wp2_with fail
    go_meet
    exact ⟨p5, p6, A5, c5, E1, h1, E2, h2, E5, h5, rfl, rfl, ⟨by simpa using G4.out⟩, G5, ⟨hc5, Kd.F_now F1.out⟩, ⟨Kd.FK_now F3.out⟩, HW⟩
  ·skip
   go_simp
   obtain ⟨X1, hY⟩ : ∃ X1, X0.alloc (.cells #[.string ⟨#[]⟩, .slice none 0 0, .slice none 0 0, .int .i64 0, .string ⟨#[]⟩, .slice none 0 0] 59) = X1 := ⟨_, rfl⟩
   obtain ⟨p6, hp6⟩ : ∃ p6, X0.heap.size = p6 := ⟨_, rfl⟩
   have hb : Below X0.heap.size X0 X1 := by rw [← hY]; exact below_alloc1 _ _
   have G5 := Aside0.mk (show X1.heap[p6]? = some (.cells #[.string ⟨#[]⟩, .slice none 0 0, .slice none 0 0, .int .i64 0, .string ⟨#[]⟩, .slice none 0 0] 59 (0, 0)) by rw [← hY, ← hp6]; exact alloc_at _ _)
   have hp6s : p6 < X1.heap.size := by rw [← hY, ← hp6]; simp
   have hp6w : w3.heap.size ≤ p6 := by rw [← hp6]; exact HW.out.size
   rw [hY, hp6]
   have BP := Aside0.mk (blk_below BP.out hb)
   have BD := Aside0.mk (blk_below BD.out hb)
   have HW := Aside0.mk (HW.out.trans (hb.mono HW.out.size))
   have hsz := hb.size
   clear hb hY hp6
   have hSd := ChS.of BP.out BD.out
   refine hK.out _ _ (fun _ => hSd) ?_
   clear hK
   refine wpAnyK_two (i := 1) (j := 4) (by kernel_rfl) rfl rfl (fun K hK => ?_) (fun K hK => ?_)
   ·skip
    go_simp
    go_at_call 10
    (with_reducible refine (HO1.out X1 HW.out).mono ?_)
    rintro e X2 ⟨v, rfl, ho, hb⟩
    obtain ⟨A5, c5, rfl, hc5, _⟩ := Kd.R_reads ho
    have F1 := Aside0.mk (Kd.F_mono (Kd.R_F (Kd.R_bound ho)) (ok' := (fun k => w3.heap.size ≤ k ∧ k ≠ p6)) (fun k hk => by have h1 := HW.out.size; have h2 := hk.2.1; (try dsimp only); omega))
    have BP := Aside0.mk (blk_below BP.out hb)
    have BD := Aside0.mk (blk_below BD.out hb)
    have HW := Aside0.mk (HW.out.trans (hb.mono HW.out.size))
    have hsz := hb.size
    have G5 := Aside0.mk (blk_below G5.out hb)
    clear ho hb
    have hSd := ChS.of BP.out BD.out
    refine hK.out _ _ (fun _ => hSd) ?_
    clear hK
    refine wpAnyK_two (i := 3) (j := 4) (by kernel_rfl) rfl rfl (fun K hK => ?_) (fun K hK => ?_)
    ·skip
     go_simp
     go_at_call 49
     (with_reducible refine (HO3.out X2 HW.out).mono ?_)
     rintro e X3 ⟨v1, v2, v5, rfl, hT, hCs, hE, hb⟩
     obtain ⟨E1, h1, rfl⟩ := Kd.R_slice hT
     obtain ⟨E2, h2, rfl⟩ := Kd.R_slice hCs
     obtain ⟨E5, h5, rfl⟩ := Kd.R_slice hE
     have F3 := Aside0.mk (Kd.FK_mono (Kd.FK_of_M (k59_mkM X3 X2.heap.size (fun k => X2.heap.size ≤ k) d (Kd.R_mono (Kd.R_bound hT) (fun k hk => hk.2.1)) (Kd.R_mono (Kd.R_bound hCs) (fun k hk => hk.2.1)) (Kd.R_mono (Kd.R_bound hE) (fun k hk => hk.2.1)))) (ok' := (fun k => w3.heap.size ≤ k ∧ k ≠ p6)) (fun k hk => by have h1 := HW.out.size; have h2 := hk; (try dsimp only at h2 ⊢); omega))
     have BP := Aside0.mk (blk_below BP.out hb)
     have BD := Aside0.mk (blk_below BD.out hb)
     have HW := Aside0.mk (HW.out.trans (hb.mono HW.out.size))
     have hsz := hb.size
     have F1 := Aside0.mk (Kd.F_below F1.out hb)
     have G5 := Aside0.mk (blk_below G5.out hb)
     clear hT hCs hE hb
     have hSd := ChS.of BP.out BD.out
     refine hK.out _ _ (fun _ => hSd) ?_
     clear hK
     refine wpAnyK_one (i := 4) (by kernel_rfl) rfl (fun K hK => ?_)
     go_simp
     obtain ⟨X4, hY⟩ : ∃ X4, X3.alloc (.cells #[.slice none 0 0] 24) = X4 := ⟨_, rfl⟩
     obtain ⟨p5, hp5⟩ : ∃ p5, X3.heap.size = p5 := ⟨_, rfl⟩
     have hb : Below X3.heap.size X3 X4 := by rw [← hY]; exact below_alloc1 _ _
     have G4 := Aside0.mk (show X4.heap[p5]? = some (.cells #[.slice none 0 0] 24 (0, 0)) by rw [← hY, ← hp5]; exact alloc_at _ _)
     have hp5s : p5 < X4.heap.size := by rw [← hY, ← hp5]; simp
     have hp5w : w3.heap.size ≤ p5 := by rw [← hp5]; exact HW.out.size
     rw [hY, hp5]
     have hne : p5 ≠ p6 := by omega
     have F1 := Aside0.mk (Kd.F_mono (Kd.F_bound F1.out) (ok' := (fun k => w3.heap.size ≤ k ∧ k ≠ p5 ∧ k ≠ p6)) (fun k hk => by have h2 := hk; (try dsimp only at h2 ⊢); omega))
     have F3 := Aside0.mk (Kd.FK_mono (Kd.FK_bound F3.out) (ok' := (fun k => w3.heap.size ≤ k ∧ k ≠ p5 ∧ k ≠ p6)) (fun k hk => by have h2 := hk; (try dsimp only at h2 ⊢); omega))
     have BP := Aside0.mk (blk_below BP.out hb)
     have BD := Aside0.mk (blk_below BD.out hb)
     have HW := Aside0.mk (HW.out.trans (hb.mono HW.out.size))
     have hsz := hb.size
     have F1 := Aside0.mk (Kd.F_below F1.out hb)
     have F3 := Aside0.mk (Kd.FK_below F3.out hb)
     have G5 := Aside0.mk (blk_below G5.out hb)
     clear hb hY hp5
     have hSd := ChS.of BP.out BD.out
     refine hK.out _ _ (fun _ => hSd) ?_
     clear hK
     have k5 := (blk_cell G4.out 0).trans rfl
     have f5 := blk_frozen G4.out 0
     refine wpAnyK_one (i := 6) (by kernel_rfl) rfl (fun K hK => ?_)
     go_simp
     obtain ⟨Z6, hY⟩ : ∃ Z6, X4.setCell ⟨p5, 0, none⟩ (.slice A5 ps.length c5) = Z6 := ⟨_, rfl⟩
     have hst : ∀ k, k ≠ p5 → Z6.heap[k]? = X4.heap[k]? := fun k hk => by rw [← hY]; exact Below.heap_setCell _ _ _ _ hk
     have hz6 : Z6.heap.size = X4.heap.size := by rw [← hY]; simp only [World.setCell, Array.size_modify]
     have F1 := Aside0.mk (Kd.F_step F1.out (W1 := Z6) (fun k hk _ => hst k (by have h2 := hk; (try dsimp only at h2); omega)))
     have F3 := Aside0.mk (Kd.FK_step F3.out (W1 := Z6) (fun k hk _ => hst k (by have h2 := hk; (try dsimp only at h2); omega)))
     have hg := blk_put G4.out 0 (.slice A5 ps.length c5) rfl
     have hw := HW.out.setCell (p := ⟨p5, 0, none⟩) (by simp only; omega) (.slice A5 ps.length c5)
     rw [hY] at hg hw ⊢
     have G4 := Aside0.mk hg
     have G5 := Aside0.mk ((hst p6 (by omega)).trans G5.out)
     have BP := Aside0.mk ((hst _ (by omega)).trans BP.out)
     have BD := Aside0.mk ((hst _ (by omega)).trans BD.out)
     have HW := Aside0.mk hw
     clear hst hg hw hY k5 f5
     have x0 := (blk_cell G5.out 0).trans rfl
     have x1 := (blk_cell G5.out 1).trans rfl
     have x2 := (blk_cell G5.out 2).trans rfl
     have x3 := (blk_cell G5.out 3).trans rfl
     have x4 := (blk_cell G5.out 4).trans rfl
     have x5 := (blk_cell G5.out 5).trans rfl
     have fx := fun i => blk_frozen G5.out i
     have hSd := ChS.of BP.out BD.out
     refine hK.out _ _ (fun _ => hSd) ?_
     clear hK
     refine wpAnyK_one (i := 7) (by kernel_rfl) rfl (fun K hK => ?_)
     go_simp
     obtain ⟨Z7, hY⟩ : ∃ Z7, ((((((Z6.setCell ⟨p6, 0, none⟩ (.string d.f0)).setCell ⟨p6, 1, none⟩ (.slice E1 d.f1.length h1)).setCell ⟨p6, 2, none⟩ (.slice E2 d.f2.length h2)).setCell ⟨p6, 3, none⟩ (.int .i64 d.f3.f0)).setCell ⟨p6, 4, none⟩ (.string d.f3.f1)).setCell ⟨p6, 5, none⟩ (.slice E5 d.f3.f2.length h5)) = Z7 := ⟨_, rfl⟩
     have hst : ∀ k, k ≠ p6 → Z7.heap[k]? = Z6.heap[k]? := fun k hk => by rw [← hY]; exact (Below.heap_setCell _ _ _ _ hk).trans ((Below.heap_setCell _ _ _ _ hk).trans ((Below.heap_setCell _ _ _ _ hk).trans ((Below.heap_setCell _ _ _ _ hk).trans ((Below.heap_setCell _ _ _ _ hk).trans (Below.heap_setCell _ _ _ _ hk)))))
     have hg := blk_put (blk_put (blk_put (blk_put (blk_put (blk_put G5.out 0 (.string d.f0) rfl) 1 (.slice E1 d.f1.length h1) rfl) 2 (.slice E2 d.f2.length h2) rfl) 3 (.int .i64 d.f3.f0) rfl) 4 (.string d.f3.f1) rfl) 5 (.slice E5 d.f3.f2.length h5) rfl
     have hw := (((((HW.out.setCell (p := ⟨p6, 0, none⟩) (by simp only; omega) (.string d.f0)).setCell (p := ⟨p6, 1, none⟩) (by simp only; omega) (.slice E1 d.f1.length h1)).setCell (p := ⟨p6, 2, none⟩) (by simp only; omega) (.slice E2 d.f2.length h2)).setCell (p := ⟨p6, 3, none⟩) (by simp only; omega) (.int .i64 d.f3.f0)).setCell (p := ⟨p6, 4, none⟩) (by simp only; omega) (.string d.f3.f1)).setCell (p := ⟨p6, 5, none⟩) (by simp only; omega) (.slice E5 d.f3.f2.length h5)
     rw [hY] at hg hw ⊢
     have F1 := Aside0.mk (Kd.F_step F1.out (W1 := Z7) (fun k hk _ => hst k (by have h2 := hk; (try dsimp only at h2); omega)))
     have F3 := Aside0.mk (Kd.FK_step F3.out (W1 := Z7) (fun k hk _ => hst k (by have h2 := hk; (try dsimp only at h2); omega)))
     have G5 := Aside0.mk (show Z7.heap[p6]? = some (.cells #[.string d.f0, .slice E1 d.f1.length h1, .slice E2 d.f2.length h2, .int .i64 d.f3.f0, .string d.f3.f1, .slice E5 d.f3.f2.length h5] 59 (0, 0)) from hg)
     have G4 := Aside0.mk ((hst p5 (by omega)).trans G4.out)
     have HW := Aside0.mk hw
     clear hst hg hw hY x0 x1 x2 x3 x4 x5 fx
     refine hK.out _ _ (fun h => absurd rfl h) ?_
     clear hK hSd
     refine wpAnyK_done (by kernel_rfl) ?_ _
     go_wp2_with fail
     go_meet
     exact ⟨p5, p6, A5, c5, E1, h1, E2, h2, E5, h5, rfl, rfl, ⟨by simpa using G4.out⟩, G5, ⟨hc5, Kd.F_now F1.out⟩, ⟨Kd.FK_now F3.out⟩, HW⟩
    ·skip
     go_simp
     obtain ⟨X3, hY⟩ : ∃ X3, X2.alloc (.cells #[.slice none 0 0] 24) = X3 := ⟨_, rfl⟩
     obtain ⟨p5, hp5⟩ : ∃ p5, X2.heap.size = p5 := ⟨_, rfl⟩
     have hb : Below X2.heap.size X2 X3 := by rw [← hY]; exact below_alloc1 _ _
     have G4 := Aside0.mk (show X3.heap[p5]? = some (.cells #[.slice none 0 0] 24 (0, 0)) by rw [← hY, ← hp5]; exact alloc_at _ _)
     have hp5s : p5 < X3.heap.size := by rw [← hY, ← hp5]; simp
     have hp5w : w3.heap.size ≤ p5 := by rw [← hp5]; exact HW.out.size
     rw [hY, hp5]
     have hne : p5 ≠ p6 := by omega
     have F1 := Aside0.mk (Kd.F_mono (Kd.F_bound F1.out) (ok' := (fun k => w3.heap.size ≤ k ∧ k ≠ p5 ∧ k ≠ p6)) (fun k hk => by have h2 := hk; (try dsimp only at h2 ⊢); omega))
     have BP := Aside0.mk (blk_below BP.out hb)
     have BD := Aside0.mk (blk_below BD.out hb)
     have HW := Aside0.mk (HW.out.trans (hb.mono HW.out.size))
     have hsz := hb.size
     have F1 := Aside0.mk (Kd.F_below F1.out hb)
     have G5 := Aside0.mk (blk_below G5.out hb)
     clear hb hY hp5
     have hSd := ChS.of BP.out BD.out
     refine hK.out _ _ (fun _ => hSd) ?_
     clear hK
     refine wpAnyK_one (i := 3) (by kernel_rfl) rfl (fun K hK => ?_)
     go_simp
     go_at_call 49
     (with_reducible refine (HO3.out X3 HW.out).mono ?_)
     rintro e X4 ⟨v1, v2, v5, rfl, hT, hCs, hE, hb⟩
     obtain ⟨E1, h1, rfl⟩ := Kd.R_slice hT
     obtain ⟨E2, h2, rfl⟩ := Kd.R_slice hCs
     obtain ⟨E5, h5, rfl⟩ := Kd.R_slice hE
     have F3 := Aside0.mk (Kd.FK_mono (Kd.FK_of_M (k59_mkM X4 X3.heap.size (fun k => X3.heap.size ≤ k) d (Kd.R_mono (Kd.R_bound hT) (fun k hk => hk.2.1)) (Kd.R_mono (Kd.R_bound hCs) (fun k hk => hk.2.1)) (Kd.R_mono (Kd.R_bound hE) (fun k hk => hk.2.1)))) (ok' := (fun k => w3.heap.size ≤ k ∧ k ≠ p5 ∧ k ≠ p6)) (fun k hk => by have h1 := HW.out.size; have h2 := hk; (try dsimp only at h2 ⊢); omega))
     have BP := Aside0.mk (blk_below BP.out hb)
     have BD := Aside0.mk (blk_below BD.out hb)
     have HW := Aside0.mk (HW.out.trans (hb.mono HW.out.size))
     have hsz := hb.size
     have F1 := Aside0.mk (Kd.F_below F1.out hb)
     have G4 := Aside0.mk (blk_below G4.out hb)
     have G5 := Aside0.mk (blk_below G5.out hb)
     clear hT hCs hE hb
     have hSd := ChS.of BP.out BD.out
     refine hK.out _ _ (fun _ => hSd) ?_
     clear hK
     have k5 := (blk_cell G4.out 0).trans rfl
     have f5 := blk_frozen G4.out 0
     refine wpAnyK_one (i := 6) (by kernel_rfl) rfl (fun K hK => ?_)
     go_simp
     obtain ⟨Z6, hY⟩ : ∃ Z6, X4.setCell ⟨p5, 0, none⟩ (.slice A5 ps.length c5) = Z6 := ⟨_, rfl⟩
     have hst : ∀ k, k ≠ p5 → Z6.heap[k]? = X4.heap[k]? := fun k hk => by rw [← hY]; exact Below.heap_setCell _ _ _ _ hk
     have hz6 : Z6.heap.size = X4.heap.size := by rw [← hY]; simp only [World.setCell, Array.size_modify]
     have F1 := Aside0.mk (Kd.F_step F1.out (W1 := Z6) (fun k hk _ => hst k (by have h2 := hk; (try dsimp only at h2); omega)))
     have F3 := Aside0.mk (Kd.FK_step F3.out (W1 := Z6) (fun k hk _ => hst k (by have h2 := hk; (try dsimp only at h2); omega)))
     have hg := blk_put G4.out 0 (.slice A5 ps.length c5) rfl
     have hw := HW.out.setCell (p := ⟨p5, 0, none⟩) (by simp only; omega) (.slice A5 ps.length c5)
     rw [hY] at hg hw ⊢
     have G4 := Aside0.mk hg
     have G5 := Aside0.mk ((hst p6 (by omega)).trans G5.out)
     have BP := Aside0.mk ((hst _ (by omega)).trans BP.out)
     have BD := Aside0.mk ((hst _ (by omega)).trans BD.out)
     have HW := Aside0.mk hw
     clear hst hg hw hY k5 f5
     have x0 := (blk_cell G5.out 0).trans rfl
     have x1 := (blk_cell G5.out 1).trans rfl
     have x2 := (blk_cell G5.out 2).trans rfl
     have x3 := (blk_cell G5.out 3).trans rfl
     have x4 := (blk_cell G5.out 4).trans rfl
     have x5 := (blk_cell G5.out 5).trans rfl
     have fx := fun i => blk_frozen G5.out i
     have hSd := ChS.of BP.out BD.out
     refine hK.out _ _ (fun _ => hSd) ?_
     clear hK
     refine wpAnyK_one (i := 7) (by kernel_rfl) rfl (fun K hK => ?_)
     go_simp
     obtain ⟨Z7, hY⟩ : ∃ Z7, ((((((Z6.setCell ⟨p6, 0, none⟩ (.string d.f0)).setCell ⟨p6, 1, none⟩ (.slice E1 d.f1.length h1)).setCell ⟨p6, 2, none⟩ (.slice E2 d.f2.length h2)).setCell ⟨p6, 3, none⟩ (.int .i64 d.f3.f0)).setCell ⟨p6, 4, none⟩ (.string d.f3.f1)).setCell ⟨p6, 5, none⟩ (.slice E5 d.f3.f2.length h5)) = Z7 := ⟨_, rfl⟩
     have hst : ∀ k, k ≠ p6 → Z7.heap[k]? = Z6.heap[k]? := fun k hk => by rw [← hY]; exact (Below.heap_setCell _ _ _ _ hk).trans ((Below.heap_setCell _ _ _ _ hk).trans ((Below.heap_setCell _ _ _ _ hk).trans ((Below.heap_setCell _ _ _ _ hk).trans ((Below.heap_setCell _ _ _ _ hk).trans (Below.heap_setCell _ _ _ _ hk)))))
     have hg := blk_put (blk_put (blk_put (blk_put (blk_put (blk_put G5.out 0 (.string d.f0) rfl) 1 (.slice E1 d.f1.length h1) rfl) 2 (.slice E2 d.f2.length h2) rfl) 3 (.int .i64 d.f3.f0) rfl) 4 (.string d.f3.f1) rfl) 5 (.slice E5 d.f3.f2.length h5) rfl
     have hw := (((((HW.out.setCell (p := ⟨p6, 0, none⟩) (by simp only; omega) (.string d.f0)).setCell (p := ⟨p6, 1, none⟩) (by simp only; omega) (.slice E1 d.f1.length h1)).setCell (p := ⟨p6, 2, none⟩) (by simp only; omega) (.slice E2 d.f2.length h2)).setCell (p := ⟨p6, 3, none⟩) (by simp only; omega) (.int .i64 d.f3.f0)).setCell (p := ⟨p6, 4, none⟩) (by simp only; omega) (.string d.f3.f1)).setCell (p := ⟨p6, 5, none⟩) (by simp only; omega) (.slice E5 d.f3.f2.length h5)
     rw [hY] at hg hw ⊢
     have F1 := Aside0.mk (Kd.F_step F1.out (W1 := Z7) (fun k hk _ => hst k (by have h2 := hk; (try dsimp only at h2); omega)))
     have F3 := Aside0.mk (Kd.FK_step F3.out (W1 := Z7) (fun k hk _ => hst k (by have h2 := hk; (try dsimp only at h2); omega)))
     have G5 := Aside0.mk (show Z7.heap[p6]? = some (.cells #[.string d.f0, .slice E1 d.f1.length h1, .slice E2 d.f2.length h2, .int .i64 d.f3.f0, .string d.f3.f1, .slice E5 d.f3.f2.length h5] 59 (0, 0)) from hg)
     have G4 := Aside0.mk ((hst p5 (by omega)).trans G4.out)
     have HW := Aside0.mk hw
     clear hst hg hw hY x0 x1 x2 x3 x4 x5 fx
     refine hK.out _ _ (fun h => absurd rfl h) ?_
     clear hK hSd
     refine wpAnyK_done (by kernel_rfl) ?_ _
     go_wp2_with fail
     go_meet
     exact ⟨p5, p6, A5, c5, E1, h1, E2, h2, E5, h5, rfl, rfl, ⟨by simpa using G4.out⟩, G5, ⟨hc5, Kd.F_now F1.out⟩, ⟨Kd.FK_now F3.out⟩, HW⟩
   ·skip
    go_simp
    obtain ⟨X2, hY⟩ : ∃ X2, X1.alloc (.cells #[.slice none 0 0] 24) = X2 := ⟨_, rfl⟩
    obtain ⟨p5, hp5⟩ : ∃ p5, X1.heap.size = p5 := ⟨_, rfl⟩
    have hb : Below X1.heap.size X1 X2 := by rw [← hY]; exact below_alloc1 _ _
    have G4 := Aside0.mk (show X2.heap[p5]? = some (.cells #[.slice none 0 0] 24 (0, 0)) by rw [← hY, ← hp5]; exact alloc_at _ _)
    have hp5s : p5 < X2.heap.size := by rw [← hY, ← hp5]; simp
    have hp5w : w3.heap.size ≤ p5 := by rw [← hp5]; exact HW.out.size
    rw [hY, hp5]
    have hne : p5 ≠ p6 := by omega
    have BP := Aside0.mk (blk_below BP.out hb)
    have BD := Aside0.mk (blk_below BD.out hb)
    have HW := Aside0.mk (HW.out.trans (hb.mono HW.out.size))
    have hsz := hb.size
    have G5 := Aside0.mk (blk_below G5.out hb)
    clear hb hY hp5
    have hSd := ChS.of BP.out BD.out
    refine hK.out _ _ (fun _ => hSd) ?_
    clear hK
    refine wpAnyK_one (i := 1) (by kernel_rfl) rfl (fun K hK => ?_)
    go_simp
    go_at_call 10
    (with_reducible refine (HO1.out X2 HW.out).mono ?_)
    rintro e X3 ⟨v, rfl, ho, hb⟩
    obtain ⟨A5, c5, rfl, hc5, _⟩ := Kd.R_reads ho
    have F1 := Aside0.mk (Kd.F_mono (Kd.R_F (Kd.R_bound ho)) (ok' := (fun k => w3.heap.size ≤ k ∧ k ≠ p5 ∧ k ≠ p6)) (fun k hk => by have h1 := HW.out.size; have h2 := hk.2.1; (try dsimp only); omega))
    have BP := Aside0.mk (blk_below BP.out hb)
    have BD := Aside0.mk (blk_below BD.out hb)
    have HW := Aside0.mk (HW.out.trans (hb.mono HW.out.size))
    have hsz := hb.size
    have G4 := Aside0.mk (blk_below G4.out hb)
    have G5 := Aside0.mk (blk_below G5.out hb)
    clear ho hb
    have hSd := ChS.of BP.out BD.out
    refine hK.out _ _ (fun _ => hSd) ?_
    clear hK
    refine wpAnyK_one (i := 3) (by kernel_rfl) rfl (fun K hK => ?_)
    go_simp
    go_at_call 49
    (with_reducible refine (HO3.out X3 HW.out).mono ?_)
    rintro e X4 ⟨v1, v2, v5, rfl, hT, hCs, hE, hb⟩
    obtain ⟨E1, h1, rfl⟩ := Kd.R_slice hT
    obtain ⟨E2, h2, rfl⟩ := Kd.R_slice hCs
    obtain ⟨E5, h5, rfl⟩ := Kd.R_slice hE
    have F3 := Aside0.mk (Kd.FK_mono (Kd.FK_of_M (k59_mkM X4 X3.heap.size (fun k => X3.heap.size ≤ k) d (Kd.R_mono (Kd.R_bound hT) (fun k hk => hk.2.1)) (Kd.R_mono (Kd.R_bound hCs) (fun k hk => hk.2.1)) (Kd.R_mono (Kd.R_bound hE) (fun k hk => hk.2.1)))) (ok' := (fun k => w3.heap.size ≤ k ∧ k ≠ p5 ∧ k ≠ p6)) (fun k hk => by have h1 := HW.out.size; have h2 := hk; (try dsimp only at h2 ⊢); omega))
    have BP := Aside0.mk (blk_below BP.out hb)
    have BD := Aside0.mk (blk_below BD.out hb)
    have HW := Aside0.mk (HW.out.trans (hb.mono HW.out.size))
    have hsz := hb.size
    have F1 := Aside0.mk (Kd.F_below F1.out hb)
    have G4 := Aside0.mk (blk_below G4.out hb)
    have G5 := Aside0.mk (blk_below G5.out hb)
    clear hT hCs hE hb
    have hSd := ChS.of BP.out BD.out
    refine hK.out _ _ (fun _ => hSd) ?_
    clear hK
    have k5 := (blk_cell G4.out 0).trans rfl
    have f5 := blk_frozen G4.out 0
    refine wpAnyK_one (i := 6) (by kernel_rfl) rfl (fun K hK => ?_)
    go_simp
    obtain ⟨Z6, hY⟩ : ∃ Z6, X4.setCell ⟨p5, 0, none⟩ (.slice A5 ps.length c5) = Z6 := ⟨_, rfl⟩
    have hst : ∀ k, k ≠ p5 → Z6.heap[k]? = X4.heap[k]? := fun k hk => by rw [← hY]; exact Below.heap_setCell _ _ _ _ hk
    have hz6 : Z6.heap.size = X4.heap.size := by rw [← hY]; simp only [World.setCell, Array.size_modify]
    have F1 := Aside0.mk (Kd.F_step F1.out (W1 := Z6) (fun k hk _ => hst k (by have h2 := hk; (try dsimp only at h2); omega)))
    have F3 := Aside0.mk (Kd.FK_step F3.out (W1 := Z6) (fun k hk _ => hst k (by have h2 := hk; (try dsimp only at h2); omega)))
    have hg := blk_put G4.out 0 (.slice A5 ps.length c5) rfl
    have hw := HW.out.setCell (p := ⟨p5, 0, none⟩) (by simp only; omega) (.slice A5 ps.length c5)
    rw [hY] at hg hw ⊢
    have G4 := Aside0.mk hg
    have G5 := Aside0.mk ((hst p6 (by omega)).trans G5.out)
    have BP := Aside0.mk ((hst _ (by omega)).trans BP.out)
    have BD := Aside0.mk ((hst _ (by omega)).trans BD.out)
    have HW := Aside0.mk hw
    clear hst hg hw hY k5 f5
    have x0 := (blk_cell G5.out 0).trans rfl
    have x1 := (blk_cell G5.out 1).trans rfl
    have x2 := (blk_cell G5.out 2).trans rfl
    have x3 := (blk_cell G5.out 3).trans rfl
    have x4 := (blk_cell G5.out 4).trans rfl
    have x5 := (blk_cell G5.out 5).trans rfl
    have fx := fun i => blk_frozen G5.out i
    have hSd := ChS.of BP.out BD.out
    refine hK.out _ _ (fun _ => hSd) ?_
    clear hK
    refine wpAnyK_one (i := 7) (by kernel_rfl) rfl (fun K hK => ?_)
    go_simp
    obtain ⟨Z7, hY⟩ : ∃ Z7, ((((((Z6.setCell ⟨p6, 0, none⟩ (.string d.f0)).setCell ⟨p6, 1, none⟩ (.slice E1 d.f1.length h1)).setCell ⟨p6, 2, none⟩ (.slice E2 d.f2.length h2)).setCell ⟨p6, 3, none⟩ (.int .i64 d.f3.f0)).setCell ⟨p6, 4, none⟩ (.string d.f3.f1)).setCell ⟨p6, 5, none⟩ (.slice E5 d.f3.f2.length h5)) = Z7 := ⟨_, rfl⟩
    have hst : ∀ k, k ≠ p6 → Z7.heap[k]? = Z6.heap[k]? := fun k hk => by rw [← hY]; exact (Below.heap_setCell _ _ _ _ hk).trans ((Below.heap_setCell _ _ _ _ hk).trans ((Below.heap_setCell _ _ _ _ hk).trans ((Below.heap_setCell _ _ _ _ hk).trans ((Below.heap_setCell _ _ _ _ hk).trans (Below.heap_setCell _ _ _ _ hk)))))
    have hg := blk_put (blk_put (blk_put (blk_put (blk_put (blk_put G5.out 0 (.string d.f0) rfl) 1 (.slice E1 d.f1.length h1) rfl) 2 (.slice E2 d.f2.length h2) rfl) 3 (.int .i64 d.f3.f0) rfl) 4 (.string d.f3.f1) rfl) 5 (.slice E5 d.f3.f2.length h5) rfl
    have hw := (((((HW.out.setCell (p := ⟨p6, 0, none⟩) (by simp only; omega) (.string d.f0)).setCell (p := ⟨p6, 1, none⟩) (by simp only; omega) (.slice E1 d.f1.length h1)).setCell (p := ⟨p6, 2, none⟩) (by simp only; omega) (.slice E2 d.f2.length h2)).setCell (p := ⟨p6, 3, none⟩) (by simp only; omega) (.int .i64 d.f3.f0)).setCell (p := ⟨p6, 4, none⟩) (by simp only; omega) (.string d.f3.f1)).setCell (p := ⟨p6, 5, none⟩) (by simp only; omega) (.slice E5 d.f3.f2.length h5)
    rw [hY] at hg hw ⊢
    have F1 := Aside0.mk (Kd.F_step F1.out (W1 := Z7) (fun k hk _ => hst k (by have h2 := hk; (try dsimp only at h2); omega)))
    have F3 := Aside0.mk (Kd.FK_step F3.out (W1 := Z7) (fun k hk _ => hst k (by have h2 := hk; (try dsimp only at h2); omega)))
    have G5 := Aside0.mk (show Z7.heap[p6]? = some (.cells #[.string d.f0, .slice E1 d.f1.length h1, .slice E2 d.f2.length h2, .int .i64 d.f3.f0, .string d.f3.f1, .slice E5 d.f3.f2.length h5] 59 (0, 0)) from hg)
    have G4 := Aside0.mk ((hst p5 (by omega)).trans G4.out)
    have HW := Aside0.mk hw
    clear hst hg hw hY x0 x1 x2 x3 x4 x5 fx
    refine hK.out _ _ (fun h => absurd rfl h) ?_
    clear hK hSd
    refine wpAnyK_done (by kernel_rfl) ?_ _
    go_wp2_with fail
    go_meet
    exact ⟨p5, p6, A5, c5, E1, h1, E2, h2, E5, h5, rfl, rfl, ⟨by simpa using G4.out⟩, G5, ⟨hc5, Kd.F_now F1.out⟩, ⟨Kd.FK_now F3.out⟩, HW⟩
 case rest =>
  obtain ⟨p5, p6, A5, c5, E1, h1, E2, h2, E5, h5, rfl, rfl, G5, G6, O1, O2, HW⟩ := hcut
  have Q := Aside0.mk (Q.out.trans (HW.out.mono Q.out.size))
  have BP := Aside0.mk (blk_below BP.out HW.out)
  have BD := Aside0.mk (blk_below BD.out HW.out)
  clear HW
  obtain ⟨ap, hap⟩ : ∃ ap, addP ps d = ap := ⟨_, rfl⟩
  obtain ⟨rp, hrp⟩ : ∃ rp, renameP ps s t = rp := ⟨_, rfl⟩
  obtain ⟨pp, hpp⟩ : ∃ pp, pickP d t kids = pp := ⟨_, rfl⟩
  obtain ⟨ce, hce⟩ : ∃ ce, checkP ps = ce := ⟨_, rfl⟩
  have HNm := Lib.hid (And.intro hap (And.intro hrp (And.intro hpp hce)))
  clear hap hrp hpp hce hs40 ht40 hs2 hs3
  have kP := (blk_cell BP.out 0).trans rfl
  have HC := Lib.hid (c_rCheck ps A c wc (Kd.C_below HR.out Q.out) hc hok)
  rw [HNm.out.2.2.2] at HC
  go_wp2_with fail
  refine HC.out.mono ?_
  rintro en w4 ⟨rfl, hb⟩
  have Q := Aside0.mk (Q.out.trans (hb.mono Q.out.size))
  have BP := Aside0.mk (blk_below BP.out hb)
  have BD := Aside0.mk (blk_below BD.out hb)
  have G5 := Aside0.mk (blk_below G5.out hb)
  have G6 := Aside0.mk (blk_below G6.out hb)
  have O1 := Aside0.mk (And.intro O1.out.1 (Kd.C_below O1.out.2 hb))
  have O2 := Aside0.mk (Kd.FK_now (Kd.FK_below (K_FK k59_heap O2.out) hb))
  have hs4 := Q.out.size
  have hl4 := blk_lt BP.out
  clear hb kP HC
  obtain ⟨W5, hW5⟩ : ∃ W5, (w4.alloc (.cells #[.slice none 0 0] 24)).alloc (.cells #[.slice none 0 0] 24) = W5 := ⟨_, rfl⟩
  have hb : Below w4.heap.size w4 W5 := by rw [← hW5]; exact below_alloc2 _ _ _
  have z5 : W5.heap.size = w4.heap.size + 1 + 1 := by rw [← hW5]; simp
  have X15 := Aside0.mk (show PBox w4.heap.size none 0 0 W5 by rw [← hW5]; exact blk_alloc (alloc_at _ _) _)
  have X16 := Aside0.mk (show PBox (w4.heap.size + 1) none 0 0 W5 by rw [← hW5]; have := alloc_at (w4.alloc (.cells #[.slice none 0 0] 24)) (.cells #[.slice none 0 0] 24); rw [World.size_alloc] at this; exact this)
  have Q5 := Aside0.mk (Q.out.trans (hb.mono Q.out.size))
  have BP5 := Aside0.mk (blk_below BP.out hb)
  have BD5 := Aside0.mk (blk_below BD.out hb)
  have HB5 := Aside0.mk hb
  have HW5 := Lib.hid hW5
  have hz5a := Nat.le_of_eq z5
  have hz5b := Nat.le_of_eq z5.symm
  clear hW5 z5 hb
  go_upto_if 50 with fail
  rw [HW5.out]
  clear HW5
  go_cut [13, 14] (fun s13 s14 wx => ∃ (A15 : Option Addr) (c15 : Nat) (A16 : Option Addr) (c16 : Nat), s13 = .int .i64 ap.2 ∧ s14 = .int .i64 rp.2 ∧ Aside0 (ap.1.length ≤ c15 ∧ Kd.C k59 wx A15 ap.1.length ap.1) ∧ Aside0 (rp.1.length ≤ c16 ∧ Kd.C k59 wx A16 rp.1.length rp.1) ∧ Aside0 (PBox w4.heap.size A15 ap.1.length c15 wx) ∧ Aside0 (PBox (w4.heap.size + 1) A16 rp.1.length c16 wx) ∧ Aside0 (Below w4.heap.size w4 wx))
  case first =>
   cases hf0 : (ce == 0) with
   | false =>
    have hne : ¬ checkP ps = 0 := by rw [HNm.out.2.2.2]; simpa using hf0
    have HNo := Lib.hid (show ap = ([], ce) ∧ rp = ([], ce) by
     obtain ⟨h1, h2, _, h4⟩ := HNm.out
     exact ⟨by rw [← h1, addP, if_neg hne, h4], by rw [← h2, renameP, if_neg hne, h4]⟩)
    clear hne
    go_wp2_with fail
    go_meet
    obtain ⟨rfl, rfl⟩ := HNo.out
    exact ⟨none, 0, none, 0, rfl, rfl, ⟨Nat.le_refl _, Kd.C_nil _ _⟩, ⟨Nat.le_refl _, Kd.C_nil _ _⟩, X15, X16, HB5⟩
   | true =>
    have hne : checkP ps = 0 := by rw [HNm.out.2.2.2]; simpa using hf0
    have HYe := Lib.hid (show addR ps d = ap ∧ renR ps s t = rp by
     obtain ⟨h1, h2, _, _⟩ := HNm.out
     exact ⟨by rw [← h1, addP, if_pos hne], by rw [← h2, renameP, if_pos hne]⟩)
    have kP := (blk_cell BP5.out 0).trans rfl
    have d0 := (blk_cell BD5.out 0).trans rfl
    have d1 := (blk_cell BD5.out 1).trans rfl
    have d2 := (blk_cell BD5.out 2).trans rfl
    have d3 := (blk_cell BD5.out 3).trans rfl
    have d4 := (blk_cell BD5.out 4).trans rfl
    have d5 := (blk_cell BD5.out 5).trans rfl
    have HC := Lib.hid (c_rAdd ps d A c _ W5 (fun k => k < w.heap.size) (Kd.F_below (Kd.C_F k59_heap HR.out) Q5.out) (fun k hk => Nat.lt_of_lt_of_le hk Q5.out.size) hc (Kd.FK_below HD.out Q5.out) (by omega) hbq)
    rw [HYe.out.1] at HC
    clear hne
    go_wp2_with fail
    refine HC.out.mono ?_
    rintro en w6 ⟨A15, c15, rfl, hc15, hF15, hb⟩
    have hs6 := hb.size
    have BP6 := Aside0.mk (blk_below BP5.out hb)
    have X15 := Aside0.mk (blk_below X15.out hb)
    have X16 := Aside0.mk (blk_below X16.out hb)
    have k15 := (blk_cell X15.out 0).trans rfl
    have f15 := blk_frozen X15.out 0
    obtain ⟨W7, hW7⟩ : ∃ W7, w6.setCell ⟨w4.heap.size, 0, none⟩ (.slice A15 ap.1.length c15) = W7 := ⟨_, rfl⟩
    have hst : ∀ k, k ≠ w4.heap.size → W7.heap[k]? = w6.heap[k]? := fun k hk => by rw [← hW7]; exact Below.heap_setCell _ _ _ _ hk
    have hz7 : W7.heap.size = w6.heap.size := by rw [← hW7]; simp only [World.setCell, Array.size_modify]
    have hbx := blk_put X15.out 0 (.slice A15 ap.1.length c15) rfl
    have hbb : Below w4.heap.size w4 W7 := by rw [← hW7]; exact (HB5.out.trans (hb.mono HB5.out.size)).setCell (Nat.le_refl _) _
    rw [hW7] at hbx
    have F15 := Aside0.mk (Kd.F_step hF15 (W1 := W7) (fun k hk _ => hst k (by rcases hk with hk | hk <;> omega)))
    have X15 := Aside0.mk (show PBox w4.heap.size A15 ap.1.length c15 W7 from hbx)
    have X16 := Aside0.mk (show PBox (w4.heap.size + 1) none 0 0 W7 from (hst _ (by omega)).trans X16.out)
    have BP7 := Aside0.mk ((hst _ (by omega)).trans BP6.out)
    have Q7 := Aside0.mk (Q.out.trans (hbb.mono Q.out.size))
    have HB7 := Aside0.mk hbb
    have HW7 := Lib.hid hW7
    clear hb HC kP d0 d1 d2 d3 d4 d5 hF15 hbx hbb hst hW7
    go_upto_region 9 with fail
    rw [HW7.out]
    clear HW7 k15 f15
    have kP := (blk_cell BP7.out 0).trans rfl
    have HC := Lib.hid (c_rRename ps A c s t W7 (fun k => k < w.heap.size) (Kd.F_below (Kd.C_F k59_heap HR.out) Q7.out) (fun k hk => Nat.lt_of_lt_of_le hk Q7.out.size) hc (by omega) hbp)
    rw [HYe.out.2] at HC
    go_wp2_with fail
    refine HC.out.mono ?_
    rintro en w8 ⟨A16, c16, rfl, hc16, hF16, hb⟩
    have hs8 := hb.size
    have X15 := Aside0.mk (blk_below X15.out hb)
    have X16 := Aside0.mk (blk_below X16.out hb)
    have F15 := Aside0.mk (Kd.F_below F15.out hb)
    have F16 := Aside0.mk hF16
    have HB8 := Aside0.mk (HB7.out.trans (hb.mono HB7.out.size))
    clear hb HC kP hF16
    have k16 := (blk_cell X16.out 0).trans rfl
    have f16 := blk_frozen X16.out 0
    go_wp2_with fail
    go_meet
    have hst : ∀ k, k ≠ w4.heap.size + 1 → (w8.setCell ⟨w4.heap.size + 1, 0, none⟩ (.slice A16 rp.1.length c16)).heap[k]? = w8.heap[k]? := fun k hk => Below.heap_setCell _ _ _ _ hk
    exact ⟨A15, c15, A16, c16, rfl, rfl, ⟨hc15, Kd.F_now (Kd.F_step F15.out (fun k hk _ => hst k (by rcases hk with hk | hk <;> omega)))⟩, ⟨hc16, Kd.F_now (Kd.F_step F16.out (fun k hk _ => hst k (by rcases hk with hk | hk <;> omega)))⟩, ⟨(hst _ (by omega)).trans X15.out⟩, ⟨blk_put X16.out 0 _ rfl⟩, ⟨HB8.out.setCell (by simp only; omega) _⟩⟩
  case rest =>
   rename World => wd
   obtain ⟨A15, c15, A16, c16, rfl, rfl, L15, L16, X15, X16, HW⟩ := hcut
   have hb := HW.out
   have Q := Aside0.mk (Q.out.trans (hb.mono Q.out.size))
   have BP := Aside0.mk (blk_below BP.out hb)
   have BD := Aside0.mk (blk_below BD.out hb)
   have G5 := Aside0.mk (blk_below G5.out hb)
   have G6 := Aside0.mk (blk_below G6.out hb)
   have O1 := Aside0.mk (And.intro O1.out.1 (Kd.C_below O1.out.2 hb))
   have O2 := Aside0.mk (Kd.FK_now (Kd.FK_below (K_FK k59_heap O2.out) hb))
   clear hb HW Q5 BP5 BD5 HB5 hz5a hz5b
   have d0 := (blk_cell BD.out 0).trans rfl
   have d1 := (blk_cell BD.out 1).trans rfl
   have d2 := (blk_cell BD.out 2).trans rfl
   have d3 := (blk_cell BD.out 3).trans rfl
   have d4 := (blk_cell BD.out 4).trans rfl
   have d5 := (blk_cell BD.out 5).trans rfl
   have HC := Lib.hid (c_rPick d _ t kids wd (Kd.FK_mono (Kd.FK_below HD.out Q.out) (fun k hk => Nat.lt_of_lt_of_le hk Q.out.size)))
   rw [HNm.out.2.2.1] at HC
   go_wp2_with fail
   refine HC.out.mono ?_
   rintro en w9 ⟨rfl, hb⟩
   have Q := Aside0.mk (Q.out.trans (hb.mono Q.out.size))
   have BP := Aside0.mk (blk_below BP.out hb)
   have BD := Aside0.mk (blk_below BD.out hb)
   have G5 := Aside0.mk (blk_below G5.out hb)
   have G6 := Aside0.mk (blk_below G6.out hb)
   have O1 := Aside0.mk (And.intro O1.out.1 (Kd.C_below O1.out.2 hb))
   have O2 := Aside0.mk (Kd.FK_now (Kd.FK_below (K_FK k59_heap O2.out) hb))
   have X15 := Aside0.mk (blk_below X15.out hb)
   have X16 := Aside0.mk (blk_below X16.out hb)
   have L15 := Aside0.mk (And.intro L15.out.1 (Kd.C_below L15.out.2 hb))
   have L16 := Aside0.mk (And.intro L16.out.1 (Kd.C_below L16.out.2 hb))
   clear hb HC d0 d1 d2 d3 d4 d5
   have Q9 := Q
   have BP9 := BP
   have BD9 := BD
   have G59 := G5
   have G69 := G6
   have O19 := O1
   have O29 := O2
   have k5 := (blk_cell G5.out 0).trans rfl
   have d0 := (blk_cell G6.out 0).trans rfl
   have d1 := (blk_cell G6.out 1).trans rfl
   have d2 := (blk_cell G6.out 2).trans rfl
   have d3 := (blk_cell G6.out 3).trans rfl
   have d4 := (blk_cell G6.out 4).trans rfl
   have d5 := (blk_cell G6.out 5).trans rfl
   have HC := Lib.hid (c_Add ps d A5 c5 _ w9 O1.out.2 O1.out.1 (K_FK k59_heap O2.out) (by omega) hbq)
   rw [HNm.out.1] at HC
   go_wp2_with fail
   refine HC.out.mono ?_
   rintro en w10 ⟨v19, rfl, ho, hb⟩
   have hs10 := hb.size
   obtain ⟨A19, c19, rfl, hc19, hC19⟩ := Kd.R_reads ho
   obtain ⟨mm, hmm⟩ := bound_defs ap.1
   have HV := Aside0.mk (vg_def hmm ho)
   have L19 := Aside0.mk (And.intro hc19 hC19)
   have Q := Aside0.mk (Q.out.trans (hb.mono Q.out.size))
   have BP := Aside0.mk (blk_below BP.out hb)
   have BD := Aside0.mk (blk_below BD.out hb)
   have G5 := Aside0.mk (blk_below G5.out hb)
   have G6 := Aside0.mk (blk_below G6.out hb)
   have O1 := Aside0.mk (And.intro O1.out.1 (Kd.C_below O1.out.2 hb))
   have O2 := Aside0.mk (Kd.FK_now (Kd.FK_below (K_FK k59_heap O2.out) hb))
   have X15 := Aside0.mk (blk_below X15.out hb)
   have X16 := Aside0.mk (blk_below X16.out hb)
   have L15 := Aside0.mk (And.intro L15.out.1 (Kd.C_below L15.out.2 hb))
   have L16 := Aside0.mk (And.intro L16.out.1 (Kd.C_below L16.out.2 hb))
   have HQ9 := Aside0.mk hb
   clear hb HC k5 d0 d1 d2 d3 d4 d5 hmm ho hc19 hC19
   obtain ⟨W11, hW11⟩ : ∃ W11, w10.alloc (.cells #[.slice A19 ap.1.length c19] 24) = W11 := ⟨_, rfl⟩
   have hb : Below w10.heap.size w10 W11 := by rw [← hW11]; exact below_alloc1 _ _
   have z11 : W11.heap.size = w10.heap.size + 1 := by rw [← hW11]; simp
   have B19 := Aside0.mk (show PBox w10.heap.size A19 ap.1.length c19 W11 by rw [← hW11]; exact alloc_at _ _)
   have Q := Aside0.mk (Q.out.trans (hb.mono Q.out.size))
   have BP := Aside0.mk (blk_below BP.out hb)
   have BD := Aside0.mk (blk_below BD.out hb)
   have G5 := Aside0.mk (blk_below G5.out hb)
   have G6 := Aside0.mk (blk_below G6.out hb)
   have O1 := Aside0.mk (And.intro O1.out.1 (Kd.C_below O1.out.2 hb))
   have O2 := Aside0.mk (Kd.FK_now (Kd.FK_below (K_FK k59_heap O2.out) hb))
   have X15 := Aside0.mk (blk_below X15.out hb)
   have X16 := Aside0.mk (blk_below X16.out hb)
   have L15 := Aside0.mk (And.intro L15.out.1 (Kd.C_below L15.out.2 hb))
   have L16 := Aside0.mk (And.intro L16.out.1 (Kd.C_below L16.out.2 hb))
   have L19 := Aside0.mk (And.intro L19.out.1 (Kd.C_below L19.out.2 hb))
   have HQ10 := Aside0.mk hb
   have hz11a := Nat.le_of_eq z11
   have hz11b := Nat.le_of_eq z11.symm
   have HW11 := Lib.hid hW11
   clear hb hW11 z11
   go_upto_region 12 with fail
   rw [HW11.out]
   clear HW11
   have k5 := (blk_cell G5.out 0).trans rfl
   have HC := Lib.hid (c_Rename ps A5 c5 s t W11 O1.out.2 O1.out.1 (by omega) hbp)
   rw [HNm.out.2.1] at HC
   go_wp2_with fail
   refine HC.out.mono ?_
   rintro en w12 ⟨v21, rfl, ho, hb⟩
   have hs12 := hb.size
   obtain ⟨A21, c21, rfl, hc21, hC21⟩ := Kd.R_reads ho
   have OY := Aside0.mk ho
   have L21 := Aside0.mk (And.intro hc21 hC21)
   have Q := Aside0.mk (Q.out.trans (hb.mono Q.out.size))
   have BP := Aside0.mk (blk_below BP.out hb)
   have BD := Aside0.mk (blk_below BD.out hb)
   have G5 := Aside0.mk (blk_below G5.out hb)
   have G6 := Aside0.mk (blk_below G6.out hb)
   have O1 := Aside0.mk (And.intro O1.out.1 (Kd.C_below O1.out.2 hb))
   have O2 := Aside0.mk (Kd.FK_now (Kd.FK_below (K_FK k59_heap O2.out) hb))
   have X15 := Aside0.mk (blk_below X15.out hb)
   have X16 := Aside0.mk (blk_below X16.out hb)
   have L15 := Aside0.mk (And.intro L15.out.1 (Kd.C_below L15.out.2 hb))
   have L16 := Aside0.mk (And.intro L16.out.1 (Kd.C_below L16.out.2 hb))
   have B19 := Aside0.mk (blk_below B19.out hb)
   have L19 := Aside0.mk (And.intro L19.out.1 (Kd.C_below L19.out.2 hb))
   have HQ10 := Aside0.mk (HQ10.out.trans (hb.mono HQ10.out.size))
   clear hb HC k5 ho hc21 hC21
   obtain ⟨W13, hW13⟩ : ∃ W13, w12.alloc (.cells #[.slice A21 rp.1.length c21] 24) = W13 := ⟨_, rfl⟩
   have hb : Below w12.heap.size w12 W13 := by rw [← hW13]; exact below_alloc1 _ _
   have z13 : W13.heap.size = w12.heap.size + 1 := by rw [← hW13]; simp
   have B21 := Aside0.mk (show PBox w12.heap.size A21 rp.1.length c21 W13 by rw [← hW13]; exact alloc_at _ _)
   have Q := Aside0.mk (Q.out.trans (hb.mono Q.out.size))
   have BP := Aside0.mk (blk_below BP.out hb)
   have BD := Aside0.mk (blk_below BD.out hb)
   have G5 := Aside0.mk (blk_below G5.out hb)
   have G6 := Aside0.mk (blk_below G6.out hb)
   have O1 := Aside0.mk (And.intro O1.out.1 (Kd.C_below O1.out.2 hb))
   have O2 := Aside0.mk (Kd.FK_now (Kd.FK_below (K_FK k59_heap O2.out) hb))
   have X15 := Aside0.mk (blk_below X15.out hb)
   have X16 := Aside0.mk (blk_below X16.out hb)
   have L15 := Aside0.mk (And.intro L15.out.1 (Kd.C_below L15.out.2 hb))
   have L16 := Aside0.mk (And.intro L16.out.1 (Kd.C_below L16.out.2 hb))
   have B19 := Aside0.mk (blk_below B19.out hb)
   have L19 := Aside0.mk (And.intro L19.out.1 (Kd.C_below L19.out.2 hb))
   have HQ10 := Aside0.mk (HQ10.out.trans (hb.mono HQ10.out.size))
   have L21 := Aside0.mk (And.intro L21.out.1 (Kd.C_below L21.out.2 hb))
   have OY := Aside0.mk (Kd.R_below OY.out hb)
   have hz13a := Nat.le_of_eq z13
   have hz13b := Nat.le_of_eq z13.symm
   have HW13 := Lib.hid hW13
   clear hb hW13 z13
   go_upto_region 13 with fail
   rw [HW13.out]
   clear HW13
   have d0 := (blk_cell G6.out 0).trans rfl
   have d1 := (blk_cell G6.out 1).trans rfl
   have d2 := (blk_cell G6.out 2).trans rfl
   have d3 := (blk_cell G6.out 3).trans rfl
   have d4 := (blk_cell G6.out 4).trans rfl
   have d5 := (blk_cell G6.out 5).trans rfl
   have HC := Lib.hid (c_Pick d _ t kids W13 (K_FK k59_heap O2.out))
   rw [HNm.out.2.2.1] at HC
   go_wp2_with fail
   refine HC.out.mono ?_
   rintro en w14 ⟨rfl, hb⟩
   have hs14 := hb.size
   have Q := Aside0.mk (Q.out.trans (hb.mono Q.out.size))
   have BP := Aside0.mk (blk_below BP.out hb)
   have BD := Aside0.mk (blk_below BD.out hb)
   have G5 := Aside0.mk (blk_below G5.out hb)
   have G6 := Aside0.mk (blk_below G6.out hb)
   have O1 := Aside0.mk (And.intro O1.out.1 (Kd.C_below O1.out.2 hb))
   have O2 := Aside0.mk (Kd.FK_now (Kd.FK_below (K_FK k59_heap O2.out) hb))
   have X15 := Aside0.mk (blk_below X15.out hb)
   have X16 := Aside0.mk (blk_below X16.out hb)
   have L15 := Aside0.mk (And.intro L15.out.1 (Kd.C_below L15.out.2 hb))
   have L16 := Aside0.mk (And.intro L16.out.1 (Kd.C_below L16.out.2 hb))
   have B19 := Aside0.mk (blk_below B19.out hb)
   have L19 := Aside0.mk (And.intro L19.out.1 (Kd.C_below L19.out.2 hb))
   have HQ10 := Aside0.mk (HQ10.out.trans (hb.mono HQ10.out.size))
   have L21 := Aside0.mk (And.intro L21.out.1 (Kd.C_below L21.out.2 hb))
   have OY := Aside0.mk (Kd.R_below OY.out hb)
   have B21 := Aside0.mk (blk_below B21.out hb)
   clear hb HC d0 d1 d2 d3 d4 d5
   have ha2 : (ap.2 != ap.2) = false := by simp
   have hr2 : (rp.2 != rp.2) = false := by simp
   have hp2 : (pp.2 != pp.2) = false := by simp
   have hp1 : (pp.1 != pp.1) = false := by simp
   have k19 := (blk_cell B19.out 0).trans rfl
   have k15 := (blk_cell X15.out 0).trans rfl
   have HC := Lib.hid (c_rSameP ap.1 ap.1 A19 A15 c19 c15 w14 L19.out.2 L19.out.1 L15.out.2 L15.out.1)
   rw [sameP_refl] at HC
   go_wp2_with fail
   refine HC.out.mono ?_
   rintro en w15 ⟨rfl, hb⟩
   have hs15 := hb.size
   have Q := Aside0.mk (Q.out.trans (hb.mono Q.out.size))
   have BP := Aside0.mk (blk_below BP.out hb)
   have BD := Aside0.mk (blk_below BD.out hb)
   have G5 := Aside0.mk (blk_below G5.out hb)
   have G6 := Aside0.mk (blk_below G6.out hb)
   have O1 := Aside0.mk (And.intro O1.out.1 (Kd.C_below O1.out.2 hb))
   have O2 := Aside0.mk (Kd.FK_now (Kd.FK_below (K_FK k59_heap O2.out) hb))
   have X15 := Aside0.mk (blk_below X15.out hb)
   have X16 := Aside0.mk (blk_below X16.out hb)
   have L15 := Aside0.mk (And.intro L15.out.1 (Kd.C_below L15.out.2 hb))
   have L16 := Aside0.mk (And.intro L16.out.1 (Kd.C_below L16.out.2 hb))
   have B19 := Aside0.mk (blk_below B19.out hb)
   have L19 := Aside0.mk (And.intro L19.out.1 (Kd.C_below L19.out.2 hb))
   have HQ10 := Aside0.mk (HQ10.out.trans (hb.mono HQ10.out.size))
   have L21 := Aside0.mk (And.intro L21.out.1 (Kd.C_below L21.out.2 hb))
   have OY := Aside0.mk (Kd.R_below OY.out hb)
   have B21 := Aside0.mk (blk_below B21.out hb)
   clear hb HC k19 k15
   have k21 := (blk_cell B21.out 0).trans rfl
   have k16 := (blk_cell X16.out 0).trans rfl
   have HC := Lib.hid (c_rSameP rp.1 rp.1 A21 A16 c21 c16 w15 L21.out.2 L21.out.1 L16.out.2 L16.out.1)
   rw [sameP_refl] at HC
   go_wp2_with fail
   refine HC.out.mono ?_
   rintro en w16 ⟨rfl, hb⟩
   have hs16 := hb.size
   have B19 := Aside0.mk (blk_below B19.out hb)
   have B21 := Aside0.mk (blk_below B21.out hb)
   have OY := Aside0.mk (Kd.R_below OY.out hb)
   have HQ10 := Aside0.mk (HQ10.out.trans (hb.mono HQ10.out.size))
   clear hb HC k21 k16 L15 L16 L19 L21 X15 X16 Q BP BD G5 G6 O1 O2
   have k19 := (blk_cell B19.out 0).trans rfl
   have hv := (Spd.below HQ10.out hs10).2.2 _ _ _ HV.out
   have HC := Lib.hid (c_spoilt w9.heap.size w10.heap.size mm _ w16 hv (by omega) (by omega))
   clear hv HV
   go_wp2_with fail
   clear k19
   refine HC.out.mono ?_
   rintro en w17 ⟨rfl, hsp⟩
   have hs17 := hsp.1.size
   have B21 := Aside0.mk ((hsp.2.1 w12.heap.size (by omega) (by omega)).trans B21.out)
   have OY := Aside0.mk (Kd.R_mono (Kd.R_step (Kd.R_bound OY.out) (w1 := w17) (fun k hk hkl => hsp.2.1 k (by have := hk.2.1; omega) hkl)) (ok' := fun _ => True) (fun _ _ => trivial))
   have HQ9 := Aside0.mk ((HQ9.out.trans (HQ10.out.mono (by omega))).trans hsp.1)
   clear hsp HC HQ10 B19
   obtain ⟨mk, hmk⟩ := bound_defs rp.1
   have hv := vg_def hmk OY.out
   have k21 := (blk_cell B21.out 0).trans rfl
   have HC := Lib.hid (c_spoilt W11.heap.size w17.heap.size mk _ w17 hv (by omega) (Nat.le_refl _))
   clear hv hmk OY
   go_wp2_with fail
   clear k21
   refine HC.out.mono ?_
   rintro en w18 ⟨rfl, hsp⟩
   have hb := HQ9.out.trans (hsp.1.mono (by omega))
   clear hsp HC B21 HQ9
   have Q := Q9
   have BP := BP9
   have BD := BD9
   have G5 := G59
   have G6 := G69
   have O1 := O19
   have O2 := O29
   have Q := Aside0.mk (Q.out.trans (hb.mono Q.out.size))
   have BP := Aside0.mk (blk_below BP.out hb)
   have BD := Aside0.mk (blk_below BD.out hb)
   have G5 := Aside0.mk (blk_below G5.out hb)
   have G6 := Aside0.mk (blk_below G6.out hb)
   have O1 := Aside0.mk (And.intro O1.out.1 (Kd.C_below O1.out.2 hb))
   have O2 := Aside0.mk (Kd.FK_now (Kd.FK_below (K_FK k59_heap O2.out) hb))
   clear hb Q9 BP9 BD9 G59 G69 O19 O29
   have k5 := (blk_cell G5.out 0).trans rfl
   have kP := (blk_cell BP.out 0).trans rfl
   have HC := Lib.hid (c_rSameP ps ps A5 A c5 c w18 O1.out.2 O1.out.1 (Kd.C_below HR.out Q.out) hc)
   rw [sameP_refl] at HC
   go_wp2_with fail
   clear k5 kP
   refine HC.out.mono ?_
   rintro en w19 ⟨rfl, hb⟩
   have Q := Aside0.mk (Q.out.trans (hb.mono Q.out.size))
   have BP := Aside0.mk (blk_below BP.out hb)
   have BD := Aside0.mk (blk_below BD.out hb)
   have G5 := Aside0.mk (blk_below G5.out hb)
   have G6 := Aside0.mk (blk_below G6.out hb)
   have O1 := Aside0.mk (And.intro O1.out.1 (Kd.C_below O1.out.2 hb))
   have O2 := Aside0.mk (Kd.FK_now (Kd.FK_below (K_FK k59_heap O2.out) hb))
   clear hb HC
   have d0 := (blk_cell G6.out 0).trans rfl
   have d1 := (blk_cell G6.out 1).trans rfl
   have d2 := (blk_cell G6.out 2).trans rfl
   have d3 := (blk_cell G6.out 3).trans rfl
   have d4 := (blk_cell G6.out 4).trans rfl
   have d5 := (blk_cell G6.out 5).trans rfl
   have y0 := fun o => (blk_cell (blk_alloc BD.out o) 0).trans rfl
   have y1 := fun o => (blk_cell (blk_alloc BD.out o) 1).trans rfl
   have y2 := fun o => (blk_cell (blk_alloc BD.out o) 2).trans rfl
   have y3 := fun o => (blk_cell (blk_alloc BD.out o) 3).trans rfl
   have y4 := fun o => (blk_cell (blk_alloc BD.out o) 4).trans rfl
   have y5 := fun o => (blk_cell (blk_alloc BD.out o) 5).trans rfl
   have hlD := blk_lt BD.out
   have HC := Lib.hid (show Calls Tryz.prog 21 #[.agg #[.slice (some ⟨w19.heap.size, 0, none⟩) 1 1], .agg #[.slice (some ⟨w19.heap.size + 1, 0, none⟩) 1 1]] ((w19.alloc (.cells #[.string d.f0, .slice E1 d.f1.length h1, .slice E2 d.f2.length h2, .int .i64 d.f3.f0, .string d.f3.f1, .slice E5 d.f3.f2.length h5] 59)).alloc (.cells #[.string d.f0, .slice D1 d.f1.length e1, .slice D2 d.f2.length e2, .int .i64 d.f3.f0, .string d.f3.f1, .slice D5 d.f3.f2.length e5] 59)) (fun en w' => en = .returned (.bool true) ∧ Below w19.heap.size w19 w') from by
    have hb1 := below_alloc1 w19 (.cells #[.string d.f0, .slice E1 d.f1.length h1, .slice E2 d.f2.length h2, .int .i64 d.f3.f0, .string d.f3.f1, .slice E5 d.f3.f2.length h5] 59)
    have hb2 := below_alloc1 (w19.alloc (.cells #[.string d.f0, .slice E1 d.f1.length h1, .slice E2 d.f2.length h2, .int .i64 d.f3.f0, .string d.f3.f1, .slice E5 d.f3.f2.length h5] 59)) (.cells #[.string d.f0, .slice D1 d.f1.length e1, .slice D2 d.f2.length e2, .int .i64 d.f3.f0, .string d.f3.f1, .slice D5 d.f3.f2.length e5] 59)
    have F1 := F_lit1 (W := w19) (ok := fun _ => True) trivial 59 (Kd.FK_mono (K_FK k59_heap O2.out) (fun _ _ => trivial)) rfl
    have F2 := F_lit1 (W := w19.alloc (.cells #[.string d.f0, .slice E1 d.f1.length h1, .slice E2 d.f2.length h2, .int .i64 d.f3.f0, .string d.f3.f1, .slice E5 d.f3.f2.length h5] 59)) (ok := fun _ => True) trivial 59 (Kd.FK_mono (Kd.FK_below (Kd.FK_below HD.out Q.out) hb1) (fun _ _ => trivial)) rfl
    rw [World.size_alloc] at F2
    have h := c_rSameP [d] [d] (some ⟨w19.heap.size, 0, none⟩) (some ⟨w19.heap.size + 1, 0, none⟩) 1 1 ((w19.alloc (.cells #[.string d.f0, .slice E1 d.f1.length h1, .slice E2 d.f2.length h2, .int .i64 d.f3.f0, .string d.f3.f1, .slice E5 d.f3.f2.length h5] 59)).alloc (.cells #[.string d.f0, .slice D1 d.f1.length e1, .slice D2 d.f2.length e2, .int .i64 d.f3.f0, .string d.f3.f1, .slice D5 d.f3.f2.length e5] 59)) (Kd.C_below (Kd.F_now F1) hb2) (Nat.le_refl _) (Kd.F_now F2) (Nat.le_refl _)
    rw [sameP_refl] at h
    exact h.mono (fun en w' ⟨he, hb⟩ => ⟨he, (hb1.trans (hb2.mono hb1.size)).trans (hb.mono (hb1.trans (hb2.mono hb1.size)).size)⟩))
   go_wp2_with fail
   refine HC.out.mono ?_
   rintro en w20 ⟨rfl, hb⟩
   have Q := Aside0.mk (Q.out.trans (hb.mono Q.out.size))
   clear hb HC d0 d1 d2 d3 d4 d5 y0 y1 y2 y3 y4 y5 hlD
   go_wp2_with fail
   refine (c_awake _).mono ?_
   rintro en w21 ⟨rfl, hb⟩
   go_wp2
   go_ret
   exact ⟨rfl, Q.out.trans (hb.mono Q.out.size)⟩
end Go.Proofs.YtacefdkfbpgedaaGreat.Mine
