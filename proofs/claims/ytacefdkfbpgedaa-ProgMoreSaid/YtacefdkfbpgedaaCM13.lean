/- ProgMore, the law: the walk. -/
import Derived.Test.YtacefdkfbpgedaaCM9
import Derived.Test.YtacefdkfbpgedaaCM12
import Derived.Deep.RegionHeld3
namespace Go.Proofs.Ytacefdkfbpgedaa.Mine
open Go.Proofs.Ytacefdkfbpgedaa.PProgExprs
open Go.RowKit Go.Shelf Go.Proofs.YtacefdkfbpgedaaW.PrintWords Go.Proofs.YtacefdkfbpgedaaW.PrintLast Go.Proofs.YtacefdkfbpgedaaW.PrintMore
set_option linter.unusedVariables false
set_option linter.unusedSimpArgs false
set_option maxRecDepth 100000
theorem wrapI' (x : Int) (h0 : -1000000 ≤ x) (h1 : x ≤ 1000000) : IntKind.i64.wrap x = x := by
 simp only [IntKind.wrap, IntKind.signed, IntKind.bits]; simp; omega
theorem same_small {d : De} (h : bigD d = false) : szE d.f3 < 1000000 ∧ ∀ c ∈ d.f2, szE c.f2 < 1000000 := by
 have h1 := bigD_ok h
 exact ⟨by omega, fun c hc => by have := (bigC_ok (h1.2.2.2.2.2 c hc)).2.2.2; omega⟩
abbrev MoS (W0 : World) (gp gq : Nat) (v u : Value) (W : World) : Prop := Below W0.heap.size W0 W ∧ W.cell? ⟨gp, 0, none⟩ = some v ∧ W.cell? ⟨gq, 0, none⟩ = some u
theorem MoS.step {W0 : World} {gp gq : Nat} {v u : Value} {W W' : World} (h : MoS W0 gp gq v u W) (hb : Below W.heap.size W W') : MoS W0 gp gq v u W' := by
 obtain ⟨h0, h1, h2⟩ := h
 exact ⟨h0.trans (hb.mono h0.size), pw_cell_below hb h1, pw_cell_below hb h2⟩
set_option maxHeartbeats 8000000 in
theorem c_lawMore (zs : List Int) (A : Option Addr) (c n : Nat) (w : World) (hn : n < 256) (hr : Kd.C (Kd.int .u8) w A zs.length zs) :
  Calls Try.prog 6 #[.slice A zs.length c, .int .u8 (n : Int)] w fun en w' => en = .returned (.bool true) ∧ Below w.heap.size w w' := by
 have HF1 := Lib.hid (c_Fill A zs c w hr)
 clear hr
 go_enter Try.func6, Try.ntmps6
 go_wp2_with fail
 refine HF1.out.mono ?_
 rintro en w1 ⟨rfl, hS, hZ, hb, hlt⟩
 obtain ⟨b1, hb1⟩ : ∃ b1, w.heap.size = b1 := ⟨_, rfl⟩
 rw [hb1] at hS hZ ⊢
 have hw1 : w.heap.size ≤ b1 := Nat.le_of_eq hb1
 have hw2 : b1 ≤ w.heap.size := Nat.le_of_eq hb1.symm
 have hb1l : b1 < w1.heap.size := by omega
 have HM := Lib.hid (c_Made b1 A zs.length c zs true w1 hS hZ)
 have Q := Aside0.mk hb
 have HB1 := Lib.hid hb1
 clear hS hZ hb HF1 hb1 hlt
 go_wp2_with fail
 refine HM.out.mono ?_
 rintro en w2 ⟨ars, ps, v, rfl, hP, hOk, hF⟩
 have Q := Aside0.mk (show Below w.heap.size w w2 from Q.out.trans ⟨hF.os, hF.tape, hF.output, hF.size, fun k hk => hF.block k (by omega) (by show ¬ k = b1; omega)⟩)
 obtain ⟨Ap, cp, rfl, hcp, hCp⟩ := Kd.R_reads hP
 have hpl6 : ps.length ≤ 6 := by rw [hOk.len]; exact hOk.n6
 have HP2 := Lib.hid hCp
 have HOk := Lib.hid hOk
 have hs2 := hF.size
 clear hF hP hCp hOk HM
 -- the box of the program
 obtain ⟨gp, hgp⟩ : ∃ gp, w2.heap.size = gp := ⟨_, rfl⟩
 obtain ⟨W3, hW3⟩ : ∃ W3, w2.alloc (.cells #[.slice Ap ps.length cp] 53) = W3 := ⟨_, rfl⟩
 have q3 : Below w2.heap.size w2 W3 := by rw [← hW3]; exact below_alloc1 _ _
 have z3 : W3.heap.size = gp + 1 := by rw [← hW3, ← hgp]; simp
 have BP := Aside0.mk (show W3.heap[gp]? = some (.cells #[.slice Ap ps.length cp] 53 (0, 0)) by rw [← hW3, ← hgp]; exact alloc_at _ _)
 have HMa := Lib.hid (c_M ⟨#[97]⟩ none 0 0 W3)
 have Q2 := Aside0.mk q3
 have HW3 := Lib.hid hW3
 have hgpa := Nat.le_of_eq hgp
 have hgpb := Nat.le_of_eq hgp.symm
 have hz3a := Nat.le_of_eq z3
 have hz3b := Nat.le_of_eq z3.symm
 clear hW3 q3 z3
 go_upto_region 3 with fail
 rw [HW3.out]
 clear HW3 hgp
 go_wp2_with fail
 refine HMa.out.mono ?_
 rintro en w4 ⟨rfl, hb⟩
 have BP := Aside0.mk (blk_below BP.out hb)
 have Q2 := Aside0.mk (Q2.out.trans (hb.mono Q2.out.size))
 have hs4 := hb.size
 clear hb HMa
 obtain ⟨gd, hgd⟩ : ∃ gd, w4.heap.size = gd := ⟨_, rfl⟩
 obtain ⟨Wd, hWd⟩ : ∃ Wd, w4.alloc (.cells #[.string ⟨#[109, 111, 114, 101]⟩, .slice none 0 0, .slice none 0 0, .int .i64 2, .string ⟨#[97]⟩, .slice none 0 0] 58) = Wd := ⟨_, rfl⟩
 have qd : Below w4.heap.size w4 Wd := by rw [← hWd]; exact below_alloc1 _ _
 have zd : Wd.heap.size = gd + 1 := by rw [← hWd, ← hgd]; simp
 have BD := Aside0.mk (show Wd.heap[gd]? = some (.cells #[.string ⟨#[109, 111, 114, 101]⟩, .slice none 0 0, .slice none 0 0, .int .i64 2, .string ⟨#[97]⟩, .slice none 0 0] 58 (0, 0)) by rw [← hWd, ← hgd]; exact alloc_at _ _)
 have BP := Aside0.mk (blk_below BP.out qd)
 have Q2 := Aside0.mk (Q2.out.trans (qd.mono Q2.out.size))
 have hgda := Nat.le_of_eq hgd
 have hgdb := Nat.le_of_eq hgd.symm
 have hzda := Nat.le_of_eq zd
 have hzdb := Nat.le_of_eq zd.symm
 have HWd := Lib.hid hWd
 clear hWd qd zd
 go_upto_region 4 with fail
 rw [HWd.out]
 clear HWd hgd
 obtain ⟨k, hk⟩ : ∃ k : Nat, n % 5 = k := ⟨_, rfl⟩
 have hk5 : k < 5 := by omega
 have HKz := Lib.hid (show (n : Int) % 5 = (k : Int) by omega)
 clear hk
 go_wp2_with fail
 rw [HKz.out]
 clear HKz
 go_loopg [28] k (fun gg s28 wy => ∃ (jj : Nat) (v1 : Value), jj ≤ k ∧ k - jj ≤ gg ∧ s28 = .int .i64 jj ∧ Aside0 (Kd.R Kd.string 9 wy (gd + 1) (fun _ => True) v1 (paramsN jj)) ∧ Aside0 (Below gd Wd wy) ∧ Aside0 (wy.heap[gd]? = some (.cells #[.string ⟨#[109, 111, 114, 101]⟩, v1, .slice none 0 0, .int .i64 2, .string ⟨#[97]⟩, .slice none 0 0] 58 (0, 0))) ∧ gd < wy.heap.size)
 case atStart => exact ⟨0, _, Nat.zero_le _, by omega, rfl, ⟨Kd.R_nil _ _ _ _ _⟩, ⟨Below.refl _ _⟩, BD, by omega⟩
 case round =>
  rename World => wy
  obtain ⟨jj, v1, hjj, hgj, rfl, HP, HB, BDy, hszy⟩ := hrel
  by_cases hja : jj < k
  ·have hjaz : (jj : Int) < (k : Int) := by omega
   obtain ⟨A1, c1, rfl⟩ := Kd.R_slice HP.out
   have hpl : (paramsN jj).length = jj := by rw [paramsN, List.length_map, List.length_range]
   have HPl := Lib.hid hpl
   have hpl2 : (paramsN jj).length ≤ 4 := by omega
   have HNe := Lib.hid (fun (k : Nat) (hk : some k = (Value.slice A1 (paramsN jj).length c1).ownBlock) => show gd + 1 ≤ k ∧ k < wy.heap.size from ⟨((Kd.R_bound HP.out).1 _ hk.symm).2.1, ((Kd.R_bound HP.out).1 _ hk.symm).2.2.1⟩)
   obtain ⟨X, hX⟩ : ∃ X, wy.drew = X := ⟨_, rfl⟩
   have qX : Below wy.heap.size wy X := by rw [← hX]; exact below_drew (Below.refl _ _)
   have HPx := Aside0.mk (Kd.R_below HP.out qX)
   have HBx := Aside0.mk (HB.out.trans (qX.mono (by omega)))
   have BDx := Aside0.mk (blk_below BDy.out qX)
   have hzXa : X.heap.size ≤ wy.heap.size := by rw [← hX]; exact Nat.le_refl _
   have hzXb : wy.heap.size ≤ X.heap.size := by rw [← hX]; exact Nat.le_refl _
   have HC := Lib.hid (c_param jj X (by omega))
   have hSd : (fun W : World => W.cell? ⟨gd, 1, none⟩ = some (.slice A1 (paramsN jj).length c1)) X := (blk_cell BDx.out 1).trans rfl
   clear hpl qX
   go_upto_region 7 with fail
   refine wp_region_K (S := fun W : World => W.cell? ⟨gd, 1, none⟩ = some (.slice A1 (paramsN jj).length c1)) (k := 7) (by kernel_rfl) ?_
   change wpAnyK _ _ _ _ _ _ 8 (Array.replicate 8 false) _ _
   rw [hX]
   clear hX
   refine wpAnyK_take (i := 0) (v := ?_) rfl (by kernel_rfl) (by kernel_rfl) (by kernel_rfl) (by kernel_rfl) (fun _ _ _ h => h) hSd (Or.inl ⟨by rfl, ?_⟩) ?_
   rotate_left 1
   (intro w hSw; (try dsimp only at hSw); go_simp; try (with_reducible rfl))
   (try simp only [List.getElem_toArray, List.getElem_cons_succ, List.getElem_cons_zero]); (try dsimp only [Act.put]); (try simp only [List.setIfInBounds_toArray, List.set_cons_zero, List.set_cons_succ])
   refine wpAnyK_take (i := 1) (v := ?_) rfl (by kernel_rfl) (by kernel_rfl) (by kernel_rfl) (by kernel_rfl) (fun _ _ _ h => h) hSd (Or.inl ⟨by rfl, ?_⟩) ?_
   rotate_left 1
   (intro w hSw; (try dsimp only at hSw); go_simp; try (with_reducible rfl))
   (try simp only [List.getElem_toArray, List.getElem_cons_succ, List.getElem_cons_zero]); (try dsimp only [Act.put]); (try simp only [List.setIfInBounds_toArray, List.set_cons_zero, List.set_cons_succ])
   refine wpAnyK_take (i := 2) (v := ?_) rfl (by kernel_rfl) (by kernel_rfl) (by kernel_rfl) (by kernel_rfl) (fun _ _ _ h => h) hSd (Or.inl ⟨by rfl, ?_⟩) ?_
   rotate_left 1
   (intro w hSw; (try dsimp only at hSw); go_simp; try (with_reducible rfl))
   (try simp only [List.getElem_toArray, List.getElem_cons_succ, List.getElem_cons_zero]); (try dsimp only [Act.put]); (try simp only [List.setIfInBounds_toArray, List.set_cons_zero, List.set_cons_succ])
   refine wpAnyK_one (i := 3) (by kernel_rfl) rfl (fun K hK => ?_)
   go_simp
   go_at_call 48
   (with_reducible refine HC.out.mono ?_)
   rintro en wq ⟨rfl, hwq⟩
   have hwq := hwq.symm
   subst hwq
   refine hK.out _ _ (fun _ => hSd) ?_
   clear hK
   refine wpAnyK_one (i := 4) (by kernel_rfl) rfl (fun K hK => ?_)
   go_simp
   have hSd2 : (fun W : World => W.cell? ⟨gd, 1, none⟩ = some (.slice A1 (paramsN jj).length c1)) (X.alloc (.cells #[.string (paramN jj)] 9)) := pw_cell_below (below_alloc1 _ _) hSd
   refine hK.out _ _ (fun _ => hSd2) ?_
   clear hK
   refine wpAnyK_one (i := 5) (by kernel_rfl) rfl (fun K hK => ?_)
   refine Kd.R_append_step Kd.string (w0 := X) (W := X) (gd + 1) (by rfl) (.tmp 32) (.tmp 35) 25 9 _ 16 rfl Try.underlying25 infoTx rfl (by decide) (by decide) (.slice A1 (paramsN jj).length c1) (paramsN jj) (paramN jj) [.string (paramN jj)] (fun _ => True) (fun _ => False) rfl rfl rfl (fun _ h => h.elim) (fun _ _ => trivial) HPx.out (Below.refl _ _) (by omega) (by omega) ?_
   intro v9 w9 hR9 hB9 hg9 hat9
   rw [← paramsN_succ] at hR9
   have BD9 := Aside0.mk (blk_grown BDx.out hg9 (fun he => by have := (HNe.out _ he).1; omega))
   have HB9 := Aside0.mk (HBx.out.trans (hB9.mono (by omega)))
   have HR9 := Aside0.mk hR9
   obtain ⟨A9, c9, hv9⟩ := Kd.R_slice hR9
   subst hv9
   have hs9 := hB9.size
   have hSd : (fun W : World => W.cell? ⟨gd, 1, none⟩ = some (.slice A1 (paramsN jj).length c1)) w9 := (blk_cell BD9.out 1).trans rfl
   clear hR9 hB9 hg9 hat9 hSd2
   refine hK.out _ _ (fun _ => hSd) ?_
   clear hK
   refine wpAnyK_one (i := 6) (by kernel_rfl) rfl (fun K hK => ?_)
   go_simp
   refine hK.out _ _ (fun _ => hSd) ?_
   clear hK
   refine wpAnyK_one (i := 7) (by kernel_rfl) rfl (fun K hK => ?_)
   have k9 := (blk_cell BD9.out 1).trans rfl
   have f9 := blk_frozen BD9.out 1
   go_simp
   refine hK.out _ _ (fun h => absurd rfl h) ?_
   clear hK hSd k9 f9
   refine wpAnyK_done (by kernel_rfl) ?_ _
   go_wp2_with fail
   go_roundg (k - (jj + 1))
   case measure => omega
   case rel => exact ⟨jj + 1, _, hja, Nat.le_refl _, by go_num, ⟨Kd.R_mono (Kd.R_far (Kd.R_mono (Kd.R_bound HR9.out) (ok' := fun k => gd + 1 ≤ k) (fun k hk => hk.2.1)) (p := ⟨gd, 1, none⟩) (fun k hk => by show k ≠ gd; omega) _) (fun _ _ => trivial)⟩, ⟨HB9.out.setCell (Nat.le_refl _) _⟩, ⟨blk_put BD9.out 1 _ rfl⟩, by simp only [World.setCell, Array.size_modify]; omega⟩
  ·have hjj2 : jj = k := by omega
   subst hjj2
   obtain ⟨A1, c1, rfl, hc1, _⟩ := Kd.R_reads HP.out
   have hpl := paramsN_len jj
   have hpl2 : (paramsN jj).length ≤ 4 := by omega
   have HPl := Lib.hid hpl
   clear hpl
   have Qy := Aside0.mk (Q2.out.trans (HB.out.mono (by omega)))
   have BPy := Aside0.mk ((HB.out.block _ (by omega)).trans BP.out)
   have hsy := Qy.out.size
   have HCp := Aside0.mk (Kd.C_below HP2.out Qy.out)
   have hFd : Kd.FK k58 wy (fun k => k < wy.heap.size) (moreD jj) [.string ⟨#[109, 111, 114, 101]⟩, .slice A1 (paramsN jj).length c1, .slice none 0 0, .int .i64 2, .string ⟨#[97]⟩, .slice none 0 0] :=
    k58_mkF wy _ (moreD jj) hc1 (Kd.F_mono (Kd.R_F (Kd.R_bound HP.out)) (fun k hk => hk.2.2.1)) (Nat.le_refl 0) (Kd.F_nil _ _ _) (Nat.le_refl 0) (Kd.F_nil _ _ _)
   obtain ⟨qs, hqs⟩ : ∃ qs, ps ++ [moreD jj] = qs := ⟨_, rfl⟩
   have hbig : ∀ x ∈ ps ++ [moreD jj], bigD x = false := fun x hx => by
    rcases List.mem_append.1 hx with hx | hx
    ·exact HOk.out.big x hx
    ·rw [List.mem_singleton.1 hx]; exact more_big ⟨jj, hk5⟩
   have hadd : addP ps (moreD jj) = (qs, 0) := by rw [← hqs]; exact more_add HOk.out ⟨jj, hk5⟩
   have HAdd := Lib.hid (show Calls Try.prog 49 #[.agg #[.slice Ap ps.length cp], .agg #[.string ⟨#[109, 111, 114, 101]⟩, .slice A1 (paramsN jj).length c1, .slice none 0 0, .int .i64 2, .string ⟨#[97]⟩, .slice none 0 0]] wy (fun en w' => ∃ v, en = .returned (.tuple #[.agg #[v], .int .i64 0]) ∧ OwnD w' wy.heap.size v qs ∧ Below wy.heap.size wy w') by
    have h1 := c_Add ps (moreD jj) Ap cp _ wy HCp.out hcp hFd (by omega) hbig
    rw [hadd] at h1
    exact h1)
   have HFs := Lib.hid (show Kd.F Kd.string wy (fun k => gd + 1 ≤ k ∧ k < wy.heap.size) A1 (paramsN jj).length (paramsN jj) from Kd.F_mono (Kd.R_F (Kd.R_bound HP.out)) (fun k hk => ⟨hk.2.1, hk.2.2.1⟩))
   have hql1 : qs.length ≤ ps.length + 1 := by rw [← hqs]; simp
   have hql2 : ps.length + 1 ≤ qs.length := by rw [← hqs]; simp
   have HQs := Lib.hid hqs
   have HBig := Lib.hid (show ∀ x ∈ qs, bigD x = false by rw [← hqs]; exact hbig)
   have HOkq := Lib.hid (okP_of (l := qs) (by omega) HBig.out)
   have HCkq := Lib.hid (show checkP qs = 0 by rw [← hqs]; exact more_check HOk.out ⟨jj, hk5⟩)
   have HFi := Lib.hid (show findP qs ⟨#[109, 111, 114, 101]⟩ = ((ps.length : Int), 0) by rw [← hqs]; exact more_find HOk.out ⟨jj, hk5⟩)
   clear hqs hbig hadd hFd BP Q2 HB hpl2
   have kP := (blk_cell BPy.out 0).trans rfl
   have x0 := (blk_cell BDy.out 0).trans rfl
   have x1 := (blk_cell BDy.out 1).trans rfl
   have x2 := (blk_cell BDy.out 2).trans rfl
   have x3 := (blk_cell BDy.out 3).trans rfl
   have x4 := (blk_cell BDy.out 4).trans rfl
   have x5 := (blk_cell BDy.out 5).trans rfl
   go_wp2_with fail
   refine HAdd.out.mono ?_
   rintro en w5 ⟨vq, rfl, hO, hb⟩
   obtain ⟨Aq, cq, rfl, hcq, hCq⟩ := Kd.R_reads hO
   have BPy := Aside0.mk (blk_below BPy.out hb)
   have BDy := Aside0.mk (blk_below BDy.out hb)
   have Qy := Aside0.mk (Qy.out.trans (hb.mono Qy.out.size))
   have hs5 := hb.size
   clear kP x0 x1 x2 x3 x4 x5
   obtain ⟨gq, hgq⟩ : ∃ gq, w5.heap.size = gq := ⟨_, rfl⟩
   obtain ⟨W6, hW6⟩ : ∃ W6, w5.alloc (.cells #[.slice Aq qs.length cq] 53) = W6 := ⟨_, rfl⟩
   have q6 : Below w5.heap.size w5 W6 := by rw [← hW6]; exact below_alloc1 _ _
   have z6 : W6.heap.size = gq + 1 := by rw [← hW6, ← hgq]; simp
   have BQ := Aside0.mk (show W6.heap[gq]? = some (.cells #[.slice Aq qs.length cq] 53 (0, 0)) by rw [← hW6, ← hgq]; exact alloc_at _ _)
   have BPy := Aside0.mk (blk_below BPy.out q6)
   have BDy := Aside0.mk (blk_below BDy.out q6)
   have Qy := Aside0.mk (Qy.out.trans (q6.mono Qy.out.size))
   have HCq := Aside0.mk (Kd.C_below hCq q6)
   have HFs := Lib.hid (Kd.F_below (Kd.F_below HFs.out hb) q6)
   have HFq := Lib.hid (Kd.F_below (Kd.F_mono (Kd.R_F (Kd.R_bound hO)) (ok' := fun k => wy.heap.size ≤ k) (fun k hk => hk.2.1)) q6)
   have HFin := Lib.hid (show Calls Try.prog 45 #[.agg #[.slice Aq qs.length cq], .string ⟨#[109, 111, 114, 101]⟩] W6 (fun en w' => en = .returned (.tuple #[.int .i64 (ps.length : Int), .int .i64 0]) ∧ Below W6.heap.size W6 w') by
    have h1 := c_Find qs Aq cq ⟨#[109, 111, 114, 101]⟩ W6 HCq.out hcq HOkq.out
    rw [HFi.out] at h1
    exact h1)
   have hgqa := Nat.le_of_eq hgq
   have hgqb := Nat.le_of_eq hgq.symm
   have hz6a := Nat.le_of_eq z6
   have hz6b := Nat.le_of_eq z6.symm
   have HW6 := Lib.hid hW6
   clear hW6 q6 z6 hb hCq hO
   have kQ := (blk_cell BQ.out 0).trans rfl
   go_upto_region 10 with fail
   rw [HW6.out]
   clear HW6 hgq
   go_wp2_with fail
   refine HFin.out.mono ?_
   rintro en w7 ⟨rfl, hb⟩
   have BPy := Aside0.mk (blk_below BPy.out hb)
   have BDy := Aside0.mk (blk_below BDy.out hb)
   have BQ := Aside0.mk (blk_below BQ.out hb)
   have Qy := Aside0.mk (Qy.out.trans (hb.mono Qy.out.size))
   have HCq := Aside0.mk (Kd.C_below HCq.out hb)
   have HFs := Lib.hid (Kd.F_below HFs.out hb)
   have HFq := Lib.hid (Kd.F_below HFq.out hb)
   have hs7 := hb.size
   clear hb kQ HFin
   have hS0 : MoS w7 gp gq (.slice Ap ps.length cp) (.slice Aq qs.length cq) w7 := ⟨Below.refl _ _, (blk_cell BPy.out 0).trans rfl, (blk_cell BQ.out 0).trans rfl⟩
   have HSz := Lib.hid (fun (d : De) (hd : d ∈ ps) => same_small (HOk.out.big d hd))
   have HCqp := Aside0.mk (show Kd.C k58 w7 Aq ps.length ps by
    have h1 := Kd.C_take (m := ps.length) HCq.out (by omega)
    have h2 : qs.take ps.length = ps := by rw [← HQs.out]; exact List.take_left
    rw [h2] at h1
    exact h1)
   have HCp7 := Aside0.mk (Kd.C_below HP2.out Qy.out)
   have HSm := Lib.hid (fun W (hS : MoS w7 gp gq (.slice Ap ps.length cp) (.slice Aq qs.length cq) W) => show Calls Try.prog 46 #[.agg #[.slice Aq ps.length cq], .agg #[.slice Ap ps.length cp]] W (fun en W' => en = .returned (.bool true) ∧ MoS w7 gp gq (.slice Ap ps.length cp) (.slice Aq qs.length cq) W') from
    (c_Same ps ps Aq Ap cq cp W (Kd.C_below HCqp.out hS.1) (by omega) (Kd.C_below HCp7.out hS.1) hcp HSz.out HSz.out).mono (by rintro en W' ⟨rfl, hb⟩; exact ⟨by rw [sameP_refl], hS.step hb⟩))
   have hlenw : IntKind.i64.wrap ((ps.length : Int) + 1) = (ps.length : Int) + 1 := wrapI' _ (by omega) (by omega)
   have hqle : ps.length ≤ cq := by omega
   have tq : ((qs.length : Int) == (ps.length : Int) + 1) = true := by simp; omega
   have tq2 : ((qs.length : Int) != (ps.length : Int) + 1) = false := by simp; omega
   go_upto_region 11 with fail
   go_region_held3 (fun W => MoS w7 gp gq (.slice Ap ps.length cp) (.slice Aq qs.length cq) W) (first | assumption | exact hS0.step (below_drew (Below.refl _ _))) (first | (go_at_call 46; (with_reducible refine (HSm.out _ (by assumption)).mono ?_); rintro e w' ⟨rfl, hS⟩))
   have Bw := Aside0.mk hS.1
   clear hS hS0 HSm HCqp tq tq2 hlenw
   obtain ⟨w9, hw9⟩ : ∃ w9, w9 = w' := ⟨_, rfl⟩
   subst hw9
   have BPy := Aside0.mk (blk_below BPy.out Bw.out)
   have BDy := Aside0.mk (blk_below BDy.out Bw.out)
   have BQ := Aside0.mk (blk_below BQ.out Bw.out)
   have Qy := Aside0.mk (Qy.out.trans (Bw.out.mono Qy.out.size))
   have HCq := Aside0.mk (Kd.C_below HCq.out Bw.out)
   have HCp9 := Aside0.mk (Kd.C_below HP2.out Qy.out)
   have HFs := Lib.hid (Kd.F_below HFs.out Bw.out)
   have HFq := Lib.hid (Kd.F_below HFq.out Bw.out)
   have hs9 := Bw.out.size
   clear Bw HCp7
   have kP := (blk_cell BPy.out 0).trans rfl
   go_wp2_with fail
   clear kP
   go_loopg [84] ps.length (fun gg s84 wr => ∃ kk : Nat, kk ≤ ps.length ∧ ps.length - kk ≤ gg ∧ s84 = .int .i64 kk ∧ Aside0 (Below w9.heap.size w9 wr))
   case atStart => exact ⟨0, Nat.zero_le _, by omega, rfl, ⟨Below.refl _ _⟩⟩
   case round =>
    rename World => wr
    obtain ⟨kk, hkk, hg, rfl, HB⟩ := hrel
    by_cases hlt : kk < ps.length
    ·have hltz : (kk : Int) < (ps.length : Int) := by omega
     obtain ⟨ad, g0, g1, g2, g3, g4, g5, rfl, hK, hcells, y0, y1, y2, y3, y4, y5⟩ := gett6 rfl (Kd.C_below HCp9.out HB.out) kk hlt
     have hmem := List.getElem_mem hlt
     obtain ⟨dd, hdd⟩ : ∃ dd, ps[kk] = dd := ⟨_, rfl⟩
     rw [hdd] at hK hmem
     obtain ⟨Z1, z1, Z2, z2, Z5, z5, he, _⟩ := k58_open hK
     obtain ⟨rfl, rfl, rfl, rfl, rfl, rfl⟩ : g0 = _ ∧ g1 = _ ∧ g2 = _ ∧ g3 = _ ∧ g4 = _ ∧ g5 = _ := by simpa using he
     obtain ⟨gx, hgx⟩ : ∃ gx, wr.heap.size = gx := ⟨_, rfl⟩
     obtain ⟨Wx, hWx⟩ : ∃ Wx, wr.alloc (.cells #[.string dd.f0, .slice Z1 dd.f1.length z1, .slice Z2 dd.f2.length z2, .int .i64 dd.f3.f0, .string dd.f3.f1, .slice Z5 dd.f3.f2.length z5] 58) = Wx := ⟨_, rfl⟩
     have qx : Below wr.heap.size wr Wx := by rw [← hWx]; exact below_alloc1 _ _
     have BX := Aside0.mk (show Wx.heap[gx]? = some (.cells #[.string dd.f0, .slice Z1 dd.f1.length z1, .slice Z2 dd.f2.length z2, .int .i64 dd.f3.f0, .string dd.f3.f1, .slice Z5 dd.f3.f2.length z5] 58 (0, 0)) by rw [← hWx, ← hgx]; exact alloc_at _ _)
     have HQx := Aside0.mk (HB.out.trans (qx.mono HB.out.size))
     obtain ⟨rs, hrs⟩ : ∃ rs, reachE ps dd.f0 = rs := ⟨_, rfl⟩
     have hfp := find_made HOk.out.check hmem
     have hrq : reachE qs dd.f0 = rs := by rw [← HQs.out, ← hrs]; exact reachE_more HOk.out ⟨jj, hk5⟩ hmem
     have hfq : (findP qs dd.f0).2 = 0 := find_made HCkq.out (by rw [← HQs.out]; exact List.mem_append_left _ hmem)
     have HRp := Lib.hid (fun W (hb : Below w9.heap.size w9 W) => show Calls Try.prog 35 #[.agg #[.slice (some ad) ps.length cp], .string dd.f0] W (fun en w' => ∃ v, en = .returned (.tuple #[v, .int .i64 0]) ∧ OwnS w' W.heap.size v rs ∧ Below W.heap.size W w') by
      have h1 := c_Reach ps (some ad) cp dd.f0 W (Kd.C_below HCp9.out hb) hcp (okP_of (by omega) HOk.out.big)
      rw [hfp, hrs] at h1
      exact h1)
     have HRq := Lib.hid (fun W (hb : Below w9.heap.size w9 W) => show Calls Try.prog 35 #[.agg #[.slice Aq qs.length cq], .string dd.f0] W (fun en w' => ∃ v, en = .returned (.tuple #[v, .int .i64 0]) ∧ OwnS w' W.heap.size v rs ∧ Below W.heap.size W w') by
      have h1 := c_Reach qs Aq cq dd.f0 W (Kd.C_below HCq.out hb) hcq HOkq.out
      rw [hfq, hrq] at h1
      exact h1)
     have hgxa := Nat.le_of_eq hgx
     have hgxb := Nat.le_of_eq hgx.symm
     have HWx := Lib.hid hWx
     have hR1 := Lib.hid (HRp.out Wx HQx.out)
     have BPx := Aside0.mk (blk_below BPy.out HQx.out)
     have BQx := Aside0.mk (blk_below BQ.out HQx.out)
     clear hK hcells he hdd hrs hrq hfp hfq hWx qx
     go_upto_region 16 with fail
     rw [HWx.out]
     clear HWx hgx y0 y1 y2 y3 y4 y5
     have kP := (blk_cell BPx.out 0).trans rfl
     have kX := (blk_cell BX.out 0).trans rfl
     go_wp2_with fail
     refine hR1.out.mono ?_
     rintro en wa ⟨v1, rfl, hO1, hb⟩
     obtain ⟨A3, c3, rfl, hc3, hC3⟩ := OwnS.reads hO1
     have HQa := Aside0.mk (HQx.out.trans (hb.mono HQx.out.size))
     have BQa := Aside0.mk (blk_below BQx.out hb)
     have BXa := Aside0.mk (blk_below BX.out hb)
     have hR2 := Lib.hid (HRq.out wa HQa.out)
     have HC3 := Aside0.mk hC3
     clear kP kX hO1 hb hC3 hR1
     have kQ := (blk_cell BQa.out 0).trans rfl
     have kX := (blk_cell BXa.out 0).trans rfl
     go_wp2_with fail
     refine hR2.out.mono ?_
     rintro en wb ⟨v2, rfl, hO2, hb⟩
     obtain ⟨A4, c4, rfl, hc4, hC4⟩ := OwnS.reads hO2
     have HQb := Aside0.mk (HQa.out.trans (hb.mono HQa.out.size))
     have hE := Lib.hid (show Calls Try.prog 21 #[.slice A3 rs.length c3, .slice A4 rs.length c4] wb (fun en w' => en = .returned (.bool true) ∧ Below wb.heap.size wb w') from (c_EqS A3 A4 c3 c4 rs rs wb (Kd.C_below HC3.out hb) hc3 hC4 hc4).mono (by rintro en w' ⟨rfl, hb⟩; exact ⟨by simp, hb⟩))
     clear kQ kX hO2 hb hC4 hR2
     go_wp2_with fail
     refine hE.out.mono ?_
     rintro en wc ⟨rfl, hb⟩
     have HQc := Aside0.mk (HQb.out.trans (hb.mono HQb.out.size))
     clear hb hE
     go_wp2_with fail
     go_roundg (ps.length - (kk + 1))
     case measure => omega
     case rel => exact ⟨kk + 1, by omega, by omega, by go_num, HQc⟩
    ·have hkk2 : kk = ps.length := by omega
     subst hkk2
     have BPr := Aside0.mk (blk_below BPy.out HB.out)
     have BDr := Aside0.mk (blk_below BDy.out HB.out)
     have BQr := Aside0.mk (blk_below BQ.out HB.out)
     have Qr := Aside0.mk (Qy.out.trans (HB.out.mono Qy.out.size))
     have HCqr := Aside0.mk (Kd.C_below HCq.out HB.out)
     have hsr := HB.out.size
     have HFsr := Lib.hid (Kd.F_below HFs.out HB.out)
     have HFqr := Lib.hid (Kd.F_below HFq.out HB.out)
     have hywr : wy.heap.size ≤ wr.heap.size := by omega
     have hFd : Kd.FK k58 wr (fun k => k < wr.heap.size) (moreD jj) [.string ⟨#[109, 111, 114, 101]⟩, .slice A1 (paramsN jj).length c1, .slice none 0 0, .int .i64 2, .string ⟨#[97]⟩, .slice none 0 0] :=
      k58_mkF wr _ (moreD jj) hc1 (Kd.F_mono HFsr.out (fun k hk => by have := hk.2; omega)) (Nat.le_refl 0) (Kd.F_nil _ _ _) (Nat.le_refl 0) (Kd.F_nil _ _ _)
     have hbm : ∀ x ∈ qs ++ [moreD jj], bigD x = false := fun x hx => by
      rcases List.mem_append.1 hx with hx | hx
      ·exact HBig.out x hx
      ·rw [List.mem_singleton.1 hx]; exact more_big ⟨jj, hk5⟩
     have hag : addP qs (moreD jj) = ([], 5) := by rw [← HQs.out]; exact more_again HOk.out ⟨jj, hk5⟩
     have HAg := Lib.hid (show Calls Try.prog 49 #[.agg #[.slice Aq qs.length cq], .agg #[.string ⟨#[109, 111, 114, 101]⟩, .slice A1 (paramsN jj).length c1, .slice none 0 0, .int .i64 2, .string ⟨#[97]⟩, .slice none 0 0]] wr (fun en w' => ∃ v, en = .returned (.tuple #[.agg #[v], .int .i64 5]) ∧ OwnD w' wr.heap.size v [] ∧ Below wr.heap.size wr w') by
      have h1 := c_Add qs (moreD jj) Aq cq _ wr HCqr.out hcq hFd (by omega) hbm
      rw [hag] at h1
      exact h1)
     clear hFd hbm hag HB HCq HCp9
     have kQ := (blk_cell BQr.out 0).trans rfl
     have x0 := (blk_cell BDr.out 0).trans rfl
     have x1 := (blk_cell BDr.out 1).trans rfl
     have x2 := (blk_cell BDr.out 2).trans rfl
     have x3 := (blk_cell BDr.out 3).trans rfl
     have x4 := (blk_cell BDr.out 4).trans rfl
     have x5 := (blk_cell BDr.out 5).trans rfl
     go_wp2_with fail
     refine HAg.out.mono ?_
     rintro en wm ⟨v5, rfl, _, hb⟩
     have BDm := Aside0.mk (blk_below BDr.out hb)
     have BQm := Aside0.mk (blk_below BQr.out hb)
     have Qm := Aside0.mk (Qr.out.trans (hb.mono Qr.out.size))
     have HFsm := Lib.hid (Kd.F_below HFsr.out hb)
     have HFqm := Lib.hid (Kd.F_below HFqr.out hb)
     have hsm := hb.size
     have HCn := Lib.hid (c_C ⟨#[110, 111, 119, 104, 101, 114, 101]⟩ none 0 0 wm)
     clear hb kQ x0 x1 x2 x3 x4 x5 HAg
     go_wp2_with fail
     refine HCn.out.mono ?_
     rintro en wn ⟨rfl, hb⟩
     have BDn := Aside0.mk (blk_below BDm.out hb)
     have BQn := Aside0.mk (blk_below BQm.out hb)
     have Qn := Aside0.mk (Qm.out.trans (hb.mono Qm.out.size))
     have HFsn := Lib.hid (Kd.F_below HFsm.out hb)
     have HFqn := Lib.hid (Kd.F_below HFqm.out hb)
     have hsn := hb.size
     clear hb HCn
     have x0 := (blk_cell BDn.out 0).trans rfl
     have x3 := (blk_cell BDn.out 3).trans rfl
     have x4 := (blk_cell BDn.out 4).trans rfl
     have x5 := (blk_cell BDn.out 5).trans rfl
     have fr := fun i => blk_frozen BDn.out i
     go_upto_region 23 with fail
     obtain ⟨wS, hwS⟩ : ∃ wS, ((((wn.setCell ⟨gd, 0, none⟩ (.string ⟨#[108, 97, 115, 116]⟩)).setCell ⟨gd, 3, none⟩ (.int .i64 3)).setCell ⟨gd, 4, none⟩ (.string ⟨#[110, 111, 119, 104, 101, 114, 101]⟩)).setCell ⟨gd, 5, none⟩ (.slice none 0 0)) = wS := ⟨_, rfl⟩
     have hst : ∀ k, k ≠ gd → wS.heap[k]? = wn.heap[k]? := fun k hk => by rw [← hwS]; exact (Below.heap_setCell _ _ _ _ hk).trans ((Below.heap_setCell _ _ _ _ hk).trans ((Below.heap_setCell _ _ _ _ hk).trans (Below.heap_setCell _ _ _ _ hk)))
     have BDs := Aside0.mk (show wS.heap[gd]? = some (.cells #[.string ⟨#[108, 97, 115, 116]⟩, .slice A1 (paramsN jj).length c1, .slice none 0 0, .int .i64 3, .string ⟨#[110, 111, 119, 104, 101, 114, 101]⟩, .slice none 0 0] 58 (0, 0)) by
      rw [← hwS]
      exact blk_put (blk_put (blk_put (blk_put BDn.out 0 (.string ⟨#[108, 97, 115, 116]⟩) rfl) 3 (.int .i64 3) rfl) 4 (.string ⟨#[110, 111, 119, 104, 101, 114, 101]⟩) rfl) 5 (.slice none 0 0) rfl)
     have hsS1 : wS.heap.size ≤ wn.heap.size := by rw [← hwS]; simp [World.setCell]
     have hsS2 : wn.heap.size ≤ wS.heap.size := by rw [← hwS]; simp [World.setCell]
     have hgd2 : w2.heap.size ≤ gd := by omega
     have QS := Aside0.mk (show Below w2.heap.size w2 wS by rw [← hwS]; exact (((Qn.out.setCell (p := ⟨gd, 0, none⟩) hgd2 _).setCell (p := ⟨gd, 3, none⟩) hgd2 _).setCell (p := ⟨gd, 4, none⟩) hgd2 _).setCell (p := ⟨gd, 5, none⟩) hgd2 _)
     have BQS := Aside0.mk ((hst gq (by omega)).trans BQn.out)
     have HFsS := Lib.hid (Kd.F_step HFsn.out (W1 := wS) (fun k hk _ => hst k (by have := hk.1; omega)))
     have HFqS := Lib.hid (Kd.F_step HFqn.out (W1 := wS) (fun k hk _ => hst k (by have h0 : wy.heap.size ≤ k := hk; omega)))
     have HwS := Lib.hid hwS
     have hFd : Kd.FK k58 wS (fun k => k < wS.heap.size) (lastD jj) [.string ⟨#[108, 97, 115, 116]⟩, .slice A1 (paramsN jj).length c1, .slice none 0 0, .int .i64 3, .string ⟨#[110, 111, 119, 104, 101, 114, 101]⟩, .slice none 0 0] :=
      k58_mkF wS _ (lastD jj) hc1 (Kd.F_mono HFsS.out (fun k hk => by have := hk.2; omega)) (Nat.le_refl 0) (Kd.F_nil _ _ _) (Nat.le_refl 0) (Kd.F_nil _ _ _)
     have hbm : ∀ x ∈ qs ++ [lastD jj], bigD x = false := fun x hx => by
      rcases List.mem_append.1 hx with hx | hx
      ·exact HBig.out x hx
      ·rw [List.mem_singleton.1 hx]; exact last_big ⟨jj, hk5⟩
     have hag : addP qs (lastD jj) = ([], 1) := by rw [← HQs.out]; exact last_add HOk.out ⟨jj, hk5⟩
     have HAg := Lib.hid (show Calls Try.prog 49 #[.agg #[.slice Aq qs.length cq], .agg #[.string ⟨#[108, 97, 115, 116]⟩, .slice A1 (paramsN jj).length c1, .slice none 0 0, .int .i64 3, .string ⟨#[110, 111, 119, 104, 101, 114, 101]⟩, .slice none 0 0]] wS (fun en w' => ∃ v, en = .returned (.tuple #[.agg #[v], .int .i64 1]) ∧ OwnD w' wS.heap.size v [] ∧ Below wS.heap.size wS w') by
      have h1 := c_Add qs (lastD jj) Aq cq _ wS (Kd.F_now HFqS.out) hcq hFd (by omega) hbm
      rw [hag] at h1
      exact h1)
     clear hFd hbm hag x0 x3 x4 x5 fr hwS hst
     rw [HwS.out]
     clear HwS
     have kQ := (blk_cell BQS.out 0).trans rfl
     have x0 := (blk_cell BDs.out 0).trans rfl
     have x1 := (blk_cell BDs.out 1).trans rfl
     have x2 := (blk_cell BDs.out 2).trans rfl
     have x3 := (blk_cell BDs.out 3).trans rfl
     have x4 := (blk_cell BDs.out 4).trans rfl
     have x5 := (blk_cell BDs.out 5).trans rfl
     go_wp2_with fail
     refine HAg.out.mono ?_
     rintro en wt ⟨v6, rfl, _, hb⟩
     have Qt := Aside0.mk (Q.out.trans ((QS.out.trans (hb.mono QS.out.size)).mono Q.out.size))
     have HAw := Lib.hid (c_awake wt)
     clear hb kQ x0 x1 x2 x3 x4 x5 HAg
     go_wp2_with fail
     refine HAw.out.mono ?_
     rintro en wu ⟨rfl, hb⟩
     have Qu := Aside0.mk (Qt.out.trans (hb.mono Qt.out.size))
     clear hb HAw
     go_wp2_with fail
     go_ret
     exact ⟨rfl, Qu.out⟩
end Go.Proofs.Ytacefdkfbpgedaa.Mine
