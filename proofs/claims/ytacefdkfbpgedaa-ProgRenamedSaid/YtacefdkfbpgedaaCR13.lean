/- The closures of ProgRenamed and ProgMade: whether a body calls a name. -/
import Derived.Test.YtacefdkfbpgedaaCR12
import Derived.Test.YtacefdkfbpgedaaCR9
import Derived.Deep.RegionHeld3
import Derived.Deep.DeepCutAuto
import Derived.BigRegion
namespace Go.Proofs.Ytacefdkfbpgedaa.Mine
open Go.Proofs.Ytacefdkfbpgedaa.PProgExprs
open Go.RowKit Go.Shelf Go.Proofs.YtacefdkfbpgedaaW.PrintWords Go.Proofs.YtacefdkfbpgedaaW.PrintLast Go.Proofs.YtacefdkfbpgedaaW.PrintMore
set_option linter.unusedVariables false
set_option linter.unusedSimpArgs false
set_option maxRecDepth 100000
set_option maxHeartbeats 2000000 in
theorem c_Ren11 (x : Ex) (cs : List Value) (B : Nat) (s : ByteArray) (u1 u2 u3 u4 u5 : Value) (w : World) (hK : k24.K w x cs) (hbox : w.heap[B]? = some (.cells #[.string s, u1, u2, u3, u4, u5] 58 (0, 0))) :
  Calls Try.prog 53 #[.agg cs.toArray, .pointer (some ⟨B, 0, none⟩)] w fun en w' => en = .returned (.bool (callTo s x)) ∧ Below w.heap.size w w' := by
 obtain ⟨A2, a2, rfl, hl2, hc2⟩ := k24_open hK
 have k0 := (blk_cell hbox 0).trans rfl
 have hlt := lt_of_block hbox
 have hn : ¬ (B = w.heap.size) := by omega
 clear hK hc2 hbox
 have he := sEq x.f1 s
 cases h3 : (x.f0 == 3) with
 | true =>
  have HX := Lib.hid (show callTo s x = decide (x.f1 = s) by rw [callTo, h3, Bool.true_and])
  go_enter Try.func53, Try.ntmps53
  go_wp2
  go_ret
  exact ⟨retb HX.out.symm, below_alloc1 _ _⟩
 | false =>
  have HX := Lib.hid (show callTo s x = false by rw [callTo, h3, Bool.false_and])
  go_enter Try.func53, Try.ntmps53
  go_wp2
  go_ret
  exact ⟨retb HX.out.symm, below_alloc1 _ _⟩
set_option maxHeartbeats 2000000 in
theorem c_Ren1 (x : Ex) (cs : List Value) (B : Nat) (s : ByteArray) (u1 u2 u3 u4 u5 : Value) (w : World) (hK : k24.K w x cs) (hbox : w.heap[B]? = some (.cells #[.string s, u1, u2, u3, u4, u5] 58 (0, 0))) :
  Calls Try.prog 52 #[.agg cs.toArray, .pointer (some ⟨B, 0, none⟩)] w fun en w' => en = .returned (.bool (anyE (callTo s) x)) ∧ Below w.heap.size w w' := by
 obtain ⟨A2, a2, rfl, hl2, hc2⟩ := k24_open hK
 have q := below_alloc1 w (.cells #[.int .i64 x.f0, .string x.f1, .slice A2 x.f2.length a2] 24)
 have HC := Lib.hid (c_lin (w.alloc (.cells #[.int .i64 x.f0, .string x.f1, .slice A2 x.f2.length a2] 24)) 53 #[.pointer (some ⟨B, 0, none⟩)] (enters_of Try.func53 (by kernel_rfl) rfl) (callTo s) (fun y cy W hb hKy => c_Ren11 y cy B s u1 u2 u3 u4 u5 W hKy (blk_below (blk_below hbox q) hb)) _ x _ _ (Nat.le_refl _) (Below.refl _ _) (k24_mk _ x hl2 (Kd.C_below hc2 q)))
 have HQ := Lib.hid q
 clear hK hc2 hbox q
 go_enter Try.func52, Try.ntmps52
 go_wp2_with fail
 refine HC.out.mono ?_
 rintro en w' ⟨rfl, hb⟩
 go_wp2
 go_ret
 exact ⟨rfl, HQ.out.trans (hb.mono HQ.out.size)⟩
end Go.Proofs.Ytacefdkfbpgedaa.Mine
namespace Go.Proofs.Ytacefdkfbpgedaa.Mine
open Go.Proofs.Ytacefdkfbpgedaa.PProgExprs
open Go.RowKit Go.Shelf Go.Proofs.YtacefdkfbpgedaaW.PrintWords Go.Proofs.YtacefdkfbpgedaaW.PrintLast Go.Proofs.YtacefdkfbpgedaaW.PrintMore
set_option linter.unusedVariables false
set_option linter.unusedSimpArgs false
set_option maxRecDepth 100000
theorem same_small {d : De} (h : bigD d = false) : szE d.f3 < 1000000 ∧ ∀ c ∈ d.f2, szE c.f2 < 1000000 := by
 have h1 := bigD_ok h
 exact ⟨by omega, fun c hc => by have := (bigC_ok (h1.2.2.2.2.2 c hc)).2.2.2; omega⟩
abbrev RwS (W0 : World) (gx gd gp : Nat) (u0 u1 u2 u3 u4 u5 s v : Value) (p : Addr) (y : Value) (W : World) : Prop :=
 Below W0.heap.size W0 W ∧ W.cell? ⟨gx, 0, none⟩ = some u0 ∧ W.cell? ⟨gx, 1, none⟩ = some u1 ∧ W.cell? ⟨gx, 2, none⟩ = some u2 ∧ W.cell? ⟨gx, 3, none⟩ = some u3 ∧ W.cell? ⟨gx, 4, none⟩ = some u4 ∧ W.cell? ⟨gx, 5, none⟩ = some u5 ∧ W.cell? ⟨gd, 0, none⟩ = some s ∧ W.cell? ⟨gp, 0, none⟩ = some v ∧ W.cell? p = some y
theorem RwS.step {W0 : World} {gx gd gp : Nat} {u0 u1 u2 u3 u4 u5 s v : Value} {p : Addr} {y : Value} {W W' : World} (h : RwS W0 gx gd gp u0 u1 u2 u3 u4 u5 s v p y W) (hb : Below W.heap.size W W') : RwS W0 gx gd gp u0 u1 u2 u3 u4 u5 s v p y W' := by
 obtain ⟨h0, h1, h2, h3, h4, h5, h6, h7, h8, h9⟩ := h
 exact ⟨h0.trans (hb.mono h0.size), pw_cell_below hb h1, pw_cell_below hb h2, pw_cell_below hb h3, pw_cell_below hb h4, pw_cell_below hb h5, pw_cell_below hb h6, pw_cell_below hb h7, pw_cell_below hb h8, pw_cell_below hb h9⟩
set_option maxHeartbeats 8000000 in
theorem c_lawRenamed (zs : List Int) (A : Option Addr) (c n : Nat) (w : World) (hn : n < 256) (hr : Kd.C (Kd.int .u8) w A zs.length zs) :
  Calls Try.prog 7 #[.slice A zs.length c, .int .u8 (n : Int)] w fun en w' => en = .returned (.bool true) ∧ Below w.heap.size w w' := by
 have HF1 := Lib.hid (c_Fill A zs c w hr)
 clear hr
 go_enter Try.func7, Try.ntmps7
 go_wp2_with fail
 refine HF1.out.mono ?_
 rintro en w1 ⟨rfl, hS, hZ, hb, hlt⟩
 obtain ⟨b1, hb1⟩ : ∃ b1, w.heap.size = b1 := ⟨_, rfl⟩
 rw [hb1] at hS hZ ⊢
 have hw1 : w.heap.size ≤ b1 := Nat.le_of_eq hb1
 have hw2 : b1 ≤ w.heap.size := Nat.le_of_eq hb1.symm
 have hb1l : b1 < w1.heap.size := by omega
 have HM := Lib.hid (c_Made b1 A zs.length c zs true w1 hS hZ)
 have Q := Aside0.mk hb
 have HB1 := Lib.hid hb1
 clear hS hZ hb HF1 hb1 hlt
 go_wp2_with fail
 refine HM.out.mono ?_
 rintro en w2 ⟨ars, ps, v, rfl, hP, hOk, hF⟩
 have Q := Aside0.mk (show Below w.heap.size w w2 from Q.out.trans ⟨hF.os, hF.tape, hF.output, hF.size, fun k hk => hF.block k (by omega) (by show ¬ k = b1; omega)⟩)
 obtain ⟨Ap, cp, rfl, hcp, hCp⟩ := Kd.R_reads hP
 have hpl6 : ps.length ≤ 6 := by rw [hOk.len]; exact hOk.n6
 have HP2 := Lib.hid hCp
 have HOk := Lib.hid hOk
 have hs2 := hF.size
 clear hF hP hCp hOk HM
 -- the box of the program
 obtain ⟨gp, hgp⟩ : ∃ gp, w2.heap.size = gp := ⟨_, rfl⟩
 obtain ⟨W3, hW3⟩ : ∃ W3, w2.alloc (.cells #[.slice Ap ps.length cp] 53) = W3 := ⟨_, rfl⟩
 have q3 : Below w2.heap.size w2 W3 := by rw [← hW3]; exact below_alloc1 _ _
 have z3 : W3.heap.size = gp + 1 := by rw [← hW3, ← hgp]; simp
 have BP := Aside0.mk (show W3.heap[gp]? = some (.cells #[.slice Ap ps.length cp] 53 (0, 0)) by rw [← hW3, ← hgp]; exact alloc_at _ _)
 have Q2 := Aside0.mk q3
 have HW3 := Lib.hid hW3
 have hgpa := Nat.le_of_eq hgp
 have hgpb := Nat.le_of_eq hgp.symm
 have hz3a := Nat.le_of_eq z3
 have hz3b := Nat.le_of_eq z3.symm
 clear hW3 q3 z3
 go_upto_region 2 with fail
 rw [HW3.out]
 clear HW3 hgp
 obtain ⟨i, hi⟩ : ∃ i : Nat, n % ps.length = i := ⟨_, rfl⟩
 have hil : i < ps.length := by rw [← hi]; exact Nat.mod_lt _ (by rw [HOk.out.len]; exact HOk.out.n0)
 have HIz := Lib.hid (show (n : Int) % (ps.length : Int) = (i : Int) by rw [← hi]; exact (Int.natCast_emod _ _).symm)
 have hilz : (i : Int) < (ps.length : Int) := by omega
 have hpl0 : (ps.length : Int) ≠ 0 := by omega
 clear hi
 obtain ⟨ad, g0, g1, g2, g3, g4, g5, rfl, hK, hcells, y0, y1, y2, y3, y4, y5⟩ := gett6 rfl (Kd.C_below HP2.out Q2.out) i hil
 obtain ⟨dd, hdd⟩ : ∃ dd, ps[i] = dd := ⟨_, rfl⟩
 rw [hdd] at hK
 have HId := Lib.hid (show ps[i]? = some dd by rw [List.getElem?_eq_getElem hil, hdd])
 obtain ⟨Z1, z1, Z2, z2, Z5, z5, he, _⟩ := k58_open hK
 obtain ⟨rfl, rfl, rfl, rfl, rfl, rfl⟩ : g0 = _ ∧ g1 = _ ∧ g2 = _ ∧ g3 = _ ∧ g4 = _ ∧ g5 = _ := by simpa using he
 clear hK he hdd hcells
 have kP := (blk_cell BP.out 0).trans rfl
 have hidx := HIz.out
 have hltp := lt_of_block BP.out
 have hlta := World.block_lt_of_cell? _ _ y0
 go_cut [6] (fun s6 wx => ∃ gd : Nat, s6 = .pointer (some ⟨gd, 0, none⟩) ∧ Aside0 (Below W3.heap.size W3 wx) ∧ Aside0 (wx.heap[gd]? = some (.cells #[.string dd.f0, .slice Z1 dd.f1.length z1, .slice Z2 dd.f2.length z2, .int .i64 dd.f3.f0, .string dd.f3.f1, .slice Z5 dd.f3.f2.length z5] 58 (0, 0))) ∧ W3.heap.size ≤ gd)
 case first =>
  go_region
  all_goals (go_wp2_with fail; go_meet)
  all_goals exact ⟨_, rfl, ⟨below_drew (below_alloc1 _ _)⟩, ⟨alloc_at _ _⟩, Nat.le_refl _⟩
 case rest =>
  obtain ⟨gd, rfl, HW, BD, hgdl⟩ := hcut
  have BP := Aside0.mk (blk_below BP.out HW.out)
  have Q2 := Aside0.mk (Q2.out.trans (HW.out.mono Q2.out.size))
  have hsc := HW.out.size
  have HCp := Aside0.mk (Kd.C_below HP2.out Q2.out)
  obtain ⟨qs, hqs⟩ : ∃ qs, renP dd.f0 otherN ps = qs := ⟨_, rfl⟩
  have HRn := Lib.hid (show Calls Try.prog 51 #[.agg #[.slice (some ad) ps.length cp], .string dd.f0, .string ⟨#[111, 116, 104, 101, 114]⟩] wc (fun en w' => ∃ v, en = .returned (.tuple #[.agg #[v], .int .i64 0]) ∧ OwnD w' wc.heap.size v qs ∧ Below wc.heap.size wc w') by
   have h1 := c_Rename ps (some ad) cp dd.f0 otherN wc HCp.out hcp (by omega) HOk.out.big
   rw [rename_there HOk.out HId.out, hqs] at h1
   exact h1)
  have HQs := Lib.hid hqs
  have hql1 : qs.length ≤ ps.length := by rw [← hqs]; simp [renP]
  have hql2 : ps.length ≤ qs.length := by rw [← hqs]; simp [renP]
  have HBig := Lib.hid (show ∀ x ∈ qs, bigD x = false by rw [← hqs]; exact HOk.out.big_ren dd.f0)
  have HCkq := Lib.hid (show checkP qs = 0 by rw [← hqs]; exact ren_check HOk.out dd.f0)
  have HBk := Lib.hid (show renameP qs otherN dd.f0 = (ps, 0) by rw [← hqs]; exact rename_back HOk.out HId.out)
  have HUn := Lib.hid (show eqL sameD qs ps = false by rw [← hqs]; exact ren_unlike HOk.out HId.out)
  clear hqs HW y0 y1 y2 y3 y4 y5 kP hidx
  have kP := (blk_cell BP.out 0).trans rfl
  have kD := (blk_cell BD.out 0).trans rfl
  go_wp2_with fail
  refine HRn.out.mono ?_
  rintro en w5 ⟨vq, rfl, hO, hb⟩
  obtain ⟨Aq, cq, rfl, hcq, hCq⟩ := Kd.R_reads hO
  have BP := Aside0.mk (blk_below BP.out hb)
  have BD := Aside0.mk (blk_below BD.out hb)
  have Q2 := Aside0.mk (Q2.out.trans (hb.mono Q2.out.size))
  have hs5 := hb.size
  obtain ⟨gq, hgq⟩ : ∃ gq, w5.heap.size = gq := ⟨_, rfl⟩
  obtain ⟨W6, hW6⟩ : ∃ W6, w5.alloc (.cells #[.slice Aq qs.length cq] 53) = W6 := ⟨_, rfl⟩
  have q6 : Below w5.heap.size w5 W6 := by rw [← hW6]; exact below_alloc1 _ _
  have z6 : W6.heap.size = gq + 1 := by rw [← hW6, ← hgq]; simp
  have BQ := Aside0.mk (show W6.heap[gq]? = some (.cells #[.slice Aq qs.length cq] 53 (0, 0)) by rw [← hW6, ← hgq]; exact alloc_at _ _)
  have BP := Aside0.mk (blk_below BP.out q6)
  have BD := Aside0.mk (blk_below BD.out q6)
  have Q2 := Aside0.mk (Q2.out.trans (q6.mono Q2.out.size))
  have HCq := Aside0.mk (Kd.C_below hCq q6)
  have HCk := Lib.hid (show Calls Try.prog 33 #[.agg #[.slice Aq qs.length cq]] W6 (fun en w' => en = .returned (.int .i64 0) ∧ Below W6.heap.size W6 w') by
   have h1 := c_Check qs Aq cq W6 HCq.out hcq (okP_of (by omega) HBig.out)
   rw [HCkq.out] at h1
   exact h1)
  have hgqa := Nat.le_of_eq hgq
  have hgqb := Nat.le_of_eq hgq.symm
  have hz6a := Nat.le_of_eq z6
  have hz6b := Nat.le_of_eq z6.symm
  have HW6 := Lib.hid hW6
  clear hW6 q6 z6 hb hCq hO kP kD HRn
  have kP := (blk_cell BP.out 0).trans rfl
  have kQ := (blk_cell BQ.out 0).trans rfl
  have tq : ((qs.length : Int) == (ps.length : Int)) = true := by simp; omega
  have tq2 : ((qs.length : Int) != (ps.length : Int)) = false := by simp; omega
  go_upto_region 4 with fail
  rw [HW6.out]
  clear HW6 hgq
  go_wp2_with fail
  refine HCk.out.mono ?_
  rintro en w7 ⟨rfl, hb⟩
  have BP := Aside0.mk (blk_below BP.out hb)
  have BD := Aside0.mk (blk_below BD.out hb)
  have BQ := Aside0.mk (blk_below BQ.out hb)
  have Q2 := Aside0.mk (Q2.out.trans (hb.mono Q2.out.size))
  have HCq := Aside0.mk (Kd.C_below HCq.out hb)
  have hs7 := hb.size
  have HRb := Lib.hid (show Calls Try.prog 51 #[.agg #[.slice Aq qs.length cq], .string ⟨#[111, 116, 104, 101, 114]⟩, .string dd.f0] w7 (fun en w' => ∃ v, en = .returned (.tuple #[.agg #[v], .int .i64 0]) ∧ OwnD w' w7.heap.size v ps ∧ Below w7.heap.size w7 w') by
   have h1 := c_Rename qs Aq cq otherN dd.f0 w7 HCq.out hcq (by omega) HBig.out
   rw [HBk.out] at h1
   exact h1)
  clear hb HCk kP kQ tq tq2
  have kQ := (blk_cell BQ.out 0).trans rfl
  have kD := (blk_cell BD.out 0).trans rfl
  go_upto_region 6 with fail
  go_wp2_with fail
  refine HRb.out.mono ?_
  rintro en w8 ⟨vb, rfl, hO, hb⟩
  obtain ⟨Ab, cb, rfl, hcb, hCb⟩ := Kd.R_reads hO
  have BP := Aside0.mk (blk_below BP.out hb)
  have BD := Aside0.mk (blk_below BD.out hb)
  have BQ := Aside0.mk (blk_below BQ.out hb)
  have Q2 := Aside0.mk (Q2.out.trans (hb.mono Q2.out.size))
  have HCq := Aside0.mk (Kd.C_below HCq.out hb)
  have hs8 := hb.size
  obtain ⟨gb, hgb⟩ : ∃ gb, w8.heap.size = gb := ⟨_, rfl⟩
  obtain ⟨W9, hW9⟩ : ∃ W9, w8.alloc (.cells #[.slice Ab ps.length cb] 53) = W9 := ⟨_, rfl⟩
  have q9 : Below w8.heap.size w8 W9 := by rw [← hW9]; exact below_alloc1 _ _
  have z9 : W9.heap.size = gb + 1 := by rw [← hW9, ← hgb]; simp
  have BB := Aside0.mk (show W9.heap[gb]? = some (.cells #[.slice Ab ps.length cb] 53 (0, 0)) by rw [← hW9, ← hgb]; exact alloc_at _ _)
  have BP := Aside0.mk (blk_below BP.out q9)
  have BD := Aside0.mk (blk_below BD.out q9)
  have BQ := Aside0.mk (blk_below BQ.out q9)
  have Q2 := Aside0.mk (Q2.out.trans (q9.mono Q2.out.size))
  have HCq := Aside0.mk (Kd.C_below HCq.out q9)
  have HCb := Aside0.mk (Kd.C_below hCb q9)
  have HCp := Aside0.mk (Kd.C_below HP2.out Q2.out)
  have HSp := Lib.hid (fun (d : De) (hd : d ∈ ps) => same_small (HOk.out.big d hd))
  have HSq := Lib.hid (fun (d : De) (hd : d ∈ qs) => same_small (HBig.out d hd))
  have HS1 := Lib.hid (show Calls Try.prog 46 #[.agg #[.slice Ab ps.length cb], .agg #[.slice (some ad) ps.length cp]] W9 (fun en W' => en = .returned (.bool true) ∧ Below W9.heap.size W9 W') from
   (c_Same ps ps Ab (some ad) cb cp W9 HCb.out hcb HCp.out hcp HSp.out HSp.out).mono (by rintro en W' ⟨rfl, hb⟩; exact ⟨by rw [sameP_refl], hb⟩))
  have HS2 := Lib.hid (fun W (hbW : Below W9.heap.size W9 W) => show Calls Try.prog 46 #[.agg #[.slice Aq qs.length cq], .agg #[.slice (some ad) ps.length cp]] W (fun en W' => en = .returned (.bool false) ∧ Below W.heap.size W W') from
   (c_Same qs ps Aq (some ad) cq cp W (Kd.C_below HCq.out hbW) hcq (Kd.C_below HCp.out hbW) hcp HSq.out HSp.out).mono (by rintro en W' ⟨rfl, hb⟩; exact ⟨by rw [HUn.out], hb⟩))
  have hgba := Nat.le_of_eq hgb
  have hgbb := Nat.le_of_eq hgb.symm
  have hz9a := Nat.le_of_eq z9
  have hz9b := Nat.le_of_eq z9.symm
  have HW9 := Lib.hid hW9
  clear hW9 q9 z9 hb hCb hO kQ kD HRb HCb
  have kP := (blk_cell BP.out 0).trans rfl
  have kB := (blk_cell BB.out 0).trans rfl
  go_upto_region 7 with fail
  rw [HW9.out]
  clear HW9 hgb
  go_wp2_with fail
  refine HS1.out.mono ?_
  rintro en wd ⟨rfl, hb⟩
  have BP := Aside0.mk (blk_below BP.out hb)
  have BD := Aside0.mk (blk_below BD.out hb)
  have BQ := Aside0.mk (blk_below BQ.out hb)
  have Q2 := Aside0.mk (Q2.out.trans (hb.mono Q2.out.size))
  have HCq := Aside0.mk (Kd.C_below HCq.out hb)
  have hsd := hb.size
  have hS2 := Lib.hid (HS2.out wd hb)
  clear hb kP kB HS1 HS2
  have kP := (blk_cell BP.out 0).trans rfl
  have kQ := (blk_cell BQ.out 0).trans rfl
  go_wp2_with fail
  refine hS2.out.mono ?_
  rintro en we ⟨rfl, hb⟩
  have BP := Aside0.mk (blk_below BP.out hb)
  have BD := Aside0.mk (blk_below BD.out hb)
  have BQ := Aside0.mk (blk_below BQ.out hb)
  have Q2 := Aside0.mk (Q2.out.trans (hb.mono Q2.out.size))
  have HCq := Aside0.mk (Kd.C_below HCq.out hb)
  have HCp := Aside0.mk (Kd.C_below HP2.out Q2.out)
  have hse := hb.size
  clear hb kP kQ hS2
  have kQ := (blk_cell BQ.out 0).trans rfl
  go_upto_region 9 with fail
  go_wp2_with fail
  clear kQ
  go_loopg [74] qs.length (fun gg s74 wr => ∃ kk : Nat, kk ≤ qs.length ∧ qs.length - kk ≤ gg ∧ s74 = .int .i64 kk ∧ Aside0 (Below we.heap.size we wr))
  case atStart => exact ⟨0, Nat.zero_le _, by omega, rfl, ⟨Below.refl _ _⟩⟩
  case round =>
   rename World => wr
   obtain ⟨kk, hkk, hg, rfl, HB⟩ := hrel
   by_cases hlt : kk < qs.length
   ·have hltz : (kk : Int) < (qs.length : Int) := by omega
    have hltp : kk < ps.length := by omega
    have hltpz : (kk : Int) < (ps.length : Int) := by omega
    obtain ⟨aq, g0, g1, g2, g3, g4, g5, rfl, hK, hcells, y0, y1, y2, y3, y4, y5⟩ := gett6 rfl (Kd.C_below HCq.out HB.out) kk hlt
    have hFx := elemF (Kd.C_F k58_heap (Kd.C_below HCq.out HB.out)) kk hlt rfl hcells (fun p v hp hv => hv) (by decide)
    obtain ⟨ad2, e0, e1, e2, e3, e4, e5, hA2, hK2, hcells2, x0, x1, x2, x3, x4, x5⟩ := gett6 rfl (Kd.C_below HCp.out HB.out) kk hltp
    cases hA2
    obtain ⟨yy, hyy⟩ : ∃ yy, ps[kk] = yy := ⟨_, rfl⟩
    obtain ⟨xx, hxx⟩ : ∃ xx, qs[kk] = xx := ⟨_, rfl⟩
    have hxy : xx = renD dd.f0 otherN yy := by
     have h1 : qs[kk]? = some xx := by rw [List.getElem?_eq_getElem hlt, hxx]
     rw [← HQs.out, renP, List.getElem?_map, List.getElem?_eq_getElem hltp, hyy] at h1
     exact (Option.some.inj h1).symm
    rw [hyy] at hK2
    rw [hxx] at hFx
    obtain ⟨Y1, w1, Y2, w2, Y5, w5, he2, _⟩ := k58_open hK2
    obtain rfl : e0 = .string yy.f0 := by have := congrArg (fun l => l[0]?) he2; simpa using this
    obtain ⟨Z11, z11, Z12, z12, Z15, z15, he, _⟩ := k58_openF hFx
    obtain ⟨rfl, rfl, rfl, rfl, rfl, rfl⟩ : g0 = _ ∧ g1 = _ ∧ g2 = _ ∧ g3 = _ ∧ g4 = _ ∧ g5 = _ := by simpa using he
    have hmemx : xx ∈ qs := by rw [← hxx]; exact List.getElem_mem hlt
    obtain ⟨gx, hgx⟩ : ∃ gx, wr.heap.size = gx := ⟨_, rfl⟩
    obtain ⟨Wx, hWx⟩ : ∃ Wx, wr.alloc (.cells #[.string xx.f0, .slice Z11 xx.f1.length z11, .slice Z12 xx.f2.length z12, .int .i64 xx.f3.f0, .string xx.f3.f1, .slice Z15 xx.f3.f2.length z15] 58) = Wx := ⟨_, rfl⟩
    have qx : Below wr.heap.size wr Wx := by rw [← hWx]; exact below_alloc1 _ _
    have BX := Aside0.mk (show Wx.heap[gx]? = some (.cells #[.string xx.f0, .slice Z11 xx.f1.length z11, .slice Z12 xx.f2.length z12, .int .i64 xx.f3.f0, .string xx.f3.f1, .slice Z15 xx.f3.f2.length z15] 58 (0, 0)) by rw [← hWx, ← hgx]; exact alloc_at _ _)
    have hbx : Below we.heap.size we Wx := HB.out.trans (qx.mono HB.out.size)
    have HQx := Aside0.mk hbx
    have hFX := Lib.hid (Kd.FK_mono (Kd.FK_below hFx qx) (ok' := fun k => k < Wx.heap.size) (fun k hk => by have := qx.size; omega))
    have x0 := pw_cell_below qx x0
    have BPx := Aside0.mk (blk_below BP.out hbx)
    have BDx := Aside0.mk (blk_below BD.out hbx)
    have hcl : xx.f2.length ≤ 10 := (bigD_ok (HBig.out xx hmemx)).2.2.2.2.1
    have hS0 : RwS Wx gx gd gp (.string xx.f0) (.slice Z11 xx.f1.length z11) (.slice Z12 xx.f2.length z12) (.int .i64 xx.f3.f0) (.string xx.f3.f1) (.slice Z15 xx.f3.f2.length z15) (.string dd.f0) (.slice (some ad) ps.length cp) (ad.add (kk * 6)) (.string yy.f0) Wx := ⟨Below.refl _ _, (blk_cell BX.out 0).trans rfl, (blk_cell BX.out 1).trans rfl, (blk_cell BX.out 2).trans rfl, (blk_cell BX.out 3).trans rfl, (blk_cell BX.out 4).trans rfl, (blk_cell BX.out 5).trans rfl, (blk_cell BDx.out 0).trans rfl, (blk_cell BPx.out 0).trans rfl, x0⟩
    have HBo := Lib.hid (fun W (hS : RwS Wx gx gd gp (.string xx.f0) (.slice Z11 xx.f1.length z11) (.slice Z12 xx.f2.length z12) (.int .i64 xx.f3.f0) (.string xx.f3.f1) (.slice Z15 xx.f3.f2.length z15) (.string dd.f0) (.slice (some ad) ps.length cp) (ad.add (kk * 6)) (.string yy.f0) W) => (c_lbodies xx _ (fun k => k < Wx.heap.size) W (Kd.FK_below hFX.out hS.1) (by omega)).mono (R' := fun e W' => ∃ v, e = .returned v ∧ (∃ A' c', v = .slice A' (bodiesD xx).length c' ∧ (bodiesD xx).length ≤ c' ∧ Kd.C k24 W' A' (bodiesD xx).length (bodiesD xx)) ∧ RwS Wx gx gd gp (.string xx.f0) (.slice Z11 xx.f1.length z11) (.slice Z12 xx.f2.length z12) (.int .i64 xx.f3.f0) (.string xx.f3.f1) (.slice Z15 xx.f3.f2.length z15) (.string dd.f0) (.slice (some ad) ps.length cp) (ad.add (kk * 6)) (.string yy.f0) W') (by
     rintro e W' ⟨v, rfl, hN, hb⟩
     exact ⟨v, rfl, RowN.reads hN (fun k hk hlt => hb.block k hlt), hS.step hb⟩))
    have HHa := Lib.hid (fun W (hS : RwS Wx gx gd gp (.string xx.f0) (.slice Z11 xx.f1.length z11) (.slice Z12 xx.f2.length z12) (.int .i64 xx.f3.f0) (.string xx.f3.f1) (.slice Z15 xx.f3.f2.length z15) (.string dd.f0) (.slice (some ad) ps.length cp) (ad.add (kk * 6)) (.string yy.f0) W) (A' : Option Addr) (c' : Nat) (hc' : (bodiesD xx).length ≤ c') (hC' : Kd.C k24 W A' (bodiesD xx).length (bodiesD xx)) => show Calls Try.prog 10 #[.slice A' (bodiesD xx).length c', .func (.func 52) #[] #[.pointer (some ⟨gd, 0, none⟩)]] W (fun en W' => en = .returned (.bool false) ∧ RwS Wx gx gd gp (.string xx.f0) (.slice Z11 xx.f1.length z11) (.slice Z12 xx.f2.length z12) (.int .i64 xx.f3.f0) (.string xx.f3.f1) (.slice Z15 xx.f3.f2.length z15) (.string dd.f0) (.slice (some ad) ps.length cp) (ad.add (kk * 6)) (.string yy.f0) W') from
     (hasE_p A' c' (bodiesD xx) W hc' hC' 52 #[.pointer (some ⟨gd, 0, none⟩)] (enters_of Try.func52 (by kernel_rfl) rfl) (anyE (callTo dd.f0)) (fun y cy W2 hy hKy hb2 => c_Ren1 y cy gd dd.f0 _ _ _ _ _ W2 hKy (blk_below (blk_below BDx.out hS.1) hb2))).mono (by
      rintro en W' ⟨rfl, hb⟩
      exact ⟨by rw [hxy, no_calls (fun e => other_new HOk.out (by rw [← e]; exact List.mem_map.2 ⟨dd, List.mem_of_getElem? HId.out, rfl⟩))], hS.step hb⟩))
    have hso : dd.f0 ≠ otherN := fun e => other_new HOk.out (by rw [← e]; exact List.mem_map.2 ⟨dd, List.mem_of_getElem? HId.out, rfl⟩)
    have hyo : yy.f0 ≠ otherN := fun e => other_new HOk.out (by rw [← e, ← hyy]; exact List.mem_map.2 ⟨_, List.getElem_mem hltp, rfl⟩)
    have hx0 : xx.f0 = if yy.f0 = dd.f0 then otherN else yy.f0 := by rw [hxy]; rfl
    have T1 := Lib.hid (show xx.f0 ≠ dd.f0 by
     rw [hx0]
     split
     ·exact fun e => hso e.symm
     ·next h => exact h)
    have T2 := Lib.hid (show decide (xx.f0 = otherN) = decide (yy.f0 = dd.f0) by
     rw [hx0]
     split
     ·next h => rw [decide_eq_true rfl, decide_eq_true h]
     ·next h => rw [decide_eq_false hyo, decide_eq_false h])
    have HWx := Lib.hid hWx
    clear hK hcells he hK2 hcells2 he2 hxx hyy hxy hx0 hso hyo hFx hWx qx hbx x1 x2 x3 x4 x5
    go_upto_region 12 with fail
    rw [HWx.out]
    clear HWx hgx y0 y1 y2 y3 y4 y5 x0
    have t1 := (sEq xx.f0 dd.f0).trans (decide_eq_false T1.out)
    have t2 : (xx.f0.toList == [111, 116, 104, 101, 114]) = decide (yy.f0 = dd.f0) := by
     have h := (sEq xx.f0 ⟨#[111, 116, 104, 101, 114]⟩).trans T2.out
     rwa [show (⟨#[111, 116, 104, 101, 114]⟩ : ByteArray).toList = [111, 116, 104, 101, 114] by kernel_rfl] at h
    have t3 := sEq yy.f0 dd.f0
    cases hbb : decide (yy.f0 = dd.f0) with
    | true =>
     rw [hbb] at t2 t3
     clear hbb
     go_region_held3 (fun W => RwS Wx gx gd gp (.string xx.f0) (.slice Z11 xx.f1.length z11) (.slice Z12 xx.f2.length z12) (.int .i64 xx.f3.f0) (.string xx.f3.f1) (.slice Z15 xx.f3.f2.length z15) (.string dd.f0) (.slice (some ad) ps.length cp) (ad.add (kk * 6)) (.string yy.f0) W) (first | assumption | exact hS0.step (below_drew (Below.refl _ _))) (first | (go_at_call 37; (with_reducible refine (HBo.out _ (by assumption)).mono ?_); rintro e w6 ⟨v, rfl, ⟨Ae, ce, hv, hce, hCe⟩, hS6⟩; subst hv; have HCe := Aside0.mk hCe; clear hCe) | (go_at_call 10; (with_reducible refine (HHa.out _ (by assumption) _ _ hce HCe.out).mono ?_); rintro e w7 ⟨rfl, hS7⟩))
     all_goals
      have HBc := Aside0.mk (HQx.out.trans (hS7.1.mono HQx.out.size))
      clear hS6 hS7 hS0 HBo HHa t1 t2 t3
      try go_wp2_with fail
      go_roundg (qs.length - (kk + 1))
      case measure => omega
      case rel => exact ⟨kk + 1, by omega, by omega, by go_num, HBc⟩
    | false =>
     rw [hbb] at t2 t3
     clear hbb
     go_region_held3 (fun W => RwS Wx gx gd gp (.string xx.f0) (.slice Z11 xx.f1.length z11) (.slice Z12 xx.f2.length z12) (.int .i64 xx.f3.f0) (.string xx.f3.f1) (.slice Z15 xx.f3.f2.length z15) (.string dd.f0) (.slice (some ad) ps.length cp) (ad.add (kk * 6)) (.string yy.f0) W) (first | assumption | exact hS0.step (below_drew (Below.refl _ _))) (first | (go_at_call 37; (with_reducible refine (HBo.out _ (by assumption)).mono ?_); rintro e w6 ⟨v, rfl, ⟨Ae, ce, hv, hce, hCe⟩, hS6⟩; subst hv; have HCe := Aside0.mk hCe; clear hCe) | (go_at_call 10; (with_reducible refine (HHa.out _ (by assumption) _ _ hce HCe.out).mono ?_); rintro e w7 ⟨rfl, hS7⟩))
     all_goals
      have HBc := Aside0.mk (HQx.out.trans (hS7.1.mono HQx.out.size))
      clear hS6 hS7 hS0 HBo HHa t1 t2 t3
      try go_wp2_with fail
      go_roundg (qs.length - (kk + 1))
      case measure => omega
      case rel => exact ⟨kk + 1, by omega, by omega, by go_num, HBc⟩
   ·have hkk2 : kk = qs.length := by omega
    subst hkk2
    have BPr := Aside0.mk (blk_below BP.out HB.out)
    have BDr := Aside0.mk (blk_below BD.out HB.out)
    have Qr := Aside0.mk (Q2.out.trans (HB.out.mono Q2.out.size))
    have HCpr := Aside0.mk (Kd.C_below HP2.out Qr.out)
    have hsr := HB.out.size
    have HR1 := Lib.hid (show Calls Try.prog 51 #[.agg #[.slice (some ad) ps.length cp], .string dd.f0, .string dd.f0] wr (fun en w' => ∃ v, en = .returned (.tuple #[.agg #[v], .int .i64 0]) ∧ OwnD w' wr.heap.size v ps ∧ Below wr.heap.size wr w') by
     have h1 := c_Rename ps (some ad) cp dd.f0 dd.f0 wr HCpr.out hcp (by omega) HOk.out.big
     rw [rename_same HOk.out HId.out] at h1
     exact h1)
    clear HB
    have kP := (blk_cell BPr.out 0).trans rfl
    have kD := (blk_cell BDr.out 0).trans rfl
    go_wp2_with fail
    refine HR1.out.mono ?_
    rintro en wf ⟨vs, rfl, hO, hb⟩
    obtain ⟨As, csz, rfl, hcs, hCs⟩ := Kd.R_reads hO
    have BPf := Aside0.mk (blk_below BPr.out hb)
    have Qf := Aside0.mk (Qr.out.trans (hb.mono Qr.out.size))
    have hsf := hb.size
    obtain ⟨gs, hgs⟩ : ∃ gs, wf.heap.size = gs := ⟨_, rfl⟩
    obtain ⟨Wg, hWg⟩ : ∃ Wg, wf.alloc (.cells #[.slice As ps.length csz] 53) = Wg := ⟨_, rfl⟩
    have qg : Below wf.heap.size wf Wg := by rw [← hWg]; exact below_alloc1 _ _
    have zg : Wg.heap.size = gs + 1 := by rw [← hWg, ← hgs]; simp
    have BS := Aside0.mk (show Wg.heap[gs]? = some (.cells #[.slice As ps.length csz] 53 (0, 0)) by rw [← hWg, ← hgs]; exact alloc_at _ _)
    have BPg := Aside0.mk (blk_below BPf.out qg)
    have Qg := Aside0.mk (Qf.out.trans (qg.mono Qf.out.size))
    have HCs := Aside0.mk (Kd.C_below hCs qg)
    have HCpg := Aside0.mk (Kd.C_below HP2.out Qg.out)
    have HR2 := Lib.hid (show Calls Try.prog 51 #[.agg #[.slice (some ad) ps.length cp], .string ⟨#[110, 111, 110, 101]⟩, .string ⟨#[109, 111, 114, 101]⟩] Wg (fun en w' => ∃ v, en = .returned (.tuple #[.agg #[v], .int .i64 1]) ∧ OwnD w' Wg.heap.size v [] ∧ Below Wg.heap.size Wg w') by
     have h1 := c_Rename ps (some ad) cp ⟨#[110, 111, 110, 101]⟩ ⟨#[109, 111, 114, 101]⟩ Wg HCpg.out hcp (by omega) HOk.out.big
     rw [rename_none HOk.out] at h1
     exact h1)
    have hgsa := Nat.le_of_eq hgs
    have hgsb := Nat.le_of_eq hgs.symm
    have hzga := Nat.le_of_eq zg
    have hzgb := Nat.le_of_eq zg.symm
    have HWg := Lib.hid hWg
    clear hWg qg zg hb hCs hO kP kD HR1
    have kP := (blk_cell BPg.out 0).trans rfl
    have kS := (blk_cell BS.out 0).trans rfl
    go_upto_region 16 with fail
    rw [HWg.out]
    clear HWg hgs
    go_wp2_with fail
    refine HR2.out.mono ?_
    rintro en wy ⟨vn, rfl, hO, hb⟩
    obtain ⟨An, cn, rfl, _, _⟩ := Kd.R_reads hO
    have e0 : ([] : List De).length = 0 := rfl
    rw [e0]
    have hsy := hb.size
    obtain ⟨gn, hgn⟩ : ∃ gn, wy.heap.size = gn := ⟨_, rfl⟩
    obtain ⟨wh, hwh⟩ : ∃ wh, wy.alloc (.cells #[.slice An 0 cn] 53) = wh := ⟨_, rfl⟩
    have hb : Below Wg.heap.size Wg wh := by rw [← hwh]; exact hb.trans ((below_alloc1 _ _).mono hb.size)
    have zh : wh.heap.size = gn + 1 := by rw [← hwh, ← hgn]; simp
    have BPh := Aside0.mk (blk_below BPg.out hb)
    have BSh := Aside0.mk (blk_below BS.out hb)
    have Qh := Aside0.mk (Qg.out.trans (hb.mono Qg.out.size))
    have HCph := Aside0.mk (Kd.C_below HP2.out Qh.out)
    have HS3 := Lib.hid (show Calls Try.prog 46 #[.agg #[.slice As ps.length csz], .agg #[.slice (some ad) ps.length cp]] wh (fun en W' => en = .returned (.bool true) ∧ Below wh.heap.size wh W') from
     (c_Same ps ps As (some ad) csz cp wh (Kd.C_below HCs.out hb) hcs HCph.out hcp HSp.out HSp.out).mono (by rintro en W' ⟨rfl, hb⟩; exact ⟨by rw [sameP_refl], hb⟩))
    have HWh := Lib.hid hwh
    have hgna := Nat.le_of_eq hgn
    have hgnb := Nat.le_of_eq hgn.symm
    have hzha := Nat.le_of_eq zh
    have hzhb := Nat.le_of_eq zh.symm
    clear hb kP kS HR2 hO hwh e0 zh
    have kP := (blk_cell BPh.out 0).trans rfl
    have kS := (blk_cell BSh.out 0).trans rfl
    go_upto_region 17 with fail
    rw [HWh.out]
    clear HWh hgn
    go_wp2_with fail
    refine HS3.out.mono ?_
    rintro en wi ⟨rfl, hb⟩
    have Qi := Aside0.mk (Q.out.trans ((Qh.out.trans (hb.mono Qh.out.size)).mono Q.out.size))
    have HAw := Lib.hid (c_awake wi)
    clear hb kP kS HS3
    go_wp2_with fail
    refine HAw.out.mono ?_
    rintro en wu ⟨rfl, hb⟩
    have Qu := Aside0.mk (Qi.out.trans (hb.mono Qi.out.size))
    clear hb HAw
    go_wp2_with fail
    go_ret
    exact ⟨rfl, Qu.out⟩
end Go.Proofs.Ytacefdkfbpgedaa.Mine
