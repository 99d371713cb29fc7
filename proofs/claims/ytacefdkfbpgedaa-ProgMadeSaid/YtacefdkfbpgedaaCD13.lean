/- The closures of ProgRenamed and ProgMade: whether a body calls a name. -/
import Derived.Test.YtacefdkfbpgedaaCD12
import Derived.Test.YtacefdkfbpgedaaCD9
import Derived.Test.YtacefdkfbpgedaaCD1
import Derived.Deep.RegionHeld3
import Derived.Deep.DeepCutAuto
import Derived.BigRegion
namespace Go.Proofs.Ytacefdkfbpgedaa.Mine
open Go.Proofs.Ytacefdkfbpgedaa.PProgExprs
open Go.RowKit Go.Shelf Go.Proofs.YtacefdkfbpgedaaW.PrintWords Go.Proofs.YtacefdkfbpgedaaW.PrintLast Go.Proofs.YtacefdkfbpgedaaW.PrintMore
set_option linter.unusedVariables false
set_option linter.unusedSimpArgs false
set_option maxRecDepth 100000
end Go.Proofs.Ytacefdkfbpgedaa.Mine
namespace Go.Proofs.Ytacefdkfbpgedaa.Mine
open Go.Proofs.Ytacefdkfbpgedaa.PProgExprs
open Go.RowKit Go.Shelf Go.Proofs.YtacefdkfbpgedaaW.PrintWords Go.Proofs.YtacefdkfbpgedaaW.PrintLast Go.Proofs.YtacefdkfbpgedaaW.PrintMore
set_option linter.unusedVariables false
set_option linter.unusedSimpArgs false
set_option maxRecDepth 100000
set_option maxHeartbeats 2000000 in
theorem c_Mad11 (x : Ex) (cs : List Value) (B : Nat) (s : ByteArray) (u1 u2 u3 u4 u5 : Value) (w : World) (hK : k24.K w x cs) (hbox : w.heap[B]? = some (.cells #[.string s, u1, u2, u3, u4, u5] 58 (0, 0))) :
  Calls Try.prog 40 #[.agg cs.toArray, .pointer (some ⟨B, 0, none⟩)] w fun en w' => en = .returned (.bool (callTo s x)) ∧ Below w.heap.size w w' := by
 obtain ⟨A2, a2, rfl, hl2, hc2⟩ := k24_open hK
 have k0 := (blk_cell hbox 0).trans rfl
 have hlt := lt_of_block hbox
 have hn : ¬ (B = w.heap.size) := by omega
 clear hK hc2 hbox
 have he := sEq x.f1 s
 cases h3 : (x.f0 == 3) with
 | true =>
  have HX := Lib.hid (show callTo s x = decide (x.f1 = s) by rw [callTo, h3, Bool.true_and])
  go_enter Try.func40, Try.ntmps40
  go_wp2
  go_ret
  exact ⟨retb HX.out.symm, below_alloc1 _ _⟩
 | false =>
  have HX := Lib.hid (show callTo s x = false by rw [callTo, h3, Bool.false_and])
  go_enter Try.func40, Try.ntmps40
  go_wp2
  go_ret
  exact ⟨retb HX.out.symm, below_alloc1 _ _⟩
set_option maxHeartbeats 2000000 in
theorem c_Mad1 (x : Ex) (cs : List Value) (B : Nat) (s : ByteArray) (u1 u2 u3 u4 u5 : Value) (w : World) (hK : k24.K w x cs) (hbox : w.heap[B]? = some (.cells #[.string s, u1, u2, u3, u4, u5] 58 (0, 0))) :
  Calls Try.prog 38 #[.agg cs.toArray, .pointer (some ⟨B, 0, none⟩)] w fun en w' => en = .returned (.bool (anyE (callTo s) x)) ∧ Below w.heap.size w w' := by
 obtain ⟨A2, a2, rfl, hl2, hc2⟩ := k24_open hK
 have q := below_alloc1 w (.cells #[.int .i64 x.f0, .string x.f1, .slice A2 x.f2.length a2] 24)
 have HC := Lib.hid (c_lin (w.alloc (.cells #[.int .i64 x.f0, .string x.f1, .slice A2 x.f2.length a2] 24)) 40 #[.pointer (some ⟨B, 0, none⟩)] (enters_of Try.func40 (by kernel_rfl) rfl) (callTo s) (fun y cy W hb hKy => c_Mad11 y cy B s u1 u2 u3 u4 u5 W hKy (blk_below (blk_below hbox q) hb)) _ x _ _ (Nat.le_refl _) (Below.refl _ _) (k24_mk _ x hl2 (Kd.C_below hc2 q)))
 have HQ := Lib.hid q
 clear hK hc2 hbox q
 go_enter Try.func38, Try.ntmps38
 go_wp2_with fail
 refine HC.out.mono ?_
 rintro en w' ⟨rfl, hb⟩
 go_wp2
 go_ret
 exact ⟨rfl, HQ.out.trans (hb.mono HQ.out.size)⟩
theorem same_small2 {d : De} (h : bigD d = false) : szE d.f3 < 1000000 ∧ ∀ c ∈ d.f2, szE c.f2 < 1000000 := by
 have h1 := bigD_ok h
 exact ⟨by omega, fun c hc => by have := (bigC_ok (h1.2.2.2.2.2 c hc)).2.2.2; omega⟩
theorem c_Mad2 (s : ByteArray) (B : Nat) (A : Option Addr) (c : Nat) (rs : List ByteArray) (w : World) (hr : Kd.C Kd.string w A rs.length rs) (hc : rs.length ≤ c) (hbox : w.heap[B]? = some (.cells #[.slice A rs.length c] 25 (0, 0))) :
  Calls Try.prog 43 #[.string s, .pointer (some ⟨B, 0, none⟩)] w fun en w' => en = .returned (.bool (!memB s rs)) ∧ Below w.heap.size w w' := by
 have HC := Lib.hid (c_ContS A c rs s w hr hc)
 have k0 := cell_of_one hbox
 clear hr hbox
 go_enter Try.func43, Try.ntmps43
 go_wp2_with fail
 refine HC.out.mono ?_
 rintro en w' ⟨rfl, hw⟩
 have hw := hw.symm
 subst hw
 go_wp2
 go_ret
 exact ⟨rfl, Below.refl _ _⟩
theorem calls_at {ps : List De} (hc : checkP ps = 0) (hn : (ps.map (·.f0)).Nodup) (hok : OkP ps) {A : Option Addr} {c : Nat} {w : World} (hr : Kd.C k58 w A ps.length ps) (hcp : ps.length ≤ c) {s : ByteArray} (hs : 0 ≤ numD ps s) :
  Calls Try.prog 34 #[.agg #[.slice A ps.length c], .string s] w fun en w' => ∃ A' c', en = .returned (.tuple #[.slice A' (callsOf ps s).length c', .int .i64 0]) ∧ (callsOf ps s).length ≤ c' ∧ Kd.C Kd.string w' A' (callsOf ps s).length (callsOf ps s) ∧ Below w.heap.size w w' := by
 obtain ⟨d, hd, rfl⟩ := known_def hs
 have h0 := find_made hc hd
 refine (c_Calls ps A c d.f0 w hr hcp hok).mono ?_
 rintro en w' ⟨v, rfl, hO, hb⟩
 rw [(find_yes h0).2.2.2.1] at hO
 rw [h0]
 obtain ⟨A', c', rfl, h1, h2⟩ := OwnS.reads hO
 exact ⟨A', c', rfl, h1, h2, hb⟩
theorem c_Mad3 {ps : List De} (hc : checkP ps = 0) (hn : (ps.map (·.f0)).Nodup) (hok : OkP ps) {A : Option Addr} {c : Nat} (hcp : ps.length ≤ c) (s t : ByteArray) (Bp Bx : Nat) (u1 u2 u3 u4 u5 : Value) (w : World) (hr : Kd.C k58 w A ps.length ps) (hs : 0 ≤ numD ps s) (hp : w.heap[Bp]? = some (.cells #[.slice A ps.length c] 53 (0, 0))) (hx : w.heap[Bx]? = some (.cells #[.string t, u1, u2, u3, u4, u5] 58 (0, 0))) :
  Calls Try.prog 44 #[.string s, .pointer (some ⟨Bp, 0, none⟩), .pointer (some ⟨Bx, 0, none⟩)] w fun en w' => en = .returned (.bool (memB t (callsOf ps s))) ∧ Below w.heap.size w w' := by
 have HC := Lib.hid (calls_at hc hn hok hr hcp hs)
 have k0 := cell_of_one hp
 have BX := Aside0.mk hx
 clear hr hp hx
 go_enter Try.func44, Try.ntmps44
 go_wp2_with fail
 refine HC.out.mono ?_
 rintro en w1 ⟨A', c', rfl, h1, h2, hb⟩
 have HQ := Lib.hid hb
 have x0 := (blk_cell (blk_below BX.out hb) 0).trans rfl
 have HD := Lib.hid (c_ContS A' c' _ t w1 h2 h1)
 clear hb h2 k0 HC
 go_wp2_with fail
 refine HD.out.mono ?_
 rintro en w2 ⟨rfl, hw⟩
 have hw := hw.symm
 subst hw
 go_wp2
 go_ret
 exact ⟨rfl, HQ.out⟩
end Go.Proofs.Ytacefdkfbpgedaa.Mine
namespace Go.Proofs.Ytacefdkfbpgedaa.Mine
open Go.Proofs.Ytacefdkfbpgedaa.PProgExprs
open Go.RowKit Go.Shelf Go.Proofs.YtacefdkfbpgedaaW.PrintWords Go.Proofs.YtacefdkfbpgedaaW.PrintLast Go.Proofs.YtacefdkfbpgedaaW.PrintMore
set_option linter.unusedVariables false
set_option linter.unusedSimpArgs false
set_option maxRecDepth 100000
abbrev MdS (W0 : World) (go gr gd : Nat) (vo vr vs : Value) (p : Addr) (W : World) : Prop :=
 Below W0.heap.size W0 W ∧ W.cell? ⟨go, 0, none⟩ = some vo ∧ W.cell? ⟨gr, 0, none⟩ = some vr ∧ W.cell? ⟨gd, 0, none⟩ = some vs ∧ W.cell? p = some vs
theorem MdS.step {W0 : World} {go gr gd : Nat} {vo vr vs : Value} {p : Addr} {W W' : World} (h : MdS W0 go gr gd vo vr vs p W) (hb : Below W.heap.size W W') : MdS W0 go gr gd vo vr vs p W' := by
 obtain ⟨h0, h1, h2, h3, h4⟩ := h
 exact ⟨h0.trans (hb.mono h0.size), pw_cell_below hb h1, pw_cell_below hb h2, pw_cell_below hb h3, pw_cell_below hb h4⟩
abbrev MeS (go gx : Nat) (p : Addr) (vo u0 u1 u2 u3 u4 u5 v0 v1 v2 v3 v4 v5 : Value) (W : World) : Prop :=
 W.cell? ⟨go, 0, none⟩ = some vo ∧ W.cell? p = some u0 ∧ W.cell? ⟨p.block, p.off + 1, none⟩ = some u1 ∧ W.cell? ⟨p.block, p.off + 2, none⟩ = some u2 ∧ W.cell? ⟨p.block, p.off + 3, none⟩ = some u3 ∧ W.cell? ⟨p.block, p.off + 4, none⟩ = some u4 ∧ W.cell? ⟨p.block, p.off + 5, none⟩ = some u5 ∧
 W.cell? ⟨gx, 0, none⟩ = some v0 ∧ W.cell? ⟨gx, 1, none⟩ = some v1 ∧ W.cell? ⟨gx, 2, none⟩ = some v2 ∧ W.cell? ⟨gx, 3, none⟩ = some v3 ∧ W.cell? ⟨gx, 4, none⟩ = some v4 ∧ W.cell? ⟨gx, 5, none⟩ = some v5
theorem MeS.step {go gx : Nat} {p : Addr} {vo u0 u1 u2 u3 u4 u5 v0 v1 v2 v3 v4 v5 : Value} {W W' : World} (h : MeS go gx p vo u0 u1 u2 u3 u4 u5 v0 v1 v2 v3 v4 v5 W) (hb : Below W.heap.size W W') : MeS go gx p vo u0 u1 u2 u3 u4 u5 v0 v1 v2 v3 v4 v5 W' := by
 obtain ⟨h0, h1, h2, h3, h4, h5, h6, k0, k1, k2, k3, k4, k5⟩ := h
 exact ⟨pw_cell_below hb h0, pw_cell_below hb h1, pw_cell_below hb h2, pw_cell_below hb h3, pw_cell_below hb h4, pw_cell_below hb h5, pw_cell_below hb h6, pw_cell_below hb k0, pw_cell_below hb k1, pw_cell_below hb k2, pw_cell_below hb k3, pw_cell_below hb k4, pw_cell_below hb k5⟩
theorem idx_at {l : List ByteArray} {s : ByteArray} (h : s ∈ l) : ∃ j : Nat, idxB (fun x => decide (x = s)) l = (j : Int) ∧ l[j]? = some s := by
 have ha : l.any (fun x => decide (x = s)) = true := List.any_eq_true.2 ⟨s, h, decide_eq_true rfl⟩
 have hlt := List.findIdx_lt_length_of_exists (p := fun x : ByteArray => decide (x = s)) (xs := l) ⟨s, h, decide_eq_true rfl⟩
 refine ⟨l.findIdx (fun x => decide (x = s)), by rw [idxB, if_pos ha], ?_⟩
 rw [List.getElem?_eq_getElem hlt]
 have := List.findIdx_getElem (w := hlt)
 simp at this
 rw [this]
theorem idx_no {l : List ByteArray} {s : ByteArray} (h : s ∉ l) : idxB (fun x => decide (x = s)) l = -1 :=
 idxB_none fun j y hj hy => decide_eq_false fun e => h (by rw [← e]; exact List.mem_of_getElem? hy)
set_option maxHeartbeats 8000000 in
theorem c_lawMade (zs : List Int) (A : Option Addr) (c n : Nat) (w : World) (hn : n < 256) (hr : Kd.C (Kd.int .u8) w A zs.length zs) :
  Calls Try.prog 5 #[.slice A zs.length c, .int .u8 (n : Int)] w fun en w' => en = .returned (.bool true) ∧ Below w.heap.size w w' := by
 have HF1 := Lib.hid (c_Fill A zs c w hr)
 clear hr
 go_enter Try.func5, Try.ntmps5
 go_wp2_with fail
 refine HF1.out.mono ?_
 rintro en w1 ⟨rfl, hS, hZ, hb, hlt⟩
 obtain ⟨b1, hb1⟩ : ∃ b1, w.heap.size = b1 := ⟨_, rfl⟩
 rw [hb1] at hS hZ ⊢
 have hw1 : w.heap.size ≤ b1 := Nat.le_of_eq hb1
 have hw2 : b1 ≤ w.heap.size := Nat.le_of_eq hb1.symm
 have hb1l : b1 < w1.heap.size := by omega
 have HM := Lib.hid (c_Made b1 A zs.length c zs true w1 hS hZ)
 have Q := Aside0.mk hb
 have HB1 := Lib.hid hb1
 clear hS hZ hb HF1 hb1 hlt
 go_wp2_with fail
 refine HM.out.mono ?_
 rintro en w2 ⟨ars, ps, v, rfl, hP, hOk, hF⟩
 have Q := Aside0.mk (show Below w.heap.size w w2 from Q.out.trans ⟨hF.os, hF.tape, hF.output, hF.size, fun k hk => hF.block k (by omega) (by show ¬ k = b1; omega)⟩)
 obtain ⟨Ap, cp, rfl, hcp, hCp⟩ := Kd.R_reads hP
 have hpl6 : ps.length ≤ 6 := by rw [hOk.len]; exact hOk.n6
 have HP2 := Lib.hid hCp
 have HOk := Lib.hid hOk
 have hs2 := hF.size
 clear hF hP hCp hOk HM
 -- the box of the program
 obtain ⟨gp, hgp⟩ : ∃ gp, w2.heap.size = gp := ⟨_, rfl⟩
 obtain ⟨W3, hW3⟩ : ∃ W3, w2.alloc (.cells #[.slice Ap ps.length cp] 53) = W3 := ⟨_, rfl⟩
 have q3 : Below w2.heap.size w2 W3 := by rw [← hW3]; exact below_alloc1 _ _
 have z3 : W3.heap.size = gp + 1 := by rw [← hW3, ← hgp]; simp
 have BP := Aside0.mk (show W3.heap[gp]? = some (.cells #[.slice Ap ps.length cp] 53 (0, 0)) by rw [← hW3, ← hgp]; exact alloc_at _ _)
 have Q2 := Aside0.mk q3
 have HW3 := Lib.hid hW3
 have hgpa := Nat.le_of_eq hgp
 have hgpb := Nat.le_of_eq hgp.symm
 have hz3a := Nat.le_of_eq z3
 have hz3b := Nat.le_of_eq z3.symm
 clear hW3 q3 z3
 have HCk := Lib.hid (show Calls Try.prog 33 #[.agg #[.slice Ap ps.length cp]] W3 (fun en w' => en = .returned (.int .i64 0) ∧ Below W3.heap.size W3 w') by
  have h1 := c_Check ps Ap cp W3 (Kd.C_below HP2.out Q2.out) hcp (okP_of (by omega) HOk.out.big)
  rw [HOk.out.check] at h1
  exact h1)
 have kP := (blk_cell BP.out 0).trans rfl
 have hpz : ((ps.length : Int) == 0) = false := by
  have h1 := HOk.out.len
  have h2 := HOk.out.n0
  rw [beq_eq_false_iff_ne]; omega
 go_upto_region 2 with fail
 rw [HW3.out]
 clear HW3 hgp
 go_wp2_with fail
 refine HCk.out.mono ?_
 rintro en w4 ⟨rfl, hb⟩
 have BP := Aside0.mk (blk_below BP.out hb)
 have Q2 := Aside0.mk (Q2.out.trans (hb.mono Q2.out.size))
 have hs4 := hb.size
 clear hb HCk kP
 have kP := (blk_cell BP.out 0).trans rfl
 go_upto_region 4 with fail
 clear kP hpz
 obtain ⟨i, hi⟩ : ∃ i : Nat, n % ps.length = i := ⟨_, rfl⟩
 have hil : i < ps.length := by rw [← hi]; exact Nat.mod_lt _ (by rw [HOk.out.len]; exact HOk.out.n0)
 have HIz := Lib.hid (show (n : Int) % (ps.length : Int) = (i : Int) by rw [← hi]; exact (Int.natCast_emod _ _).symm)
 have hilz : (i : Int) < (ps.length : Int) := by omega
 have hpl0 : (ps.length : Int) ≠ 0 := by omega
 clear hi
 obtain ⟨ad, g0, g1, g2, g3, g4, g5, rfl, hK, hcells, y0, y1, y2, y3, y4, y5⟩ := gett6 rfl (Kd.C_below HP2.out Q2.out) i hil
 obtain ⟨dd, hdd⟩ : ∃ dd, ps[i] = dd := ⟨_, rfl⟩
 rw [hdd] at hK
 have HId := Lib.hid (show ps[i]? = some dd by rw [List.getElem?_eq_getElem hil, hdd])
 have hFd := K_FK k58_heap hK
 obtain ⟨Z1, z1, Z2, z2, Z5, z5, he, _⟩ := k58_open hK
 obtain ⟨rfl, rfl, rfl, rfl, rfl, rfl⟩ : g0 = _ ∧ g1 = _ ∧ g2 = _ ∧ g3 = _ ∧ g4 = _ ∧ g5 = _ := by simpa using he
 have HFd := Aside0.mk hFd
 clear hK he hdd hcells hFd
 have kP := (blk_cell BP.out 0).trans rfl
 have hidx := HIz.out
 have hltp := lt_of_block BP.out
 have hlta := World.block_lt_of_cell? _ _ y0
 go_cut [6] (fun s6 wx => ∃ gd : Nat, s6 = .pointer (some ⟨gd, 0, none⟩) ∧ Aside0 (Below w4.heap.size w4 wx) ∧ Aside0 (wx.heap[gd]? = some (.cells #[.string dd.f0, .slice Z1 dd.f1.length z1, .slice Z2 dd.f2.length z2, .int .i64 dd.f3.f0, .string dd.f3.f1, .slice Z5 dd.f3.f2.length z5] 58 (0, 0))) ∧ w4.heap.size ≤ gd)
 case first =>
  go_region
  all_goals (go_wp2_with fail; go_meet)
  all_goals exact ⟨_, rfl, ⟨below_drew (below_alloc1 _ _)⟩, ⟨alloc_at _ _⟩, Nat.le_refl _⟩
 case rest =>
  obtain ⟨gd, rfl, HW, BD, hgdl⟩ := hcut
  have BP := Aside0.mk (blk_below BP.out HW.out)
  have Q2 := Aside0.mk (Q2.out.trans (HW.out.mono Q2.out.size))
  have hsc := HW.out.size
  have HCp := Aside0.mk (Kd.C_below HP2.out Q2.out)
  have HFdc := Aside0.mk (Kd.FK_mono (Kd.FK_below HFd.out HW.out) (ok' := fun k => k < wc.heap.size) (fun k hk => by have := HW.out.size; omega))
  have HCh := Lib.hid HOk.out.check
  have HNd := Lib.hid HOk.out.nodup
  have HOp := Lib.hid (okP_of (l := ps) (by omega) HOk.out.big)
  have HMem := Lib.hid (List.mem_of_getElem? HId.out)
  have HN0 := Lib.hid (show 0 ≤ numD ps dd.f0 by obtain ⟨k, h1, _⟩ := numD_here HNd.out HMem.out; omega)
  have hl12 : ps.length ≤ 12 := by omega
  have HRi := Lib.hid (reach_inv HCh.out HN0.out)
  have HCa := Lib.hid (fun (s : ByteArray) (hs : 0 ≤ numD ps s) (W : World) (hb : Below wc.heap.size wc W) => calls_at HCh.out HNd.out HOp.out (Kd.C_below HCp.out hb) hcp (w := W) hs)
  obtain ⟨ls, hls⟩ : ∃ ls, callsOf ps dd.f0 = ls := ⟨_, rfl⟩
  have hC1 := Lib.hid (HCa.out dd.f0 HN0.out wc (Below.refl _ _))
  rw [hls] at hC1
  have HLs := Lib.hid (show ls = callsL (eachD dd) by rw [← hls]; exact callsOf_here HNd.out HMem.out)
  clear hls HW y0 y1 y2 y3 y4 y5 hidx HFd
  have kP := (blk_cell BP.out 0).trans rfl
  have kD := (blk_cell BD.out 0).trans rfl
  go_wp2_with fail
  refine hC1.out.mono ?_
  rintro en w5 ⟨Al, cl, rfl, hcll, hCl, hb⟩
  have HQ5 := Aside0.mk hb
  have HCl := Aside0.mk hCl
  have BP := Aside0.mk (blk_below BP.out hb)
  have BD := Aside0.mk (blk_below BD.out hb)
  have hs5 := hb.size
  clear kP kD hb hCl hC1
  have kP := (blk_cell BP.out 0).trans rfl
  have kD := (blk_cell BD.out 0).trans rfl
  obtain ⟨rs, hrs⟩ : ∃ rs, reachP ps dd.f0 = rs := ⟨_, rfl⟩
  obtain ⟨os, hos⟩ : ∃ os, onlyP ps dd.f0 = os := ⟨_, rfl⟩
  have hfm := find_made HCh.out HMem.out
  have HRe := Lib.hid (show Calls Try.prog 35 #[.agg #[.slice (some ad) ps.length cp], .string dd.f0] w5 (fun en w' => ∃ v, en = .returned (.tuple #[v, .int .i64 0]) ∧ OwnS w' w5.heap.size v rs ∧ Below w5.heap.size w5 w') by
   have h1 := c_Reach ps (some ad) cp dd.f0 w5 (Kd.C_below HCp.out HQ5.out) hcp HOp.out
   rw [hfm, (find_yes hfm).2.2.2.2.1, hrs] at h1
   exact h1)
  have HOn := Lib.hid (fun W (hb : Below wc.heap.size wc W) => show Calls Try.prog 36 #[.agg #[.slice (some ad) ps.length cp], .string dd.f0] W (fun en w' => ∃ v, en = .returned (.tuple #[.agg #[v], .int .i64 0]) ∧ OwnD w' W.heap.size v os ∧ Below W.heap.size W w') by
   have h1 := c_Only ps (some ad) cp dd.f0 W (Kd.C_below HCp.out hb) hcp HOp.out (fun d hd => bigD_okO (HOk.out.big d hd))
   rw [hfm, (find_yes hfm).2.2.2.2.2, hos] at h1
   exact h1)
  have HRt := Lib.hid (fun d (hd : d ∈ ps) => HOk.out.rights d hd)
  have h0n := HN0.out
  have hol1 : os.length ≤ rs.length := by rw [← hos, ← hrs]; exact Nat.le_of_eq (only_len HCh.out HNd.out h0n)
  have hol2 : rs.length ≤ os.length := by rw [← hos, ← hrs]; exact Nat.le_of_eq (only_len HCh.out HNd.out h0n).symm
  have hrl0 : 0 < rs.length := by rw [← hrs]; exact reach_pos HCh.out h0n
  have hrl6 : os.length ≤ ps.length := by rw [← hos]; exact List.length_filter_le _ _
  have HR0 := Lib.hid (show rs[0]? = some dd.f0 by rw [← hrs]; exact reach_first HCh.out h0n)
  have HRn := Lib.hid (show RInv ps dd.f0 rs.length rs by rw [← hrs]; exact HRi.out)
  have HOc := Lib.hid (show checkP os = 0 by rw [← hos]; exact only_check HCh.out HNd.out HRt.out hl12 h0n)
  have HOb := Lib.hid (show ∀ d ∈ os, bigD d = false by rw [← hos]; exact fun d hd => HOk.out.big d (only_mem.1 hd).1)
  have HOa := Lib.hid (show reachE os dd.f0 = rs by rw [← hos, ← hrs]; exact reach_again HCh.out HNd.out HRt.out hl12 h0n)
  have HOf := Lib.hid (show ∀ x ∈ ps, x.f0 ∈ rs → ∃ i : Nat, findP os x.f0 = ((i : Int), 0) ∧ os[i]? = some x by rw [← hos, ← hrs]; exact fun x hx hm => only_find HCh.out HNd.out HRt.out hl12 h0n hx hm)
  have HOl := Lib.hid (show ∀ s, s ∉ rs → (findP os s).2 ≠ 0 by rw [← hos, ← hrs]; exact fun s hs => only_lost HCh.out HNd.out HRt.out hl12 h0n hs)
  have HOd := Lib.hid (show (findP os dd.f0).2 = 0 by
   obtain ⟨i, h1, _⟩ := HOf.out dd HMem.out (List.mem_of_getElem? HR0.out)
   rw [h1])
  have hl12 := Lib.hid hl12
  clear hrs hos hfm HRi h0n
  go_wp2_with fail
  refine HRe.out.mono ?_
  rintro en w6 ⟨v, rfl, hO, hb⟩
  obtain ⟨Ar, cr, rfl, hcr, hCr⟩ := OwnS.reads hO
  have HQ6 := Aside0.mk (HQ5.out.trans (hb.mono HQ5.out.size))
  have BP := Aside0.mk (blk_below BP.out hb)
  have BD := Aside0.mk (blk_below BD.out hb)
  have HCl := Aside0.mk (Kd.C_below HCl.out hb)
  have hs6 := hb.size
  obtain ⟨gr, hgr⟩ : ∃ gr, w6.heap.size = gr := ⟨_, rfl⟩
  obtain ⟨W7, hW7⟩ : ∃ W7, w6.alloc (.cells #[.slice Ar rs.length cr] 25) = W7 := ⟨_, rfl⟩
  have q7 : Below w6.heap.size w6 W7 := by rw [← hW7]; exact below_alloc1 _ _
  have z7 : W7.heap.size = gr + 1 := by rw [← hW7, ← hgr]; simp
  have BR := Aside0.mk (show W7.heap[gr]? = some (.cells #[.slice Ar rs.length cr] 25 (0, 0)) by rw [← hW7, ← hgr]; exact alloc_at _ _)
  have HQ7 := Aside0.mk (HQ6.out.trans (q7.mono HQ6.out.size))
  have BP := Aside0.mk (blk_below BP.out q7)
  have BD := Aside0.mk (blk_below BD.out q7)
  have HCl := Aside0.mk (Kd.C_below HCl.out q7)
  have HCr := Aside0.mk (Kd.C_below hCr q7)
  have hO7 := Lib.hid (HOn.out W7 HQ7.out)
  have hgra := Nat.le_of_eq hgr
  have hgrb := Nat.le_of_eq hgr.symm
  have hz7a := Nat.le_of_eq z7
  have hz7b := Nat.le_of_eq z7.symm
  have HW7 := Lib.hid hW7
  clear hW7 q7 z7 hb hCr hO kP kD HRe HOn HQ5 HQ6
  have kP := (blk_cell BP.out 0).trans rfl
  have kD := (blk_cell BD.out 0).trans rfl
  go_upto_region 7 with fail
  rw [HW7.out]
  clear HW7 hgr
  go_wp2_with fail
  refine hO7.out.mono ?_
  rintro en w8 ⟨v, rfl, hO, hb⟩
  obtain ⟨Ao, co, rfl, hco, hCo⟩ := Kd.R_reads hO
  have HQ8 := Aside0.mk (HQ7.out.trans (hb.mono HQ7.out.size))
  have BP := Aside0.mk (blk_below BP.out hb)
  have BD := Aside0.mk (blk_below BD.out hb)
  have BR := Aside0.mk (blk_below BR.out hb)
  have HCl := Aside0.mk (Kd.C_below HCl.out hb)
  have HCr := Aside0.mk (Kd.C_below HCr.out hb)
  have hs8 := hb.size
  obtain ⟨go, hgo⟩ : ∃ go, w8.heap.size = go := ⟨_, rfl⟩
  obtain ⟨W9, hW9⟩ : ∃ W9, w8.alloc (.cells #[.slice Ao os.length co] 53) = W9 := ⟨_, rfl⟩
  have q9 : Below w8.heap.size w8 W9 := by rw [← hW9]; exact below_alloc1 _ _
  have z9 : W9.heap.size = go + 1 := by rw [← hW9, ← hgo]; simp
  have BO := Aside0.mk (show W9.heap[go]? = some (.cells #[.slice Ao os.length co] 53 (0, 0)) by rw [← hW9, ← hgo]; exact alloc_at _ _)
  have HQ9 := Aside0.mk (HQ8.out.trans (q9.mono HQ8.out.size))
  have BP := Aside0.mk (blk_below BP.out q9)
  have BD := Aside0.mk (blk_below BD.out q9)
  have BR := Aside0.mk (blk_below BR.out q9)
  have HCl := Aside0.mk (Kd.C_below HCl.out q9)
  have HCr := Aside0.mk (Kd.C_below HCr.out q9)
  have HCo := Aside0.mk (Kd.C_below hCo q9)
  have HFo := Aside0.mk (Kd.F_below (Kd.C_F k58_heap hCo) q9)
  have HCk := Lib.hid (fun W (hb : Below W9.heap.size W9 W) => show Calls Try.prog 33 #[.agg #[.slice Ao os.length co]] W (fun en w' => en = .returned (.int .i64 0) ∧ Below W.heap.size W w') by
   have h1 := c_Check os Ao co W (Kd.C_below HCo.out hb) hco (okP_of (by omega) HOb.out)
   rw [HOc.out] at h1
   exact h1)
  obtain ⟨ar, u0, rfl, hKr, hr0⟩ := get1 rfl HCr.out 0 hrl0
  have hu0 : u0 = .string dd.f0 := by
   have h1 : rs[0] = dd.f0 := by have h := HR0.out; rw [List.getElem?_eq_getElem hrl0] at h; exact Option.some.inj h
   rw [h1] at hKr
   simpa [Kd.string, Kd.scalar] using hKr
  subst hu0
  have ha0 : ar.add 0 = ar := by cases ar; simp [Addr.add]
  rw [ha0] at hr0
  have hgoa := Nat.le_of_eq hgo
  have hgob := Nat.le_of_eq hgo.symm
  have hz9a := Nat.le_of_eq z9
  have hz9b := Nat.le_of_eq z9.symm
  have HW9 := Lib.hid hW9
  clear hW9 q9 z9 hb hCo hO kP kD hO7 HQ7 HQ8 hKr
  go_upto_region 8 with fail
  rw [HW9.out]
  clear HW9 hgo
  have kO := (blk_cell BO.out 0).trans rfl
  have kR := (blk_cell BR.out 0).trans rfl
  have kD := (blk_cell BD.out 0).trans rfl
  have hS0 : MdS W9 go gr gd (.slice Ao os.length co) (.slice (some ar) rs.length cr) (.string dd.f0) ar W9 := ⟨Below.refl _ _, kO, kR, kD, hr0⟩
  have t1 : ((os.length : Int) != (rs.length : Int)) = false := by simp; omega
  have t2 : ((rs.length : Int) == 0) = false := by rw [beq_eq_false_iff_ne]; omega
  have t3 : (0 : Int) < (rs.length : Int) := by omega
  have HKo := Lib.hid (fun W (hS : MdS W9 go gr gd (.slice Ao os.length co) (.slice (some ar) rs.length cr) (.string dd.f0) ar W) => (HCk.out W hS.1).mono (R' := fun en w' => en = .returned (.int .i64 0) ∧ MdS W9 go gr gd (.slice Ao os.length co) (.slice (some ar) rs.length cr) (.string dd.f0) ar w') (by rintro en w' ⟨rfl, hb⟩; exact ⟨rfl, hS.step hb⟩))
  clear kO kR kD hr0 HCk
  go_region_held3 (fun W => MdS W9 go gr gd (.slice Ao os.length co) (.slice (some ar) rs.length cr) (.string dd.f0) ar W) (first | assumption | exact hS0.step (below_drew (Below.refl _ _))) (first | (go_at_call 33; (with_reducible refine (HKo.out _ (by assumption)).mono ?_); rintro e wa ⟨rfl, hSa⟩))
  have HQa := Aside0.mk (HQ9.out.trans (hSa.1.mono HQ9.out.size))
  have HB9 := Aside0.mk hSa.1
  have hsa := hSa.1.size
  have BP := Aside0.mk (blk_below BP.out HB9.out)
  have BD := Aside0.mk (blk_below BD.out HB9.out)
  have BR := Aside0.mk (blk_below BR.out HB9.out)
  have BO := Aside0.mk (blk_below BO.out HB9.out)
  have HCl := Aside0.mk (Kd.C_below HCl.out HB9.out)
  have HCr := Aside0.mk (Kd.C_below HCr.out HB9.out)
  have HCo := Aside0.mk (Kd.C_below HCo.out HB9.out)
  have HFo := Aside0.mk (Kd.F_below HFo.out HB9.out)
  clear hS0 hSa HKo t1 t2 t3
  have kP := (blk_cell BP.out 0).trans rfl
  go_upto_region 10 with fail
  go_wp2_with fail
  clear kP
  go_loopg [103] ps.length (fun gg s103 wr => ∃ kk : Nat, kk ≤ ps.length ∧ ps.length - kk ≤ gg ∧ s103 = .int .i64 kk ∧ Aside0 (Below wa.heap.size wa wr))
  case atStart => exact ⟨0, Nat.zero_le _, by omega, rfl, ⟨Below.refl _ _⟩⟩
  case round =>
   rename World => wr
   obtain ⟨kk, hkk, hg, rfl, HB⟩ := hrel
   have BPr := Aside0.mk (blk_below BP.out HB.out)
   have BDr := Aside0.mk (blk_below BD.out HB.out)
   have BRr := Aside0.mk (blk_below BR.out HB.out)
   have BOr := Aside0.mk (blk_below BO.out HB.out)
   have HQr := Aside0.mk (HQa.out.trans (HB.out.mono HQa.out.size))
   have hsr := HB.out.size
   by_cases hlt : kk < ps.length
   ·have hltz : (kk : Int) < (ps.length : Int) := by omega
    obtain ⟨ad2, e0, e1, e2, e3, e4, e5, hA2, hK2, hcells2, x0, x1, x2, x3, x4, x5⟩ := gett6 rfl (Kd.C_below HCp.out HQr.out) kk hlt
    cases hA2
    obtain ⟨xx, hxx⟩ : ∃ xx, ps[kk] = xx := ⟨_, rfl⟩
    rw [hxx] at hK2
    have HMx := Lib.hid (show xx ∈ ps by rw [← hxx]; exact List.getElem_mem hlt)
    have hFx := K_FK k58_heap hK2
    obtain ⟨Y1, y1, Y2, y2, Y5, y5, he2, _⟩ := k58_open hK2
    obtain ⟨rfl, rfl, rfl, rfl, rfl, rfl⟩ : e0 = _ ∧ e1 = _ ∧ e2 = _ ∧ e3 = _ ∧ e4 = _ ∧ e5 = _ := by simpa using he2
    obtain ⟨gx, hgx⟩ : ∃ gx, wr.heap.size = gx := ⟨_, rfl⟩
    obtain ⟨Wx, hWx⟩ : ∃ Wx, wr.alloc (.cells #[.string xx.f0, .slice Y1 xx.f1.length y1, .slice Y2 xx.f2.length y2, .int .i64 xx.f3.f0, .string xx.f3.f1, .slice Y5 xx.f3.f2.length y5] 58) = Wx := ⟨_, rfl⟩
    have qx : Below wr.heap.size wr Wx := by rw [← hWx]; exact below_alloc1 _ _
    have BX := Aside0.mk (show Wx.heap[gx]? = some (.cells #[.string xx.f0, .slice Y1 xx.f1.length y1, .slice Y2 xx.f2.length y2, .int .i64 xx.f3.f0, .string xx.f3.f1, .slice Y5 xx.f3.f2.length y5] 58 (0, 0)) by rw [← hWx, ← hgx]; exact alloc_at _ _)
    have HBx := Aside0.mk (HB.out.trans (qx.mono HB.out.size))
    have HFX := Lib.hid (Kd.FK_mono (Kd.FK_below hFx qx) (ok' := fun k => k < Wx.heap.size) (fun k hk => by have := qx.size; omega))
    have HFD := Lib.hid (Kd.FK_mono (Kd.FK_below HFdc.out (HQa.out.trans (HBx.out.mono HQa.out.size))) (ok' := fun k => k < Wx.heap.size) (fun k hk => by have := (HQa.out.trans (HBx.out.mono HQa.out.size)).size; omega))
    have hcl : dd.f2.length ≤ 10 := (bigD_ok (HOk.out.big dd HMem.out)).2.2.2.2.1
    have BDx := Aside0.mk (blk_below BDr.out qx)
    have BRx := Aside0.mk (blk_below BRr.out qx)
    have BOx := Aside0.mk (blk_below BOr.out qx)
    have BPx := Aside0.mk (blk_below BPr.out qx)
    -- what the definition calls
    obtain ⟨cb, hcb⟩ : ∃ cb, ls.any (fun x => decide (x = xx.f0)) = cb := ⟨_, rfl⟩
    have HCb := Lib.hid (show (bodiesD dd).any (anyE (callTo xx.f0)) = cb by
     rw [← hcb]
     refine Bool.eq_iff_iff.2 ?_
     rw [← calls_has, ← HLs.out]
     simp)
    have HBo := Lib.hid (c_lbodies dd _ (fun k => k < Wx.heap.size) Wx HFD.out (by omega))
    have HWx := Lib.hid hWx
    have hgxa := Nat.le_of_eq hgx
    have hgxb := Nat.le_of_eq hgx.symm
    clear hK2 he2 hcells2 hFx hWx qx hxx
    go_upto_region 13 with fail
    rw [HWx.out]
    clear HWx hgx x0 x1 x2 x3 x4 x5
    have d0 := (blk_cell BDx.out 0).trans rfl
    have d1 := (blk_cell BDx.out 1).trans rfl
    have d2 := (blk_cell BDx.out 2).trans rfl
    have d3 := (blk_cell BDx.out 3).trans rfl
    have d4 := (blk_cell BDx.out 4).trans rfl
    have d5 := (blk_cell BDx.out 5).trans rfl
    go_wp2_with fail
    refine HBo.out.mono ?_
    rintro en wb ⟨v, rfl, hN, hb⟩
    obtain ⟨Ae, ce, rfl, hce, hCe⟩ := RowN.reads hN (fun k hk hlt => hb.block k hlt)
    have HHa := Lib.hid (show Calls Try.prog 10 #[.slice Ae (bodiesD dd).length ce, .func (.func 38) #[] #[.pointer (some ⟨gx, 0, none⟩)]] wb (fun en W' => en = .returned (.bool cb) ∧ Below wb.heap.size wb W') from
     (hasE_p Ae ce (bodiesD dd) wb hce hCe 38 #[.pointer (some ⟨gx, 0, none⟩)] (enters_of Try.func38 (by kernel_rfl) rfl) (anyE (callTo xx.f0)) (fun y cy W2 hy hKy hb2 => c_Mad1 y cy gx xx.f0 _ _ _ _ _ W2 hKy (blk_below (blk_below BX.out hb) hb2))).mono (by
      rintro en W' ⟨rfl, hb⟩
      exact ⟨by rw [HCb.out], hb⟩))
    have HBb := Aside0.mk (HBx.out.trans (hb.mono HBx.out.size))
    have HXb := Aside0.mk hb
    have BXb := Aside0.mk (blk_below BX.out hb)
    clear d0 d1 d2 d3 d4 d5 hb hN hCe HBo
    go_wp2_with fail
    refine HHa.out.mono ?_
    rintro en w13 ⟨rfl, hb⟩
    have HB13 := Aside0.mk (HBb.out.trans (hb.mono HBb.out.size))
    have HX13 := Aside0.mk (HXb.out.trans (hb.mono HXb.out.size))
    have BX13 := Aside0.mk (blk_below BXb.out hb)
    have HCo13 := Lib.hid (c_ContS Al cl ls xx.f0 w13 (Kd.C_below HCl.out HB13.out) hcll)
    rw [hcb] at HCo13
    clear hb HHa
    have x0 := (blk_cell BX13.out 0).trans rfl
    have tcb : (cb != cb) = false := by simp
    go_wp2_with fail
    refine HCo13.out.mono ?_
    rintro en w14 ⟨rfl, hw⟩
    have hw := hw.symm
    subst hw
    -- where it is among what is reached
    have BR13 := Aside0.mk (blk_below BR.out HB13.out)
    have HQ13 := Aside0.mk (HQa.out.trans (HB13.out.mono HQa.out.size))
    have BP13 := Aside0.mk (blk_below BP.out HB13.out)
    have HIx := Lib.hid (c_IndexS (some ar) cr rs xx.f0 w13 (Kd.C_below HCr.out HB13.out) hcr)
    obtain ⟨at_, hat⟩ : ∃ at_, idxB (fun x => decide (x = xx.f0)) rs = at_ := ⟨_, rfl⟩
    rw [hat] at HIx
    have HAt := Lib.hid hat
    clear hat HCo13 tcb hcb
    have kR := (blk_cell BR13.out 0).trans rfl
    go_wp2_with fail
    refine HIx.out.mono ?_
    rintro en w14 ⟨rfl, hw⟩
    have hw := hw.symm
    subst hw
    -- what it calls
    have HXn := Lib.hid (show 0 ≤ numD ps xx.f0 by obtain ⟨k, h1, _⟩ := numD_here HNd.out HMx.out; omega)
    have hCb := Lib.hid (HCa.out xx.f0 HXn.out w13 HQ13.out)
    obtain ⟨bs, hbs⟩ : ∃ bs, callsOf ps xx.f0 = bs := ⟨_, rfl⟩
    rw [hbs] at hCb
    have HBs := Lib.hid hbs
    have kP := (blk_cell BP13.out 0).trans rfl
    clear hbs HIx kR
    go_wp2_with fail
    refine hCb.out.mono ?_
    rintro en w17 ⟨Ab, cb2, rfl, hcb2, hCb2, hb⟩
    have HB17 := Aside0.mk (HB13.out.trans (hb.mono HB13.out.size))
    have HX17 := Aside0.mk (HX13.out.trans (hb.mono HX13.out.size))
    have BX17 := Aside0.mk (blk_below BX13.out hb)
    have BR17 := Aside0.mk (blk_below BR13.out hb)
    have BP17 := Aside0.mk (blk_below BP13.out hb)
    have BO17 := Aside0.mk (blk_below BO.out HB17.out)
    have HCb2 := Aside0.mk hCb2
    clear hb hCb2 hCb kP x0
    by_cases hm : xx.f0 ∈ rs
    ·obtain ⟨j, hj1, hj2⟩ := idx_at hm
     rw [HAt.out] at hj1
     subst hj1
     have hjl := (List.getElem?_eq_some_iff.1 hj2).1
     have HJ := Lib.hid hj2
     have hj0 : (0 : Int) ≤ (j : Int) := by omega
     have HHb := Lib.hid (show Calls Try.prog 42 #[.slice Ab bs.length cb2, .func (.func 43) #[] #[.pointer (some ⟨gr, 0, none⟩)]] w17 (fun en W' => en = .returned (.bool false) ∧ Below w17.heap.size w17 W') from
      (hasS_p Ab cb2 bs w17 hcb2 HCb2.out 43 #[.pointer (some ⟨gr, 0, none⟩)] (enters_of Try.func43 (by kernel_rfl) rfl) (fun s => !memB s rs) (fun y cy W2 hy hKy hb2 => c_Mad2 y gr (some ar) cr rs W2 (Kd.C_below HCr.out (HB17.out.trans (hb2.mono HB17.out.size))) hcr (blk_below BR17.out hb2))).mono (by
       rintro en W' ⟨rfl, hb⟩
       refine ⟨?_, hb⟩
       rw [show bs.any (fun s => !memB s rs) = false from List.any_eq_false.2 fun y hy => by
        rw [memB_iff.2 (HRn.out.all hm y (by rw [HBs.out]; exact hy))]; simp]))
     clear hj2
     go_wp2_with fail
     refine HHb.out.mono ?_
     rintro en w18 ⟨rfl, hb⟩
     have HB18 := Aside0.mk (HB17.out.trans (hb.mono HB17.out.size))
     have HX18 := Aside0.mk (HX17.out.trans (hb.mono HX17.out.size))
     have BX18 := Aside0.mk (blk_below BX17.out hb)
     have BR18 := Aside0.mk (blk_below BR17.out hb)
     have BP18 := Aside0.mk (blk_below BP17.out hb)
     have BO18 := Aside0.mk (blk_below BO17.out hb)
     clear hb HHb
     by_cases hj : 0 < j
     ·have hjz : (0 : Int) < (j : Int) := by omega
      have HQ18 := Aside0.mk (HQa.out.trans (HB18.out.mono HQa.out.size))
      have hjr : (j : Int) ≤ (rs.length : Int) := by omega
      have hjc : (j : Int) ≤ (cr : Int) := by omega
      have HHt := Lib.hid (show Calls Try.prog 42 #[.slice (some ar) j cr, .func (.func 44) #[] #[.pointer (some ⟨gp, 0, none⟩), .pointer (some ⟨gx, 0, none⟩)]] w18 (fun en W' => en = .returned (.bool true) ∧ Below w18.heap.size w18 W') from by
       have hlt : (rs.take j).length = j := by rw [List.length_take]; omega
       have h1 := hasS_p (some ar) cr (rs.take j) w18 (by omega) (Kd.C_take (m := j) (Kd.C_below HCr.out HB18.out) (by omega)) 44 #[.pointer (some ⟨gp, 0, none⟩), .pointer (some ⟨gx, 0, none⟩)] (enters_of Try.func44 (by kernel_rfl) rfl) (fun s => memB xx.f0 (callsOf ps s)) (fun y cy W2 hy hKy hb2 => c_Mad3 HCh.out HNd.out HOp.out hcp y xx.f0 gp gx _ _ _ _ _ W2 (Kd.C_below HCp.out (HQ18.out.trans (hb2.mono HQ18.out.size))) (HRn.out.known y (List.mem_of_mem_take hy)) (blk_below BP18.out hb2) (blk_below BX18.out hb2))
       rw [hlt] at h1
       refine h1.mono ?_
       rintro en W' ⟨rfl, hb⟩
       refine ⟨?_, hb⟩
       obtain ⟨k, s, hk1, hk2, hk3⟩ := HRn.out.least j xx.f0 hj HJ.out
       rw [List.any_eq_true.2 ⟨s, List.mem_of_getElem? (show (rs.take j)[k]? = some s by rw [List.getElem?_take, if_pos hk1]; exact hk2), memB_iff.2 hk3⟩])
      have kR := (blk_cell BR18.out 0).trans rfl
      go_wp2_with fail
      refine HHt.out.mono ?_
      rintro en w20 ⟨rfl, hb⟩
      have HB20 := Aside0.mk (HB18.out.trans (hb.mono HB18.out.size))
      have HX20 := Aside0.mk (HX18.out.trans (hb.mono HX18.out.size))
      have BX20 := Aside0.mk (blk_below BX18.out hb)
      have BO20 := Aside0.mk (blk_below BO18.out hb)
      clear hb HHt kR
      obtain ⟨n2, hn1, hn2⟩ := HOf.out xx HMx.out hm
      have hnl := (List.getElem?_eq_some_iff.1 hn2).1
      have hne : os[n2] = xx := by rw [List.getElem?_eq_getElem hnl] at hn2; exact Option.some.inj hn2
      have HFi := Lib.hid (show Calls Try.prog 45 #[.agg #[.slice Ao os.length co], .string xx.f0] w20 (fun en w' => en = .returned (.tuple #[.int .i64 (n2 : Int), .int .i64 0]) ∧ Below (w20).heap.size w20 w') by
       have h1 := c_Find os Ao co xx.f0 w20 (Kd.C_below HCo.out (HB20).out) hco (okP_of (by omega) HOb.out)
       rw [hn1] at h1
       exact h1)
      have kO := (blk_cell (BO20).out 0).trans rfl
      have x0 := (blk_cell (BX20).out 0).trans rfl
      go_wp2_with fail
      refine HFi.out.mono ?_
      rintro en w22 ⟨rfl, hb⟩
      have HB22 := Aside0.mk ((HB20).out.trans (hb.mono (HB20).out.size))
      have hbF := hb
      have BX22 := Aside0.mk (blk_below (BX20).out hb)
      have BO22 := Aside0.mk (blk_below (BO20).out hb)
      clear hb HFi kO x0 hn1 hn2
      obtain ⟨X, hX⟩ : ∃ X, w22.drew = X := ⟨_, rfl⟩
      have qX : Below w22.heap.size w22 X := by rw [← hX]; exact below_drew (Below.refl _ _)
      have HWr := Aside0.mk (HB22.out.trans (qX.mono HB22.out.size))
      have BX23 := Aside0.mk (blk_below BX22.out qX)
      have BO23 := Aside0.mk (blk_below BO22.out qX)
      obtain ⟨ao, g0, g1, g2, g3, g4, g5, rfl, hK, hcells, z0, z1_, z2_, z3, z4, z5_⟩ := gett6 rfl (Kd.C_below HCo.out HWr.out) n2 hnl
      rw [hne] at hK
      have hFu := K_FK k58_heap hK
      obtain ⟨V1, v1, V2, v2, V5, v5, he, _⟩ := k58_open hK
      obtain ⟨rfl, rfl, rfl, rfl, rfl, rfl⟩ : g0 = _ ∧ g1 = _ ∧ g2 = _ ∧ g3 = _ ∧ g4 = _ ∧ g5 = _ := by simpa using he
      have hSd : (fun W : World => (MeS go gx (ao.add (n2 * 6)) (.slice (some ao) os.length co) (.string xx.f0) (.slice V1 xx.f1.length v1) (.slice V2 xx.f2.length v2) (.int .i64 xx.f3.f0) (.string xx.f3.f1) (.slice V5 xx.f3.f2.length v5) (.string xx.f0) (.slice Y1 xx.f1.length y1) (.slice Y2 xx.f2.length y2) (.int .i64 xx.f3.f0) (.string xx.f3.f1) (.slice Y5 xx.f3.f2.length y5)) W) X := ⟨(blk_cell BO23.out 0).trans rfl, z0, z1_, z2_, z3, z4, z5_, (blk_cell BX23.out 0).trans rfl, (blk_cell BX23.out 1).trans rfl, (blk_cell BX23.out 2).trans rfl, (blk_cell BX23.out 3).trans rfl, (blk_cell BX23.out 4).trans rfl, (blk_cell BX23.out 5).trans rfl⟩
      have HFU := Aside0.mk hFu
      have HFX2 := Aside0.mk (Kd.FK_below HFX.out (show Below Wx.heap.size Wx X from (HX20.out).trans ((hbF.trans (qX.mono hbF.size)).mono (HX20.out).size)))
      have HSx := Lib.hid (show ∀ d ∈ [xx], szE d.f3 < 1000000 ∧ ∀ c ∈ d.f2, szE c.f2 < 1000000 from fun d hd => by rw [List.mem_singleton.1 hd]; exact same_small2 (HOk.out.big xx HMx.out))
      have hn2z : ¬ ((n2 : Int) < 0) := by omega
      have hn2l : decide ((os.length : Int) ≤ (n2 : Int)) = false := decide_eq_false (by omega)
      have hn2n : decide (os.length ≤ n2) = false := decide_eq_false (by omega)
      have hn2b : (n2 : Int) < (os.length : Int) := by omega
      have hn2c : (0 : Int) ≤ (n2 : Int) := by omega
      clear hK hcells he z0 z1_ z2_ z3 z4 z5_ hne hFu qX hbF
      go_upto_region 23 with fail
      refine wp_region_K (S := fun W : World => MeS go gx (ao.add (n2 * 6)) (.slice (some ao) os.length co) (.string xx.f0) (.slice V1 xx.f1.length v1) (.slice V2 xx.f2.length v2) (.int .i64 xx.f3.f0) (.string xx.f3.f1) (.slice V5 xx.f3.f2.length v5) (.string xx.f0) (.slice Y1 xx.f1.length y1) (.slice Y2 xx.f2.length y2) (.int .i64 xx.f3.f0) (.string xx.f3.f1) (.slice Y5 xx.f3.f2.length y5) W) (k := 99) (by kernel_rfl) ?_
      change wpAnyK _ _ _ _ _ _ 34 (Array.replicate 34 false) _ _
      rw [hX]
      clear hX
      refine wpAnyK_takeS (i := 0) (v := ?_) rfl (by kernel_rfl) (by kernel_rfl) (by kernel_rfl) (by kernel_rfl) (fun _ _ _ h => h) hSd (Or.inl ⟨by rfl, ?_⟩) ?_
      rotate_left 1
      (intro w hSw; (try dsimp only at hSw); go_simp; try (with_reducible rfl))
      (try simp only [List.getElem_toArray, List.getElem_cons_succ, List.getElem_cons_zero]); (try dsimp only [Act.put]); (try simp only [List.setIfInBounds_toArray, List.set_cons_zero, List.set_cons_succ])
      refine wpAnyK_takeS (i := 1) (v := ?_) rfl (by kernel_rfl) (by kernel_rfl) (by kernel_rfl) (by kernel_rfl) (fun _ _ _ h => h) hSd (Or.inl ⟨by rfl, ?_⟩) ?_
      rotate_left 1
      (intro w hSw; (try dsimp only at hSw); go_simp; try (with_reducible rfl))
      (try simp only [List.getElem_toArray, List.getElem_cons_succ, List.getElem_cons_zero]); (try dsimp only [Act.put]); (try simp only [List.setIfInBounds_toArray, List.set_cons_zero, List.set_cons_succ])
      refine wpAnyK_takeS (i := 2) (v := ?_) rfl (by kernel_rfl) (by kernel_rfl) (by kernel_rfl) (by kernel_rfl) (fun _ _ _ h => h) hSd (Or.inl ⟨by rfl, ?_⟩) ?_
      rotate_left 1
      (intro w hSw; (try dsimp only at hSw); go_simp; try (with_reducible rfl))
      (try simp only [List.getElem_toArray, List.getElem_cons_succ, List.getElem_cons_zero]); (try dsimp only [Act.put]); (try simp only [List.setIfInBounds_toArray, List.set_cons_zero, List.set_cons_succ])
      refine wpAnyK_takeS (i := 3) (v := ?_) rfl (by kernel_rfl) (by kernel_rfl) (by kernel_rfl) (by kernel_rfl) (fun _ _ _ h => h) hSd (Or.inl ⟨by rfl, ?_⟩) ?_
      rotate_left 1
      (intro w hSw; (try dsimp only at hSw); go_simp; try (with_reducible rfl))
      (try simp only [List.getElem_toArray, List.getElem_cons_succ, List.getElem_cons_zero]); (try dsimp only [Act.put]); (try simp only [List.setIfInBounds_toArray, List.set_cons_zero, List.set_cons_succ])
      refine wpAnyK_takeS (i := 4) (v := ?_) rfl (by kernel_rfl) (by kernel_rfl) (by kernel_rfl) (by kernel_rfl) (fun _ _ _ h => h) hSd (Or.inl ⟨by rfl, ?_⟩) ?_
      rotate_left 1
      (intro w hSw; (try dsimp only at hSw); go_simp; try (with_reducible rfl))
      (try simp only [List.getElem_toArray, List.getElem_cons_succ, List.getElem_cons_zero]); (try dsimp only [Act.put]); (try simp only [List.setIfInBounds_toArray, List.set_cons_zero, List.set_cons_succ])
      refine wpAnyK_takeS (i := 5) (v := ?_) rfl (by kernel_rfl) (by kernel_rfl) (by kernel_rfl) (by kernel_rfl) (fun _ _ _ h => h) hSd (Or.inl ⟨by rfl, ?_⟩) ?_
      rotate_left 1
      (intro w hSw; (try dsimp only at hSw); go_simp; try (with_reducible rfl))
      (try simp only [List.getElem_toArray, List.getElem_cons_succ, List.getElem_cons_zero]); (try dsimp only [Act.put]); (try simp only [List.setIfInBounds_toArray, List.set_cons_zero, List.set_cons_succ])
      refine wpAnyK_takeS (i := 6) (v := ?_) rfl (by kernel_rfl) (by kernel_rfl) (by kernel_rfl) (by kernel_rfl) (fun _ _ _ h => h) hSd (Or.inl ⟨by rfl, ?_⟩) ?_
      rotate_left 1
      (intro w hSw; (try dsimp only at hSw); go_simp; try (with_reducible rfl))
      (try simp only [List.getElem_toArray, List.getElem_cons_succ, List.getElem_cons_zero]); (try dsimp only [Act.put]); (try simp only [List.setIfInBounds_toArray, List.set_cons_zero, List.set_cons_succ])
      refine wpAnyK_takeS (i := 7) (v := ?_) rfl (by kernel_rfl) (by kernel_rfl) (by kernel_rfl) (by kernel_rfl) (fun _ _ _ h => h) hSd (Or.inl ⟨by rfl, ?_⟩) ?_
      rotate_left 1
      (intro w hSw; (try dsimp only at hSw); go_simp; try (with_reducible rfl))
      (try simp only [List.getElem_toArray, List.getElem_cons_succ, List.getElem_cons_zero]); (try dsimp only [Act.put]); (try simp only [List.setIfInBounds_toArray, List.set_cons_zero, List.set_cons_succ])
      refine wpAnyK_takeS (i := 8) (v := ?_) rfl (by kernel_rfl) (by kernel_rfl) (by kernel_rfl) (by kernel_rfl) (fun _ _ _ h => h) hSd (Or.inl ⟨by rfl, ?_⟩) ?_
      rotate_left 1
      (intro w hSw; (try dsimp only at hSw); go_simp; try (with_reducible rfl))
      (try simp only [List.getElem_toArray, List.getElem_cons_succ, List.getElem_cons_zero]); (try dsimp only [Act.put]); (try simp only [List.setIfInBounds_toArray, List.set_cons_zero, List.set_cons_succ])
      refine wpAnyK_takeS (i := 9) (v := ?_) rfl (by kernel_rfl) (by kernel_rfl) (by kernel_rfl) (by kernel_rfl) (fun _ _ _ h => h) hSd (Or.inl ⟨by rfl, ?_⟩) ?_
      rotate_left 1
      (intro w hSw; (try dsimp only at hSw); go_simp; try (with_reducible rfl))
      (try simp only [List.getElem_toArray, List.getElem_cons_succ, List.getElem_cons_zero]); (try dsimp only [Act.put]); (try simp only [List.setIfInBounds_toArray, List.set_cons_zero, List.set_cons_succ])
      refine wpAnyK_takeS (i := 10) (v := ?_) rfl (by kernel_rfl) (by kernel_rfl) (by kernel_rfl) (by kernel_rfl) (fun _ _ _ h => h) hSd (Or.inl ⟨by rfl, ?_⟩) ?_
      rotate_left 1
      (intro w hSw; (try dsimp only at hSw); go_simp; try (with_reducible rfl))
      (try simp only [List.getElem_toArray, List.getElem_cons_succ, List.getElem_cons_zero]); (try dsimp only [Act.put]); (try simp only [List.setIfInBounds_toArray, List.set_cons_zero, List.set_cons_succ])
      refine wpAnyK_takeS (i := 11) (v := ?_) rfl (by kernel_rfl) (by kernel_rfl) (by kernel_rfl) (by kernel_rfl) (fun _ _ _ h => h) hSd (Or.inl ⟨by rfl, ?_⟩) ?_
      rotate_left 1
      (intro w hSw; (try dsimp only at hSw); go_simp; try (with_reducible rfl))
      (try simp only [List.getElem_toArray, List.getElem_cons_succ, List.getElem_cons_zero]); (try dsimp only [Act.put]); (try simp only [List.setIfInBounds_toArray, List.set_cons_zero, List.set_cons_succ])
      refine wpAnyK_takeS (i := 12) (v := ?_) rfl (by kernel_rfl) (by kernel_rfl) (by kernel_rfl) (by kernel_rfl) (fun _ _ _ h => h) hSd (Or.inl ⟨by rfl, ?_⟩) ?_
      rotate_left 1
      (intro w hSw; (try dsimp only at hSw); go_simp; try (with_reducible rfl))
      (try simp only [List.getElem_toArray, List.getElem_cons_succ, List.getElem_cons_zero]); (try dsimp only [Act.put]); (try simp only [List.setIfInBounds_toArray, List.set_cons_zero, List.set_cons_succ])
      refine wpAnyK_takeS (i := 13) (v := ?_) rfl (by kernel_rfl) (by kernel_rfl) (by kernel_rfl) (by kernel_rfl) (fun _ _ _ h => h) hSd (Or.inl ⟨by rfl, ?_⟩) ?_
      rotate_left 1
      (intro w hSw; (try dsimp only at hSw); go_simp; try (with_reducible rfl))
      (try simp only [List.getElem_toArray, List.getElem_cons_succ, List.getElem_cons_zero]); (try dsimp only [Act.put]); (try simp only [List.setIfInBounds_toArray, List.set_cons_zero, List.set_cons_succ])
      refine wpAnyK_takeS (i := 14) (v := ?_) rfl (by kernel_rfl) (by kernel_rfl) (by kernel_rfl) (by kernel_rfl) (fun _ _ _ h => h) hSd (Or.inl ⟨by rfl, ?_⟩) ?_
      rotate_left 1
      (intro w hSw; (try dsimp only at hSw); go_simp; try (with_reducible rfl))
      (try simp only [List.getElem_toArray, List.getElem_cons_succ, List.getElem_cons_zero]); (try dsimp only [Act.put]); (try simp only [List.setIfInBounds_toArray, List.set_cons_zero, List.set_cons_succ])
      refine wpAnyK_takeS (i := 15) (v := ?_) rfl (by kernel_rfl) (by kernel_rfl) (by kernel_rfl) (by kernel_rfl) (fun _ _ _ h => h) hSd (Or.inl ⟨by rfl, ?_⟩) ?_
      rotate_left 1
      (intro w hSw; (try dsimp only at hSw); go_simp; try (with_reducible rfl))
      (try simp only [List.getElem_toArray, List.getElem_cons_succ, List.getElem_cons_zero]); (try dsimp only [Act.put]); (try simp only [List.setIfInBounds_toArray, List.set_cons_zero, List.set_cons_succ])
      refine wpAnyK_takeS (i := 16) (v := ?_) rfl (by kernel_rfl) (by kernel_rfl) (by kernel_rfl) (by kernel_rfl) (fun _ _ _ h => h) hSd (Or.inl ⟨by rfl, ?_⟩) ?_
      rotate_left 1
      (intro w hSw; (try dsimp only at hSw); go_simp; try (with_reducible rfl))
      (try simp only [List.getElem_toArray, List.getElem_cons_succ, List.getElem_cons_zero]); (try dsimp only [Act.put]); (try simp only [List.setIfInBounds_toArray, List.set_cons_zero, List.set_cons_succ])
      refine wpAnyK_takeS (i := 17) (v := ?_) rfl (by kernel_rfl) (by kernel_rfl) (by kernel_rfl) (by kernel_rfl) (fun _ _ _ h => h) hSd (Or.inl ⟨by rfl, ?_⟩) ?_
      rotate_left 1
      (intro w hSw; (try dsimp only at hSw); go_simp; try (with_reducible rfl))
      (try simp only [List.getElem_toArray, List.getElem_cons_succ, List.getElem_cons_zero]); (try dsimp only [Act.put]); (try simp only [List.setIfInBounds_toArray, List.set_cons_zero, List.set_cons_succ])
      refine wpAnyK_takeS (i := 18) (v := ?_) rfl (by kernel_rfl) (by kernel_rfl) (by kernel_rfl) (by kernel_rfl) (fun _ _ _ h => h) hSd (Or.inl ⟨by rfl, ?_⟩) ?_
      rotate_left 1
      (intro w hSw; (try dsimp only at hSw); go_simp; try (with_reducible rfl))
      (try simp only [List.getElem_toArray, List.getElem_cons_succ, List.getElem_cons_zero]); (try dsimp only [Act.put]); (try simp only [List.setIfInBounds_toArray, List.set_cons_zero, List.set_cons_succ])
      refine wpAnyK_takeS (i := 19) (v := ?_) rfl (by kernel_rfl) (by kernel_rfl) (by kernel_rfl) (by kernel_rfl) (fun _ _ _ h => h) hSd (Or.inl ⟨by rfl, ?_⟩) ?_
      rotate_left 1
      (intro w hSw; (try dsimp only at hSw); go_simp; try (with_reducible rfl))
      (try simp only [List.getElem_toArray, List.getElem_cons_succ, List.getElem_cons_zero]); (try dsimp only [Act.put]); (try simp only [List.setIfInBounds_toArray, List.set_cons_zero, List.set_cons_succ])
      refine wpAnyK_takeS (i := 20) (v := ?_) rfl (by kernel_rfl) (by kernel_rfl) (by kernel_rfl) (by kernel_rfl) (fun _ _ _ h => h) hSd (Or.inl ⟨by rfl, ?_⟩) ?_
      rotate_left 1
      (intro w hSw; (try dsimp only at hSw); go_simp; try (with_reducible rfl))
      (try simp only [List.getElem_toArray, List.getElem_cons_succ, List.getElem_cons_zero]); (try dsimp only [Act.put]); (try simp only [List.setIfInBounds_toArray, List.set_cons_zero, List.set_cons_succ])
      refine wpAnyK_takeS (i := 21) (v := ?_) rfl (by kernel_rfl) (by kernel_rfl) (by kernel_rfl) (by kernel_rfl) (fun _ _ _ h => h) hSd (Or.inl ⟨by rfl, ?_⟩) ?_
      rotate_left 1
      (intro w hSw; (try dsimp only at hSw); go_simp; try (with_reducible rfl))
      (try simp only [List.getElem_toArray, List.getElem_cons_succ, List.getElem_cons_zero]); (try dsimp only [Act.put]); (try simp only [List.setIfInBounds_toArray, List.set_cons_zero, List.set_cons_succ])
      refine wpAnyK_takeS (i := 22) (v := ?_) rfl (by kernel_rfl) (by kernel_rfl) (by kernel_rfl) (by kernel_rfl) (fun _ _ _ h => h) hSd (Or.inl ⟨by rfl, ?_⟩) ?_
      rotate_left 1
      (intro w hSw; (try dsimp only at hSw); go_simp; try (with_reducible rfl))
      (try simp only [List.getElem_toArray, List.getElem_cons_succ, List.getElem_cons_zero]); (try dsimp only [Act.put]); (try simp only [List.setIfInBounds_toArray, List.set_cons_zero, List.set_cons_succ])
      refine wpAnyK_takeS (i := 23) (v := ?_) rfl (by kernel_rfl) (by kernel_rfl) (by kernel_rfl) (by kernel_rfl) (fun _ _ _ h => h) hSd (Or.inl ⟨by rfl, ?_⟩) ?_
      rotate_left 1
      (intro w hSw; (try dsimp only at hSw); go_simp; try (with_reducible rfl))
      (try simp only [List.getElem_toArray, List.getElem_cons_succ, List.getElem_cons_zero]); (try dsimp only [Act.put]); (try simp only [List.setIfInBounds_toArray, List.set_cons_zero, List.set_cons_succ])
      refine wpAnyK_takeS (i := 26) (v := ?_) rfl (by kernel_rfl) (by kernel_rfl) (by kernel_rfl) (by kernel_rfl) (fun _ _ _ h => h) hSd (Or.inl ⟨by rfl, ?_⟩) ?_
      rotate_left 1
      (intro w hSw; (try dsimp only at hSw); go_simp; try (with_reducible rfl))
      (try simp only [List.getElem_toArray, List.getElem_cons_succ, List.getElem_cons_zero]); (try dsimp only [Act.put]); (try simp only [List.setIfInBounds_toArray, List.set_cons_zero, List.set_cons_succ])
      refine wpAnyK_two (i := 24) (j := 27) (by kernel_rfl) rfl rfl (fun K hK => ?_) (fun K hK => ?_)
      ·skip
       go_simp
       obtain ⟨X1, hY⟩ : ∃ X1, X.alloc (.cells #[.string xx.f0, .slice V1 xx.f1.length v1, .slice V2 xx.f2.length v2, .int .i64 xx.f3.f0, .string xx.f3.f1, .slice V5 xx.f3.f2.length v5] 58) = X1 := ⟨_, rfl⟩
       obtain ⟨p24, hp24⟩ : ∃ p24, X.heap.size = p24 := ⟨_, rfl⟩
       have hb : Below X.heap.size X X1 := by rw [← hY]; exact below_alloc1 _ _
       have VU := Aside0.mk (show Kd.F k58 X1 (fun _ => True) (some ⟨p24, 0, none⟩) 1 [xx] by rw [← hY, ← hp24]; exact F_lit1 (W := X) (ok := fun _ => True) trivial 58 (Kd.FK_mono HFU.out (fun _ _ => trivial)) rfl)
       have HFX2 := Aside0.mk (Kd.FK_below HFX2.out hb)
       have HWr := Aside0.mk (HWr.out.trans (hb.mono HWr.out.size))
       have hSd : (fun W : World => MeS go gx (ao.add (n2 * 6)) (.slice (some ao) os.length co) (.string xx.f0) (.slice V1 xx.f1.length v1) (.slice V2 xx.f2.length v2) (.int .i64 xx.f3.f0) (.string xx.f3.f1) (.slice V5 xx.f3.f2.length v5) (.string xx.f0) (.slice Y1 xx.f1.length y1) (.slice Y2 xx.f2.length y2) (.int .i64 xx.f3.f0) (.string xx.f3.f1) (.slice Y5 xx.f3.f2.length y5) W) X1 := MeS.step hSd hb
       rw [hY, hp24]
       clear hb hY hp24
       refine hK.out _ _ (fun _ => hSd) ?_
       clear hK
       refine wpAnyK_takeS (i := 25) (v := ?_) rfl (by kernel_rfl) (by kernel_rfl) (by kernel_rfl) (by kernel_rfl) (fun _ _ _ h => h) hSd (Or.inl ⟨by rfl, ?_⟩) ?_
       rotate_left 1
       (intro w hSw; (try dsimp only at hSw); go_simp; try (with_reducible rfl))
       (try simp only [List.getElem_toArray, List.getElem_cons_succ, List.getElem_cons_zero]); (try dsimp only [Act.put]); (try simp only [List.setIfInBounds_toArray, List.set_cons_zero, List.set_cons_succ])
       refine wpAnyK_one (i := 27) (by kernel_rfl) rfl (fun K hK => ?_)
       go_simp
       obtain ⟨X2, hY⟩ : ∃ X2, X1.alloc (.cells #[.string xx.f0, .slice Y1 xx.f1.length y1, .slice Y2 xx.f2.length y2, .int .i64 xx.f3.f0, .string xx.f3.f1, .slice Y5 xx.f3.f2.length y5] 58) = X2 := ⟨_, rfl⟩
       obtain ⟨p27, hp27⟩ : ∃ p27, X1.heap.size = p27 := ⟨_, rfl⟩
       have hb : Below X1.heap.size X1 X2 := by rw [← hY]; exact below_alloc1 _ _
       have VY := Aside0.mk (show Kd.F k58 X2 (fun _ => True) (some ⟨p27, 0, none⟩) 1 [xx] by rw [← hY, ← hp27]; exact F_lit1 (W := X1) (ok := fun _ => True) trivial 58 (Kd.FK_mono HFX2.out (fun _ _ => trivial)) rfl)
       have VU := Aside0.mk (Kd.F_below VU.out hb)
       have HWr := Aside0.mk (HWr.out.trans (hb.mono HWr.out.size))
       have hSd : (fun W : World => MeS go gx (ao.add (n2 * 6)) (.slice (some ao) os.length co) (.string xx.f0) (.slice V1 xx.f1.length v1) (.slice V2 xx.f2.length v2) (.int .i64 xx.f3.f0) (.string xx.f3.f1) (.slice V5 xx.f3.f2.length v5) (.string xx.f0) (.slice Y1 xx.f1.length y1) (.slice Y2 xx.f2.length y2) (.int .i64 xx.f3.f0) (.string xx.f3.f1) (.slice Y5 xx.f3.f2.length y5) W) X2 := MeS.step hSd hb
       rw [hY, hp27]
       clear hb hY hp27
       refine hK.out _ _ (fun _ => hSd) ?_
       clear hK
       refine wpAnyK_takeS (i := 28) (v := ?_) rfl (by kernel_rfl) (by kernel_rfl) (by kernel_rfl) (by kernel_rfl) (fun _ _ _ h => h) hSd (Or.inl ⟨by rfl, ?_⟩) ?_
       rotate_left 1
       (intro w hSw; (try dsimp only at hSw); go_simp; try (with_reducible rfl))
       (try simp only [List.getElem_toArray, List.getElem_cons_succ, List.getElem_cons_zero]); (try dsimp only [Act.put]); (try simp only [List.setIfInBounds_toArray, List.set_cons_zero, List.set_cons_succ])
       refine wpAnyK_one (i := 29) (by kernel_rfl) rfl (fun K hK => ?_)
       go_simp
       go_at_call 46
       (with_reducible refine (show Calls Try.prog 46 #[.agg #[.slice (some ⟨p24, 0, none⟩) 1 1], .agg #[.slice (some ⟨p27, 0, none⟩) 1 1]] X2 (fun en w' => en = .returned (.bool true) ∧ Below X2.heap.size X2 w') from (c_Same [xx] [xx] (some ⟨p24, 0, none⟩) (some ⟨p27, 0, none⟩) 1 1 X2 (Kd.F_now VU.out) (Nat.le_refl _) (Kd.F_now VY.out) (Nat.le_refl _) HSx.out HSx.out).mono (by rintro en w' ⟨rfl, hb⟩; exact ⟨by rw [sameP_refl], hb⟩)).mono ?_)
       rintro e X3 ⟨rfl, hb⟩
       have HWr := Aside0.mk (HWr.out.trans (hb.mono HWr.out.size))
       have hSd : (fun W : World => MeS go gx (ao.add (n2 * 6)) (.slice (some ao) os.length co) (.string xx.f0) (.slice V1 xx.f1.length v1) (.slice V2 xx.f2.length v2) (.int .i64 xx.f3.f0) (.string xx.f3.f1) (.slice V5 xx.f3.f2.length v5) (.string xx.f0) (.slice Y1 xx.f1.length y1) (.slice Y2 xx.f2.length y2) (.int .i64 xx.f3.f0) (.string xx.f3.f1) (.slice Y5 xx.f3.f2.length y5) W) X3 := MeS.step hSd hb
       clear hb
       refine hK.out _ _ (fun _ => hSd) ?_
       clear hK
       refine wpAnyK_takeS (i := 30) (v := ?_) rfl (by kernel_rfl) (by kernel_rfl) (by kernel_rfl) (by kernel_rfl) (fun _ _ _ h => h) hSd (Or.inl ⟨by rfl, ?_⟩) ?_
       rotate_left 1
       (intro w hSw; (try dsimp only at hSw); go_simp; try (with_reducible rfl))
       (try simp only [List.getElem_toArray, List.getElem_cons_succ, List.getElem_cons_zero]); (try dsimp only [Act.put]); (try simp only [List.setIfInBounds_toArray, List.set_cons_zero, List.set_cons_succ])
       refine wpAnyK_takeS (i := 31) (v := ?_) rfl (by kernel_rfl) (by kernel_rfl) (by kernel_rfl) (by kernel_rfl) (fun _ _ _ h => h) hSd (Or.inl ⟨by rfl, ?_⟩) ?_
       rotate_left 1
       (intro w hSw; (try dsimp only at hSw); go_simp; try (with_reducible rfl))
       (try simp only [List.getElem_toArray, List.getElem_cons_succ, List.getElem_cons_zero]); (try dsimp only [Act.put]); (try simp only [List.setIfInBounds_toArray, List.set_cons_zero, List.set_cons_succ])
       refine wpAnyK_takeS (i := 32) (v := ?_) rfl (by kernel_rfl) (by kernel_rfl) (by kernel_rfl) (by kernel_rfl) (fun _ _ _ h => h) hSd (Or.inl ⟨by rfl, ?_⟩) ?_
       rotate_left 1
       (intro w hSw; (try dsimp only at hSw); go_simp; try (with_reducible rfl))
       (try simp only [List.getElem_toArray, List.getElem_cons_succ, List.getElem_cons_zero]); (try dsimp only [Act.put]); (try simp only [List.setIfInBounds_toArray, List.set_cons_zero, List.set_cons_succ])
       refine wpAnyK_takeS (i := 33) (v := ?_) rfl (by kernel_rfl) (by kernel_rfl) (by kernel_rfl) (by kernel_rfl) (fun _ _ _ h => h) hSd (Or.inl ⟨by rfl, ?_⟩) ?_
       rotate_left 1
       (intro w hSw; (try dsimp only at hSw); go_simp; try (with_reducible rfl))
       (try simp only [List.getElem_toArray, List.getElem_cons_succ, List.getElem_cons_zero]); (try dsimp only [Act.put]); (try simp only [List.setIfInBounds_toArray, List.set_cons_zero, List.set_cons_succ])
       clear hSd
       refine wpAnyK_done (by kernel_rfl) ?_ _
       go_wp2_with fail
       go_roundg (ps.length - (kk + 1))
       case measure => omega
       case rel => exact ⟨kk + 1, by omega, by omega, by go_num, HWr⟩
      ·skip
       go_simp
       obtain ⟨X1, hY⟩ : ∃ X1, X.alloc (.cells #[.string xx.f0, .slice Y1 xx.f1.length y1, .slice Y2 xx.f2.length y2, .int .i64 xx.f3.f0, .string xx.f3.f1, .slice Y5 xx.f3.f2.length y5] 58) = X1 := ⟨_, rfl⟩
       obtain ⟨p27, hp27⟩ : ∃ p27, X.heap.size = p27 := ⟨_, rfl⟩
       have hb : Below X.heap.size X X1 := by rw [← hY]; exact below_alloc1 _ _
       have VY := Aside0.mk (show Kd.F k58 X1 (fun _ => True) (some ⟨p27, 0, none⟩) 1 [xx] by rw [← hY, ← hp27]; exact F_lit1 (W := X) (ok := fun _ => True) trivial 58 (Kd.FK_mono HFX2.out (fun _ _ => trivial)) rfl)
       have HFU := Aside0.mk (Kd.FK_below HFU.out hb)
       have HWr := Aside0.mk (HWr.out.trans (hb.mono HWr.out.size))
       have hSd : (fun W : World => MeS go gx (ao.add (n2 * 6)) (.slice (some ao) os.length co) (.string xx.f0) (.slice V1 xx.f1.length v1) (.slice V2 xx.f2.length v2) (.int .i64 xx.f3.f0) (.string xx.f3.f1) (.slice V5 xx.f3.f2.length v5) (.string xx.f0) (.slice Y1 xx.f1.length y1) (.slice Y2 xx.f2.length y2) (.int .i64 xx.f3.f0) (.string xx.f3.f1) (.slice Y5 xx.f3.f2.length y5) W) X1 := MeS.step hSd hb
       rw [hY, hp27]
       clear hb hY hp27
       refine hK.out _ _ (fun _ => hSd) ?_
       clear hK
       refine wpAnyK_takeS (i := 28) (v := ?_) rfl (by kernel_rfl) (by kernel_rfl) (by kernel_rfl) (by kernel_rfl) (fun _ _ _ h => h) hSd (Or.inl ⟨by rfl, ?_⟩) ?_
       rotate_left 1
       (intro w hSw; (try dsimp only at hSw); go_simp; try (with_reducible rfl))
       (try simp only [List.getElem_toArray, List.getElem_cons_succ, List.getElem_cons_zero]); (try dsimp only [Act.put]); (try simp only [List.setIfInBounds_toArray, List.set_cons_zero, List.set_cons_succ])
       refine wpAnyK_one (i := 24) (by kernel_rfl) rfl (fun K hK => ?_)
       go_simp
       obtain ⟨X2, hY⟩ : ∃ X2, X1.alloc (.cells #[.string xx.f0, .slice V1 xx.f1.length v1, .slice V2 xx.f2.length v2, .int .i64 xx.f3.f0, .string xx.f3.f1, .slice V5 xx.f3.f2.length v5] 58) = X2 := ⟨_, rfl⟩
       obtain ⟨p24, hp24⟩ : ∃ p24, X1.heap.size = p24 := ⟨_, rfl⟩
       have hb : Below X1.heap.size X1 X2 := by rw [← hY]; exact below_alloc1 _ _
       have VU := Aside0.mk (show Kd.F k58 X2 (fun _ => True) (some ⟨p24, 0, none⟩) 1 [xx] by rw [← hY, ← hp24]; exact F_lit1 (W := X1) (ok := fun _ => True) trivial 58 (Kd.FK_mono HFU.out (fun _ _ => trivial)) rfl)
       have VY := Aside0.mk (Kd.F_below VY.out hb)
       have HWr := Aside0.mk (HWr.out.trans (hb.mono HWr.out.size))
       have hSd : (fun W : World => MeS go gx (ao.add (n2 * 6)) (.slice (some ao) os.length co) (.string xx.f0) (.slice V1 xx.f1.length v1) (.slice V2 xx.f2.length v2) (.int .i64 xx.f3.f0) (.string xx.f3.f1) (.slice V5 xx.f3.f2.length v5) (.string xx.f0) (.slice Y1 xx.f1.length y1) (.slice Y2 xx.f2.length y2) (.int .i64 xx.f3.f0) (.string xx.f3.f1) (.slice Y5 xx.f3.f2.length y5) W) X2 := MeS.step hSd hb
       rw [hY, hp24]
       clear hb hY hp24
       refine hK.out _ _ (fun _ => hSd) ?_
       clear hK
       refine wpAnyK_takeS (i := 25) (v := ?_) rfl (by kernel_rfl) (by kernel_rfl) (by kernel_rfl) (by kernel_rfl) (fun _ _ _ h => h) hSd (Or.inl ⟨by rfl, ?_⟩) ?_
       rotate_left 1
       (intro w hSw; (try dsimp only at hSw); go_simp; try (with_reducible rfl))
       (try simp only [List.getElem_toArray, List.getElem_cons_succ, List.getElem_cons_zero]); (try dsimp only [Act.put]); (try simp only [List.setIfInBounds_toArray, List.set_cons_zero, List.set_cons_succ])
       refine wpAnyK_one (i := 29) (by kernel_rfl) rfl (fun K hK => ?_)
       go_simp
       go_at_call 46
       (with_reducible refine (show Calls Try.prog 46 #[.agg #[.slice (some ⟨p24, 0, none⟩) 1 1], .agg #[.slice (some ⟨p27, 0, none⟩) 1 1]] X2 (fun en w' => en = .returned (.bool true) ∧ Below X2.heap.size X2 w') from (c_Same [xx] [xx] (some ⟨p24, 0, none⟩) (some ⟨p27, 0, none⟩) 1 1 X2 (Kd.F_now VU.out) (Nat.le_refl _) (Kd.F_now VY.out) (Nat.le_refl _) HSx.out HSx.out).mono (by rintro en w' ⟨rfl, hb⟩; exact ⟨by rw [sameP_refl], hb⟩)).mono ?_)
       rintro e X3 ⟨rfl, hb⟩
       have HWr := Aside0.mk (HWr.out.trans (hb.mono HWr.out.size))
       have hSd : (fun W : World => MeS go gx (ao.add (n2 * 6)) (.slice (some ao) os.length co) (.string xx.f0) (.slice V1 xx.f1.length v1) (.slice V2 xx.f2.length v2) (.int .i64 xx.f3.f0) (.string xx.f3.f1) (.slice V5 xx.f3.f2.length v5) (.string xx.f0) (.slice Y1 xx.f1.length y1) (.slice Y2 xx.f2.length y2) (.int .i64 xx.f3.f0) (.string xx.f3.f1) (.slice Y5 xx.f3.f2.length y5) W) X3 := MeS.step hSd hb
       clear hb
       refine hK.out _ _ (fun _ => hSd) ?_
       clear hK
       refine wpAnyK_takeS (i := 30) (v := ?_) rfl (by kernel_rfl) (by kernel_rfl) (by kernel_rfl) (by kernel_rfl) (fun _ _ _ h => h) hSd (Or.inl ⟨by rfl, ?_⟩) ?_
       rotate_left 1
       (intro w hSw; (try dsimp only at hSw); go_simp; try (with_reducible rfl))
       (try simp only [List.getElem_toArray, List.getElem_cons_succ, List.getElem_cons_zero]); (try dsimp only [Act.put]); (try simp only [List.setIfInBounds_toArray, List.set_cons_zero, List.set_cons_succ])
       refine wpAnyK_takeS (i := 31) (v := ?_) rfl (by kernel_rfl) (by kernel_rfl) (by kernel_rfl) (by kernel_rfl) (fun _ _ _ h => h) hSd (Or.inl ⟨by rfl, ?_⟩) ?_
       rotate_left 1
       (intro w hSw; (try dsimp only at hSw); go_simp; try (with_reducible rfl))
       (try simp only [List.getElem_toArray, List.getElem_cons_succ, List.getElem_cons_zero]); (try dsimp only [Act.put]); (try simp only [List.setIfInBounds_toArray, List.set_cons_zero, List.set_cons_succ])
       refine wpAnyK_takeS (i := 32) (v := ?_) rfl (by kernel_rfl) (by kernel_rfl) (by kernel_rfl) (by kernel_rfl) (fun _ _ _ h => h) hSd (Or.inl ⟨by rfl, ?_⟩) ?_
       rotate_left 1
       (intro w hSw; (try dsimp only at hSw); go_simp; try (with_reducible rfl))
       (try simp only [List.getElem_toArray, List.getElem_cons_succ, List.getElem_cons_zero]); (try dsimp only [Act.put]); (try simp only [List.setIfInBounds_toArray, List.set_cons_zero, List.set_cons_succ])
       refine wpAnyK_takeS (i := 33) (v := ?_) rfl (by kernel_rfl) (by kernel_rfl) (by kernel_rfl) (by kernel_rfl) (fun _ _ _ h => h) hSd (Or.inl ⟨by rfl, ?_⟩) ?_
       rotate_left 1
       (intro w hSw; (try dsimp only at hSw); go_simp; try (with_reducible rfl))
       (try simp only [List.getElem_toArray, List.getElem_cons_succ, List.getElem_cons_zero]); (try dsimp only [Act.put]); (try simp only [List.setIfInBounds_toArray, List.set_cons_zero, List.set_cons_succ])
       clear hSd
       refine wpAnyK_done (by kernel_rfl) ?_ _
       go_wp2_with fail
       go_roundg (ps.length - (kk + 1))
       case measure => omega
       case rel => exact ⟨kk + 1, by omega, by omega, by go_num, HWr⟩
     ·have hjz : ¬ ((0 : Int) < (j : Int)) := by omega
      obtain ⟨n2, hn1, hn2⟩ := HOf.out xx HMx.out hm
      have hnl := (List.getElem?_eq_some_iff.1 hn2).1
      have hne : os[n2] = xx := by rw [List.getElem?_eq_getElem hnl] at hn2; exact Option.some.inj hn2
      have HFi := Lib.hid (show Calls Try.prog 45 #[.agg #[.slice Ao os.length co], .string xx.f0] w18 (fun en w' => en = .returned (.tuple #[.int .i64 (n2 : Int), .int .i64 0]) ∧ Below (w18).heap.size w18 w') by
       have h1 := c_Find os Ao co xx.f0 w18 (Kd.C_below HCo.out (HB18).out) hco (okP_of (by omega) HOb.out)
       rw [hn1] at h1
       exact h1)
      have kO := (blk_cell (BO18).out 0).trans rfl
      have x0 := (blk_cell (BX18).out 0).trans rfl
      go_wp2_with fail
      refine HFi.out.mono ?_
      rintro en w22 ⟨rfl, hb⟩
      have HB22 := Aside0.mk ((HB18).out.trans (hb.mono (HB18).out.size))
      have hbF := hb
      have BX22 := Aside0.mk (blk_below (BX18).out hb)
      have BO22 := Aside0.mk (blk_below (BO18).out hb)
      clear hb HFi kO x0 hn1 hn2
      obtain ⟨X, hX⟩ : ∃ X, w22.drew = X := ⟨_, rfl⟩
      have qX : Below w22.heap.size w22 X := by rw [← hX]; exact below_drew (Below.refl _ _)
      have HWr := Aside0.mk (HB22.out.trans (qX.mono HB22.out.size))
      have BX23 := Aside0.mk (blk_below BX22.out qX)
      have BO23 := Aside0.mk (blk_below BO22.out qX)
      obtain ⟨ao, g0, g1, g2, g3, g4, g5, rfl, hK, hcells, z0, z1_, z2_, z3, z4, z5_⟩ := gett6 rfl (Kd.C_below HCo.out HWr.out) n2 hnl
      rw [hne] at hK
      have hFu := K_FK k58_heap hK
      obtain ⟨V1, v1, V2, v2, V5, v5, he, _⟩ := k58_open hK
      obtain ⟨rfl, rfl, rfl, rfl, rfl, rfl⟩ : g0 = _ ∧ g1 = _ ∧ g2 = _ ∧ g3 = _ ∧ g4 = _ ∧ g5 = _ := by simpa using he
      have hSd : (fun W : World => (MeS go gx (ao.add (n2 * 6)) (.slice (some ao) os.length co) (.string xx.f0) (.slice V1 xx.f1.length v1) (.slice V2 xx.f2.length v2) (.int .i64 xx.f3.f0) (.string xx.f3.f1) (.slice V5 xx.f3.f2.length v5) (.string xx.f0) (.slice Y1 xx.f1.length y1) (.slice Y2 xx.f2.length y2) (.int .i64 xx.f3.f0) (.string xx.f3.f1) (.slice Y5 xx.f3.f2.length y5)) W) X := ⟨(blk_cell BO23.out 0).trans rfl, z0, z1_, z2_, z3, z4, z5_, (blk_cell BX23.out 0).trans rfl, (blk_cell BX23.out 1).trans rfl, (blk_cell BX23.out 2).trans rfl, (blk_cell BX23.out 3).trans rfl, (blk_cell BX23.out 4).trans rfl, (blk_cell BX23.out 5).trans rfl⟩
      have HFU := Aside0.mk hFu
      have HFX2 := Aside0.mk (Kd.FK_below HFX.out (show Below Wx.heap.size Wx X from (HX18.out).trans ((hbF.trans (qX.mono hbF.size)).mono (HX18.out).size)))
      have HSx := Lib.hid (show ∀ d ∈ [xx], szE d.f3 < 1000000 ∧ ∀ c ∈ d.f2, szE c.f2 < 1000000 from fun d hd => by rw [List.mem_singleton.1 hd]; exact same_small2 (HOk.out.big xx HMx.out))
      have hn2z : ¬ ((n2 : Int) < 0) := by omega
      have hn2l : decide ((os.length : Int) ≤ (n2 : Int)) = false := decide_eq_false (by omega)
      have hn2n : decide (os.length ≤ n2) = false := decide_eq_false (by omega)
      have hn2b : (n2 : Int) < (os.length : Int) := by omega
      have hn2c : (0 : Int) ≤ (n2 : Int) := by omega
      clear hK hcells he z0 z1_ z2_ z3 z4 z5_ hne hFu qX hbF
      go_upto_region 23 with fail
      refine wp_region_K (S := fun W : World => MeS go gx (ao.add (n2 * 6)) (.slice (some ao) os.length co) (.string xx.f0) (.slice V1 xx.f1.length v1) (.slice V2 xx.f2.length v2) (.int .i64 xx.f3.f0) (.string xx.f3.f1) (.slice V5 xx.f3.f2.length v5) (.string xx.f0) (.slice Y1 xx.f1.length y1) (.slice Y2 xx.f2.length y2) (.int .i64 xx.f3.f0) (.string xx.f3.f1) (.slice Y5 xx.f3.f2.length y5) W) (k := 99) (by kernel_rfl) ?_
      change wpAnyK _ _ _ _ _ _ 34 (Array.replicate 34 false) _ _
      rw [hX]
      clear hX
      refine wpAnyK_takeS (i := 0) (v := ?_) rfl (by kernel_rfl) (by kernel_rfl) (by kernel_rfl) (by kernel_rfl) (fun _ _ _ h => h) hSd (Or.inl ⟨by rfl, ?_⟩) ?_
      rotate_left 1
      (intro w hSw; (try dsimp only at hSw); go_simp; try (with_reducible rfl))
      (try simp only [List.getElem_toArray, List.getElem_cons_succ, List.getElem_cons_zero]); (try dsimp only [Act.put]); (try simp only [List.setIfInBounds_toArray, List.set_cons_zero, List.set_cons_succ])
      refine wpAnyK_takeS (i := 1) (v := ?_) rfl (by kernel_rfl) (by kernel_rfl) (by kernel_rfl) (by kernel_rfl) (fun _ _ _ h => h) hSd (Or.inl ⟨by rfl, ?_⟩) ?_
      rotate_left 1
      (intro w hSw; (try dsimp only at hSw); go_simp; try (with_reducible rfl))
      (try simp only [List.getElem_toArray, List.getElem_cons_succ, List.getElem_cons_zero]); (try dsimp only [Act.put]); (try simp only [List.setIfInBounds_toArray, List.set_cons_zero, List.set_cons_succ])
      refine wpAnyK_takeS (i := 2) (v := ?_) rfl (by kernel_rfl) (by kernel_rfl) (by kernel_rfl) (by kernel_rfl) (fun _ _ _ h => h) hSd (Or.inl ⟨by rfl, ?_⟩) ?_
      rotate_left 1
      (intro w hSw; (try dsimp only at hSw); go_simp; try (with_reducible rfl))
      (try simp only [List.getElem_toArray, List.getElem_cons_succ, List.getElem_cons_zero]); (try dsimp only [Act.put]); (try simp only [List.setIfInBounds_toArray, List.set_cons_zero, List.set_cons_succ])
      refine wpAnyK_takeS (i := 3) (v := ?_) rfl (by kernel_rfl) (by kernel_rfl) (by kernel_rfl) (by kernel_rfl) (fun _ _ _ h => h) hSd (Or.inl ⟨by rfl, ?_⟩) ?_
      rotate_left 1
      (intro w hSw; (try dsimp only at hSw); go_simp; try (with_reducible rfl))
      (try simp only [List.getElem_toArray, List.getElem_cons_succ, List.getElem_cons_zero]); (try dsimp only [Act.put]); (try simp only [List.setIfInBounds_toArray, List.set_cons_zero, List.set_cons_succ])
      refine wpAnyK_takeS (i := 4) (v := ?_) rfl (by kernel_rfl) (by kernel_rfl) (by kernel_rfl) (by kernel_rfl) (fun _ _ _ h => h) hSd (Or.inl ⟨by rfl, ?_⟩) ?_
      rotate_left 1
      (intro w hSw; (try dsimp only at hSw); go_simp; try (with_reducible rfl))
      (try simp only [List.getElem_toArray, List.getElem_cons_succ, List.getElem_cons_zero]); (try dsimp only [Act.put]); (try simp only [List.setIfInBounds_toArray, List.set_cons_zero, List.set_cons_succ])
      refine wpAnyK_takeS (i := 5) (v := ?_) rfl (by kernel_rfl) (by kernel_rfl) (by kernel_rfl) (by kernel_rfl) (fun _ _ _ h => h) hSd (Or.inl ⟨by rfl, ?_⟩) ?_
      rotate_left 1
      (intro w hSw; (try dsimp only at hSw); go_simp; try (with_reducible rfl))
      (try simp only [List.getElem_toArray, List.getElem_cons_succ, List.getElem_cons_zero]); (try dsimp only [Act.put]); (try simp only [List.setIfInBounds_toArray, List.set_cons_zero, List.set_cons_succ])
      refine wpAnyK_takeS (i := 6) (v := ?_) rfl (by kernel_rfl) (by kernel_rfl) (by kernel_rfl) (by kernel_rfl) (fun _ _ _ h => h) hSd (Or.inl ⟨by rfl, ?_⟩) ?_
      rotate_left 1
      (intro w hSw; (try dsimp only at hSw); go_simp; try (with_reducible rfl))
      (try simp only [List.getElem_toArray, List.getElem_cons_succ, List.getElem_cons_zero]); (try dsimp only [Act.put]); (try simp only [List.setIfInBounds_toArray, List.set_cons_zero, List.set_cons_succ])
      refine wpAnyK_takeS (i := 7) (v := ?_) rfl (by kernel_rfl) (by kernel_rfl) (by kernel_rfl) (by kernel_rfl) (fun _ _ _ h => h) hSd (Or.inl ⟨by rfl, ?_⟩) ?_
      rotate_left 1
      (intro w hSw; (try dsimp only at hSw); go_simp; try (with_reducible rfl))
      (try simp only [List.getElem_toArray, List.getElem_cons_succ, List.getElem_cons_zero]); (try dsimp only [Act.put]); (try simp only [List.setIfInBounds_toArray, List.set_cons_zero, List.set_cons_succ])
      refine wpAnyK_takeS (i := 8) (v := ?_) rfl (by kernel_rfl) (by kernel_rfl) (by kernel_rfl) (by kernel_rfl) (fun _ _ _ h => h) hSd (Or.inl ⟨by rfl, ?_⟩) ?_
      rotate_left 1
      (intro w hSw; (try dsimp only at hSw); go_simp; try (with_reducible rfl))
      (try simp only [List.getElem_toArray, List.getElem_cons_succ, List.getElem_cons_zero]); (try dsimp only [Act.put]); (try simp only [List.setIfInBounds_toArray, List.set_cons_zero, List.set_cons_succ])
      refine wpAnyK_takeS (i := 9) (v := ?_) rfl (by kernel_rfl) (by kernel_rfl) (by kernel_rfl) (by kernel_rfl) (fun _ _ _ h => h) hSd (Or.inl ⟨by rfl, ?_⟩) ?_
      rotate_left 1
      (intro w hSw; (try dsimp only at hSw); go_simp; try (with_reducible rfl))
      (try simp only [List.getElem_toArray, List.getElem_cons_succ, List.getElem_cons_zero]); (try dsimp only [Act.put]); (try simp only [List.setIfInBounds_toArray, List.set_cons_zero, List.set_cons_succ])
      refine wpAnyK_takeS (i := 10) (v := ?_) rfl (by kernel_rfl) (by kernel_rfl) (by kernel_rfl) (by kernel_rfl) (fun _ _ _ h => h) hSd (Or.inl ⟨by rfl, ?_⟩) ?_
      rotate_left 1
      (intro w hSw; (try dsimp only at hSw); go_simp; try (with_reducible rfl))
      (try simp only [List.getElem_toArray, List.getElem_cons_succ, List.getElem_cons_zero]); (try dsimp only [Act.put]); (try simp only [List.setIfInBounds_toArray, List.set_cons_zero, List.set_cons_succ])
      refine wpAnyK_takeS (i := 11) (v := ?_) rfl (by kernel_rfl) (by kernel_rfl) (by kernel_rfl) (by kernel_rfl) (fun _ _ _ h => h) hSd (Or.inl ⟨by rfl, ?_⟩) ?_
      rotate_left 1
      (intro w hSw; (try dsimp only at hSw); go_simp; try (with_reducible rfl))
      (try simp only [List.getElem_toArray, List.getElem_cons_succ, List.getElem_cons_zero]); (try dsimp only [Act.put]); (try simp only [List.setIfInBounds_toArray, List.set_cons_zero, List.set_cons_succ])
      refine wpAnyK_takeS (i := 12) (v := ?_) rfl (by kernel_rfl) (by kernel_rfl) (by kernel_rfl) (by kernel_rfl) (fun _ _ _ h => h) hSd (Or.inl ⟨by rfl, ?_⟩) ?_
      rotate_left 1
      (intro w hSw; (try dsimp only at hSw); go_simp; try (with_reducible rfl))
      (try simp only [List.getElem_toArray, List.getElem_cons_succ, List.getElem_cons_zero]); (try dsimp only [Act.put]); (try simp only [List.setIfInBounds_toArray, List.set_cons_zero, List.set_cons_succ])
      refine wpAnyK_takeS (i := 13) (v := ?_) rfl (by kernel_rfl) (by kernel_rfl) (by kernel_rfl) (by kernel_rfl) (fun _ _ _ h => h) hSd (Or.inl ⟨by rfl, ?_⟩) ?_
      rotate_left 1
      (intro w hSw; (try dsimp only at hSw); go_simp; try (with_reducible rfl))
      (try simp only [List.getElem_toArray, List.getElem_cons_succ, List.getElem_cons_zero]); (try dsimp only [Act.put]); (try simp only [List.setIfInBounds_toArray, List.set_cons_zero, List.set_cons_succ])
      refine wpAnyK_takeS (i := 14) (v := ?_) rfl (by kernel_rfl) (by kernel_rfl) (by kernel_rfl) (by kernel_rfl) (fun _ _ _ h => h) hSd (Or.inl ⟨by rfl, ?_⟩) ?_
      rotate_left 1
      (intro w hSw; (try dsimp only at hSw); go_simp; try (with_reducible rfl))
      (try simp only [List.getElem_toArray, List.getElem_cons_succ, List.getElem_cons_zero]); (try dsimp only [Act.put]); (try simp only [List.setIfInBounds_toArray, List.set_cons_zero, List.set_cons_succ])
      refine wpAnyK_takeS (i := 15) (v := ?_) rfl (by kernel_rfl) (by kernel_rfl) (by kernel_rfl) (by kernel_rfl) (fun _ _ _ h => h) hSd (Or.inl ⟨by rfl, ?_⟩) ?_
      rotate_left 1
      (intro w hSw; (try dsimp only at hSw); go_simp; try (with_reducible rfl))
      (try simp only [List.getElem_toArray, List.getElem_cons_succ, List.getElem_cons_zero]); (try dsimp only [Act.put]); (try simp only [List.setIfInBounds_toArray, List.set_cons_zero, List.set_cons_succ])
      refine wpAnyK_takeS (i := 16) (v := ?_) rfl (by kernel_rfl) (by kernel_rfl) (by kernel_rfl) (by kernel_rfl) (fun _ _ _ h => h) hSd (Or.inl ⟨by rfl, ?_⟩) ?_
      rotate_left 1
      (intro w hSw; (try dsimp only at hSw); go_simp; try (with_reducible rfl))
      (try simp only [List.getElem_toArray, List.getElem_cons_succ, List.getElem_cons_zero]); (try dsimp only [Act.put]); (try simp only [List.setIfInBounds_toArray, List.set_cons_zero, List.set_cons_succ])
      refine wpAnyK_takeS (i := 17) (v := ?_) rfl (by kernel_rfl) (by kernel_rfl) (by kernel_rfl) (by kernel_rfl) (fun _ _ _ h => h) hSd (Or.inl ⟨by rfl, ?_⟩) ?_
      rotate_left 1
      (intro w hSw; (try dsimp only at hSw); go_simp; try (with_reducible rfl))
      (try simp only [List.getElem_toArray, List.getElem_cons_succ, List.getElem_cons_zero]); (try dsimp only [Act.put]); (try simp only [List.setIfInBounds_toArray, List.set_cons_zero, List.set_cons_succ])
      refine wpAnyK_takeS (i := 18) (v := ?_) rfl (by kernel_rfl) (by kernel_rfl) (by kernel_rfl) (by kernel_rfl) (fun _ _ _ h => h) hSd (Or.inl ⟨by rfl, ?_⟩) ?_
      rotate_left 1
      (intro w hSw; (try dsimp only at hSw); go_simp; try (with_reducible rfl))
      (try simp only [List.getElem_toArray, List.getElem_cons_succ, List.getElem_cons_zero]); (try dsimp only [Act.put]); (try simp only [List.setIfInBounds_toArray, List.set_cons_zero, List.set_cons_succ])
      refine wpAnyK_takeS (i := 19) (v := ?_) rfl (by kernel_rfl) (by kernel_rfl) (by kernel_rfl) (by kernel_rfl) (fun _ _ _ h => h) hSd (Or.inl ⟨by rfl, ?_⟩) ?_
      rotate_left 1
      (intro w hSw; (try dsimp only at hSw); go_simp; try (with_reducible rfl))
      (try simp only [List.getElem_toArray, List.getElem_cons_succ, List.getElem_cons_zero]); (try dsimp only [Act.put]); (try simp only [List.setIfInBounds_toArray, List.set_cons_zero, List.set_cons_succ])
      refine wpAnyK_takeS (i := 20) (v := ?_) rfl (by kernel_rfl) (by kernel_rfl) (by kernel_rfl) (by kernel_rfl) (fun _ _ _ h => h) hSd (Or.inl ⟨by rfl, ?_⟩) ?_
      rotate_left 1
      (intro w hSw; (try dsimp only at hSw); go_simp; try (with_reducible rfl))
      (try simp only [List.getElem_toArray, List.getElem_cons_succ, List.getElem_cons_zero]); (try dsimp only [Act.put]); (try simp only [List.setIfInBounds_toArray, List.set_cons_zero, List.set_cons_succ])
      refine wpAnyK_takeS (i := 21) (v := ?_) rfl (by kernel_rfl) (by kernel_rfl) (by kernel_rfl) (by kernel_rfl) (fun _ _ _ h => h) hSd (Or.inl ⟨by rfl, ?_⟩) ?_
      rotate_left 1
      (intro w hSw; (try dsimp only at hSw); go_simp; try (with_reducible rfl))
      (try simp only [List.getElem_toArray, List.getElem_cons_succ, List.getElem_cons_zero]); (try dsimp only [Act.put]); (try simp only [List.setIfInBounds_toArray, List.set_cons_zero, List.set_cons_succ])
      refine wpAnyK_takeS (i := 22) (v := ?_) rfl (by kernel_rfl) (by kernel_rfl) (by kernel_rfl) (by kernel_rfl) (fun _ _ _ h => h) hSd (Or.inl ⟨by rfl, ?_⟩) ?_
      rotate_left 1
      (intro w hSw; (try dsimp only at hSw); go_simp; try (with_reducible rfl))
      (try simp only [List.getElem_toArray, List.getElem_cons_succ, List.getElem_cons_zero]); (try dsimp only [Act.put]); (try simp only [List.setIfInBounds_toArray, List.set_cons_zero, List.set_cons_succ])
      refine wpAnyK_takeS (i := 23) (v := ?_) rfl (by kernel_rfl) (by kernel_rfl) (by kernel_rfl) (by kernel_rfl) (fun _ _ _ h => h) hSd (Or.inl ⟨by rfl, ?_⟩) ?_
      rotate_left 1
      (intro w hSw; (try dsimp only at hSw); go_simp; try (with_reducible rfl))
      (try simp only [List.getElem_toArray, List.getElem_cons_succ, List.getElem_cons_zero]); (try dsimp only [Act.put]); (try simp only [List.setIfInBounds_toArray, List.set_cons_zero, List.set_cons_succ])
      refine wpAnyK_takeS (i := 26) (v := ?_) rfl (by kernel_rfl) (by kernel_rfl) (by kernel_rfl) (by kernel_rfl) (fun _ _ _ h => h) hSd (Or.inl ⟨by rfl, ?_⟩) ?_
      rotate_left 1
      (intro w hSw; (try dsimp only at hSw); go_simp; try (with_reducible rfl))
      (try simp only [List.getElem_toArray, List.getElem_cons_succ, List.getElem_cons_zero]); (try dsimp only [Act.put]); (try simp only [List.setIfInBounds_toArray, List.set_cons_zero, List.set_cons_succ])
      refine wpAnyK_two (i := 24) (j := 27) (by kernel_rfl) rfl rfl (fun K hK => ?_) (fun K hK => ?_)
      ·skip
       go_simp
       obtain ⟨X1, hY⟩ : ∃ X1, X.alloc (.cells #[.string xx.f0, .slice V1 xx.f1.length v1, .slice V2 xx.f2.length v2, .int .i64 xx.f3.f0, .string xx.f3.f1, .slice V5 xx.f3.f2.length v5] 58) = X1 := ⟨_, rfl⟩
       obtain ⟨p24, hp24⟩ : ∃ p24, X.heap.size = p24 := ⟨_, rfl⟩
       have hb : Below X.heap.size X X1 := by rw [← hY]; exact below_alloc1 _ _
       have VU := Aside0.mk (show Kd.F k58 X1 (fun _ => True) (some ⟨p24, 0, none⟩) 1 [xx] by rw [← hY, ← hp24]; exact F_lit1 (W := X) (ok := fun _ => True) trivial 58 (Kd.FK_mono HFU.out (fun _ _ => trivial)) rfl)
       have HFX2 := Aside0.mk (Kd.FK_below HFX2.out hb)
       have HWr := Aside0.mk (HWr.out.trans (hb.mono HWr.out.size))
       have hSd : (fun W : World => MeS go gx (ao.add (n2 * 6)) (.slice (some ao) os.length co) (.string xx.f0) (.slice V1 xx.f1.length v1) (.slice V2 xx.f2.length v2) (.int .i64 xx.f3.f0) (.string xx.f3.f1) (.slice V5 xx.f3.f2.length v5) (.string xx.f0) (.slice Y1 xx.f1.length y1) (.slice Y2 xx.f2.length y2) (.int .i64 xx.f3.f0) (.string xx.f3.f1) (.slice Y5 xx.f3.f2.length y5) W) X1 := MeS.step hSd hb
       rw [hY, hp24]
       clear hb hY hp24
       refine hK.out _ _ (fun _ => hSd) ?_
       clear hK
       refine wpAnyK_takeS (i := 25) (v := ?_) rfl (by kernel_rfl) (by kernel_rfl) (by kernel_rfl) (by kernel_rfl) (fun _ _ _ h => h) hSd (Or.inl ⟨by rfl, ?_⟩) ?_
       rotate_left 1
       (intro w hSw; (try dsimp only at hSw); go_simp; try (with_reducible rfl))
       (try simp only [List.getElem_toArray, List.getElem_cons_succ, List.getElem_cons_zero]); (try dsimp only [Act.put]); (try simp only [List.setIfInBounds_toArray, List.set_cons_zero, List.set_cons_succ])
       refine wpAnyK_one (i := 27) (by kernel_rfl) rfl (fun K hK => ?_)
       go_simp
       obtain ⟨X2, hY⟩ : ∃ X2, X1.alloc (.cells #[.string xx.f0, .slice Y1 xx.f1.length y1, .slice Y2 xx.f2.length y2, .int .i64 xx.f3.f0, .string xx.f3.f1, .slice Y5 xx.f3.f2.length y5] 58) = X2 := ⟨_, rfl⟩
       obtain ⟨p27, hp27⟩ : ∃ p27, X1.heap.size = p27 := ⟨_, rfl⟩
       have hb : Below X1.heap.size X1 X2 := by rw [← hY]; exact below_alloc1 _ _
       have VY := Aside0.mk (show Kd.F k58 X2 (fun _ => True) (some ⟨p27, 0, none⟩) 1 [xx] by rw [← hY, ← hp27]; exact F_lit1 (W := X1) (ok := fun _ => True) trivial 58 (Kd.FK_mono HFX2.out (fun _ _ => trivial)) rfl)
       have VU := Aside0.mk (Kd.F_below VU.out hb)
       have HWr := Aside0.mk (HWr.out.trans (hb.mono HWr.out.size))
       have hSd : (fun W : World => MeS go gx (ao.add (n2 * 6)) (.slice (some ao) os.length co) (.string xx.f0) (.slice V1 xx.f1.length v1) (.slice V2 xx.f2.length v2) (.int .i64 xx.f3.f0) (.string xx.f3.f1) (.slice V5 xx.f3.f2.length v5) (.string xx.f0) (.slice Y1 xx.f1.length y1) (.slice Y2 xx.f2.length y2) (.int .i64 xx.f3.f0) (.string xx.f3.f1) (.slice Y5 xx.f3.f2.length y5) W) X2 := MeS.step hSd hb
       rw [hY, hp27]
       clear hb hY hp27
       refine hK.out _ _ (fun _ => hSd) ?_
       clear hK
       refine wpAnyK_takeS (i := 28) (v := ?_) rfl (by kernel_rfl) (by kernel_rfl) (by kernel_rfl) (by kernel_rfl) (fun _ _ _ h => h) hSd (Or.inl ⟨by rfl, ?_⟩) ?_
       rotate_left 1
       (intro w hSw; (try dsimp only at hSw); go_simp; try (with_reducible rfl))
       (try simp only [List.getElem_toArray, List.getElem_cons_succ, List.getElem_cons_zero]); (try dsimp only [Act.put]); (try simp only [List.setIfInBounds_toArray, List.set_cons_zero, List.set_cons_succ])
       refine wpAnyK_one (i := 29) (by kernel_rfl) rfl (fun K hK => ?_)
       go_simp
       go_at_call 46
       (with_reducible refine (show Calls Try.prog 46 #[.agg #[.slice (some ⟨p24, 0, none⟩) 1 1], .agg #[.slice (some ⟨p27, 0, none⟩) 1 1]] X2 (fun en w' => en = .returned (.bool true) ∧ Below X2.heap.size X2 w') from (c_Same [xx] [xx] (some ⟨p24, 0, none⟩) (some ⟨p27, 0, none⟩) 1 1 X2 (Kd.F_now VU.out) (Nat.le_refl _) (Kd.F_now VY.out) (Nat.le_refl _) HSx.out HSx.out).mono (by rintro en w' ⟨rfl, hb⟩; exact ⟨by rw [sameP_refl], hb⟩)).mono ?_)
       rintro e X3 ⟨rfl, hb⟩
       have HWr := Aside0.mk (HWr.out.trans (hb.mono HWr.out.size))
       have hSd : (fun W : World => MeS go gx (ao.add (n2 * 6)) (.slice (some ao) os.length co) (.string xx.f0) (.slice V1 xx.f1.length v1) (.slice V2 xx.f2.length v2) (.int .i64 xx.f3.f0) (.string xx.f3.f1) (.slice V5 xx.f3.f2.length v5) (.string xx.f0) (.slice Y1 xx.f1.length y1) (.slice Y2 xx.f2.length y2) (.int .i64 xx.f3.f0) (.string xx.f3.f1) (.slice Y5 xx.f3.f2.length y5) W) X3 := MeS.step hSd hb
       clear hb
       refine hK.out _ _ (fun _ => hSd) ?_
       clear hK
       refine wpAnyK_takeS (i := 30) (v := ?_) rfl (by kernel_rfl) (by kernel_rfl) (by kernel_rfl) (by kernel_rfl) (fun _ _ _ h => h) hSd (Or.inl ⟨by rfl, ?_⟩) ?_
       rotate_left 1
       (intro w hSw; (try dsimp only at hSw); go_simp; try (with_reducible rfl))
       (try simp only [List.getElem_toArray, List.getElem_cons_succ, List.getElem_cons_zero]); (try dsimp only [Act.put]); (try simp only [List.setIfInBounds_toArray, List.set_cons_zero, List.set_cons_succ])
       refine wpAnyK_takeS (i := 31) (v := ?_) rfl (by kernel_rfl) (by kernel_rfl) (by kernel_rfl) (by kernel_rfl) (fun _ _ _ h => h) hSd (Or.inl ⟨by rfl, ?_⟩) ?_
       rotate_left 1
       (intro w hSw; (try dsimp only at hSw); go_simp; try (with_reducible rfl))
       (try simp only [List.getElem_toArray, List.getElem_cons_succ, List.getElem_cons_zero]); (try dsimp only [Act.put]); (try simp only [List.setIfInBounds_toArray, List.set_cons_zero, List.set_cons_succ])
       refine wpAnyK_takeS (i := 32) (v := ?_) rfl (by kernel_rfl) (by kernel_rfl) (by kernel_rfl) (by kernel_rfl) (fun _ _ _ h => h) hSd (Or.inl ⟨by rfl, ?_⟩) ?_
       rotate_left 1
       (intro w hSw; (try dsimp only at hSw); go_simp; try (with_reducible rfl))
       (try simp only [List.getElem_toArray, List.getElem_cons_succ, List.getElem_cons_zero]); (try dsimp only [Act.put]); (try simp only [List.setIfInBounds_toArray, List.set_cons_zero, List.set_cons_succ])
       refine wpAnyK_takeS (i := 33) (v := ?_) rfl (by kernel_rfl) (by kernel_rfl) (by kernel_rfl) (by kernel_rfl) (fun _ _ _ h => h) hSd (Or.inl ⟨by rfl, ?_⟩) ?_
       rotate_left 1
       (intro w hSw; (try dsimp only at hSw); go_simp; try (with_reducible rfl))
       (try simp only [List.getElem_toArray, List.getElem_cons_succ, List.getElem_cons_zero]); (try dsimp only [Act.put]); (try simp only [List.setIfInBounds_toArray, List.set_cons_zero, List.set_cons_succ])
       clear hSd
       refine wpAnyK_done (by kernel_rfl) ?_ _
       go_wp2_with fail
       go_roundg (ps.length - (kk + 1))
       case measure => omega
       case rel => exact ⟨kk + 1, by omega, by omega, by go_num, HWr⟩
      ·skip
       go_simp
       obtain ⟨X1, hY⟩ : ∃ X1, X.alloc (.cells #[.string xx.f0, .slice Y1 xx.f1.length y1, .slice Y2 xx.f2.length y2, .int .i64 xx.f3.f0, .string xx.f3.f1, .slice Y5 xx.f3.f2.length y5] 58) = X1 := ⟨_, rfl⟩
       obtain ⟨p27, hp27⟩ : ∃ p27, X.heap.size = p27 := ⟨_, rfl⟩
       have hb : Below X.heap.size X X1 := by rw [← hY]; exact below_alloc1 _ _
       have VY := Aside0.mk (show Kd.F k58 X1 (fun _ => True) (some ⟨p27, 0, none⟩) 1 [xx] by rw [← hY, ← hp27]; exact F_lit1 (W := X) (ok := fun _ => True) trivial 58 (Kd.FK_mono HFX2.out (fun _ _ => trivial)) rfl)
       have HFU := Aside0.mk (Kd.FK_below HFU.out hb)
       have HWr := Aside0.mk (HWr.out.trans (hb.mono HWr.out.size))
       have hSd : (fun W : World => MeS go gx (ao.add (n2 * 6)) (.slice (some ao) os.length co) (.string xx.f0) (.slice V1 xx.f1.length v1) (.slice V2 xx.f2.length v2) (.int .i64 xx.f3.f0) (.string xx.f3.f1) (.slice V5 xx.f3.f2.length v5) (.string xx.f0) (.slice Y1 xx.f1.length y1) (.slice Y2 xx.f2.length y2) (.int .i64 xx.f3.f0) (.string xx.f3.f1) (.slice Y5 xx.f3.f2.length y5) W) X1 := MeS.step hSd hb
       rw [hY, hp27]
       clear hb hY hp27
       refine hK.out _ _ (fun _ => hSd) ?_
       clear hK
       refine wpAnyK_takeS (i := 28) (v := ?_) rfl (by kernel_rfl) (by kernel_rfl) (by kernel_rfl) (by kernel_rfl) (fun _ _ _ h => h) hSd (Or.inl ⟨by rfl, ?_⟩) ?_
       rotate_left 1
       (intro w hSw; (try dsimp only at hSw); go_simp; try (with_reducible rfl))
       (try simp only [List.getElem_toArray, List.getElem_cons_succ, List.getElem_cons_zero]); (try dsimp only [Act.put]); (try simp only [List.setIfInBounds_toArray, List.set_cons_zero, List.set_cons_succ])
       refine wpAnyK_one (i := 24) (by kernel_rfl) rfl (fun K hK => ?_)
       go_simp
       obtain ⟨X2, hY⟩ : ∃ X2, X1.alloc (.cells #[.string xx.f0, .slice V1 xx.f1.length v1, .slice V2 xx.f2.length v2, .int .i64 xx.f3.f0, .string xx.f3.f1, .slice V5 xx.f3.f2.length v5] 58) = X2 := ⟨_, rfl⟩
       obtain ⟨p24, hp24⟩ : ∃ p24, X1.heap.size = p24 := ⟨_, rfl⟩
       have hb : Below X1.heap.size X1 X2 := by rw [← hY]; exact below_alloc1 _ _
       have VU := Aside0.mk (show Kd.F k58 X2 (fun _ => True) (some ⟨p24, 0, none⟩) 1 [xx] by rw [← hY, ← hp24]; exact F_lit1 (W := X1) (ok := fun _ => True) trivial 58 (Kd.FK_mono HFU.out (fun _ _ => trivial)) rfl)
       have VY := Aside0.mk (Kd.F_below VY.out hb)
       have HWr := Aside0.mk (HWr.out.trans (hb.mono HWr.out.size))
       have hSd : (fun W : World => MeS go gx (ao.add (n2 * 6)) (.slice (some ao) os.length co) (.string xx.f0) (.slice V1 xx.f1.length v1) (.slice V2 xx.f2.length v2) (.int .i64 xx.f3.f0) (.string xx.f3.f1) (.slice V5 xx.f3.f2.length v5) (.string xx.f0) (.slice Y1 xx.f1.length y1) (.slice Y2 xx.f2.length y2) (.int .i64 xx.f3.f0) (.string xx.f3.f1) (.slice Y5 xx.f3.f2.length y5) W) X2 := MeS.step hSd hb
       rw [hY, hp24]
       clear hb hY hp24
       refine hK.out _ _ (fun _ => hSd) ?_
       clear hK
       refine wpAnyK_takeS (i := 25) (v := ?_) rfl (by kernel_rfl) (by kernel_rfl) (by kernel_rfl) (by kernel_rfl) (fun _ _ _ h => h) hSd (Or.inl ⟨by rfl, ?_⟩) ?_
       rotate_left 1
       (intro w hSw; (try dsimp only at hSw); go_simp; try (with_reducible rfl))
       (try simp only [List.getElem_toArray, List.getElem_cons_succ, List.getElem_cons_zero]); (try dsimp only [Act.put]); (try simp only [List.setIfInBounds_toArray, List.set_cons_zero, List.set_cons_succ])
       refine wpAnyK_one (i := 29) (by kernel_rfl) rfl (fun K hK => ?_)
       go_simp
       go_at_call 46
       (with_reducible refine (show Calls Try.prog 46 #[.agg #[.slice (some ⟨p24, 0, none⟩) 1 1], .agg #[.slice (some ⟨p27, 0, none⟩) 1 1]] X2 (fun en w' => en = .returned (.bool true) ∧ Below X2.heap.size X2 w') from (c_Same [xx] [xx] (some ⟨p24, 0, none⟩) (some ⟨p27, 0, none⟩) 1 1 X2 (Kd.F_now VU.out) (Nat.le_refl _) (Kd.F_now VY.out) (Nat.le_refl _) HSx.out HSx.out).mono (by rintro en w' ⟨rfl, hb⟩; exact ⟨by rw [sameP_refl], hb⟩)).mono ?_)
       rintro e X3 ⟨rfl, hb⟩
       have HWr := Aside0.mk (HWr.out.trans (hb.mono HWr.out.size))
       have hSd : (fun W : World => MeS go gx (ao.add (n2 * 6)) (.slice (some ao) os.length co) (.string xx.f0) (.slice V1 xx.f1.length v1) (.slice V2 xx.f2.length v2) (.int .i64 xx.f3.f0) (.string xx.f3.f1) (.slice V5 xx.f3.f2.length v5) (.string xx.f0) (.slice Y1 xx.f1.length y1) (.slice Y2 xx.f2.length y2) (.int .i64 xx.f3.f0) (.string xx.f3.f1) (.slice Y5 xx.f3.f2.length y5) W) X3 := MeS.step hSd hb
       clear hb
       refine hK.out _ _ (fun _ => hSd) ?_
       clear hK
       refine wpAnyK_takeS (i := 30) (v := ?_) rfl (by kernel_rfl) (by kernel_rfl) (by kernel_rfl) (by kernel_rfl) (fun _ _ _ h => h) hSd (Or.inl ⟨by rfl, ?_⟩) ?_
       rotate_left 1
       (intro w hSw; (try dsimp only at hSw); go_simp; try (with_reducible rfl))
       (try simp only [List.getElem_toArray, List.getElem_cons_succ, List.getElem_cons_zero]); (try dsimp only [Act.put]); (try simp only [List.setIfInBounds_toArray, List.set_cons_zero, List.set_cons_succ])
       refine wpAnyK_takeS (i := 31) (v := ?_) rfl (by kernel_rfl) (by kernel_rfl) (by kernel_rfl) (by kernel_rfl) (fun _ _ _ h => h) hSd (Or.inl ⟨by rfl, ?_⟩) ?_
       rotate_left 1
       (intro w hSw; (try dsimp only at hSw); go_simp; try (with_reducible rfl))
       (try simp only [List.getElem_toArray, List.getElem_cons_succ, List.getElem_cons_zero]); (try dsimp only [Act.put]); (try simp only [List.setIfInBounds_toArray, List.set_cons_zero, List.set_cons_succ])
       refine wpAnyK_takeS (i := 32) (v := ?_) rfl (by kernel_rfl) (by kernel_rfl) (by kernel_rfl) (by kernel_rfl) (fun _ _ _ h => h) hSd (Or.inl ⟨by rfl, ?_⟩) ?_
       rotate_left 1
       (intro w hSw; (try dsimp only at hSw); go_simp; try (with_reducible rfl))
       (try simp only [List.getElem_toArray, List.getElem_cons_succ, List.getElem_cons_zero]); (try dsimp only [Act.put]); (try simp only [List.setIfInBounds_toArray, List.set_cons_zero, List.set_cons_succ])
       refine wpAnyK_takeS (i := 33) (v := ?_) rfl (by kernel_rfl) (by kernel_rfl) (by kernel_rfl) (by kernel_rfl) (fun _ _ _ h => h) hSd (Or.inl ⟨by rfl, ?_⟩) ?_
       rotate_left 1
       (intro w hSw; (try dsimp only at hSw); go_simp; try (with_reducible rfl))
       (try simp only [List.getElem_toArray, List.getElem_cons_succ, List.getElem_cons_zero]); (try dsimp only [Act.put]); (try simp only [List.setIfInBounds_toArray, List.set_cons_zero, List.set_cons_succ])
       clear hSd
       refine wpAnyK_done (by kernel_rfl) ?_ _
       go_wp2_with fail
       go_roundg (ps.length - (kk + 1))
       case measure => omega
       case rel => exact ⟨kk + 1, by omega, by omega, by go_num, HWr⟩
    ·have hno := idx_no hm
     rw [HAt.out] at hno
     subst hno
     have hfn := HOl.out xx.f0 hm
     obtain ⟨fa, hfa⟩ : ∃ fa, (findP os xx.f0).1 = fa := ⟨_, rfl⟩
     obtain ⟨fb, hfb⟩ : ∃ fb, (findP os xx.f0).2 = fb := ⟨_, rfl⟩
     have HFi := Lib.hid (show Calls Try.prog 45 #[.agg #[.slice Ao os.length co], .string xx.f0] w17 (fun en w' => en = .returned (.tuple #[.int .i64 fa, .int .i64 fb]) ∧ Below w17.heap.size w17 w') by
      have h1 := c_Find os Ao co xx.f0 w17 (Kd.C_below HCo.out HB17.out) hco (okP_of (by omega) HOb.out)
      rw [hfa, hfb] at h1
      exact h1)
     rw [hfb] at hfn
     have tfb : (fb == 0) = false := by rw [beq_eq_false_iff_ne]; exact hfn
     have kO := (blk_cell BO17.out 0).trans rfl
     have x0 := (blk_cell BX17.out 0).trans rfl
     clear hfa hfb hfn hm
     go_wp2_with fail
     refine HFi.out.mono ?_
     rintro en w22 ⟨rfl, hb⟩
     have HB22 := Aside0.mk (HB17.out.trans (hb.mono HB17.out.size))
     clear hb HFi kO x0
     obtain ⟨X, hX⟩ : ∃ X, w22.drew = X := ⟨_, rfl⟩
     have qX : Below w22.heap.size w22 X := by rw [← hX]; exact below_drew (Below.refl _ _)
     have HWr := Aside0.mk (HB22.out.trans (qX.mono HB22.out.size))
     have hSd : (fun W : World => True) X := trivial
     clear qX
     go_upto_region 23 with fail
     refine wp_region_K (S := fun W : World => True) (k := 99) (by kernel_rfl) ?_
     change wpAnyK _ _ _ _ _ _ 34 (Array.replicate 34 false) _ _
     rw [hX]
     clear hX
     refine wpAnyK_takeS (i := 0) (v := ?_) rfl (by kernel_rfl) (by kernel_rfl) (by kernel_rfl) (by kernel_rfl) (fun _ _ _ h => h) hSd (Or.inl ⟨by rfl, ?_⟩) ?_
     rotate_left 1
     (intro w hSw; (try dsimp only at hSw); go_simp; try (with_reducible rfl))
     (try simp only [List.getElem_toArray, List.getElem_cons_succ, List.getElem_cons_zero]); (try dsimp only [Act.put]); (try simp only [List.setIfInBounds_toArray, List.set_cons_zero, List.set_cons_succ])
     refine wpAnyK_takeS (i := 1) (v := ?_) rfl (by kernel_rfl) (by kernel_rfl) (by kernel_rfl) (by kernel_rfl) (fun _ _ _ h => h) hSd (Or.inl ⟨by rfl, ?_⟩) ?_
     rotate_left 1
     (intro w hSw; (try dsimp only at hSw); go_simp; try (with_reducible rfl))
     (try simp only [List.getElem_toArray, List.getElem_cons_succ, List.getElem_cons_zero]); (try dsimp only [Act.put]); (try simp only [List.setIfInBounds_toArray, List.set_cons_zero, List.set_cons_succ])
     refine wpAnyK_takeS (i := 2) (v := ?_) rfl (by kernel_rfl) (by kernel_rfl) (by kernel_rfl) (by kernel_rfl) (fun _ _ _ h => h) hSd (Or.inl ⟨by rfl, ?_⟩) ?_
     rotate_left 1
     (intro w hSw; (try dsimp only at hSw); go_simp; try (with_reducible rfl))
     (try simp only [List.getElem_toArray, List.getElem_cons_succ, List.getElem_cons_zero]); (try dsimp only [Act.put]); (try simp only [List.setIfInBounds_toArray, List.set_cons_zero, List.set_cons_succ])
     refine wpAnyK_takeS (i := 3) (v := ?_) rfl (by kernel_rfl) (by kernel_rfl) (by kernel_rfl) (by kernel_rfl) (fun _ _ _ h => h) hSd (Or.inl ⟨by rfl, ?_⟩) ?_
     rotate_left 1
     (intro w hSw; (try dsimp only at hSw); go_simp; try (with_reducible rfl))
     (try simp only [List.getElem_toArray, List.getElem_cons_succ, List.getElem_cons_zero]); (try dsimp only [Act.put]); (try simp only [List.setIfInBounds_toArray, List.set_cons_zero, List.set_cons_succ])
     refine wpAnyK_takeS (i := 4) (v := ?_) rfl (by kernel_rfl) (by kernel_rfl) (by kernel_rfl) (by kernel_rfl) (fun _ _ _ h => h) hSd (Or.inl ⟨by rfl, ?_⟩) ?_
     rotate_left 1
     (intro w hSw; (try dsimp only at hSw); go_simp; try (with_reducible rfl))
     (try simp only [List.getElem_toArray, List.getElem_cons_succ, List.getElem_cons_zero]); (try dsimp only [Act.put]); (try simp only [List.setIfInBounds_toArray, List.set_cons_zero, List.set_cons_succ])
     refine wpAnyK_takeS (i := 5) (v := ?_) rfl (by kernel_rfl) (by kernel_rfl) (by kernel_rfl) (by kernel_rfl) (fun _ _ _ h => h) hSd (Or.inl ⟨by rfl, ?_⟩) ?_
     rotate_left 1
     (intro w hSw; (try dsimp only at hSw); go_simp; try (with_reducible rfl))
     (try simp only [List.getElem_toArray, List.getElem_cons_succ, List.getElem_cons_zero]); (try dsimp only [Act.put]); (try simp only [List.setIfInBounds_toArray, List.set_cons_zero, List.set_cons_succ])
     refine wpAnyK_takeS (i := 6) (v := ?_) rfl (by kernel_rfl) (by kernel_rfl) (by kernel_rfl) (by kernel_rfl) (fun _ _ _ h => h) hSd (Or.inl ⟨by rfl, ?_⟩) ?_
     rotate_left 1
     (intro w hSw; (try dsimp only at hSw); go_simp; try (with_reducible rfl))
     (try simp only [List.getElem_toArray, List.getElem_cons_succ, List.getElem_cons_zero]); (try dsimp only [Act.put]); (try simp only [List.setIfInBounds_toArray, List.set_cons_zero, List.set_cons_succ])
     refine wpAnyK_takeS (i := 7) (v := ?_) rfl (by kernel_rfl) (by kernel_rfl) (by kernel_rfl) (by kernel_rfl) (fun _ _ _ h => h) hSd (Or.inl ⟨by rfl, ?_⟩) ?_
     rotate_left 1
     (intro w hSw; (try dsimp only at hSw); go_simp; try (with_reducible rfl))
     (try simp only [List.getElem_toArray, List.getElem_cons_succ, List.getElem_cons_zero]); (try dsimp only [Act.put]); (try simp only [List.setIfInBounds_toArray, List.set_cons_zero, List.set_cons_succ])
     refine wpAnyK_takeS (i := 8) (v := ?_) rfl (by kernel_rfl) (by kernel_rfl) (by kernel_rfl) (by kernel_rfl) (fun _ _ _ h => h) hSd (Or.inl ⟨by rfl, ?_⟩) ?_
     rotate_left 1
     (intro w hSw; (try dsimp only at hSw); go_simp; try (with_reducible rfl))
     (try simp only [List.getElem_toArray, List.getElem_cons_succ, List.getElem_cons_zero]); (try dsimp only [Act.put]); (try simp only [List.setIfInBounds_toArray, List.set_cons_zero, List.set_cons_succ])
     refine wpAnyK_takeS (i := 9) (v := undef) rfl (by kernel_rfl) (by kernel_rfl) (by kernel_rfl) (by kernel_rfl) (fun _ _ _ h => h) hSd (Or.inr ⟨by rfl, rfl⟩) ?_
     (try simp only [List.getElem_toArray, List.getElem_cons_succ, List.getElem_cons_zero]); (try dsimp only [Act.put]); (try simp only [List.setIfInBounds_toArray, List.set_cons_zero, List.set_cons_succ])
     refine wpAnyK_takeS (i := 10) (v := undef) rfl (by kernel_rfl) (by kernel_rfl) (by kernel_rfl) (by kernel_rfl) (fun _ _ _ h => h) hSd (Or.inr ⟨by rfl, rfl⟩) ?_
     (try simp only [List.getElem_toArray, List.getElem_cons_succ, List.getElem_cons_zero]); (try dsimp only [Act.put]); (try simp only [List.setIfInBounds_toArray, List.set_cons_zero, List.set_cons_succ])
     refine wpAnyK_takeS (i := 11) (v := undef) rfl (by kernel_rfl) (by kernel_rfl) (by kernel_rfl) (by kernel_rfl) (fun _ _ _ h => h) hSd (Or.inr ⟨by rfl, rfl⟩) ?_
     (try simp only [List.getElem_toArray, List.getElem_cons_succ, List.getElem_cons_zero]); (try dsimp only [Act.put]); (try simp only [List.setIfInBounds_toArray, List.set_cons_zero, List.set_cons_succ])
     refine wpAnyK_takeS (i := 12) (v := undef) rfl (by kernel_rfl) (by kernel_rfl) (by kernel_rfl) (by kernel_rfl) (fun _ _ _ h => h) hSd (Or.inr ⟨by rfl, rfl⟩) ?_
     (try simp only [List.getElem_toArray, List.getElem_cons_succ, List.getElem_cons_zero]); (try dsimp only [Act.put]); (try simp only [List.setIfInBounds_toArray, List.set_cons_zero, List.set_cons_succ])
     refine wpAnyK_takeS (i := 13) (v := undef) rfl (by kernel_rfl) (by kernel_rfl) (by kernel_rfl) (by kernel_rfl) (fun _ _ _ h => h) hSd (Or.inr ⟨by rfl, rfl⟩) ?_
     (try simp only [List.getElem_toArray, List.getElem_cons_succ, List.getElem_cons_zero]); (try dsimp only [Act.put]); (try simp only [List.setIfInBounds_toArray, List.set_cons_zero, List.set_cons_succ])
     refine wpAnyK_takeS (i := 14) (v := undef) rfl (by kernel_rfl) (by kernel_rfl) (by kernel_rfl) (by kernel_rfl) (fun _ _ _ h => h) hSd (Or.inr ⟨by rfl, rfl⟩) ?_
     (try simp only [List.getElem_toArray, List.getElem_cons_succ, List.getElem_cons_zero]); (try dsimp only [Act.put]); (try simp only [List.setIfInBounds_toArray, List.set_cons_zero, List.set_cons_succ])
     refine wpAnyK_takeS (i := 15) (v := undef) rfl (by kernel_rfl) (by kernel_rfl) (by kernel_rfl) (by kernel_rfl) (fun _ _ _ h => h) hSd (Or.inr ⟨by rfl, rfl⟩) ?_
     (try simp only [List.getElem_toArray, List.getElem_cons_succ, List.getElem_cons_zero]); (try dsimp only [Act.put]); (try simp only [List.setIfInBounds_toArray, List.set_cons_zero, List.set_cons_succ])
     refine wpAnyK_takeS (i := 16) (v := undef) rfl (by kernel_rfl) (by kernel_rfl) (by kernel_rfl) (by kernel_rfl) (fun _ _ _ h => h) hSd (Or.inr ⟨by rfl, rfl⟩) ?_
     (try simp only [List.getElem_toArray, List.getElem_cons_succ, List.getElem_cons_zero]); (try dsimp only [Act.put]); (try simp only [List.setIfInBounds_toArray, List.set_cons_zero, List.set_cons_succ])
     refine wpAnyK_takeS (i := 17) (v := undef) rfl (by kernel_rfl) (by kernel_rfl) (by kernel_rfl) (by kernel_rfl) (fun _ _ _ h => h) hSd (Or.inr ⟨by rfl, rfl⟩) ?_
     (try simp only [List.getElem_toArray, List.getElem_cons_succ, List.getElem_cons_zero]); (try dsimp only [Act.put]); (try simp only [List.setIfInBounds_toArray, List.set_cons_zero, List.set_cons_succ])
     refine wpAnyK_takeS (i := 18) (v := undef) rfl (by kernel_rfl) (by kernel_rfl) (by kernel_rfl) (by kernel_rfl) (fun _ _ _ h => h) hSd (Or.inr ⟨by rfl, rfl⟩) ?_
     (try simp only [List.getElem_toArray, List.getElem_cons_succ, List.getElem_cons_zero]); (try dsimp only [Act.put]); (try simp only [List.setIfInBounds_toArray, List.set_cons_zero, List.set_cons_succ])
     refine wpAnyK_takeS (i := 19) (v := undef) rfl (by kernel_rfl) (by kernel_rfl) (by kernel_rfl) (by kernel_rfl) (fun _ _ _ h => h) hSd (Or.inr ⟨by rfl, rfl⟩) ?_
     (try simp only [List.getElem_toArray, List.getElem_cons_succ, List.getElem_cons_zero]); (try dsimp only [Act.put]); (try simp only [List.setIfInBounds_toArray, List.set_cons_zero, List.set_cons_succ])
     refine wpAnyK_takeS (i := 20) (v := undef) rfl (by kernel_rfl) (by kernel_rfl) (by kernel_rfl) (by kernel_rfl) (fun _ _ _ h => h) hSd (Or.inr ⟨by rfl, rfl⟩) ?_
     (try simp only [List.getElem_toArray, List.getElem_cons_succ, List.getElem_cons_zero]); (try dsimp only [Act.put]); (try simp only [List.setIfInBounds_toArray, List.set_cons_zero, List.set_cons_succ])
     refine wpAnyK_takeS (i := 21) (v := undef) rfl (by kernel_rfl) (by kernel_rfl) (by kernel_rfl) (by kernel_rfl) (fun _ _ _ h => h) hSd (Or.inr ⟨by rfl, rfl⟩) ?_
     (try simp only [List.getElem_toArray, List.getElem_cons_succ, List.getElem_cons_zero]); (try dsimp only [Act.put]); (try simp only [List.setIfInBounds_toArray, List.set_cons_zero, List.set_cons_succ])
     refine wpAnyK_takeS (i := 22) (v := undef) rfl (by kernel_rfl) (by kernel_rfl) (by kernel_rfl) (by kernel_rfl) (fun _ _ _ h => h) hSd (Or.inr ⟨by rfl, rfl⟩) ?_
     (try simp only [List.getElem_toArray, List.getElem_cons_succ, List.getElem_cons_zero]); (try dsimp only [Act.put]); (try simp only [List.setIfInBounds_toArray, List.set_cons_zero, List.set_cons_succ])
     refine wpAnyK_takeS (i := 23) (v := undef) rfl (by kernel_rfl) (by kernel_rfl) (by kernel_rfl) (by kernel_rfl) (fun _ _ _ h => h) hSd (Or.inr ⟨by rfl, rfl⟩) ?_
     (try simp only [List.getElem_toArray, List.getElem_cons_succ, List.getElem_cons_zero]); (try dsimp only [Act.put]); (try simp only [List.setIfInBounds_toArray, List.set_cons_zero, List.set_cons_succ])
     refine wpAnyK_takeS (i := 24) (v := undef) rfl (by kernel_rfl) (by kernel_rfl) (by kernel_rfl) (by kernel_rfl) (fun _ _ _ h => h) hSd (Or.inr ⟨by rfl, rfl⟩) ?_
     (try simp only [List.getElem_toArray, List.getElem_cons_succ, List.getElem_cons_zero]); (try dsimp only [Act.put]); (try simp only [List.setIfInBounds_toArray, List.set_cons_zero, List.set_cons_succ])
     refine wpAnyK_takeS (i := 25) (v := undef) rfl (by kernel_rfl) (by kernel_rfl) (by kernel_rfl) (by kernel_rfl) (fun _ _ _ h => h) hSd (Or.inr ⟨by rfl, rfl⟩) ?_
     (try simp only [List.getElem_toArray, List.getElem_cons_succ, List.getElem_cons_zero]); (try dsimp only [Act.put]); (try simp only [List.setIfInBounds_toArray, List.set_cons_zero, List.set_cons_succ])
     refine wpAnyK_takeS (i := 26) (v := undef) rfl (by kernel_rfl) (by kernel_rfl) (by kernel_rfl) (by kernel_rfl) (fun _ _ _ h => h) hSd (Or.inr ⟨by rfl, rfl⟩) ?_
     (try simp only [List.getElem_toArray, List.getElem_cons_succ, List.getElem_cons_zero]); (try dsimp only [Act.put]); (try simp only [List.setIfInBounds_toArray, List.set_cons_zero, List.set_cons_succ])
     refine wpAnyK_takeS (i := 27) (v := undef) rfl (by kernel_rfl) (by kernel_rfl) (by kernel_rfl) (by kernel_rfl) (fun _ _ _ h => h) hSd (Or.inr ⟨by rfl, rfl⟩) ?_
     (try simp only [List.getElem_toArray, List.getElem_cons_succ, List.getElem_cons_zero]); (try dsimp only [Act.put]); (try simp only [List.setIfInBounds_toArray, List.set_cons_zero, List.set_cons_succ])
     refine wpAnyK_takeS (i := 28) (v := undef) rfl (by kernel_rfl) (by kernel_rfl) (by kernel_rfl) (by kernel_rfl) (fun _ _ _ h => h) hSd (Or.inr ⟨by rfl, rfl⟩) ?_
     (try simp only [List.getElem_toArray, List.getElem_cons_succ, List.getElem_cons_zero]); (try dsimp only [Act.put]); (try simp only [List.setIfInBounds_toArray, List.set_cons_zero, List.set_cons_succ])
     refine wpAnyK_takeS (i := 29) (v := undef) rfl (by kernel_rfl) (by kernel_rfl) (by kernel_rfl) (by kernel_rfl) (fun _ _ _ h => h) hSd (Or.inr ⟨by rfl, rfl⟩) ?_
     (try simp only [List.getElem_toArray, List.getElem_cons_succ, List.getElem_cons_zero]); (try dsimp only [Act.put]); (try simp only [List.setIfInBounds_toArray, List.set_cons_zero, List.set_cons_succ])
     refine wpAnyK_takeS (i := 30) (v := undef) rfl (by kernel_rfl) (by kernel_rfl) (by kernel_rfl) (by kernel_rfl) (fun _ _ _ h => h) hSd (Or.inr ⟨by rfl, rfl⟩) ?_
     (try simp only [List.getElem_toArray, List.getElem_cons_succ, List.getElem_cons_zero]); (try dsimp only [Act.put]); (try simp only [List.setIfInBounds_toArray, List.set_cons_zero, List.set_cons_succ])
     refine wpAnyK_takeS (i := 31) (v := undef) rfl (by kernel_rfl) (by kernel_rfl) (by kernel_rfl) (by kernel_rfl) (fun _ _ _ h => h) hSd (Or.inr ⟨by rfl, rfl⟩) ?_
     (try simp only [List.getElem_toArray, List.getElem_cons_succ, List.getElem_cons_zero]); (try dsimp only [Act.put]); (try simp only [List.setIfInBounds_toArray, List.set_cons_zero, List.set_cons_succ])
     refine wpAnyK_takeS (i := 32) (v := ?_) rfl (by kernel_rfl) (by kernel_rfl) (by kernel_rfl) (by kernel_rfl) (fun _ _ _ h => h) hSd (Or.inl ⟨by rfl, ?_⟩) ?_
     rotate_left 1
     (intro w hSw; (try dsimp only at hSw); go_simp; try (with_reducible rfl))
     (try simp only [List.getElem_toArray, List.getElem_cons_succ, List.getElem_cons_zero]); (try dsimp only [Act.put]); (try simp only [List.setIfInBounds_toArray, List.set_cons_zero, List.set_cons_succ])
     refine wpAnyK_takeS (i := 33) (v := ?_) rfl (by kernel_rfl) (by kernel_rfl) (by kernel_rfl) (by kernel_rfl) (fun _ _ _ h => h) hSd (Or.inl ⟨by rfl, ?_⟩) ?_
     rotate_left 1
     (intro w hSw; (try dsimp only at hSw); go_simp; try (with_reducible rfl))
     (try simp only [List.getElem_toArray, List.getElem_cons_succ, List.getElem_cons_zero]); (try dsimp only [Act.put]); (try simp only [List.setIfInBounds_toArray, List.set_cons_zero, List.set_cons_succ])
     clear hSd
     refine wpAnyK_done (by kernel_rfl) ?_ _
     go_wp2_with fail
     go_roundg (ps.length - (kk + 1))
     case measure => omega
     case rel => exact ⟨kk + 1, by omega, by omega, by go_num, HWr⟩
   ·have hkk2 : kk = ps.length := by omega
    subst hkk2
    have HRo := Lib.hid (show Calls Try.prog 35 #[.agg #[.slice Ao os.length co], .string dd.f0] wr (fun en w' => ∃ v, en = .returned (.tuple #[v, .int .i64 0]) ∧ OwnS w' wr.heap.size v rs ∧ Below wr.heap.size wr w') by
     have h1 := c_Reach os Ao co dd.f0 wr (Kd.C_below HCo.out HB.out) hco (okP_of (by omega) HOb.out)
     rw [HOd.out, HOa.out] at h1
     exact h1)
    have kO := (blk_cell BOr.out 0).trans rfl
    have kD := (blk_cell BDr.out 0).trans rfl
    go_wp2_with fail
    refine HRo.out.mono ?_
    rintro en w26 ⟨v, rfl, hO, hb⟩
    obtain ⟨A5, c5, rfl, hc5, hC5⟩ := OwnS.reads hO
    have HB26 := Aside0.mk (HB.out.trans (hb.mono HB.out.size))
    have BR26 := Aside0.mk (blk_below BRr.out hb)
    have HE := Lib.hid (show Calls Try.prog 21 #[.slice A5 rs.length c5, .slice (some ar) rs.length cr] w26 (fun en w' => en = .returned (.bool true) ∧ Below w26.heap.size w26 w') from (c_EqS A5 (some ar) c5 cr rs rs w26 hC5 hc5 (Kd.C_below HCr.out HB26.out) hcr).mono (by rintro en w' ⟨rfl, hb⟩; exact ⟨by simp, hb⟩))
    clear hb hO hC5 kO kD HRo
    have kR := (blk_cell BR26.out 0).trans rfl
    go_wp2_with fail
    refine HE.out.mono ?_
    rintro en w27 ⟨rfl, hb⟩
    have HB27 := Aside0.mk (HB26.out.trans (hb.mono HB26.out.size))
    have HQ27 := Aside0.mk (HQa.out.trans (HB27.out.mono HQa.out.size))
    have Q27 := Aside0.mk (Q2.out.trans (HQ27.out.mono Q2.out.size))
    have Qt := Aside0.mk (Q.out.trans (Q27.out.mono Q.out.size))
    have HAw := Lib.hid (c_awake w27)
    clear hb kR HE
    go_wp2_with fail
    refine HAw.out.mono ?_
    rintro en wu ⟨rfl, hb⟩
    have Qu := Aside0.mk (Qt.out.trans (hb.mono Qt.out.size))
    clear hb HAw
    go_wp2_with fail
    go_ret
    exact ⟨rfl, Qu.out⟩
end Go.Proofs.Ytacefdkfbpgedaa.Mine
