/- prog's right: the error of a definition by itself. -/
import Derived.Test.YtacefdkfbpgedaaGreatCH3
import Derived.Deep.RegionLaw
import Derived.Deep.RegionHeld3
import Derived.Test.YtacefdkfbpgedaaGreatCH2
import Derived.Deep.QuietTactic
import Derived.BigQuiet
import Derived.OwnWalkIn
namespace Go.Proofs.YtacefdkfbpgedaaGreat.Mine
open Go.Proofs.YtacefdkfbpgedaaGreat.PProgSmall
open Go.RowKit Go.Shelf Go.Proofs.YtacefdkfbpgedaaGreatW.PrintWords Go.Proofs.YtacefdkfbpgedaaGreatW.PrintLast Go.Proofs.YtacefdkfbpgedaaGreatW.PrintMore
set_option linter.unusedVariables false
set_option linter.unusedSimpArgs false
theorem RowN.reads {w0 W : World} {base : Nat} {ok : Nat → Prop} {v : Value} {xs : List Ex} (h : RowN w0 W base ok v xs) (hk : ∀ k, ok k → k < w0.heap.size → W.heap[k]? = w0.heap[k]?) : ∃ A c, v = .slice A xs.length c ∧ xs.length ≤ c ∧ Kd.C k57 W A xs.length xs := by
  obtain ⟨rows, hl, hR, hf⟩ := h
  obtain ⟨A, c, rfl, hc, hC⟩ := Kd.R_reads hR
  rw [hl] at hC hc ⊢
  refine ⟨A, c, rfl, hc, rfl, hC.2.1, fun hp => ?_⟩
  obtain ⟨ad, rfl, hg⟩ := hC.2.2 hp
  refine ⟨ad, rfl, fun j p hj => ?_⟩
  obtain ⟨hjl, hjp⟩ := List.getElem?_eq_some_iff.1 hj
  have hr : rows[j]? = some rows[j] := List.getElem?_eq_getElem (by omega)
  obtain ⟨cs, h1, h2, h3⟩ := hg j _ hr
  have hFK := Kd.FK_now (Kd.FK_step (hf j p _ hj hr) hk)
  exact ⟨cs, h1, by rw [h2.1]; exact hFK, h3⟩
structure OkD (d : De) : Prop where
  p : d.f1.length ≤ 100000
  c : d.f2.length ≤ 100000
  v : ∀ c ∈ d.f2, c.f1.length ≤ 100000
  z : ∀ b ∈ bodiesD d, szE b < 1000000
  ps : ∀ s ∈ d.f1, s.size ≤ nmLim
  cs : ∀ c ∈ d.f2, c.f0.size ≤ nmLim
  vs : ∀ c ∈ d.f2, ∀ s ∈ c.f1, s.size ≤ nmLim
def clashB (d : De) : Bool := decide ((0 : Int) < (d.f2.length : Int)) && ((d.f3.f0 != 0) || ((d.f1.length : Int) == 0))
def rightD (sc : Bool) (d : De) : Int :=
  bif decide ((4 : Int) < (d.f1.length : Int)) then 2 else bif decide ((6 : Int) < (d.f2.length : Int)) then 2 else bif !(d.f2.all fun c => decide (c.f1.length ≤ 4)) then 2 else
  bif !((bodiesD d).all fun b => decide (szE b ≤ 24)) then 2 else bif !((eachD d).all fewB) then 2 else
  bif !((eachD d).all kindB) then 3 else
  bif !(nameB d.f0) then 4 else bif !(d.f1.all nameB) then 4 else bif !(d.f2.all fun c => nameB c.f0) then 4 else
  bif !(d.f2.all fun c => c.f1.all nameB) then 4 else bif !((eachD d).all fun e => nameB e.f1) then 4 else
  bif twB d.f1 then 5 else bif !(d.f2.all fun c => !twB (d.f1 ++ c.f1)) then 5 else bif twB (d.f2.map headC) then 5 else
  bif clashB d then 7 else bif !sc then 1 else 0
set_option maxRecDepth 100000 in
set_option maxHeartbeats 8000000 in
theorem c_right (d : De) (cs : List Value) (w : World) (hd : Kd.FK k59 w (fun k => k < w.heap.size) d cs) (hok : OkD d) (sc : Bool)
    (hsc : ∀ W, Below w.heap.size w W → Calls Tryz.prog 155 #[.agg cs.toArray] W fun en w' => en = .returned (.bool sc) ∧ Below W.heap.size W w') :
    Calls Tryz.prog 98 #[.agg cs.toArray] w fun en w' => en = .returned (.int .i64 (rightD sc d)) ∧ Below w.heap.size w w' := by
  have h6 : cs.length = 6 := k59.K_len (Kd.FK_now hd)
  have p1 := hok.p
  have p2 := hok.c
  obtain ⟨W1, hW1⟩ : ∃ W1, w.alloc (.cells cs.toArray 59) = W1 := ⟨_, rfl⟩
  have q1 : Below w.heap.size w W1 := by rw [← hW1]; exact below_alloc1 _ _
  have z1 : W1.heap.size = w.heap.size + 1 := by rw [← hW1]; simp
  have bD : W1.heap[w.heap.size]? = some (.cells cs.toArray 59 (0, 0)) := by rw [← hW1]; exact alloc_at _ _
  -- what is known of each world behind the first
  have fk : ∀ W, Below W1.heap.size W1 W → Kd.FK k59 W (fun k => k < W.heap.size) d cs := fun W hb => Kd.FK_mono (Kd.FK_below hd (q1.trans (hb.mono q1.size))) (fun k hk => by have := hb.size; omega)
  have HFk := Lib.hid fk
  have HSc := Lib.hid (fun W (hb : Below W1.heap.size W1 W) => hsc W (q1.trans (hb.mono q1.size)))
  have HV := Lib.hid (fun (p : List ByteArray → Bool) (g : Nat) (lb : Array Value) (eg : ∀ args w, (callFunc g args).run Tryz.prog w = .ok (.enter g args) w) W (hb : Below W1.heap.size W1 W) => c_right3 d cs w.heap.size W (Kd.FK_now (fk W hb)) (blk_below bD hb) g lb eg p)
  have HA := Lib.hid (fun (p : Ex → Bool) (g : Nat) (lb : Array Value) (eg : ∀ args w, (callFunc g args).run Tryz.prog w = .ok (.enter g args) w) W (hb : Below W1.heap.size W1 W) => c_all d cs W (fk W hb) (by omega) hok.z g lb eg p)
  have HB := Lib.hid (fun W (hb : Below W1.heap.size W1 W) => c_bodies d cs (fun k => k < W.heap.size) W (fk W hb) (by omega))
  have HD := Lib.hid bD
  have HQ1 := Lib.hid q1
  have HK1 := Lib.hid (Kd.FK_now (fk W1 (Below.refl _ _)))
  obtain ⟨A1, c1, A2, c2, A5, c5, rfl, l1, g1, l2, g2, l5, g5⟩ := k59_open (Kd.FK_now (fk W1 (Below.refl _ _)))
  have HG1 := Lib.hid g1
  have HG2 := Lib.hid g2
  have HW1 := Lib.hid hW1
  clear fk hd hsc q1 bD g1 g2 g5 hW1
  simp only [List.cons_append, List.nil_append] at HA
  cases t1 : decide ((4 : Int) < (d.f1.length : Int)) with
  | true =>
    have HR := Lib.hid (show rightD sc d = 2 by rw [rightD, t1]; rfl)
    go_enter Tryz.func98, Tryz.ntmps98
    go_wp2
    go_ret
    exact ⟨reti HR.out.symm, below_alloc1 _ _⟩
  | false =>
  cases t2 : decide ((6 : Int) < (d.f2.length : Int)) with
  | true =>
    have HR := Lib.hid (show rightD sc d = 2 by rw [rightD, t1, t2]; rfl)
    go_enter Tryz.func98, Tryz.ntmps98
    go_wp2
    go_ret
    exact ⟨reti HR.out.symm, below_alloc1 _ _⟩
  | false =>
  have HR := Lib.hid (show rightD sc d = _ by rw [rightD, t1, t2, cond_false, cond_false])
  have HV4 := Lib.hid (HV.out (fun l => decide (l.length ≤ 4)) 146 #[] (enters_of Tryz.func146 (by kernel_rfl) rfl) W1 (Below.refl _ _) (fun x A c W _ _ _ _ => c_right4 x.f1 A c W))
  go_enter Tryz.func98, Tryz.ntmps98
  go_wp2_with fail
  rw [HW1.out]
  have HC3 := Lib.hid (HV4.out)
  skip
  refine HC3.out.mono ?_
  rintro en w2 ⟨rfl, hb_⟩
  have hB2 : Below W1.heap.size W1 w2 := hb_
  clear hb_ HC3
  have bD_ := blk_below HD.out hB2
  have k2_0 := (blk_cell bD_ 0).trans rfl
  have k2_1 := (blk_cell bD_ 1).trans rfl
  have k2_2 := (blk_cell bD_ 2).trans rfl
  have k2_3 := (blk_cell bD_ 3).trans rfl
  have k2_4 := (blk_cell bD_ 4).trans rfl
  have k2_5 := (blk_cell bD_ 5).trans rfl
  clear bD_
  cases h_ : (d.f2.all fun c => decide (c.f1.length ≤ 4)) with
  | false =>
    have X3 := Lib.hid h_
    clear h_
    go_wp2
    go_ret
    exact ⟨reti (by rw [HR.out]; simp only [X3.out, Bool.not_true, Bool.not_false, cond_true, cond_false]), HQ1.out.trans (hB2.mono HQ1.out.size)⟩
  | true =>
  have X3 := Lib.hid h_
  clear h_
  have HC_ := Lib.hid (HB.out w2 hB2)
  go_wp2_with fail
  refine HC_.out.mono ?_
  rintro en w3 ⟨v3, rfl, hRow, hb_⟩
  have hB3 : Below W1.heap.size W1 w3 := hB2.trans (hb_.mono hB2.size)
  obtain ⟨Av, cv, rfl, hcv, hCv⟩ := hRow.reads (fun k hk hlt => hb_.block k hlt)
  have HE5 := Lib.hid (evE_p Av cv (bodiesD d) w3 hcv hCv 147 #[] (enters_of Tryz.func147 (by kernel_rfl) rfl) (fun b => decide (szE b ≤ 24)) (fun x cs W hx hK _ => by obtain ⟨Ax, cx, rfl, lx, gx⟩ := k57_open hK; exact c_right5 x Ax cx W (by have := hok.z x hx; omega) gx lx))
  obtain ⟨bs, hbs⟩ : ∃ bs, bodiesD d = bs := ⟨_, rfl⟩
  have HBs := Lib.hid hbs
  rw [hbs] at HR
  rw [hbs] at HE5 ⊢
  clear hRow hCv hb_ HC_ hbs
  clear k2_0 k2_1 k2_2 k2_3 k2_4 k2_5
  have bD_ := blk_below HD.out hB3
  have k3_0 := (blk_cell bD_ 0).trans rfl
  have k3_1 := (blk_cell bD_ 1).trans rfl
  have k3_2 := (blk_cell bD_ 2).trans rfl
  have k3_3 := (blk_cell bD_ 3).trans rfl
  have k3_4 := (blk_cell bD_ 4).trans rfl
  have k3_5 := (blk_cell bD_ 5).trans rfl
  clear bD_
  have HC4 := Lib.hid (HE5.out)
  go_wp2_with fail
  refine HC4.out.mono ?_
  rintro en w4 ⟨rfl, hb_⟩
  have hB4 : Below W1.heap.size W1 w4 := hB3.trans (hb_.mono hB3.size)
  clear hb_ HC4
  clear k3_0 k3_1 k3_2 k3_3 k3_4 k3_5
  have bD_ := blk_below HD.out hB4
  have k4_0 := (blk_cell bD_ 0).trans rfl
  have k4_1 := (blk_cell bD_ 1).trans rfl
  have k4_2 := (blk_cell bD_ 2).trans rfl
  have k4_3 := (blk_cell bD_ 3).trans rfl
  have k4_4 := (blk_cell bD_ 4).trans rfl
  have k4_5 := (blk_cell bD_ 5).trans rfl
  clear bD_
  cases h_ : (bs.all fun b => decide (szE b ≤ 24)) with
  | false =>
    have X4 := Lib.hid h_
    clear h_
    go_wp2
    go_ret
    exact ⟨reti (by rw [HR.out]; simp only [X3.out, X4.out, Bool.not_true, Bool.not_false, cond_true, cond_false]), HQ1.out.trans (hB4.mono HQ1.out.size)⟩
  | true =>
  have X4 := Lib.hid h_
  clear h_
  have HC5 := Lib.hid (HA.out fewB 141 #[] (enters_of Tryz.func141 (by kernel_rfl) rfl) w4 hB4 (fun x A c W _ hc hC _ => c_right1 x A c W hC.2.1))
  go_wp2_with fail
  refine HC5.out.mono ?_
  rintro en w5 ⟨rfl, hb_⟩
  have hB5 : Below W1.heap.size W1 w5 := hB4.trans (hb_.mono hB4.size)
  clear hb_ HC5
  clear k4_0 k4_1 k4_2 k4_3 k4_4 k4_5
  have bD_ := blk_below HD.out hB5
  have k5_0 := (blk_cell bD_ 0).trans rfl
  have k5_1 := (blk_cell bD_ 1).trans rfl
  have k5_2 := (blk_cell bD_ 2).trans rfl
  have k5_3 := (blk_cell bD_ 3).trans rfl
  have k5_4 := (blk_cell bD_ 4).trans rfl
  have k5_5 := (blk_cell bD_ 5).trans rfl
  clear bD_
  cases h_ : ((eachD d).all fewB) with
  | false =>
    have X5 := Lib.hid h_
    clear h_
    go_wp2
    go_ret
    exact ⟨reti (by rw [HR.out]; simp only [X3.out, X4.out, X5.out, Bool.not_true, Bool.not_false, cond_true, cond_false]), HQ1.out.trans (hB5.mono HQ1.out.size)⟩
  | true =>
  have X5 := Lib.hid h_
  clear h_
  have HC6 := Lib.hid (HA.out kindB 142 #[] (enters_of Tryz.func142 (by kernel_rfl) rfl) w5 hB5 (fun x A c W _ hc hC _ => c_right2 x A c W hC.2.1))
  go_wp2_with fail
  refine HC6.out.mono ?_
  rintro en w6 ⟨rfl, hb_⟩
  have hB6 : Below W1.heap.size W1 w6 := hB5.trans (hb_.mono hB5.size)
  clear hb_ HC6
  clear k5_0 k5_1 k5_2 k5_3 k5_4 k5_5
  have bD_ := blk_below HD.out hB6
  have k6_0 := (blk_cell bD_ 0).trans rfl
  have k6_1 := (blk_cell bD_ 1).trans rfl
  have k6_2 := (blk_cell bD_ 2).trans rfl
  have k6_3 := (blk_cell bD_ 3).trans rfl
  have k6_4 := (blk_cell bD_ 4).trans rfl
  have k6_5 := (blk_cell bD_ 5).trans rfl
  clear bD_
  cases h_ : ((eachD d).all kindB) with
  | false =>
    have X6 := Lib.hid h_
    clear h_
    go_wp2
    go_ret
    exact ⟨reti (by rw [HR.out]; simp only [X3.out, X4.out, X5.out, X6.out, Bool.not_true, Bool.not_false, cond_true, cond_false]), HQ1.out.trans (hB6.mono HQ1.out.size)⟩
  | true =>
  have X6 := Lib.hid h_
  clear h_
  have HC7 := Lib.hid (c_named d.f0 w6)
  go_wp2_with fail
  refine HC7.out.mono ?_
  rintro en w7 ⟨rfl, hb_⟩
  have hB7 : Below W1.heap.size W1 w7 := hB6.trans (hb_.mono hB6.size)
  clear hb_ HC7
  clear k6_0 k6_1 k6_2 k6_3 k6_4 k6_5
  have bD_ := blk_below HD.out hB7
  have k7_0 := (blk_cell bD_ 0).trans rfl
  have k7_1 := (blk_cell bD_ 1).trans rfl
  have k7_2 := (blk_cell bD_ 2).trans rfl
  have k7_3 := (blk_cell bD_ 3).trans rfl
  have k7_4 := (blk_cell bD_ 4).trans rfl
  have k7_5 := (blk_cell bD_ 5).trans rfl
  clear bD_
  cases h_ : (nameB d.f0) with
  | false =>
    have X7 := Lib.hid h_
    clear h_
    go_wp2
    go_ret
    exact ⟨reti (by rw [HR.out]; simp only [X3.out, X4.out, X5.out, X6.out, X7.out, Bool.not_true, Bool.not_false, cond_true, cond_false]), HQ1.out.trans (hB7.mono HQ1.out.size)⟩
  | true =>
  have X7 := Lib.hid h_
  clear h_
  have HC8 := Lib.hid (evS_p A1 c1 d.f1 w7 l1 (Kd.C_below HG1.out hB7) 112 #[] (enters_of Tryz.func112 (by kernel_rfl) rfl) nameB (fun x cs W _ _ _ => c_named x W))
  go_wp2_with fail
  refine HC8.out.mono ?_
  rintro en w8 ⟨rfl, hb_⟩
  have hB8 : Below W1.heap.size W1 w8 := hB7.trans (hb_.mono hB7.size)
  clear hb_ HC8
  clear k7_0 k7_1 k7_2 k7_3 k7_4 k7_5
  have bD_ := blk_below HD.out hB8
  have k8_0 := (blk_cell bD_ 0).trans rfl
  have k8_1 := (blk_cell bD_ 1).trans rfl
  have k8_2 := (blk_cell bD_ 2).trans rfl
  have k8_3 := (blk_cell bD_ 3).trans rfl
  have k8_4 := (blk_cell bD_ 4).trans rfl
  have k8_5 := (blk_cell bD_ 5).trans rfl
  clear bD_
  cases h_ : (d.f1.all nameB) with
  | false =>
    have X8 := Lib.hid h_
    clear h_
    go_wp2
    go_ret
    exact ⟨reti (by rw [HR.out]; simp only [X3.out, X4.out, X5.out, X6.out, X7.out, X8.out, Bool.not_true, Bool.not_false, cond_true, cond_false]), HQ1.out.trans (hB8.mono HQ1.out.size)⟩
  | true =>
  have X8 := Lib.hid h_
  clear h_
  have HC9 := Lib.hid (evC_p A2 c2 d.f2 w8 l2 (Kd.C_below HG2.out hB8) 149 #[] (enters_of Tryz.func149 (by kernel_rfl) rfl) (fun c => nameB c.f0) (fun x cs W _ hK _ => c_right6 x cs W hK))
  go_wp2_with fail
  refine HC9.out.mono ?_
  rintro en w9 ⟨rfl, hb_⟩
  have hB9 : Below W1.heap.size W1 w9 := hB8.trans (hb_.mono hB8.size)
  clear hb_ HC9
  clear k8_0 k8_1 k8_2 k8_3 k8_4 k8_5
  have bD_ := blk_below HD.out hB9
  have k9_0 := (blk_cell bD_ 0).trans rfl
  have k9_1 := (blk_cell bD_ 1).trans rfl
  have k9_2 := (blk_cell bD_ 2).trans rfl
  have k9_3 := (blk_cell bD_ 3).trans rfl
  have k9_4 := (blk_cell bD_ 4).trans rfl
  have k9_5 := (blk_cell bD_ 5).trans rfl
  clear bD_
  cases h_ : (d.f2.all fun c => nameB c.f0) with
  | false =>
    have X9 := Lib.hid h_
    clear h_
    go_wp2
    go_ret
    exact ⟨reti (by rw [HR.out]; simp only [X3.out, X4.out, X5.out, X6.out, X7.out, X8.out, X9.out, Bool.not_true, Bool.not_false, cond_true, cond_false]), HQ1.out.trans (hB9.mono HQ1.out.size)⟩
  | true =>
  have X9 := Lib.hid h_
  clear h_
  have HC10 := Lib.hid (HV.out (fun l => l.all nameB) 150 #[] (enters_of Tryz.func150 (by kernel_rfl) rfl) w9 hB9 (fun x A c W _ _ hc hC => c_right7 x.f1 A c W hC hc))
  go_wp2_with fail
  refine HC10.out.mono ?_
  rintro en w10 ⟨rfl, hb_⟩
  have hB10 : Below W1.heap.size W1 w10 := hB9.trans (hb_.mono hB9.size)
  clear hb_ HC10
  clear k9_0 k9_1 k9_2 k9_3 k9_4 k9_5
  have bD_ := blk_below HD.out hB10
  have k10_0 := (blk_cell bD_ 0).trans rfl
  have k10_1 := (blk_cell bD_ 1).trans rfl
  have k10_2 := (blk_cell bD_ 2).trans rfl
  have k10_3 := (blk_cell bD_ 3).trans rfl
  have k10_4 := (blk_cell bD_ 4).trans rfl
  have k10_5 := (blk_cell bD_ 5).trans rfl
  clear bD_
  cases h_ : (d.f2.all fun c => c.f1.all nameB) with
  | false =>
    have X10 := Lib.hid h_
    clear h_
    go_wp2
    go_ret
    exact ⟨reti (by rw [HR.out]; simp only [X3.out, X4.out, X5.out, X6.out, X7.out, X8.out, X9.out, X10.out, Bool.not_true, Bool.not_false, cond_true, cond_false]), HQ1.out.trans (hB10.mono HQ1.out.size)⟩
  | true =>
  have X10 := Lib.hid h_
  clear h_
  have HC11 := Lib.hid (HA.out (fun e => nameB e.f1) 151 #[] (enters_of Tryz.func151 (by kernel_rfl) rfl) w10 hB10 (fun x A c W _ hc hC _ => c_right8 x A c W))
  go_wp2_with fail
  refine HC11.out.mono ?_
  rintro en w11 ⟨rfl, hb_⟩
  have hB11 : Below W1.heap.size W1 w11 := hB10.trans (hb_.mono hB10.size)
  clear hb_ HC11
  clear k10_0 k10_1 k10_2 k10_3 k10_4 k10_5
  have bD_ := blk_below HD.out hB11
  have k11_0 := (blk_cell bD_ 0).trans rfl
  have k11_1 := (blk_cell bD_ 1).trans rfl
  have k11_2 := (blk_cell bD_ 2).trans rfl
  have k11_3 := (blk_cell bD_ 3).trans rfl
  have k11_4 := (blk_cell bD_ 4).trans rfl
  have k11_5 := (blk_cell bD_ 5).trans rfl
  clear bD_
  cases h_ : ((eachD d).all (fun e => nameB e.f1)) with
  | false =>
    have X11 := Lib.hid h_
    clear h_
    go_wp2
    go_ret
    exact ⟨reti (by rw [HR.out]; simp only [X3.out, X4.out, X5.out, X6.out, X7.out, X8.out, X9.out, X10.out, X11.out, Bool.not_true, Bool.not_false, cond_true, cond_false]), HQ1.out.trans (hB11.mono HQ1.out.size)⟩
  | true =>
  have X11 := Lib.hid h_
  clear h_
  have HC12 := Lib.hid (c_twice A1 c1 d.f1 w11 (Kd.C_below HG1.out hB11) l1 hok.ps (by omega))
  go_wp2_with fail
  refine HC12.out.mono ?_
  rintro en w12 ⟨rfl, hb_⟩
  have hB12 : Below W1.heap.size W1 w12 := hB11.trans (hb_.mono hB11.size)
  clear hb_ HC12
  clear k11_0 k11_1 k11_2 k11_3 k11_4 k11_5
  have bD_ := blk_below HD.out hB12
  have k12_0 := (blk_cell bD_ 0).trans rfl
  have k12_1 := (blk_cell bD_ 1).trans rfl
  have k12_2 := (blk_cell bD_ 2).trans rfl
  have k12_3 := (blk_cell bD_ 3).trans rfl
  have k12_4 := (blk_cell bD_ 4).trans rfl
  have k12_5 := (blk_cell bD_ 5).trans rfl
  clear bD_
  cases h_ : (twB d.f1) with
  | true =>
    have X12 := Lib.hid h_
    clear h_
    go_wp2
    go_ret
    exact ⟨reti (by rw [HR.out]; simp only [X3.out, X4.out, X5.out, X6.out, X7.out, X8.out, X9.out, X10.out, X11.out, X12.out, Bool.not_true, Bool.not_false, cond_true, cond_false]), HQ1.out.trans (hB12.mono HQ1.out.size)⟩
  | false =>
  have X12 := Lib.hid h_
  clear h_
  have HC13 := Lib.hid (HV.out (fun l => !twB (d.f1 ++ l)) 152 #[.pointer (some ⟨w.heap.size, 0, none⟩)] (enters_of Tryz.func152 (by kernel_rfl) rfl) w12 hB12 (fun x A c W hx hb hc hC => c_right9 d _ w.heap.size x.f1 A c W (k59.K_below (hB12.trans (hb.mono hB12.size)) HK1.out) (blk_below HD.out (hB12.trans (hb.mono hB12.size))) hC hc (by have := hok.v x hx; omega) hok.ps (hok.vs x hx)))
  go_wp2_with fail
  refine HC13.out.mono ?_
  rintro en w13 ⟨rfl, hb_⟩
  have hB13 : Below W1.heap.size W1 w13 := hB12.trans (hb_.mono hB12.size)
  clear hb_ HC13
  clear k12_0 k12_1 k12_2 k12_3 k12_4 k12_5
  have bD_ := blk_below HD.out hB13
  have k13_0 := (blk_cell bD_ 0).trans rfl
  have k13_1 := (blk_cell bD_ 1).trans rfl
  have k13_2 := (blk_cell bD_ 2).trans rfl
  have k13_3 := (blk_cell bD_ 3).trans rfl
  have k13_4 := (blk_cell bD_ 4).trans rfl
  have k13_5 := (blk_cell bD_ 5).trans rfl
  clear bD_
  cases h_ : (d.f2.all fun c => !twB (d.f1 ++ c.f1)) with
  | false =>
    have X13 := Lib.hid h_
    clear h_
    go_wp2
    go_ret
    exact ⟨reti (by rw [HR.out]; simp only [X3.out, X4.out, X5.out, X6.out, X7.out, X8.out, X9.out, X10.out, X11.out, X12.out, X13.out, Bool.not_true, Bool.not_false, cond_true, cond_false]), HQ1.out.trans (hB13.mono HQ1.out.size)⟩
  | true =>
  have X13 := Lib.hid h_
  clear h_
  have HC14 := Lib.hid (c_heads A2 c2 d.f2 w13 (Kd.C_below HG2.out hB13) l2 hok.cs (by omega))
  go_wp2_with fail
  refine HC14.out.mono ?_
  rintro en w14 ⟨rfl, hb_⟩
  have hB14 : Below W1.heap.size W1 w14 := hB13.trans (hb_.mono hB13.size)
  clear hb_ HC14
  clear k13_0 k13_1 k13_2 k13_3 k13_4 k13_5
  have bD_ := blk_below HD.out hB14
  have k14_0 := (blk_cell bD_ 0).trans rfl
  have k14_1 := (blk_cell bD_ 1).trans rfl
  have k14_2 := (blk_cell bD_ 2).trans rfl
  have k14_3 := (blk_cell bD_ 3).trans rfl
  have k14_4 := (blk_cell bD_ 4).trans rfl
  have k14_5 := (blk_cell bD_ 5).trans rfl
  clear bD_
  cases h_ : (twB (d.f2.map headC)) with
  | true =>
    have X14 := Lib.hid h_
    clear h_
    go_wp2
    go_ret
    exact ⟨reti (by rw [HR.out]; simp only [X3.out, X4.out, X5.out, X6.out, X7.out, X8.out, X9.out, X10.out, X11.out, X12.out, X13.out, X14.out, Bool.not_true, Bool.not_false, cond_true, cond_false]), HQ1.out.trans (hB14.mono HQ1.out.size)⟩
  | false =>
  have X14 := Lib.hid h_
  clear h_
  have HSx := Lib.hid (HSc.out w14 hB14)
  have hHR : rightD sc d = (bif clashB d then 7 else bif !sc then 1 else 0) := by rw [HR.out]; simp only [X3.out, X4.out, X5.out, X6.out, X7.out, X8.out, X9.out, X10.out, X11.out, X12.out, X13.out, X14.out, Bool.not_true, Bool.not_false, cond_true, cond_false]
  have HRr := Lib.hid hHR
  clear hHR
  cases y1 : decide (0 < d.f2.length) with
  | true =>
    have y1z : decide ((0 : Int) < (d.f2.length : Int)) = true := by simpa using y1
    cases y2 : (d.f3.f0 != 0) with
    | true =>
      have Y := Lib.hid (show clashB d = true by rw [clashB, y1z, y2]; rfl)
      clear y1z
      go_wp2
      go_ret
      exact ⟨reti (by rw [HRr.out, Y.out]; rfl), HQ1.out.trans (hB14.mono HQ1.out.size)⟩
    | false =>
      cases y3 : ((d.f1.length : Int) == 0) with
      | true =>
        have Y := Lib.hid (show clashB d = true by rw [clashB, y1z, y2, y3]; rfl)
        clear y1z
        go_wp2
        go_ret
        exact ⟨reti (by rw [HRr.out, Y.out]; rfl), HQ1.out.trans (hB14.mono HQ1.out.size)⟩
      | false =>
        have Y := Lib.hid (show clashB d = false by rw [clashB, y1z, y2, y3]; rfl)
        clear y1z
        go_wp2_with fail
        refine HSx.out.mono ?_
        rintro en w15 ⟨rfl, hb_⟩
        have hB15 : Below W1.heap.size W1 w15 := hB14.trans (hb_.mono hB14.size)
        clear hb_
        cases sc with
        | true =>
          go_wp2
          go_ret
          exact ⟨reti (by rw [HRr.out, Y.out]; rfl), HQ1.out.trans (hB15.mono HQ1.out.size)⟩
        | false =>
          go_wp2
          go_ret
          exact ⟨reti (by rw [HRr.out, Y.out]; rfl), HQ1.out.trans (hB15.mono HQ1.out.size)⟩
  | false =>
    have y1z : decide ((0 : Int) < (d.f2.length : Int)) = false := by simpa using y1
    have Y := Lib.hid (show clashB d = false by rw [clashB, y1z]; rfl)
    clear y1z
    go_wp2_with fail
    refine HSx.out.mono ?_
    rintro en w15 ⟨rfl, hb_⟩
    have hB15 : Below W1.heap.size W1 w15 := hB14.trans (hb_.mono hB14.size)
    clear hb_
    cases sc with
    | true =>
      go_wp2
      go_ret
      exact ⟨reti (by rw [HRr.out, Y.out]; rfl), HQ1.out.trans (hB15.mono HQ1.out.size)⟩
    | false =>
      go_wp2
      go_ret
      exact ⟨reti (by rw [HRr.out, Y.out]; rfl), HQ1.out.trans (hB15.mono HQ1.out.size)⟩
end Go.Proofs.YtacefdkfbpgedaaGreat.Mine
namespace Go.Proofs.YtacefdkfbpgedaaGreat.Mine
open Go.Proofs.YtacefdkfbpgedaaGreat.PProgSmall
open Go.RowKit Go.Shelf Go.Proofs.YtacefdkfbpgedaaGreatW.PrintWords Go.Proofs.YtacefdkfbpgedaaGreatW.PrintLast Go.Proofs.YtacefdkfbpgedaaGreatW.PrintMore
set_option linter.unusedVariables false
set_option linter.unusedSimpArgs false
end Go.Proofs.YtacefdkfbpgedaaGreat.Mine
namespace Go.Proofs.YtacefdkfbpgedaaGreat.Mine
open Go.Proofs.YtacefdkfbpgedaaGreat.PProgSmall
open Go.RowKit Go.Shelf Go.Proofs.YtacefdkfbpgedaaGreatW.PrintWords Go.Proofs.YtacefdkfbpgedaaGreatW.PrintLast Go.Proofs.YtacefdkfbpgedaaGreatW.PrintMore
set_option linter.unusedVariables false
set_option linter.unusedSimpArgs false
attribute [local go_sem] Oper.semAt_some
def scopeI (d : De) (i : Nat) : List ByteArray := d.f1 ++ (match d.f2[i]? with | some c => c.f1 | none => [])
def okV (sc : List ByteArray) (e : Ex) : Bool := !((e.f0 == 1) && !(memB e.f1 sc))
def scopedD (d : De) : Bool := (List.range (bodiesD d).length).all fun i => (plE ((bodiesD d).getD i ⟨0, ⟨#[]⟩, []⟩)).all (okV (scopeI d i))
theorem scopedD_yes {d : De} (h : ∀ (i : Nat) (b : Ex), i < (bodiesD d).length → (bodiesD d)[i]? = some b → (plE b).all (okV (scopeI d i)) = true) : scopedD d = true := by
  rw [scopedD, List.all_eq_true]
  intro i hi
  have hi := List.mem_range.1 hi
  exact h i _ hi (by rw [List.getD_eq_getElem?_getD, List.getElem?_eq_getElem hi]; rfl)
theorem scopedD_no {d : De} {i : Nat} {b : Ex} (hi : (bodiesD d)[i]? = some b) {pre : List Ex} (hp : pre <+: plE b) {x : Ex} (hx : x ∈ pre) (hb : okV (scopeI d i) x = false) : scopedD d = false := by
  rw [scopedD, List.all_eq_false]
  have hlt := (List.getElem?_eq_some_iff.1 hi).1
  refine ⟨i, List.mem_range.2 hlt, ?_⟩
  rw [List.getD_eq_getElem?_getD, hi, Option.getD_some, Bool.not_eq_true]
  exact evens_any hp hx hb
theorem Below.of_putObj {n k : Nat} {W : World} {o : Obj} (h : n ≤ k) : Below n W (W.putObj k o) := ⟨rfl, rfl, rfl, by simp, fun i hi => World.putObj_heap_other (by omega)⟩
set_option maxHeartbeats 1000000 in
theorem c_scoped1 (s : ByteArray) (B : Nat) (A : Option Addr) (c : Nat) (l : List ByteArray) (w : World) (hbox : w.heap[B]? = some (.cells #[.slice A l.length c] 30 (0, 0))) (hr : Kd.C Kd.string w A l.length l) (hc : l.length ≤ c) :
    Calls Tryz.prog 171 #[.string s, .pointer (some ⟨B, 0, none⟩)] w fun e w' => e = .returned (.bool (memB s l)) ∧ w' = w := by
  have k0 := cell_of_one hbox
  have HC := Lib.hid (c_ContS A c l s w hr hc)
  clear hbox hr
  go_enter Tryz.func171, Tryz.ntmps171
  go_wp2_with fail
  refine HC.out.mono ?_
  rintro e w' ⟨rfl, rfl⟩
  go_wp2
  go_ret
  exact ⟨rfl, rfl⟩
set_option maxRecDepth 100000 in
set_option maxHeartbeats 8000000 in
theorem c_scoped (d : De) (cs : List Value) (w : World) (hd : Kd.FK k59 w (fun k => k < w.heap.size) d cs) (hl : d.f2.length ≤ 1000000) (hz : ∀ b ∈ bodiesD d, szE b < 1000000) (hp : d.f1.length ≤ 100000) (hv : ∀ c ∈ d.f2, c.f1.length ≤ 100000) :
    Calls Tryz.prog 155 #[.agg cs.toArray] w fun en w' => en = .returned (.bool (scopedD d)) ∧ Below w.heap.size w w' := by
  obtain ⟨A1, c1, A2, c2, A5, c5, hcs, l1, F1, l2, F2, _⟩ := k59_openF hd
  obtain ⟨W1, hW1⟩ : ∃ W1, (w.alloc (.cells cs.toArray 59)).alloc (.cells #[.bool false] 4) = W1 := ⟨_, rfl⟩
  have z1 : W1.heap.size = w.heap.size + 1 + 1 := by rw [← hW1]; simp
  have q1 : Below w.heap.size w W1 := by rw [← hW1]; exact below_alloc2 _ _ _
  have bD : W1.heap[w.heap.size]? = some (.cells cs.toArray 59 (0, 0)) := by rw [← hW1]; exact blk_alloc (alloc_at _ _) _
  have bR : W1.heap[w.heap.size + 1]? = some (.cells #[.bool false] 4 (0, 0)) := by rw [← hW1]; have := alloc_at (w.alloc (.cells cs.toArray 59)) (.cells #[.bool false] 4); rw [World.size_alloc] at this; exact this
  have HB := Lib.hid (c_bodies d cs (fun k => k < w.heap.size) W1 (Kd.FK_below hd q1) hl)
  subst hcs
  have g0 := (blk_cell bD 0).trans rfl
  have g1 := (blk_cell bD 1).trans rfl
  have g2 := (blk_cell bD 2).trans rfl
  have g3 := (blk_cell bD 3).trans rfl
  have g4 := (blk_cell bD 4).trans rfl
  have g5 := (blk_cell bD 5).trans rfl
  have HD := Lib.hid bD
  have HR := Lib.hid bR
  have HQ := Lib.hid q1
  have HW1 := Lib.hid hW1
  have HF1 := Lib.hid F1
  have HF2 := Lib.hid F2
  have hm2 := (Kd.F_now F2).2.1
  clear hd bD bR q1 hW1 F1 F2
  refine (callsIn_wide (n := 6)).1 (callsIn_of_wp_marks (F := Fence.wide) Tryz.func155 rfl trivial ?_ rfl)
  simp only [Tryz.ntmps155, List.size_toArray, List.length_cons, List.length_nil, Nat.reduceAdd, Nat.reduceSub, Array.replicate_succ, Array.replicate_zero, List.push_toArray, List.append_toArray, List.nil_append, List.cons_append]
  rw [← HW1.out] at g0 g1 g2 g3 g4 g5
  gi_wp2_with fail
  rw [HW1.out]
  clear g0 g1 g2 g3 g4 g5
  refine ⟨trivial, (callsIn_wide.2 HB.out).mono ?_⟩
  rintro en W2 ⟨v, rfl, hRow, hb2⟩
  obtain ⟨Av, cv, rfl⟩ := hRow.slice
  have R2 := Lib.hid hRow
  have B2 := Lib.hid hb2
  have hlen : (bodiesD d).length ≤ 1000001 := by
    unfold bodiesD; split
    · simp
    · simp; omega
  obtain ⟨bs, hbs⟩ : ∃ bs, bodiesD d = bs := ⟨_, rfl⟩
  rw [hbs] at R2 hlen hz ⊢
  have HBs := Lib.hid hbs
  clear hRow hb2 hbs
  gi_wp2_with fail
  obtain ⟨dv, hdv⟩ : ∃ x : Value, x = .agg #[.string d.f0, .slice A1 d.f1.length c1, .slice A2 d.f2.length c2, .int .i64 d.f3.f0, .string d.f3.f1, .slice A5 d.f3.f2.length c5] := ⟨_, rfl⟩
  rw [← hdv]
  have HDv := Lib.hid hdv
  clear hdv
  refine wpIn_loopT (fun a Wr => ∃ (kk : Nat) (Ds : List Nat) (u3 u4 u5 u6 u7 u12 u13 u14 u15 u16 u17 u18 u19 u20 u21 u22 u23 u24 u25 u26 u27 u28 u29 u30 u31 u32 u33 u34 u35 u36 u37 u38 u39 u40 u41 u42 u43 u44 u45 : Value),
      a = { tmps := #[dv, .pointer (some ⟨w.heap.size, 0, none⟩), .pointer (some ⟨w.heap.size + 1, 0, none⟩), u3, u4, u5, u6, u7, dv, .slice Av bs.length cv, .int .i64 bs.length, .int .i64 kk, u12, u13, u14, u15, u16, u17, u18, u19, u20, u21, u22, u23, u24, u25, u26, u27, u28, u29, u30, u31, u32, u33, u34, u35, u36, u37, u38, u39, u40, u41, u42, u43, u44, u45], defers := Ds.map markD } ∧
      kk ≤ bs.length ∧ (∀ (j : Nat) (b : Ex), j < kk → bs[j]? = some b → (plE b).all (okV (scopeI d j)) = true) ∧ Marks (w.heap.size + 2) Ds Wr ∧ Below W2.heap.size W2 Wr)
    (fun a _ => bs.length - (intOf (a.tmps.getD 11 undef)).toNat) ?_ ?_
  · exact ⟨0, [], _, _, _, _, _, _, _, _, _, _, _, _, _, _, _, _, _, _, _, _, _, _, _, _, _, _, _, _, _, _, _, _, _, _, _, _, _, _, _, rfl, Nat.zero_le _, fun j b h => absurd h (Nat.not_lt_zero _), Marks.nil _ _, Below.refl _ _⟩
  rintro a Wr ⟨kk, Ds, u3, u4, u5, u6, u7, u12, u13, u14, u15, u16, u17, u18, u19, u20, u21, u22, u23, u24, u25, u26, u27, u28, u29, u30, u31, u32, u33, u34, u35, u36, u37, u38, u39, u40, u41, u42, u43, u44, u45, rfl, hkk, hall, hmk, hbr⟩ T hT
  have HT := Lib.hid hT
  have HAll := Lib.hid hall
  have HM := Lib.hid hmk
  have HBr := Lib.hid hbr
  clear hT hall hmk hbr HB
  by_cases hlt : kk < bs.length
  · have hltz : (kk : Int) < (bs.length : Int) := by omega
    have hrow := R2.out.keeps (KeepsBut.below (l := none) HBr.out) (fun k h => by cases h)
    obtain ⟨ad, A3, a3, rfl, x0, x1, x2, hl3, hF3⟩ := hrow.get kk hlt
    have HF3 := Lib.hid hF3
    have q1r : Below W1.heap.size W1 Wr := B2.out.trans (HBr.out.mono B2.out.size)
    have qr : Below w.heap.size w Wr := HQ.out.trans (q1r.mono HQ.out.size)
    obtain ⟨Wa, hWa⟩ : ∃ Wa, Wr.alloc (.cells #[.int .i64 bs[kk].f0, .string bs[kk].f1, .slice A3 bs[kk].f2.length a3] 57) = Wa := ⟨_, rfl⟩
    have qa : Below Wr.heap.size Wr Wa := by rw [← hWa]; exact below_alloc1 _ _
    have bDa := blk_below (blk_below HD.out q1r) qa
    have ga1 := (blk_cell bDa 1).trans rfl
    rw [← hWa] at ga1
    have HCl := Lib.hid (c_CloneS A1 c1 d.f1 Wa (Kd.F_now (Kd.F_below HF1.out (qr.trans (qa.mono qr.size)))) l1 (by omega))
    have HWa := Lib.hid hWa
    have HQr := Lib.hid qr
    have HQ1r := Lib.hid q1r
    have HQa := Lib.hid qa
    clear hrow hF3 qr q1r qa bDa hWa
    gi_wp2_with fail
    rw [HWa.out]
    refine ⟨trivial, (callsIn_wide.2 HCl.out).mono ?_⟩
    rintro en w2 ⟨vc, rfl, hOc, hbc⟩
    obtain ⟨Ac, cc, rfl⟩ := Kd.R_slice hOc
    have hccap : d.f1.length ≤ cc := by obtain ⟨A', c', he, h1, _⟩ := Kd.R_reads hOc; cases he; exact h1
    have zA : Wa.heap.size = Wr.heap.size + 1 := by rw [← HWa.out]; simp
    have bBa : Wa.heap[Wr.heap.size]? = some (.cells #[.int .i64 bs[kk].f0, .string bs[kk].f1, .slice A3 bs[kk].f2.length a3] 57 (0, 0)) := by rw [← HWa.out]; exact alloc_at _ _
    have q2 : Below Wr.heap.size Wr w2 := HQa.out.trans (hbc.mono HQa.out.size)
    have hz2 := hbc.size
    have bD2 := blk_below (blk_below HD.out HQ1r.out) q2
    have gd2 := fun o => (blk_cell (blk_alloc bD2 o) 2).trans rfl
    have bB2 := blk_below bBa hbc
    have HBB := Lib.hid bB2
    have HBD := Lib.hid bD2
    have HO := Lib.hid hOc
    have HQ2 := Lib.hid q2
    have HZA := Lib.hid zA
    have HPl := Lib.hid (c_places bs[kk] A3 a3)
    have hlen0 := HBs.out
    clear hOc bBa q2 bD2 bB2 hbc
    by_cases hc0 : d.f2.length = 0
    · have hc1 : decide (0 < d.f2.length) = false := decide_eq_false (by omega)
      have hsc : scopeI d kk = d.f1 := by
        have : d.f2 = [] := List.length_eq_zero_iff.1 hc0
        rw [scopeI, this]; simp
      have bBx := blk_alloc HBB.out (.cells #[.slice Ac d.f1.length cc] 30)
      have gb0 := fun o => (blk_cell (blk_alloc bBx o) 0).trans rfl
      have gb1 := fun o => (blk_cell (blk_alloc bBx o) 1).trans rfl
      have gb2 := fun o => (blk_cell (blk_alloc bBx o) 2).trans rfl
      have hsz2 := HQ2.out.size
      have hlw : Wr.heap.size < w2.heap.size := by have := HZA.out; omega
      have hcc : (scopeI d kk).length ≤ cc := by rw [hsc]; exact hccap
      have hsl : (scopeI d kk).length = d.f1.length := by rw [hsc]
      have HSl := Lib.hid hsl
      have HSc := Lib.hid hsc
      clear bBx hsc hc0 hsl
      gi_wp2_with fail
      clear gb0 gb1 gb2 gd2
      obtain ⟨Wc, hWc⟩ : ∃ Wc, w2.alloc (.cells #[.slice Ac d.f1.length cc] 30) = Wc := ⟨_, rfl⟩
      have qc : Below Wr.heap.size Wr Wc := by rw [← hWc]; exact HQ2.out.trans ((below_alloc1 _ _).mono HQ2.out.size)
      have bS : Wc.heap[w2.heap.size]? = some (.cells #[.slice Ac (scopeI d kk).length cc] 30 (0, 0)) := by rw [← hWc, HSl.out]; exact alloc_at _ _
      have rS : Kd.C Kd.string Wc Ac (scopeI d kk).length (scopeI d kk) := by rw [← hWc, HSc.out]; obtain ⟨A', c', he, _, h1⟩ := Kd.R_reads HO.out; cases he; exact Kd.C_below h1 (below_alloc1 _ _)
      have zC : w2.heap.size < Wc.heap.size := by rw [← hWc]; simp
      rw [hWc, show w2.heap.size + 1 = Wc.heap.size by rw [← hWc]; simp]
      clear hWc
      refine ⟨trivial, (callsIn_wide.2 (HPl.out _)).mono ?_⟩
      rintro en w5 ⟨rfl, rfl⟩
      gi_wp2_with fail
      obtain ⟨Wd, hWd⟩ : ∃ Wd, (Wc.alloc (.cells #[.func (.func 171) #[] #[.pointer (some ⟨w2.heap.size, 0, none⟩)]] 133)).alloc (.cells #[.int .i64 bs[kk].f0, .string bs[kk].f1, .slice A3 bs[kk].f2.length a3] 57) = Wd := ⟨_, rfl⟩
      have qcd : Below Wc.heap.size Wc Wd := by rw [← hWd]; exact below_alloc2 _ _ _
      have zD : Wd.heap.size = Wc.heap.size + 1 + 1 := by rw [← hWd]; simp
      have bF : Wd.heap[Wc.heap.size]? = some (.cells #[.func (.func 171) #[] #[.pointer (some ⟨w2.heap.size, 0, none⟩)]] 133 (0, 0)) := by rw [← hWd]; exact blk_alloc (alloc_at _ _) _
      have bP : Wd.heap[Wc.heap.size + 1]? = some (.cells (cellsH (bs[kk], A3, a3)) 57 (0, 0)) := by rw [← hWd]; have := alloc_at (Wc.alloc (.cells #[.func (.func 171) #[] #[.pointer (some ⟨w2.heap.size, 0, none⟩)]] 133)) (.cells #[.int .i64 bs[kk].f0, .string bs[kk].f1, .slice A3 bs[kk].f2.length a3] 57); rw [World.size_alloc] at this; simpa [cellsH] using this
      rw [hWd]
      have qrd : Below Wr.heap.size Wr Wd := qc.trans (qcd.mono qc.size)
      have q1d : Below w.heap.size w Wd := (HQ.out.trans (HQ1r.out.mono HQ.out.size)).trans (qrd.mono (HQ.out.trans (HQ1r.out.mono HQ.out.size)).size)
      have hwr := (HQ.out.trans (HQ1r.out.mono HQ.out.size)).size
      have hq1s := HQ1r.out.size
      have hw1s : W1.heap.size = w.heap.size + 1 + 1 := z1
      have hrd := qrd.size
      have m4 := HM.out.below qrd
      have bRd := blk_below (blk_below HR.out HQ1r.out) qrd
      have bSd := blk_below bS qcd
      have rSd := Kd.C_below rS qcd
      have hF4 : Kd.F k57 Wd (fun k => k < w.heap.size) A3 bs[kk].f2.length bs[kk].f2 := Kd.F_step HF3.out (fun k hk hlt => by rw [q1d.block k hk, HQ.out.block k hk])
      have M4 := Lib.hid m4
      have HBR := Lib.hid bRd
      have HBS := Lib.hid bSd
      have HRS := Lib.hid rSd
      have HBF := Lib.hid bF
      have HQD := Lib.hid qrd
      have HQ1D := Lib.hid q1d
      clear hWd m4 bRd bSd rSd bF qrd qcd q1d qc bS rS
      refine wpIn_rangeFunc_ownH rfl (by omega) (gf := 133) (lb := #[.pointer (some ⟨Wc.heap.size + 1, 0, none⟩)]) rfl trivial (enters_of Tryz.func133 (by kernel_rfl) rfl)
        (places_stops Wd NoM w.heap.size (fun k => k < w.heap.size) (fun k hk => hk.elim) (fun k hk => ⟨fun h => h, hk⟩) ⟨(bs[kk], A3, a3), hl3, hF4, hz _ (List.getElem_mem hlt)⟩ (Wc.heap.size + 1) (fun h => h) Wd ((KC.rel _ _).refl _) (Nat.le_refl _) bP)
        (KC.rel _ _).trans (fun Wx lx o o' hlx ho hcl _ => KC.putObj _ (by omega) ho hcl) (Below.refl _ _) (fun _ => rfl)
        (fun pre Wx => (exs pre).all (okV (scopeI d kk)) = true ∧ Bel Wd Wd.heap.size Wx)
        (fun c pre Wx => c = .ret ∧ (∃ x ∈ exs pre, okV (scopeI d kk) x = false) ∧ Wx.heap[w.heap.size + 1]? = some (.cells #[.bool false] 4 (0, 0)) ∧ Marks (w.heap.size + 2) Ds Wx ∧ Bel w Wd.heap.size Wx)
        (fun pre X Y row ⟨h1, h2⟩ hg hr => ⟨h1, (Bel.own (β := Unit) (Nat.le_refl _)) () X Y row h2 hg hr⟩)
        (fun c pre X Y row ⟨h1, h2, h3, h4, h5⟩ hg hr => ⟨h1, h2, Blk.notcells h3 hg (fun r e => (hr r e).2), M4.out.own () X Y row h4 hg hr, (Bel.own (β := Unit) (by omega)) () X Y row h5 hg hr⟩)
        ⟨rfl, Below.refl _ _, Nat.le_refl _⟩
        (fun x a' Wx => ∃ Bx, Wd.heap.size ≤ Bx ∧ Wx.heap[Bx]? = some (.cells (cellsH x.1) 57 (0, 0)) ∧ ∃ (v3 v13 v14 v15 v16 v17 v18 v19 v20 v21 v22 v23 v24 v25 v26 v27 v28 v29 v30 v31 v32 v33 v34 v35 v36 v37 v38 v39 v40 v41 v42 v43 v44 v45 : Value), a' = { tmps := #[dv, .pointer (some ⟨w.heap.size, 0, none⟩), .pointer (some ⟨w.heap.size + 1, 0, none⟩), v3, .pointer (some ⟨Wr.heap.size, 0, none⟩), .pointer (some ⟨w2.heap.size, 0, none⟩), .pointer (some ⟨Wc.heap.size, 0, none⟩), .pointer (some ⟨Bx, 0, none⟩), dv, .slice (some ad) bs.length cv, .int .i64 bs.length, .int .i64 kk, .bool true, v13, v14, v15, v16, v17, v18, v19, v20, v21, v22, v23, v24, v25, v26, v27, v28, v29, v30, v31, v32, v33, v34, v35, v36, v37, v38, v39, v40, v41, v42, v43, v44, v45], defers := [] })
        (fun x a' _ X Y row hs hg hr => by obtain ⟨Bx, h1, h2, h3⟩ := hs; exact ⟨Bx, h1, Blk.notcells h2 hg (fun r e => (hr r e).2), h3⟩)
        ?assign ?body ?done ?stop
      case assign =>
        rintro l' pre ⟨⟨x, A', c'⟩, hx⟩ Wx K ⟨h1, h2⟩ hK
        simp only [encH]
        have H1 := Lib.hid h1
        have H2 := Lib.hid h2
        clear h1 h2
        gi_wp2
        have q := below_alloc1 Wx (.cells #[.int .i64 x.f0, .string x.f1, .slice A' x.f2.length c'] 57)
        exact hK _ _ ((KeepsOthers.alloc _ _).from _) ((KC.rel _ _).below q) ⟨H1.out, H2.out.after q⟩ ⟨Wx.heap.size, H2.out.2, alloc_at _ _, _, _, _, _, _, _, _, _, _, _, _, _, _, _, _, _, _, _, _, _, _, _, _, _, _, _, _, _, _, _, _, _, _, _, rfl⟩
      case body =>
        rintro l' pre ⟨⟨x, A', c'⟩, hx⟩ a' Wx hl' hr' ⟨h1, h2⟩ ⟨Bx, hBx, bX, v3, v13, v14, v15, v16, v17, v18, v19, v20, v21, v22, v23, v24, v25, v26, v27, v28, v29, v30, v31, v32, v33, v34, v35, v36, v37, v38, v39, v40, v41, v42, v43, v44, v45, rfl⟩ hlt'
        have e0 : Wx.cell? ⟨Bx, 0, none⟩ = some (.int .i64 x.f0) := (blk_cell bX 0).trans rfl
        have e1 : Wx.cell? ⟨Bx, 1, none⟩ = some (.string x.f1) := (blk_cell bX 1).trans rfl
        have ef := cell_of_one (blk_below HBF.out h2.1)
        have er := cell_of_one (blk_below HBR.out h2.1)
        have bRx := blk_below HBR.out h2.1
        have fr' := blk_frozen bRx 0
        have HC := Lib.hid (c_scoped1 x.f1 w2.heap.size _ _ (scopeI d kk) Wx (blk_below HBS.out h2.1) (Kd.C_below HRS.out h2.1) hcc)
        have H1 := Lib.hid h1
        have H2 := Lib.hid h2
        have HRx := Lib.hid bRx
        clear h1 h2 bX bRx hr'
        by_cases hk : x.f0 = 1
        · have hk1 : (x.f0 == 1) = true := by rw [beq_iff_eq]; exact hk
          have HKk := Lib.hid hk1
          clear hk
          cases hp : memB x.f1 (scopeI d kk) with
          | true =>
            rw [hp] at HC
            have HP := Lib.hid (show okV (scopeI d kk) x = true by rw [okV, hp]; simp)
            clear hp
            gi_wp2_with fail
            refine ⟨trivial, (CallsIn.inRound l' (callsIn_wide.2 HC.out)).mono ?_⟩
            rintro en W5 ⟨rfl, rfl⟩
            gi_wp2_with fail
            exact ⟨KeepsFrom.refl _ _, (KC.rel _ _).refl _, by rw [exs_append, List.all_append, H1.out]; simp [exs, HP.out], H2.out⟩
          | false =>
            rw [hp] at HC
            have HP := Lib.hid (show okV (scopeI d kk) x = false by rw [okV, hp, hk1]; rfl)
            clear hp
            gi_wp2_with fail
            refine ⟨trivial, (CallsIn.inRound l' (callsIn_wide.2 HC.out)).mono ?_⟩
            rintro en W5 ⟨rfl, rfl⟩
            gi_wp2_with fail
            have hB2 := (H2.out.1.mono (Nat.le_refl _))
            exact ⟨(KeepsOthers.setCell _ _ _).from _, rfl, ⟨x, by simp [exs], HP.out⟩, by have := blk_put HRx.out 0 (.bool false) rfl; simpa using this, ((M4.out.below H2.out.1).keeps (KeepsBut.set (l := none) HRx.out (by decide) _ _) (fun k h => by cases h)), ((HQ1D.out.trans (H2.out.1.mono HQ1D.out.size)).setCell (by simp) _), by have := H2.out.2; simpa [World.setCell] using this⟩
        · have hk1 : (x.f0 == 1) = false := by rw [beq_eq_false_iff_ne]; exact hk
          have HP := Lib.hid (show okV (scopeI d kk) x = true by rw [okV, hk1]; rfl)
          clear hk
          gi_wp2_with fail
          refine ⟨by first | trivial | (intro f h; cases h), ?_⟩
          gi_wp2_with fail
          exact ⟨KeepsFrom.refl _ _, (KC.rel _ _).refl _, by rw [exs_append, List.all_append, H1.out]; simp [exs, HP.out], H2.out⟩
      case done =>
        rintro D zs Wx hD hzs ⟨h1, h2⟩ hK
        have hzs' : exs zs = plE bs[kk] := hzs
        rw [hzs'] at h1
        have hdx : Wd.heap.size ≤ Wx.heap.size := h2.2
        have H1 := Lib.hid h1
        have H2 := Lib.hid (HQD.out.trans (h2.1.mono HQD.out.size))
        have H3 := Lib.hid (Marks.cons M4.out (M4.out.below h2.1) hD (by omega) hK)
        clear h1 h2 hzs hzs' hK
        gi_wp2
        refine HT.out _ _ ⟨kk + 1, D :: Ds, _, _, _, _, _, _, _, _, _, _, _, _, _, _, _, _, _, _, _, _, _, _, _, _, _, _, _, _, _, _, _, _, _, _, _, _, _, _, _, rfl, by omega, ?_, H3.out, HBr.out.trans (H2.out.mono HBr.out.size)⟩ ?_
        · intro j b hj hb
          rcases Nat.lt_or_ge j kk with h | h
          · exact HAll.out j b h hb
          · obtain rfl : j = kk := by omega
            rw [List.getElem?_eq_getElem hlt] at hb
            cases hb
            exact H1.out
        · simp [intOf]
          omega
      case stop =>
        rintro D c pre Wx hD hSp ⟨rfl, ⟨x, hx1, hx2⟩, h3, h4, h5⟩ hK
        have H3 := Lib.hid h3
        have H5 := Lib.hid h5
        have HMk := Lib.hid (Marks.cons M4.out h4 hD (by omega) hK)
        have HSp := Lib.hid hSp
        clear h3 h4 h5 hK hSp
        gi_wp2
        show LeavesInM _ _ _ _ _ _ ((D :: Ds).map markD) .returning Wx
        exact leaves_marks (B := w.heap.size + 2) (I := fun X => X.heap[w.heap.size + 1]? = some (.cells #[.bool false] 4 (0, 0)) ∧ Below w.heap.size w X) (fun X E hE hX h => ⟨(World.putObj_heap_other (by omega)).trans h.1, h.2.trans (Below.of_putObj (by omega))⟩)
          (fun X h => ⟨_, results_bool rfl _ _ _ _ rfl h.1, by
            have hp : exs pre <+: plE bs[kk] := HSp.out
            rw [scopedD_no (d := d) (i := kk) (b := bs[kk]) (by rw [HBs.out]; exact List.getElem?_eq_getElem hlt) hp hx1 hx2], h.2⟩) (D :: Ds) Wx HMk.out.1 HMk.out.2 ⟨H3.out, H5.out.1⟩
    · have hc1 : decide (0 < d.f2.length) = true := decide_eq_true (by omega)
      have hbm : bs = d.f2.map (·.f2) := by rw [← hlen0, bodiesD, if_neg hc0]
      have hk2 : kk < d.f2.length := by rw [hbm] at hlt; simpa using hlt
      have hsc : scopeI d kk = d.f1 ++ d.f2[kk].f1 := by rw [scopeI, List.getElem?_eq_getElem hk2]
      obtain ⟨kd, e0, e1, e2, e3, e4, he5, hK, hcells, y0, y1, y2, y3, y4⟩ := gett5 rfl (Kd.F_now (Kd.F_below HF2.out (((HQ.out.trans (HQ1r.out.mono HQ.out.size)).trans (HQ2.out.mono (HQ.out.trans (HQ1r.out.mono HQ.out.size)).size))))) kk hk2
      obtain ⟨X1, x1', X4, x4', he, m1, G1, m4, G4⟩ := k62_open hK
      obtain ⟨rfl, rfl, rfl, rfl, rfl⟩ : e0 = _ ∧ e1 = _ ∧ e2 = _ ∧ e3 = _ ∧ e4 = _ := by simpa using he
      subst he5
      have hvl := hv _ (List.getElem_mem hk2)
      have hsz2 := HQ2.out.size
      have hlw : Wr.heap.size < w2.heap.size := by have := HZA.out; omega
      have y1' := pw_cell_below (below_alloc1 w2 (.cells #[.slice Ac d.f1.length cc] 30)) y1
      have hkz : (kk : Int) < (d.f2.length : Int) := by omega
      have HSc := Lib.hid hsc
      have HBm := Lib.hid hbm
      have HG1 := Lib.hid G1
      clear hbm hsc hc0 hK hcells he G1 G4 y0 y2 y3 y4 hlen0
      gi_wp2_with fail
      refine wpIn_wide.2 ?_
      have hOb := Kd.R_base HO.out
      have hOl := Kd.R_lt HO.out
      have hn1 : some w2.heap.size ≠ (Value.slice Ac d.f1.length cc).ownBlock := fun he => by have := hOl _ he.symm; omega
      have hn2 : some Wr.heap.size ≠ (Value.slice Ac d.f1.length cc).ownBlock := fun he => by have := hOb _ he.symm; have := HZA.out; omega
      have qx : Below w2.heap.size w2 (w2.alloc (.cells #[.slice Ac d.f1.length cc] 30)).drew := below_drew (below_alloc1 _ _)
      have HOx := Lib.hid (Kd.R_below HO.out qx)
      have HQx := Lib.hid qx
      have HCx := Lib.hid (Kd.C_below HG1.out qx)
      have HSx := Lib.hid (show (w2.alloc (.cells #[.slice Ac d.f1.length cc] 30)).drew.heap[w2.heap.size]? = some (.cells #[.slice Ac d.f1.length cc] 30 (0, 0)) from alloc_at w2 _)
      have HBx := Lib.hid (blk_below HBB.out qx)
      have hsa := HZA.out
      clear qx hOl hsa
      refine wp_region_noPanic ?_
      go_region_law (refine Kd.R_append_rows_step Kd.string (w0 := (w2.alloc (.cells #[.slice Ac d.f1.length cc] 30)).drew) Wa.heap.size (by rfl) (.tmp 23) (.tmp 29) 30 9 _ 16 rfl Tryz.underlying30 infoTx rfl (by decide) (by decide) (.slice Ac d.f1.length cc) d.f1 d.f2[kk].f1 X1 d.f2[kk].f1.length x1' (fun _ => True) (fun _ => False) rfl rfl HOx.out HCx.out (fun _ _ h => h) (fun _ h => h.elim) (fun _ _ => trivial) (Below.refl _ _) (Nat.le_trans hz2 HQx.out.size) (by omega) ?_; intro v1 w3 ho3 hb3 hg3 hat3; obtain ⟨As, cs', hv1, hcs', hrS⟩ := Kd.R_reads ho3; subst hv1; have HO3 := Lib.hid ho3; have HAt3 := Lib.hid hat3; have bS3 := blk_grown HSx.out hg3 hn1; have bB3 := blk_grown HBx.out hg3 hn2; have cS3 := cell_of_one bS3; have fS3 := blk_frozen bS3 0; have HrS := Lib.hid hrS; have HG3 := Lib.hid hg3; have HS3 := Lib.hid bS3; have HB3 := Lib.hid bB3; clear ho3 hb3 hg3 bS3 bB3 hrS hat3)
      all_goals
        have bBx := blk_far HB3.out (p := ⟨w2.heap.size, 0, none⟩) (by simp only; omega) (.slice As (d.f1.length + d.f2[kk].f1.length) cs')
        have gb0 := fun o => (blk_cell (blk_alloc bBx o) 0).trans rfl
        have gb1 := fun o => (blk_cell (blk_alloc bBx o) 1).trans rfl
        have gb2 := fun o => (blk_cell (blk_alloc bBx o) 2).trans rfl
        have hsl : (scopeI d kk).length = (d.f1 ++ d.f2[kk].f1).length := by rw [HSc.out]
        have hcc : (scopeI d kk).length ≤ cs' := by rw [HSc.out]; exact hcs'
        have HSl := Lib.hid hsl
        have HSl := Lib.hid hsl
        have hs3 := HG3.out.size
        have hsx := HQx.out.size
        have hss : w2.heap.size + 1 ≤ w3.heap.size := by have h1 : (w2.alloc (.cells #[.slice Ac d.f1.length cc] 30)).drew.heap.size = w2.heap.size + 1 := World.size_alloc _ _; omega
        clear bBx hsl
        refine NoPanic.normal ?_
        gi_wp2_with fail
        clear gb0 gb1 gb2 gd2
        obtain ⟨Wc, hWc⟩ : ∃ Wc, w3.setCell ⟨w2.heap.size, 0, none⟩ (.slice As (d.f1.length + d.f2[kk].f1.length) cs') = Wc := ⟨_, rfl⟩
        have zC3 : Wc.heap.size = w3.heap.size := by rw [← hWc]; simp [World.setCell]
        have hlsum : (scopeI d kk).length = d.f1.length + d.f2[kk].f1.length := by rw [HSc.out, List.length_append]
        have qc : Below Wr.heap.size Wr Wc := by
          rw [← hWc]
          exact ((HQ2.out.trans (HQx.out.mono HQ2.out.size)).grown HG3.out (Nat.le_trans hsz2 HQx.out.size) (fun k hk => by have := hOb k hk; have := HZA.out; omega)).setCell (by simp only; omega) _
        have bS : Wc.heap[w2.heap.size]? = some (.cells #[.slice As (scopeI d kk).length cs'] 30 (0, 0)) := by
          rw [← hWc, hlsum]
          have := blk_put HS3.out 0 (.slice As (d.f1.length + d.f2[kk].f1.length) cs') rfl
          simpa using this
        have rS : Kd.C Kd.string Wc As (scopeI d kk).length (scopeI d kk) := by
          rw [← hWc, HSc.out]
          have hR := Kd.R_far (p := ⟨w2.heap.size, 0, none⟩) (Kd.R_mono (Kd.R_tight rfl HO3.out) (ok' := fun k => k ≠ w2.heap.size) (fun k hk => by
            rcases HAt3.out with h | ⟨b, h, hb⟩
            · rw [h] at hk; intro e; subst e; exact hn1 hk
            · rw [h] at hk; cases hk
              have h1 : (w2.alloc (.cells #[.slice Ac d.f1.length cc] 30)).drew.heap.size = w2.heap.size + 1 := World.size_alloc _ _
              omega)) (fun k hk => hk) (.slice As (d.f1.length + d.f2[kk].f1.length) cs')
          obtain ⟨A', c', he, _, h1⟩ := Kd.R_reads hR
          cases he
          exact h1
        have zC : w2.heap.size < Wc.heap.size := by omega
        rw [hWc, ← zC3]
        clear zC3 hs3 hsx hss
        clear hWc HO3 HAt3 HG3 HS3 HB3 HSx HBx HQx HCx HOx
        refine ⟨trivial, (callsIn_wide.2 (HPl.out _)).mono ?_⟩
        rintro en w5 ⟨rfl, rfl⟩
        gi_wp2_with fail
        obtain ⟨Wd, hWd⟩ : ∃ Wd, (Wc.alloc (.cells #[.func (.func 171) #[] #[.pointer (some ⟨w2.heap.size, 0, none⟩)]] 133)).alloc (.cells #[.int .i64 bs[kk].f0, .string bs[kk].f1, .slice A3 bs[kk].f2.length a3] 57) = Wd := ⟨_, rfl⟩
        have qcd : Below Wc.heap.size Wc Wd := by rw [← hWd]; exact below_alloc2 _ _ _
        have zD : Wd.heap.size = Wc.heap.size + 1 + 1 := by rw [← hWd]; simp
        have bF : Wd.heap[Wc.heap.size]? = some (.cells #[.func (.func 171) #[] #[.pointer (some ⟨w2.heap.size, 0, none⟩)]] 133 (0, 0)) := by rw [← hWd]; exact blk_alloc (alloc_at _ _) _
        have bP : Wd.heap[Wc.heap.size + 1]? = some (.cells (cellsH (bs[kk], A3, a3)) 57 (0, 0)) := by rw [← hWd]; have := alloc_at (Wc.alloc (.cells #[.func (.func 171) #[] #[.pointer (some ⟨w2.heap.size, 0, none⟩)]] 133)) (.cells #[.int .i64 bs[kk].f0, .string bs[kk].f1, .slice A3 bs[kk].f2.length a3] 57); rw [World.size_alloc] at this; simpa [cellsH] using this
        rw [hWd]
        have qrd : Below Wr.heap.size Wr Wd := qc.trans (qcd.mono qc.size)
        have q1d : Below w.heap.size w Wd := (HQ.out.trans (HQ1r.out.mono HQ.out.size)).trans (qrd.mono (HQ.out.trans (HQ1r.out.mono HQ.out.size)).size)
        have hwr := (HQ.out.trans (HQ1r.out.mono HQ.out.size)).size
        have hq1s := HQ1r.out.size
        have hw1s : W1.heap.size = w.heap.size + 1 + 1 := z1
        have hrd := qrd.size
        have m4 := HM.out.below qrd
        have bRd := blk_below (blk_below HR.out HQ1r.out) qrd
        have bSd := blk_below bS qcd
        have rSd := Kd.C_below rS qcd
        have hF4 : Kd.F k57 Wd (fun k => k < w.heap.size) A3 bs[kk].f2.length bs[kk].f2 := Kd.F_step HF3.out (fun k hk hlt => by rw [q1d.block k hk, HQ.out.block k hk])
        have M4 := Lib.hid m4
        have HBR := Lib.hid bRd
        have HBS := Lib.hid bSd
        have HRS := Lib.hid rSd
        have HBF := Lib.hid bF
        have HQD := Lib.hid qrd
        have HQ1D := Lib.hid q1d
        clear hWd m4 bRd bSd rSd bF qrd qcd q1d qc bS rS
        refine wpIn_rangeFunc_ownH rfl (by omega) (gf := 133) (lb := #[.pointer (some ⟨Wc.heap.size + 1, 0, none⟩)]) rfl trivial (enters_of Tryz.func133 (by kernel_rfl) rfl)
          (places_stops Wd NoM w.heap.size (fun k => k < w.heap.size) (fun k hk => hk.elim) (fun k hk => ⟨fun h => h, hk⟩) ⟨(bs[kk], A3, a3), hl3, hF4, hz _ (List.getElem_mem hlt)⟩ (Wc.heap.size + 1) (fun h => h) Wd ((KC.rel _ _).refl _) (Nat.le_refl _) bP)
          (KC.rel _ _).trans (fun Wx lx o o' hlx ho hcl _ => KC.putObj _ (by omega) ho hcl) (Below.refl _ _) (fun _ => rfl)
          (fun pre Wx => (exs pre).all (okV (scopeI d kk)) = true ∧ Bel Wd Wd.heap.size Wx)
          (fun c pre Wx => c = .ret ∧ (∃ x ∈ exs pre, okV (scopeI d kk) x = false) ∧ Wx.heap[w.heap.size + 1]? = some (.cells #[.bool false] 4 (0, 0)) ∧ Marks (w.heap.size + 2) Ds Wx ∧ Bel w Wd.heap.size Wx)
          (fun pre X Y row ⟨h1, h2⟩ hg hr => ⟨h1, (Bel.own (β := Unit) (Nat.le_refl _)) () X Y row h2 hg hr⟩)
          (fun c pre X Y row ⟨h1, h2, h3, h4, h5⟩ hg hr => ⟨h1, h2, Blk.notcells h3 hg (fun r e => (hr r e).2), M4.out.own () X Y row h4 hg hr, (Bel.own (β := Unit) (by omega)) () X Y row h5 hg hr⟩)
          ⟨rfl, Below.refl _ _, Nat.le_refl _⟩
          (fun x a' Wx => ∃ Bx, Wd.heap.size ≤ Bx ∧ Wx.heap[Bx]? = some (.cells (cellsH x.1) 57 (0, 0)) ∧ ∃ (v3 v13 v14 v15 v16 v17 v18 v19 v20 v21 v22 v23 v24 v25 v26 v27 v28 v29 v30 v31 v32 v33 v34 v35 v36 v37 v38 v39 v40 v41 v42 v43 v44 v45 : Value), a' = { tmps := #[dv, .pointer (some ⟨w.heap.size, 0, none⟩), .pointer (some ⟨w.heap.size + 1, 0, none⟩), v3, .pointer (some ⟨Wr.heap.size, 0, none⟩), .pointer (some ⟨w2.heap.size, 0, none⟩), .pointer (some ⟨Wc.heap.size, 0, none⟩), .pointer (some ⟨Bx, 0, none⟩), dv, .slice (some ad) bs.length cv, .int .i64 bs.length, .int .i64 kk, .bool true, v13, v14, v15, v16, v17, v18, v19, v20, v21, v22, v23, v24, v25, v26, v27, v28, v29, v30, v31, v32, v33, v34, v35, v36, v37, v38, v39, v40, v41, v42, v43, v44, v45], defers := [] })
          (fun x a' _ X Y row hs hg hr => by obtain ⟨Bx, h1, h2, h3⟩ := hs; exact ⟨Bx, h1, Blk.notcells h2 hg (fun r e => (hr r e).2), h3⟩)
          ?assign ?body ?done ?stop
        case assign =>
          rintro l' pre ⟨⟨x, A', c'⟩, hx⟩ Wx K ⟨h1, h2⟩ hK
          simp only [encH]
          have H1 := Lib.hid h1
          have H2 := Lib.hid h2
          clear h1 h2
          gi_wp2
          have q := below_alloc1 Wx (.cells #[.int .i64 x.f0, .string x.f1, .slice A' x.f2.length c'] 57)
          exact hK _ _ ((KeepsOthers.alloc _ _).from _) ((KC.rel _ _).below q) ⟨H1.out, H2.out.after q⟩ ⟨Wx.heap.size, H2.out.2, alloc_at _ _, _, _, _, _, _, _, _, _, _, _, _, _, _, _, _, _, _, _, _, _, _, _, _, _, _, _, _, _, _, _, _, _, _, _, rfl⟩
        case body =>
          rintro l' pre ⟨⟨x, A', c'⟩, hx⟩ a' Wx hl' hr' ⟨h1, h2⟩ ⟨Bx, hBx, bX, v3, v13, v14, v15, v16, v17, v18, v19, v20, v21, v22, v23, v24, v25, v26, v27, v28, v29, v30, v31, v32, v33, v34, v35, v36, v37, v38, v39, v40, v41, v42, v43, v44, v45, rfl⟩ hlt'
          have e0 : Wx.cell? ⟨Bx, 0, none⟩ = some (.int .i64 x.f0) := (blk_cell bX 0).trans rfl
          have e1 : Wx.cell? ⟨Bx, 1, none⟩ = some (.string x.f1) := (blk_cell bX 1).trans rfl
          have ef := cell_of_one (blk_below HBF.out h2.1)
          have er := cell_of_one (blk_below HBR.out h2.1)
          have bRx := blk_below HBR.out h2.1
          have fr' := blk_frozen bRx 0
          have HC := Lib.hid (c_scoped1 x.f1 w2.heap.size _ _ (scopeI d kk) Wx (blk_below HBS.out h2.1) (Kd.C_below HRS.out h2.1) hcc)
          have H1 := Lib.hid h1
          have H2 := Lib.hid h2
          have HRx := Lib.hid bRx
          clear h1 h2 bX bRx hr'
          by_cases hk : x.f0 = 1
          · have hk1 : (x.f0 == 1) = true := by rw [beq_iff_eq]; exact hk
            have HKk := Lib.hid hk1
            clear hk
            cases hp : memB x.f1 (scopeI d kk) with
            | true =>
              rw [hp] at HC
              have HP := Lib.hid (show okV (scopeI d kk) x = true by rw [okV, hp]; simp)
              clear hp
              gi_wp2_with fail
              refine ⟨trivial, (CallsIn.inRound l' (callsIn_wide.2 HC.out)).mono ?_⟩
              rintro en W5 ⟨rfl, rfl⟩
              gi_wp2_with fail
              exact ⟨KeepsFrom.refl _ _, (KC.rel _ _).refl _, by rw [exs_append, List.all_append, H1.out]; simp [exs, HP.out], H2.out⟩
            | false =>
              rw [hp] at HC
              have HP := Lib.hid (show okV (scopeI d kk) x = false by rw [okV, hp, hk1]; rfl)
              clear hp
              gi_wp2_with fail
              refine ⟨trivial, (CallsIn.inRound l' (callsIn_wide.2 HC.out)).mono ?_⟩
              rintro en W5 ⟨rfl, rfl⟩
              gi_wp2_with fail
              have hB2 := (H2.out.1.mono (Nat.le_refl _))
              exact ⟨(KeepsOthers.setCell _ _ _).from _, rfl, ⟨x, by simp [exs], HP.out⟩, by have := blk_put HRx.out 0 (.bool false) rfl; simpa using this, ((M4.out.below H2.out.1).keeps (KeepsBut.set (l := none) HRx.out (by decide) _ _) (fun k h => by cases h)), ((HQ1D.out.trans (H2.out.1.mono HQ1D.out.size)).setCell (by simp) _), by have := H2.out.2; simpa [World.setCell] using this⟩
          · have hk1 : (x.f0 == 1) = false := by rw [beq_eq_false_iff_ne]; exact hk
            have HP := Lib.hid (show okV (scopeI d kk) x = true by rw [okV, hk1]; rfl)
            clear hk
            gi_wp2_with fail
            refine ⟨by first | trivial | (intro f h; cases h), ?_⟩
            gi_wp2_with fail
            exact ⟨KeepsFrom.refl _ _, (KC.rel _ _).refl _, by rw [exs_append, List.all_append, H1.out]; simp [exs, HP.out], H2.out⟩
        case done =>
          rintro D zs Wx hD hzs ⟨h1, h2⟩ hK
          have hzs' : exs zs = plE bs[kk] := hzs
          rw [hzs'] at h1
          have hdx : Wd.heap.size ≤ Wx.heap.size := h2.2
          have H1 := Lib.hid h1
          have H2 := Lib.hid (HQD.out.trans (h2.1.mono HQD.out.size))
          have H3 := Lib.hid (Marks.cons M4.out (M4.out.below h2.1) hD (by omega) hK)
          clear h1 h2 hzs hzs' hK
          gi_wp2
          refine HT.out _ _ ⟨kk + 1, D :: Ds, _, _, _, _, _, _, _, _, _, _, _, _, _, _, _, _, _, _, _, _, _, _, _, _, _, _, _, _, _, _, _, _, _, _, _, _, _, _, _, rfl, by omega, ?_, H3.out, HBr.out.trans (H2.out.mono HBr.out.size)⟩ ?_
          · intro j b hj hb
            rcases Nat.lt_or_ge j kk with h | h
            · exact HAll.out j b h hb
            · obtain rfl : j = kk := by omega
              rw [List.getElem?_eq_getElem hlt] at hb
              cases hb
              exact H1.out
          · simp [intOf]
            omega
        case stop =>
          rintro D c pre Wx hD hSp ⟨rfl, ⟨x, hx1, hx2⟩, h3, h4, h5⟩ hK
          have H3 := Lib.hid h3
          have H5 := Lib.hid h5
          have HMk := Lib.hid (Marks.cons M4.out h4 hD (by omega) hK)
          have HSp := Lib.hid hSp
          clear h3 h4 h5 hK hSp
          gi_wp2
          show LeavesInM _ _ _ _ _ _ ((D :: Ds).map markD) .returning Wx
          exact leaves_marks (B := w.heap.size + 2) (I := fun X => X.heap[w.heap.size + 1]? = some (.cells #[.bool false] 4 (0, 0)) ∧ Below w.heap.size w X) (fun X E hE hX h => ⟨(World.putObj_heap_other (by omega)).trans h.1, h.2.trans (Below.of_putObj (by omega))⟩)
            (fun X h => ⟨_, results_bool rfl _ _ _ _ rfl h.1, by
              have hp : exs pre <+: plE bs[kk] := HSp.out
              rw [scopedD_no (d := d) (i := kk) (b := bs[kk]) (by rw [HBs.out]; exact List.getElem?_eq_getElem hlt) hp hx1 hx2], h.2⟩) (D :: Ds) Wx HMk.out.1 HMk.out.2 ⟨H3.out, H5.out.1⟩
  · have : kk = bs.length := by omega
    subst this
    have bR3 := blk_below (blk_below HR.out B2.out) HBr.out
    have f3 := blk_frozen bR3 0
    have c3 := cell_of_one bR3
    have HR3 := Lib.hid bR3
    clear bR3
    gi_wp2_with fail
    show LeavesInM _ _ _ _ _ _ (Ds.map markD) .returning _
    have q1r : Below W1.heap.size W1 Wr := B2.out.trans (HBr.out.mono B2.out.size)
    have qr : Below w.heap.size w Wr := HQ.out.trans (q1r.mono HQ.out.size)
    have b1 := blk_put HR3.out 0 (.bool true) rfl
    refine leaves_marks (B := w.heap.size + 2) (I := fun X => X.heap[w.heap.size + 1]? = some (.cells #[.bool true] 4 (0, 0)) ∧ Below w.heap.size w X) (fun X E hE hX h => ⟨(World.putObj_heap_other (by omega)).trans h.1, h.2.trans (Below.of_putObj (by omega))⟩)
      (fun X h => ⟨_, results_bool rfl _ _ _ _ rfl h.1, by rw [scopedD_yes (fun i b hi hb => HAll.out i b (by rw [← HBs.out]; exact hi) (by rw [← HBs.out]; exact hb))], h.2⟩) Ds _ HM.out.1 ?_ ⟨by simpa using b1, qr.setCell (by simp) _⟩
    intro D hD
    have h1 := HM.out.2 D hD
    exact ⟨h1.1, (Below.heap_setCell _ _ _ _ (by simp only; omega)).trans h1.2⟩
end Go.Proofs.YtacefdkfbpgedaaGreat.Mine
namespace Go.Proofs.YtacefdkfbpgedaaGreat.Mine
open Go.Proofs.YtacefdkfbpgedaaGreat.PProgSmall
open Go.RowKit Go.Shelf Go.Proofs.YtacefdkfbpgedaaGreatW.PrintWords Go.Proofs.YtacefdkfbpgedaaGreatW.PrintLast Go.Proofs.YtacefdkfbpgedaaGreatW.PrintMore
set_option linter.unusedVariables false
set_option linter.unusedSimpArgs false
attribute [local go_sem] Oper.semAt_some
set_option maxHeartbeats 1000000 in
theorem c_number1 (d : De) (cs : List Value) (s : ByteArray) (B : Nat) (w : World) (hK : k59.K w d cs) (hbox : w.heap[B]? = some (.cells #[.string s] 9 (0, 0))) :
    Calls Tryz.prog 126 #[.agg cs.toArray, .pointer (some ⟨B, 0, none⟩)] w fun en w' => en = .returned (.bool (decide (d.f0 = s))) ∧ Below w.heap.size w w' := by
  obtain ⟨A1, c1, A2, c2, A5, c5, rfl, _⟩ := k59_open hK
  have k0 := cell_of_one hbox
  have hlt := lt_of_block hbox
  have hn : ¬ (B = w.heap.size) := by omega
  clear hbox hK
  have he := sEq d.f0 s
  go_enter Tryz.func126, Tryz.ntmps126
  go_wp2
  go_ret
  exact ⟨rfl, below_alloc1 _ _⟩
def numD (defs : List De) (s : ByteArray) : Int := idxB (fun d => decide (d.f0 = s)) defs
set_option maxRecDepth 100000 in
set_option maxHeartbeats 1000000 in
theorem c_number (defs : List De) (A : Option Addr) (c : Nat) (s : ByteArray) (w : World) (hr : Kd.C k59 w A defs.length defs) (hc : defs.length ≤ c) :
    Calls Tryz.prog 66 #[.agg #[.slice A defs.length c], .string s] w fun en w' => en = .returned (.int .i64 (numD defs s)) ∧ Below w.heap.size w w' := by
  obtain ⟨W2, hW2⟩ : ∃ W2, (w.alloc (.cells #[.slice A defs.length c] 97)).alloc (.cells #[.string s] 9) = W2 := ⟨_, rfl⟩
  have q2 : Below w.heap.size w W2 := by rw [← hW2]; exact below_alloc2 _ _ _
  have bS : W2.heap[w.heap.size + 1]? = some (.cells #[.string s] 9 (0, 0)) := by rw [← hW2]; have := alloc_at (w.alloc (.cells #[.slice A defs.length c] 97)) (.cells #[.string s] 9); rw [World.size_alloc] at this; exact this
  have HC := Lib.hid (idxD_p A c defs W2 hc (Kd.C_below hr q2) 126 #[.pointer (some ⟨w.heap.size + 1, 0, none⟩)] (enters_of Tryz.func126 (by kernel_rfl) rfl) (fun d => decide (d.f0 = s)) (fun x cs W _ hK hb => c_number1 x cs s _ W hK (blk_below bS hb)))
  have HW2 := Lib.hid hW2
  have HQ := Lib.hid q2
  clear hr q2 bS hW2
  go_enter Tryz.func66, Tryz.ntmps66
  go_wp2_with fail
  rw [HW2.out]
  refine HC.out.mono ?_
  rintro en w' ⟨rfl, hb⟩
  go_wp2
  go_ret
  exact ⟨rfl, HQ.out.trans (hb.mono HQ.out.size)⟩
def callsL (l : List Ex) : List ByteArray := l.foldl (fun s x => if x.f0 = 3 then onceL s x.f1 else s) []
theorem callsL_snoc (l : List Ex) (x : Ex) : callsL (l ++ [x]) = if x.f0 = 3 then onceL (callsL l) x.f1 else callsL l := by simp [callsL]
theorem callsL_len (l : List Ex) : (callsL l).length ≤ l.length := by
  have key : ∀ (l : List Ex) (s : List ByteArray), (l.foldl (fun s x => if x.f0 = 3 then onceL s x.f1 else s) s).length ≤ s.length + l.length := by
    intro l
    induction l with
    | nil => intro s; simp
    | cons x xs ih =>
      intro s
      simp only [List.foldl_cons, List.length_cons]
      have := ih (if x.f0 = 3 then onceL s x.f1 else s)
      have h2 : (if x.f0 = 3 then onceL s x.f1 else s).length ≤ s.length + 1 := by split; exact onceL_len _ _; omega
      omega
  simpa [callsL] using key l []
set_option maxRecDepth 100000 in
set_option maxHeartbeats 4000000 in
theorem c_called (d : De) (cs : List Value) (w : World) (hd : Kd.FK k59 w (fun k => k < w.heap.size) d cs) (hl : d.f2.length ≤ 1000000) (hz : ∀ b ∈ bodiesD d, szE b < 1000000) (hzz : szL (bodiesD d) < 1000000) :
    Calls Tryz.prog 67 #[.agg cs.toArray] w fun en w' => ∃ v, en = .returned v ∧ OwnS w' w.heap.size v (callsL (eachD d)) ∧ Below w.heap.size w w' := by
  have h6 : cs.length = 6 := k59.K_len (Kd.FK_now hd)
  have HE := Lib.hid (c_each cs h6)
  obtain ⟨A1, c1, A2, c2, A5, c5, hcs, _⟩ := k59_openF hd
  have HD := Lib.hid hd
  clear hd
  subst hcs
  refine (callsIn_wide (n := 7)).1 (callsIn_of_wp_marks (F := Fence.wide) Tryz.func67 rfl trivial ?_ rfl)
  simp only [Tryz.ntmps67, List.size_toArray, List.length_cons, List.length_nil, Nat.reduceAdd, Nat.reduceSub, Array.replicate_succ, Array.replicate_zero, List.push_toArray, List.append_toArray, List.nil_append, List.cons_append]
  gi_wp2_with fail
  refine ⟨trivial, (callsIn_wide.2 (HE.out _)).mono ?_⟩
  rintro en w1 ⟨rfl, rfl⟩
  gi_wp2_with fail
  obtain ⟨cv, hcv⟩ : ∃ cv : List Value, cv = [.string d.f0, .slice A1 d.f1.length c1, .slice A2 d.f2.length c2, .int .i64 d.f3.f0, .string d.f3.f1, .slice A5 d.f3.f2.length c5] := ⟨_, rfl⟩
  obtain ⟨W0, hW0⟩ : ∃ W0, ((w.alloc (.cells #[.string d.f0, .slice A1 d.f1.length c1, .slice A2 d.f2.length c2, .int .i64 d.f3.f0, .string d.f3.f1, .slice A5 d.f3.f2.length c5] 59)).alloc (.cells #[.slice none 0 0] 30)).alloc (.cells #[.string d.f0, .slice A1 d.f1.length c1, .slice A2 d.f2.length c2, .int .i64 d.f3.f0, .string d.f3.f1, .slice A5 d.f3.f2.length c5] 59) = W0 := ⟨_, rfl⟩
  have hsz : W0.heap.size = w.heap.size + 3 := by rw [← hW0]; simp
  have q0 : Below w.heap.size w W0 := by rw [← hW0]; exact ((below_alloc1 _ _).trans ((below_alloc1 _ _).mono (by simp))).trans ((below_alloc1 _ _).mono (by simp; omega))
  have bO : Boxed W0 (w.heap.size + 1) 30 (.slice none 0 0) := by rw [← hW0]; have := (Boxed.new (w.alloc (.cells #[.string d.f0, .slice A1 d.f1.length c1, .slice A2 d.f2.length c2, .int .i64 d.f3.f0, .string d.f3.f1, .slice A5 d.f3.f2.length c5] 59)) 30 (.slice none 0 0)).alloc (.cells #[.string d.f0, .slice A1 d.f1.length c1, .slice A2 d.f2.length c2, .int .i64 d.f3.f0, .string d.f3.f1, .slice A5 d.f3.f2.length c5] 59); rw [World.size_alloc] at this; exact this
  have bD : W0.heap[w.heap.size + 1 + 1]? = some (.cells cv.toArray 59 (0, 0)) := by rw [← hW0, hcv]; have := alloc_at ((w.alloc (.cells #[.string d.f0, .slice A1 d.f1.length c1, .slice A2 d.f2.length c2, .int .i64 d.f3.f0, .string d.f3.f1, .slice A5 d.f3.f2.length c5] 59)).alloc (.cells #[.slice none 0 0] 30)) (.cells #[.string d.f0, .slice A1 d.f1.length c1, .slice A2 d.f2.length c2, .int .i64 d.f3.f0, .string d.f3.f1, .slice A5 d.f3.f2.length c5] 59); simpa only [World.size_alloc] using this
  rw [hW0]
  have hD0 : Kd.FK k59 W0 (fun k => k < w.heap.size) d cv := by rw [hcv]; exact Kd.FK_below HD.out q0
  have HCv := Lib.hid hcv
  have HQ := Lib.hid q0
  clear hW0 hcv HE HD q0
  refine rangeX (by omega) (gf := 163) (lb := #[.pointer (some ⟨w.heap.size + 1 + 1, 0, none⟩)]) rfl (enters_of Tryz.func163 (by kernel_rfl) rfl)
    (each_stops W0 NoM w.heap.size (fun k => k < w.heap.size) (fun k h => h.elim) (fun k hk => ⟨fun h => h, hk⟩) (by omega) d cv hD0 hl hz (w.heap.size + 1 + 1) W0 ((KC.rel _ _).refl _) bD) (by omega) (Below.refl _ _)
    (fun pre Wx => (∃ v, Boxed Wx (w.heap.size + 1) 30 v ∧ OwnS Wx w.heap.size v (callsL (exs pre))) ∧ Bel w W0.heap.size Wx)
    (fun _ _ _ => False)
    (fun pre X Y row ⟨⟨v, h1, h2⟩, h4⟩ hg hr => ⟨⟨v, Boxed.notcells h1 hg (fun r e => (hr r e).2), OwnS.notcells h2 hg (fun r e => (hr r e).2)⟩, (Bel.own (β := Unit) (by omega)) () X Y row h4 hg hr⟩)
    (fun _ _ _ _ _ hs _ _ => hs)
    ⟨⟨_, bO, own_nil _ _ _ _⟩, HQ.out, Nat.le_refl _⟩
    (fun x a' Wx => ∃ Bx, W0.heap.size ≤ Bx ∧ Wx.heap[Bx]? = some (.cells (cellsH x.1) 57 (0, 0)) ∧ a' = { tmps := #[.agg #[.string d.f0, .slice A1 d.f1.length c1, .slice A2 d.f2.length c2, .int .i64 d.f3.f0, .string d.f3.f1, .slice A5 d.f3.f2.length c5], .pointer (some ⟨w.heap.size, 0, none⟩), .slice none 0 0, .pointer (some ⟨w.heap.size + 1, 0, none⟩), .pointer (some ⟨Bx, 0, none⟩), .agg #[.string d.f0, .slice A1 d.f1.length c1, .slice A2 d.f2.length c2, .int .i64 d.f3.f0, .string d.f3.f1, .slice A5 d.f3.f2.length c5], .func (.func 163) #[] #[.pointer (some ⟨w.heap.size + 1 + 1, 0, none⟩)], encH x.1, undef, undef, undef, undef, undef, undef, undef, undef], defers := [] })
    (fun x a' _ X Y row hs hg hr => by obtain ⟨Bx, h1, h2, h3⟩ := hs; exact ⟨Bx, h1, Blk.notcells h2 hg (fun r e => (hr r e).2), h3⟩)
    ?assign ?body ?done ?stop
  case assign =>
    rintro l' pre ⟨⟨x, A', c'⟩, hx⟩ Wx K hl' ⟨⟨v, h1, h2⟩, h4⟩ hK
    simp only [encH]
    have H1 := Lib.hid h1
    have H2 := Lib.hid h2
    clear h1 h2
    gi_wp2
    have q := below_alloc1 Wx (.cells #[.int .i64 x.f0, .string x.f1, .slice A' x.f2.length c'] 57)
    exact hK _ _ (KeepsBut.below q) ((KC.rel _ _).below q) ⟨⟨v, H1.out.alloc _, H2.out.alloc _⟩, h4.after q⟩ ⟨Wx.heap.size, h4.2, alloc_at _ _, rfl⟩
  case body =>
    rintro l' pre ⟨⟨x, A', c'⟩, hx⟩ a' Wx hl' ⟨⟨v, h1, h2⟩, h3⟩ ⟨Bx, hBx, bX, rfl⟩ hlt'
    have e0 : Wx.cell? ⟨Bx, 0, none⟩ = some (.int .i64 x.f0) := (blk_cell bX 0).trans rfl
    have e1 : Wx.cell? ⟨Bx, 1, none⟩ = some (.string x.f1) := (blk_cell bX 1).trans rfl
    have cO := h1.cell
    have hlen : (callsL (exs pre)).length < 1000000 := by
      have := callsL_len (exs pre)
      rw [exs_length] at this
      omega
    have HC := Lib.hid (c_once w.heap.size v (callsL (exs pre)) x.f1 Wx h2 h3.1.size hlen)
    have H1 := Lib.hid h1
    have H2 := Lib.hid h2
    have H3 := Lib.hid h3
    clear h1 h2 h3 bX
    by_cases hk : x.f0 = 3
    · have hk1 : (x.f0 == 3) = true := by rw [beq_iff_eq]; exact hk
      have HKk := Lib.hid hk
      clear hk
      gi_wp2_with fail
      refine ⟨trivial, (CallsIn.inRound l' (callsIn_wide.2 HC.out)).mono ?_⟩
      rintro en w1 ⟨v1, rfl, hown, hg, hat⟩
      obtain ⟨A1', c1', rfl⟩ := own_slice hown
      have hb1 : Boxed w1 (w.heap.size + 1) 30 v := H1.out.kept hg (H1.out.not_row (by decide) H2.out)
      have cO1 := hb1.cell
      have fO1 := hb1.frozen
      have H4 := Lib.hid hown
      have H5 := Lib.hid hb1
      have H6 := Lib.hid hg
      clear hown hb1 hg
      gi_wp2_with fail
      have hrow : ∀ k, v.ownBlock = some k → ∃ cs t p, Wx.heap[k]? = some (.cells cs t p) ∧ t ≠ 57 := fun k hk => by obtain ⟨cs, hcs⟩ := own_typed H2.out k hk; exact ⟨cs, _, _, hcs, by decide⟩
      have hkc : KC NoM w.heap.size Wx w1 := KC.grown _ H6.out (fun k hk => by obtain ⟨cs, hcs⟩ := own_typed H2.out k hk; exact ⟨own_base H2.out k hk, cs, _, hcs, by decide, by decide⟩)
      refine ⟨(KC.rel _ _).trans hkc (KC.set _ (by omega) H5.out (by decide) (by decide)), (KeepsBut.grown H6.out hrow).trans (KeepsBut.set H5.out (by decide) _ _), ⟨_, H5.out.set _, ?_⟩, ?_⟩
      · rw [exs_append]
        simp only [exs, List.map_cons, List.map_nil]
        rw [callsL_snoc, if_pos HKk.out]
        exact own_setCell H4.out (H5.out.not_row (by decide) H4.out) _
      · exact (H3.out.grown H6.out (fun k hk => own_base H2.out k hk)).set (by simp) _
    · have hk1 : (x.f0 == 3) = false := by rw [beq_eq_false_iff_ne]; exact hk
      have HKk := Lib.hid hk
      clear hk
      gi_wp2_with fail
      refine ⟨(KC.rel _ _).refl _, KeepsBut.refl _ _, ⟨v, H1.out, ?_⟩, H3.out⟩
      rw [exs_append]
      simp only [exs, List.map_cons, List.map_nil]
      rw [callsL_snoc, if_neg HKk.out]
      exact H2.out
  case done =>
    rintro D zs Wx hD hzs ⟨⟨v, h1, h2⟩, h3⟩ hK
    have cS := h1.cell
    have H2 := Lib.hid h2
    have HK := Lib.hid hK
    have HZ := Lib.hid hzs
    clear h1 h2 hK hzs
    gi_wp2
    refine ⟨by simp, .inl ⟨_, _, rfl, run_takeDeferred HK.out, ?_⟩⟩
    have hg := grownBy_putObj' Wx D (.deferred none)
    have hnc : ∀ r, some D = some r → ∃ o : Obj, Wx.heap[r]? = some o ∧ o.isCells = false := fun r e => by cases e; exact ⟨_, HK.out, rfl⟩
    have hzs' : exs zs = eachD d := HZ.out
    have h2 := H2.out
    rw [hzs'] at h2
    exact ⟨_, results_tmp rfl _ _ _, v, rfl, h2.notcells hg hnc, (h3.grown hg (fun k hk => by cases hk; omega)).1⟩
  case stop =>
    rintro D c pre Wx _ _ h _
    exact h.elim
end Go.Proofs.YtacefdkfbpgedaaGreat.Mine
namespace Go.Proofs.YtacefdkfbpgedaaGreat.Mine
open Go.Proofs.YtacefdkfbpgedaaGreat.PProgSmall
open Go.RowKit Go.Shelf Go.Proofs.YtacefdkfbpgedaaGreatW.PrintWords Go.Proofs.YtacefdkfbpgedaaGreatW.PrintLast Go.Proofs.YtacefdkfbpgedaaGreatW.PrintMore
set_option linter.unusedVariables false
set_option linter.unusedSimpArgs false
attribute [local go_sem] Oper.semAt_some
def notDefer : Op → Bool
  | .defer _ => false
  | _ => true
theorem wpIn_of_quiet {P : Program} {l n : Nat} {o : Oper} {C : World → Prop} {a : Act} {K : Act → Prop} {K' : Act → World → Prop} {Q' : Exit → Act → World → Prop} {w : World} (hd : notDefer o.op = true) (hw : C w) (h : ∀ a w', C w' → K a → K' a w') (hh : o.quiet P a C K) : o.wpIn (Fence.wide.inRound l) n P a w K' Q' := by
  obtain ⟨v, h1, h2⟩ := hh
  have h3 := h1 w hw
  refine ⟨fun f _ => trivial, ?_⟩
  rw [Oper.semAt_plain _ _ _ (fun c e => by rw [e] at hd; cases hd)]
  unfold Oper.quietAt at h3
  generalize (execOp a.eval o).run P w = r at *
  cases r with
  | ok m w' =>
    cases m <;> simp only [Oper.quietUpon] at h3 <;> simp only [Oper.uponIn]
    case value u => obtain ⟨e1, e2⟩ := h3; rw [e1, e2]; exact h _ _ hw h2
    case skip => obtain ⟨e1, e2⟩ := h3; rw [e1, ← e2]; exact h _ _ hw h2
    case enter f args =>
      obtain ⟨e1, hc⟩ := h3
      rw [e1]
      exact ⟨(fun hx => absurd hx (by simp [Fence.inRound, Fence.wide])), CallsIn.inRound l (callsIn_wide.2 (hc.mono (fun e w'' he => by
        obtain ⟨h1', h2'⟩ := he
        subst h1'
        exact h _ _ h2' h2)))⟩
  | halt x w' => simp only [Oper.quietUpon] at h3
theorem wpAnyIn_of_quiet {P : Program} {l n : Nat} {md : Region.Mode} {ops : Array Oper} {C : World → Prop} (hdf : ∀ (i : Nat) (o : Oper), ops[i]? = some o → notDefer o.op = true) {Q : Act → Prop} {Q' : Exit → Act → World → Prop} (hQ : ∀ a w, C w → Q a → Q' .normal a w) : ∀ (fuel : Nat) (listed : Array Bool) (a : Act) (w : World), C w →
    wpAnyQ P md ops C Q fuel listed a → wpAnyIn (Fence.wide.inRound l) n P md ops Q' fuel listed a w
  | 0, _, _, _, hw, h => ⟨h.1, hQ _ _ hw h.2⟩
  | fuel + 1, listed, a, w, hw, h => ⟨fun h0 => hQ _ _ hw (h.1 h0), fun i hi => by
    have hq := h.2 i hi
    unfold qOp at hq
    unfold wpOpIn
    split
    · rename_i ho; simp only [ho] at hq; exact wpAnyIn_of_quiet hdf hQ fuel _ _ _ hw hq
    · rename_i o ho
      simp only [ho] at hq
      split
      · rename_i hwt; simp only [hwt, if_true] at hq
        exact wpIn_of_quiet (hdf i o ho) hw (fun a' w' hw' => wpAnyIn_of_quiet hdf hQ fuel _ a' w' hw') hq
      · rename_i hwt; simp only [hwt] at hq
        exact ⟨fun f _ => trivial, wpAnyIn_of_quiet hdf hQ fuel _ _ _ hw hq⟩⟩
theorem region_quiet_round {P : Program} {id l n : Nat} {Q : Exit → Act → World → Prop} {a : Act} {w : World} {ol : List Oper} (hm : P.follows .mixedOrders = true) (hB : Region.lexB .any ol.toArray = true) (hdf : (ol.all fun o => notDefer o.op) = true)
    (h : wpQuiet P ol.toArray (fun w' => ∃ n, w' = w.drewN n) (fun a' => ∀ w', (∃ n, w' = w.drewN n) → Q .normal a' w') ol a) : (Code.region id ol.toArray true).wpIn (Fence.wide.inRound l) n P Q a w := by
  simp only [Region.lexB, Bool.and_eq_true] at hB
  refine wpIn_region_any hm (wpAnyIn_of_quiet (C := fun w' => ∃ n, w' = w.drewN n) (Q := fun a' => ∀ w', (∃ n, w' = w.drewN n) → Q .normal a' w') (fun i o ho => ?_) (fun _ w' hw' h => h w' hw') _ _ _ _ ⟨1, rfl⟩ ?_)
  · rw [List.all_eq_true] at hdf
    exact hdf o (List.mem_of_getElem? (by simpa using ho))
  · have := wpAnyQ_lex (C := fun w' => ∃ n, w' = w.drewN n) (md := .any) hB.1 ol 0 (Array.replicate ol.length false) a (by simp) (by simpa using hB.2) h
    simpa using this
theorem results_int {fn : Func} {p : Tmp} (h : fn.results = #[.cell p 28]) (tmps : Array Value) (w : World) (g : Nat) (b : Int) (hp : tmps.getD p undef = .pointer (some ⟨g, 0, none⟩)) (hg : w.heap[g]? = some (.cells #[.int .i64 b] 28 (0, 0))) :
    (results fn tmps).run Tryz.prog w = .ok (.int .i64 b) w := by
  have hc := cell_of_one hg
  have hp' : tmps[p]?.getD undef = .pointer (some ⟨g, 0, none⟩) := by simpa using hp
  have hl : (loadVar 28 ⟨g, 0, none⟩).run Tryz.prog w = .ok (.int .i64 b) w := by
    simp [loadVar, go_sem, hc, run_underlying Tryz.underlying28]
  simp [results, h, hp', asAddr, hl]
theorem idxB_lt {α : Type} {p : α → Bool} {l : List α} {i : Nat} (h : idxB p l = (i : Int)) : i < l.length := by
  unfold idxB at h
  split at h
  · next ha =>
    rw [List.any_eq_true] at ha
    obtain ⟨x, hx, hp⟩ := ha
    have := List.findIdx_lt_length_of_exists ⟨x, hx, hp⟩
    omega
  · omega
theorem idxB_cases {α : Type} (p : α → Bool) (l : List α) : idxB p l = -1 ∨ ∃ i : Nat, idxB p l = (i : Int) ∧ i < l.length := by
  by_cases h : l.any p = true
  · right
    exact ⟨l.findIdx p, by rw [idxB, if_pos h], idxB_lt (p := p) (l := l) (i := l.findIdx p) (by rw [idxB, if_pos h])⟩
  · left; rw [idxB, if_neg h]
theorem Below.of_putObj' {n k : Nat} {W : World} {o : Obj} (h : n ≤ k) : Below n W (W.putObj k o) := ⟨rfl, rfl, rfl, by simp, fun i hi => World.putObj_heap_other (by omega)⟩
def callErr (defs : List De) (e : Ex) : Int :=
  if e.f0 = 3 then (if numD defs e.f1 < 0 then 1 else match defs[(numD defs e.f1).toNat]? with | some d => if (e.f2.length : Int) = (d.f1.length : Int) then 0 else 7 | none => 0) else 0
def firstErr {α : Type} (f : α → Int) : List α → Int
  | [] => 0
  | x :: xs => if f x = 0 then firstErr f xs else f x
theorem firstErr_zero {α : Type} {f : α → Int} : ∀ {l : List α}, (∀ x ∈ l, f x = 0) → firstErr f l = 0
  | [], _ => rfl
  | x :: xs, h => by rw [firstErr, if_pos (h x List.mem_cons_self), firstErr_zero (fun y hy => h y (List.mem_cons_of_mem _ hy))]
theorem firstErr_at {α : Type} {f : α → Int} {x : α} (hx : f x ≠ 0) : ∀ {pre l : List α}, (∀ y ∈ pre, f y = 0) → pre ++ [x] <+: l → firstErr f l = f x
  | [], l, _, hp => by
    obtain ⟨t, rfl⟩ := hp
    simp [firstErr, hx]
  | y :: pre, l, h, hp => by
    obtain ⟨t, rfl⟩ := hp
    rw [List.append_assoc, List.cons_append, firstErr, if_pos (h y List.mem_cons_self)]
    exact firstErr_at hx (fun z hz => h z (List.mem_cons_of_mem _ hz)) (by rw [← List.append_assoc]; exact List.prefix_append _ _)
def callsD (defs : List De) (d : De) : Int := firstErr (callErr defs) (eachD d)
set_option maxRecDepth 100000 in
set_option maxHeartbeats 600000 in
theorem c_calls (defs : List De) (A : Option Addr) (c : Nat) (d : De) (cs : List Value) (w : World) (hr : Kd.C k59 w A defs.length defs) (hc : defs.length ≤ c) (hd : Kd.FK k59 w (fun k => k < w.heap.size) d cs) (hl : d.f2.length ≤ 1000000) (hz : ∀ b ∈ bodiesD d, szE b < 1000000) :
    Calls Tryz.prog 100 #[.agg #[.slice A defs.length c], .agg cs.toArray] w fun en w' => en = .returned (.int .i64 (callsD defs d)) ∧ Below w.heap.size w w' := by
  have h6 : cs.length = 6 := k59.K_len (Kd.FK_now hd)
  have hmd := hr.2.1
  have HE := Lib.hid (c_each cs h6)
  obtain ⟨A1, c1, A2, c2, A5, c5, hcs, _⟩ := k59_openF hd
  have HD := Lib.hid hd
  have HRd := Lib.hid hr
  clear hd hr
  subst hcs
  refine (callsIn_wide (n := 7)).1 (callsIn_of_wp_marks (F := Fence.wide) Tryz.func100 rfl trivial ?_ rfl)
  simp only [Tryz.ntmps100, List.size_toArray, List.length_cons, List.length_nil, Nat.reduceAdd, Nat.reduceSub, Array.replicate_succ, Array.replicate_zero, List.push_toArray, List.append_toArray, List.nil_append, List.cons_append]
  gi_wp2_with fail
  refine ⟨trivial, (callsIn_wide.2 (HE.out _)).mono ?_⟩
  rintro en w1 ⟨rfl, rfl⟩
  gi_wp2_with fail
  obtain ⟨cv, hcv⟩ : ∃ cv : List Value, cv = [.string d.f0, .slice A1 d.f1.length c1, .slice A2 d.f2.length c2, .int .i64 d.f3.f0, .string d.f3.f1, .slice A5 d.f3.f2.length c5] := ⟨_, rfl⟩
  obtain ⟨W0, hW0⟩ : ∃ W0, (((((w.alloc (.cells #[.slice A defs.length c] 97)).alloc (.cells #[.string d.f0, .slice A1 d.f1.length c1, .slice A2 d.f2.length c2, .int .i64 d.f3.f0, .string d.f3.f1, .slice A5 d.f3.f2.length c5] 59)).alloc (.cells #[.int .i64 0] 28)).alloc (.cells #[Value.func (.func 66) #[.agg #[.slice A defs.length c]] #[]] 98)).alloc (.cells #[.string d.f0, .slice A1 d.f1.length c1, .slice A2 d.f2.length c2, .int .i64 d.f3.f0, .string d.f3.f1, .slice A5 d.f3.f2.length c5] 59)) = W0 := ⟨_, rfl⟩
  have hsz : w.heap.size + 5 ≤ W0.heap.size := by rw [← hW0]; simp
  have q0 : Below w.heap.size w W0 := by rw [← hW0]; exact (below_alloc2 _ _ _).trans ((below_alloc2 _ _ _).mono (by simp; omega)) |>.trans ((below_alloc1 _ _).mono (by simp; omega))
  have bA : W0.heap[w.heap.size]? = some (.cells #[.slice A defs.length c] 97 (0, 0)) := by rw [← hW0]; exact blk_alloc (blk_alloc (blk_alloc (blk_alloc (alloc_at _ _) _) _) _) _
  have bR : W0.heap[w.heap.size + 1 + 1]? = some (.cells #[.int .i64 0] 28 (0, 0)) := by rw [← hW0]; have := alloc_at ((w.alloc (.cells #[.slice A defs.length c] 97)).alloc (.cells #[.string d.f0, .slice A1 d.f1.length c1, .slice A2 d.f2.length c2, .int .i64 d.f3.f0, .string d.f3.f1, .slice A5 d.f3.f2.length c5] 59)) (.cells #[.int .i64 0] 28); rw [World.size_alloc, World.size_alloc] at this; exact blk_alloc (blk_alloc this _) _
  have bN : W0.heap[w.heap.size + 1 + 1 + 1]? = some (.cells #[Value.func (.func 66) #[.agg #[.slice A defs.length c]] #[]] 98 (0, 0)) := by rw [← hW0]; have := alloc_at (((w.alloc (.cells #[.slice A defs.length c] 97)).alloc (.cells #[.string d.f0, .slice A1 d.f1.length c1, .slice A2 d.f2.length c2, .int .i64 d.f3.f0, .string d.f3.f1, .slice A5 d.f3.f2.length c5] 59)).alloc (.cells #[.int .i64 0] 28)) (.cells #[Value.func (.func 66) #[.agg #[.slice A defs.length c]] #[]] 98); rw [World.size_alloc, World.size_alloc, World.size_alloc] at this; exact blk_alloc this _
  have bD : W0.heap[w.heap.size + 1 + 1 + 1 + 1]? = some (.cells cv.toArray 59 (0, 0)) := by rw [← hW0, hcv]; have := alloc_at ((((w.alloc (.cells #[.slice A defs.length c] 97)).alloc (.cells #[.string d.f0, .slice A1 d.f1.length c1, .slice A2 d.f2.length c2, .int .i64 d.f3.f0, .string d.f3.f1, .slice A5 d.f3.f2.length c5] 59)).alloc (.cells #[.int .i64 0] 28)).alloc (.cells #[Value.func (.func 66) #[.agg #[.slice A defs.length c]] #[]] 98)) (.cells #[.string d.f0, .slice A1 d.f1.length c1, .slice A2 d.f2.length c2, .int .i64 d.f3.f0, .string d.f3.f1, .slice A5 d.f3.f2.length c5] 59); simpa only [World.size_alloc] using this
  rw [hW0]
  have hD0 : Kd.FK k59 W0 (fun k => k < w.heap.size) d cv := by rw [hcv]; exact Kd.FK_below HD.out q0
  have HCv := Lib.hid hcv
  have HQ := Lib.hid q0
  clear hW0 hcv HE HD q0
  refine rangeX (by omega) (gf := 163) (lb := #[.pointer (some ⟨w.heap.size + 1 + 1 + 1 + 1, 0, none⟩)]) rfl (enters_of Tryz.func163 (by kernel_rfl) rfl)
    (each_stops W0 NoM w.heap.size (fun k => k < w.heap.size) (fun k h => h.elim) (fun k hk => ⟨fun h => h, hk⟩) (by omega) d cv hD0 hl hz (w.heap.size + 1 + 1 + 1 + 1) W0 ((KC.rel _ _).refl _) bD) (by omega) (Below.refl _ _)
    (fun pre Wx => (∀ x ∈ exs pre, callErr defs x = 0) ∧ Bel W0 W0.heap.size Wx)
    (fun c pre Wx => c = .ret ∧ (∃ p0 x, exs pre = p0 ++ [x] ∧ (∀ y ∈ p0, callErr defs y = 0) ∧ callErr defs x ≠ 0 ∧ Wx.heap[w.heap.size + 1 + 1]? = some (.cells #[.int .i64 (callErr defs x)] 28 (0, 0))) ∧ Bel w W0.heap.size Wx)
    (fun pre X Y row ⟨h1, h4⟩ hg hr => ⟨h1, (Bel.own (β := Unit) (Nat.le_refl _)) () X Y row h4 hg hr⟩)
    (fun c pre X Y row ⟨h1, ⟨p0, x, h2, h3, h4, h5⟩, h6⟩ hg hr => ⟨h1, ⟨p0, x, h2, h3, h4, Blk.notcells h5 hg (fun r e => (hr r e).2)⟩, (Bel.own (β := Unit) (by omega)) () X Y row h6 hg hr⟩)
    ⟨fun x hx => by simp [exs] at hx, Below.refl _ _, Nat.le_refl _⟩
    (fun x a' Wx => ∃ Bx, W0.heap.size ≤ Bx ∧ Wx.heap[Bx]? = some (.cells (cellsH x.1) 57 (0, 0)) ∧ a' = { tmps := #[.agg #[.slice A defs.length c], .agg #[.string d.f0, .slice A1 d.f1.length c1, .slice A2 d.f2.length c2, .int .i64 d.f3.f0, .string d.f3.f1, .slice A5 d.f3.f2.length c5], .pointer (some ⟨w.heap.size, 0, none⟩), .pointer (some ⟨w.heap.size + 1, 0, none⟩), .pointer (some ⟨w.heap.size + 1 + 1, 0, none⟩), .pointer (some ⟨w.heap.size + 1 + 1 + 1, 0, none⟩), .pointer (some ⟨Bx, 0, none⟩), undef, .agg #[.slice A defs.length c], .func (.func 66) #[.agg #[.slice A defs.length c]] #[], .agg #[.string d.f0, .slice A1 d.f1.length c1, .slice A2 d.f2.length c2, .int .i64 d.f3.f0, .string d.f3.f1, .slice A5 d.f3.f2.length c5], .func (.func 163) #[] #[.pointer (some ⟨w.heap.size + 1 + 1 + 1 + 1, 0, none⟩)], encH x.1, undef, undef, undef, undef, undef, undef, undef, undef, undef, undef, undef, undef, undef, undef, undef, undef, undef, undef, undef, undef, undef, undef, undef], defers := [] })
    (fun x a' _ X Y row hs hg hr => by obtain ⟨Bx, h1, h2, h3⟩ := hs; exact ⟨Bx, h1, Blk.notcells h2 hg (fun r e => (hr r e).2), h3⟩)
    ?assign ?body ?done ?stop
  case assign =>
    rintro l' pre ⟨⟨x, A', c'⟩, hx⟩ Wx K hl' ⟨h1, h4⟩ hK
    simp only [encH]
    have H1 := Lib.hid h1
    clear h1
    gi_wp2
    have q := below_alloc1 Wx (.cells #[.int .i64 x.f0, .string x.f1, .slice A' x.f2.length c'] 57)
    exact hK _ _ (KeepsBut.below q) ((KC.rel _ _).below q) ⟨H1.out, h4.after q⟩ ⟨Wx.heap.size, h4.2, alloc_at _ _, rfl⟩
  case body =>
    rintro l' pre ⟨⟨x, A', c'⟩, hx⟩ a' Wx hl' ⟨h1, h3⟩ ⟨Bx, hBx, bX, rfl⟩ hlt'
    have e0 : Wx.cell? ⟨Bx, 0, none⟩ = some (.int .i64 x.f0) := (blk_cell bX 0).trans rfl
    have e1 : Wx.cell? ⟨Bx, 1, none⟩ = some (.string x.f1) := (blk_cell bX 1).trans rfl
    have eN := cell_of_one (blk_below bN h3.1)
    have hxm : x.f2.length ≤ 9223372036854775807 := (Kd.F_now hx.2.1).2.1
    have qx : Below w.heap.size w Wx := HQ.out.trans (h3.1.mono HQ.out.size)
    have HC := Lib.hid (c_number defs A c x.f1 Wx (Kd.C_below HRd.out qx) hc)
    have HBX := Lib.hid bX
    have H1 := Lib.hid h1
    have H3 := Lib.hid h3
    have HQx := Lib.hid qx
    clear h1 h3 bX qx
    by_cases hk : x.f0 = 3
    · have hk1 : (x.f0 != 3) = false := by simp [hk]
      have HKk := Lib.hid hk
      clear hk
      obtain ⟨nn, hnn⟩ : ∃ nn, numD defs x.f1 = nn := ⟨_, rfl⟩
      rw [hnn] at HC
      have HNn := Lib.hid hnn
      clear hnn
      gi_wp2_with fail
      refine ⟨trivial, (CallsIn.inRound l' (callsIn_wide.2 HC.out)).mono ?_⟩
      rintro en w5 ⟨rfl, hb5⟩
      have h5 := H3.out.after hb5
      have bX5 := blk_below HBX.out hb5
      have bR5 := blk_below bR h5.1
      have a2 : w5.cell? ⟨Bx, 2, none⟩ = some (.slice A' x.f2.length c') := (blk_cell bX5 2).trans rfl
      have ap := cell_of_one (blk_below bA h5.1)
      have fr' := blk_frozen bR5 0
      have cr' := cell_of_one bR5
      have hnc := idxB_cases (fun d => decide (d.f0 = x.f1)) defs
      rw [show idxB (fun d => decide (d.f0 = x.f1)) defs = nn from HNn.out] at hnc
      have q5 : Below w.heap.size w w5 := HQx.out.trans (hb5.mono HQx.out.size)
      have H5 := Lib.hid h5
      have HB5 := Lib.hid hb5
      have HR5 := Lib.hid bR5
      have HQ5 := Lib.hid q5
      clear h5 hb5 bX5 bR5 q5 eN e0 e1
      rcases hnc with rfl | ⟨i, rfl, hi⟩
      · have HEr := Lib.hid (show callErr defs x = 1 by rw [callErr, if_pos HKk.out, HNn.out, if_pos (by omega)])
        gi_wp2_with fail
        refine ⟨(KeepsBut.below HB5.out).trans (KeepsBut.set HR5.out (by decide) _ _), rfl, ⟨exs pre, x, by rw [exs_append]; rfl, H1.out, by rw [HEr.out]; decide, ?_⟩, ((HQ5.out).setCell (by simp only; omega) _), by have := H5.out.2; simpa [World.setCell] using this⟩
        rw [HEr.out]
        have := blk_put HR5.out 0 (.int .i64 1) rfl
        simpa using this
      · obtain ⟨kd, g0, g1, g2, g3, g4, g5, he5, hK, hcells, y0, y1, y2, y3, y4, y5⟩ := gett6 rfl (Kd.C_below HRd.out HQ5.out) i hi
        obtain ⟨Z1, z1, Z2, z2, Z5, z5, he, m1, _⟩ := k59_open hK
        obtain ⟨rfl, rfl, rfl, rfl, rfl, rfl⟩ : g0 = _ ∧ g1 = _ ∧ g2 = _ ∧ g3 = _ ∧ g4 = _ ∧ g5 = _ := by simpa using he
        subst he5
        have hiz : (i : Int) < (defs.length : Int) := by omega
        have hi0 : (0 : Int) ≤ (i : Int) := by omega
        have hlt0 : decide ((i : Int) < 0) = false := decide_eq_false (by omega)
        have hpz : defs[i].f1.length ≤ 9223372036854775807 := (k59_open hK).choose_spec.choose_spec.choose_spec.choose_spec.choose_spec.choose_spec.2.2.1.2.1
        clear hK hcells he y0 y2 y3 y4 y5
        cases hne : ((x.f2.length : Int) != (defs[i].f1.length : Int)) with
        | false =>
          have HEr := Lib.hid (show callErr defs x = 0 by
            have h1 : (x.f2.length : Int) = (defs[i].f1.length : Int) := by simpa using hne
            rw [callErr, if_pos HKk.out, HNn.out, if_neg (by omega), Int.toNat_natCast, List.getElem?_eq_getElem hi]
            simp [h1])
          gi_wp2_with fail
          refine region_quiet_round (by kernel_rfl) (by kernel_rfl) (by kernel_rfl) ?_
          repeat (first | go_big_quiet_step (fail) | quiet_step (fail))
          refine wpQuiet_nil ?_
          intro _ hw'
          obtain ⟨nq, hw''⟩ := hw'
          subst hw''
          gi_wp2_with fail
          have hbd : Below Wx.heap.size Wx (w5.drewN nq) := pw_below_drewN HB5.out nq
          exact ⟨(KC.rel _ _).below hbd, KeepsBut.below hbd, fun y hy => by rw [exs_append] at hy; rcases List.mem_append.1 hy with h | h; exact H1.out y h; simp [exs] at h; subst h; exact HEr.out, H3.out.after hbd⟩
        | true =>
          have HEr := Lib.hid (show callErr defs x = 7 by
            have h1 : ¬ (x.f2.length : Int) = (defs[i].f1.length : Int) := by simpa using hne
            rw [callErr, if_pos HKk.out, HNn.out, if_neg (by omega), Int.toNat_natCast, List.getElem?_eq_getElem hi]
            simp only [if_neg h1])
          gi_wp2_with fail
          refine region_quiet_round (by kernel_rfl) (by kernel_rfl) (by kernel_rfl) ?_
          repeat (first | go_big_quiet_step (fail) | quiet_step (fail))
          refine wpQuiet_nil ?_
          intro _ hw'
          obtain ⟨nq, hw''⟩ := hw'
          subst hw''
          gi_wp2_with fail
          have hbd : Below Wx.heap.size Wx (w5.drewN nq) := pw_below_drewN HB5.out nq
          have hR6 : (w5.drewN nq).heap[w.heap.size + 1 + 1]? = some (.cells #[.int .i64 0] 28 (0, 0)) := HR5.out
          refine ⟨(KeepsBut.below hbd).trans (KeepsBut.set hR6 (by decide) _ _), rfl, ⟨exs pre, x, by rw [exs_append]; rfl, H1.out, by rw [HEr.out]; decide, ?_⟩, ((HQx.out.trans (hbd.mono HQx.out.size)).setCell (by simp only; omega) _), by have := (H3.out.after hbd).2; simpa [World.setCell] using this⟩
          rw [HEr.out]
          have := blk_put hR6 0 (.int .i64 7) rfl
          simpa using this
    · have hk1 : (x.f0 != 3) = true := by simp [hk]
      have HEr := Lib.hid (show callErr defs x = 0 by rw [callErr, if_neg hk])
      clear hk
      gi_wp2_with fail
      exact ⟨(KC.rel _ _).refl _, KeepsBut.refl _ _, fun y hy => by rw [exs_append] at hy; rcases List.mem_append.1 hy with h | h; exact H1.out y h; simp [exs] at h; subst h; exact HEr.out, H3.out⟩
  case done =>
    rintro D zs Wx hD hzs ⟨h1, h3⟩ hK
    have hzs' : exs zs = eachD d := hzs
    rw [hzs'] at h1
    have bRx := blk_below bR h3.1
    have f3 := blk_frozen bRx 0
    have c3 := cell_of_one bRx
    have H1 := Lib.hid h1
    have H3 := Lib.hid (HQ.out.trans (h3.1.mono HQ.out.size))
    have HRx := Lib.hid bRx
    have HK := Lib.hid hK
    clear h1 h3 bRx hK hzs hzs'
    gi_wp2
    have b1 := blk_put HRx.out 0 (.int .i64 0) rfl
    have hKne : ¬ D = w.heap.size + 1 + 1 := by omega
    have k1 : (Wx.setCell ⟨w.heap.size + 1 + 1, 0, none⟩ (.int .i64 0)).heap[D]? = some (.deferred (some [])) := (Below.heap_setCell _ _ _ _ hKne).trans HK.out
    refine ⟨by simp, .inl ⟨_, _, rfl, run_takeDeferred k1, ?_⟩⟩
    have b2 : ((Wx.setCell ⟨w.heap.size + 1 + 1, 0, none⟩ (.int .i64 0)).putObj D (.deferred none)).heap[w.heap.size + 1 + 1]? = some (.cells #[.int .i64 0] 28 (0, 0)) := by rw [World.putObj_heap_other (by omega)]; simpa using b1
    exact ⟨_, results_int rfl _ _ _ _ rfl b2, by rw [callsD, firstErr_zero H1.out], (H3.out.setCell (by simp only; omega) _).trans (Below.of_putObj' (by omega))⟩
  case stop =>
    rintro D c pre Wx hD hSp ⟨rfl, ⟨p0, x, h2, h3, h4, h5⟩, h6⟩ hK
    have H5 := Lib.hid h5
    have HK := Lib.hid hK
    clear h5 hK
    gi_wp2
    refine ⟨by simp, .inl ⟨_, _, rfl, run_takeDeferred HK.out, ?_⟩⟩
    have b2 : (Wx.putObj D (.deferred none)).heap[w.heap.size + 1 + 1]? = some (.cells #[.int .i64 (callErr defs x)] 28 (0, 0)) := by rw [World.putObj_heap_other (by omega)]; exact H5.out
    have hp : exs pre <+: eachD d := hSp
    rw [h2] at hp
    exact ⟨_, results_int rfl _ _ _ _ rfl b2, by rw [callsD, firstErr_at h4 h3 hp], h6.1.trans (Below.of_putObj' (by omega))⟩
end Go.Proofs.YtacefdkfbpgedaaGreat.Mine
namespace Go.Proofs.YtacefdkfbpgedaaGreat.Mine
open Go.Proofs.YtacefdkfbpgedaaGreat.PProgSmall
open Go.RowKit Go.Shelf Go.Proofs.YtacefdkfbpgedaaGreatW.PrintWords Go.Proofs.YtacefdkfbpgedaaGreatW.PrintLast Go.Proofs.YtacefdkfbpgedaaGreatW.PrintMore
set_option linter.unusedVariables false
set_option linter.unusedSimpArgs false
structure OkP (defs : List De) : Prop where
  n : defs.length ≤ 100000
  d : ∀ d ∈ defs, OkD d
  nm : ∀ d ∈ defs, d.f0.size ≤ nmLim
  z : ∀ d ∈ defs, szL (bodiesD d) < 1000000
def rightE (d : De) : Int := rightD (scopedD d) d
def checkP (defs : List De) : Int :=
  bif decide ((defs.length : Int) < 1) then 2 else bif decide ((12 : Int) < (defs.length : Int)) then 2 else
  if firstErr rightE defs = 0 then (bif twB (defs.map (·.f0)) then 5 else firstErr (callsD defs) defs) else firstErr rightE defs
theorem firstErr_i {α : Type} {f : α → Int} {l : List α} {i : Nat} {x : α} (hx : l[i]? = some x) (hf : f x ≠ 0) (h : ∀ j y, j < i → l[j]? = some y → f y = 0) : firstErr f l = f x := by
  obtain ⟨hi, rfl⟩ := List.getElem?_eq_some_iff.1 hx
  refine firstErr_at (pre := l.take i) hf (fun y hy => ?_) ?_
  · obtain ⟨j, hj, rfl⟩ := List.getElem_of_mem hy
    rw [List.length_take] at hj
    exact h j _ (by omega) (by rw [List.getElem_take]; exact List.getElem?_eq_getElem (by omega))
  · rw [← take_snoc hi]; exact List.take_prefix _ _
theorem firstErr_all {α : Type} {f : α → Int} {l : List α} (h : ∀ j y, j < l.length → l[j]? = some y → f y = 0) : firstErr f l = 0 :=
  firstErr_zero (fun x hx => by obtain ⟨j, hj, rfl⟩ := List.getElem_of_mem hx; exact h j _ hj (List.getElem?_eq_getElem hj))
theorem zero_snoc {α : Type} {f : α → Int} {l : List α} {i : Nat} {x : α} (h : ∀ j y, j < i → l[j]? = some y → f y = 0) (hx : l[i]? = some x) (hf : f x = 0) : ∀ j y, j < i + 1 → l[j]? = some y → f y = 0 := by
  intro j y hj hy
  rcases Nat.lt_or_ge j i with hl | hl
  · exact h j y hl hy
  · obtain rfl : j = i := by omega
    rw [hx] at hy; cases hy; exact hf
theorem c_rightE (d : De) (cs : List Value) (w : World) (hd : Kd.FK k59 w (fun k => k < w.heap.size) d cs) (hok : OkD d) :
    Calls Tryz.prog 98 #[.agg cs.toArray] w fun en w' => en = .returned (.int .i64 (rightE d)) ∧ Below w.heap.size w w' :=
  c_right d cs w hd hok _ (fun W hb => c_scoped d cs W (Kd.FK_mono (Kd.FK_below hd hb) (fun k hk => by have := hb.size; omega)) (by have := hok.c; omega) hok.z hok.p hok.v)
set_option maxRecDepth 100000 in
set_option maxHeartbeats 4000000 in
theorem c_Check (defs : List De) (A : Option Addr) (c : Nat) (w : World) (hr : Kd.C k59 w A defs.length defs) (hc : defs.length ≤ c) (hok : OkP defs) :
    Calls Tryz.prog 45 #[.agg #[.slice A defs.length c]] w fun en w' => en = .returned (.int .i64 (checkP defs)) ∧ Below w.heap.size w w' := by
  have hmd := hr.2.1
  have hn := hok.n
  have HF := Lib.hid (Kd.C_F k59_heap hr)
  have HR := Lib.hid hr
  obtain ⟨W1, hW1⟩ : ∃ W1, w.alloc (.cells #[.slice A defs.length c] 24) = W1 := ⟨_, rfl⟩
  have q1 : Below w.heap.size w W1 := by rw [← hW1]; exact below_alloc1 _ _
  have bP : W1.heap[w.heap.size]? = some (.cells #[.slice A defs.length c] 24 (0, 0)) := by rw [← hW1]; exact alloc_at _ _
  have z1 : W1.heap.size = w.heap.size + 1 := by rw [← hW1]; simp
  have HQ := Lib.hid q1
  have HP := Lib.hid bP
  have HW1 := Lib.hid hW1
  have HZ1 := Lib.hid z1
  clear hr q1 bP hW1 z1
  cases t1 : decide ((defs.length : Int) < 1) with
  | true =>
    have HX := Lib.hid (show checkP defs = 2 by rw [checkP, t1]; rfl)
    go_enter Tryz.func45, Tryz.ntmps45
    go_wp2
    go_ret
    exact ⟨reti HX.out.symm, below_alloc1 _ _⟩
  | false =>
  cases t2 : decide ((12 : Int) < (defs.length : Int)) with
  | true =>
    have HX := Lib.hid (show checkP defs = 2 by rw [checkP, t1, t2]; rfl)
    go_enter Tryz.func45, Tryz.ntmps45
    go_wp2
    go_ret
    exact ⟨reti HX.out.symm, below_alloc1 _ _⟩
  | false =>
  have HX := Lib.hid (show checkP defs = _ by rw [checkP, t1, t2, cond_false, cond_false])
  go_enter Tryz.func45, Tryz.ntmps45
  go_wp2
  rw [HW1.out]
  have Q1 := Aside0.mk HQ.out
  have P1 := Aside0.mk HP.out
  go_loopg [3, 23] defs.length (fun gg s3 s23 wr => ∃ kk : Nat, kk ≤ defs.length ∧ defs.length - kk ≤ gg ∧ s23 = .int .i64 kk ∧ Aside0 (∀ j y, j < kk → defs[j]? = some y → rightE y = 0) ∧ Aside0 (OwnT wr W1.heap.size s3 ((defs.take kk).map (·.f0))) ∧ Aside0 (Below W1.heap.size W1 wr))
  case atStart => exact ⟨0, Nat.zero_le _, by omega, rfl, ⟨fun j y h => absurd h (Nat.not_lt_zero _)⟩, ⟨Kd.R_nil _ _ _ _ _⟩, ⟨Below.refl _ _⟩⟩
  case round =>
    obtain ⟨kk, hkk, hg, rfl, HA, HO, HB⟩ := hrel
    by_cases hlt : kk < defs.length
    · have hltz : (kk : Int) < (defs.length : Int) := by omega
      have qr : Below w.heap.size w wr := HQ.out.trans (HB.out.mono HQ.out.size)
      obtain ⟨ad, g0, g1, g2, g3, g4, g5, rfl, hK, hcells, y0, y1, y2, y3, y4, y5⟩ := gett6 rfl (Kd.C_below HR.out qr) kk hlt
      have hFK := elemF HF.out kk hlt rfl hcells (fun p v hp hv => qr.cell (World.block_lt_of_cell? _ _ hv) |>.trans hv) (by decide)
      have hmem := List.getElem_mem hlt
      obtain ⟨dd, hdd⟩ : ∃ dd, defs[kk] = dd := ⟨_, rfl⟩
      have hk : defs[kk]? = some dd := by rw [List.getElem?_eq_getElem hlt, hdd]
      rw [hdd] at hFK hmem
      obtain ⟨Z1, z1, Z2, z2, Z5, z5, he, _⟩ := k59_openF hFK
      obtain ⟨rfl, rfl, rfl, rfl, rfl, rfl⟩ : g0 = _ ∧ g1 = _ ∧ g2 = _ ∧ g3 = _ ∧ g4 = _ ∧ g5 = _ := by simpa using he
      obtain ⟨Wa, hWa⟩ : ∃ Wa, wr.alloc (.cells #[.string dd.f0, .slice Z1 dd.f1.length z1, .slice Z2 dd.f2.length z2, .int .i64 dd.f3.f0, .string dd.f3.f1, .slice Z5 dd.f3.f2.length z5] 59) = Wa := ⟨_, rfl⟩
      have qa : Below wr.heap.size wr Wa := by rw [← hWa]; exact below_alloc1 _ _
      have bD : Wa.heap[wr.heap.size]? = some (.cells #[.string dd.f0, .slice Z1 dd.f1.length z1, .slice Z2 dd.f2.length z2, .int .i64 dd.f3.f0, .string dd.f3.f1, .slice Z5 dd.f3.f2.length z5] 59 (0, 0)) := by rw [← hWa]; exact alloc_at _ _
      have qwa : Below w.heap.size w Wa := qr.trans (qa.mono qr.size)
      have HC := Lib.hid (c_rightE dd _ Wa (Kd.FK_mono (Kd.FK_below hFK qwa) (fun k hk => by have := qwa.size; omega)) (hok.d _ hmem))
      have HD := Lib.hid bD
      have HQA := Lib.hid qa
      have HWa := Lib.hid hWa
      have HK := Lib.hid hk
      obtain ⟨ns, hns⟩ : ∃ ns, (defs.take kk).map (·.f0) = ns := ⟨_, rfl⟩
      have hnl : ns.length = kk := by rw [← hns]; simp; omega
      rw [hns] at HO
      obtain ⟨An, cn, rfl⟩ := Kd.R_slice HO.out
      have HNs := Lib.hid hns
      have HNl := Lib.hid hnl
      have HDd := Lib.hid hdd
      have hsb := HB.out.size
      clear hK hFK hcells he bD qa qwa hWa hk hns hnl hdd qr
      go_wp2_with fail
      rw [HWa.out]
      refine HC.out.mono ?_
      rintro en w2 ⟨rfl, hb2⟩
      have bD2 := blk_below HD.out hb2
      have k0 := (blk_cell bD2 0).trans rfl
      have HQ2 := Lib.hid (HQA.out.trans (hb2.mono HQA.out.size))
      have hs2 := HQ2.out.size
      clear hb2 bD2
      cases he : (rightE dd != 0) with
      | true =>
        have HE := Lib.hid he
        go_wp2
        go_ret
        have hne : rightE dd ≠ 0 := by simpa using HE.out
        have hfe := firstErr_i HK.out hne HA.out
        exact ⟨reti (by rw [HX.out, if_neg (by rw [hfe]; exact hne), hfe]), HQ.out.trans ((HB.out.trans (HQ2.out.mono HB.out.size)).mono HQ.out.size)⟩
      | false =>
        have HE := Lib.hid he
        have HOx := Lib.hid (Kd.R_below HO.out HQ2.out)
        go_wp2_with (at_builtin; refine Kd.R_append Kd.string (w0 := wr) (W := w2) W1.heap.size rfl (.tmp 32) (.tmp 35) 30 9 _ 16 rfl Tryz.underlying30 infoTx rfl (by decide) (by decide) (.slice An ns.length cn) ns dd.f0 [.string dd.f0] (fun _ => True) (fun _ => False) rfl rfl rfl (fun _ h => h.elim) (fun _ _ => trivial) HOx.out (HQ2.out.mono hsb) (by omega) (by rw [HNl.out]; omega) ?_; intro v1 w3 hR3 hb3 hg3 _; have HR3 := Aside0.mk hR3; have HG3 := Lib.hid hg3; have HB3 := Lib.hid hb3; clear hR3 hg3 hb3)
        go_roundg (defs.length - (kk + 1))
        case measure => omega
        case rel => exact ⟨kk + 1, by omega, by omega, by go_num, ⟨zero_snoc HA.out HK.out (by simpa using HE.out)⟩, ⟨by
          have e1 : (defs.take (kk + 1)).map (·.f0) = ns ++ [dd.f0] := by rw [take_snoc hlt, List.map_append, HNs.out, HDd.out]; rfl
          rw [e1]; exact HR3.out⟩, ⟨HB.out.trans HB3.out⟩⟩
    · have : kk = defs.length := by omega
      subst this
      obtain ⟨ns, hns⟩ : ∃ ns, (defs.take defs.length).map (·.f0) = ns := ⟨_, rfl⟩
      have hns2 : ns = defs.map (·.f0) := by rw [← hns, List.take_length]
      rw [hns] at HO
      have hnl : ns.length = defs.length := by rw [hns2]; simp
      obtain ⟨An, cn, rfl, hcn, hCn⟩ := Kd.R_reads HO.out
      have HT := Lib.hid (c_twice An cn ns wr hCn hcn (fun s hs => by rw [hns2] at hs; obtain ⟨d, hd, rfl⟩ := List.mem_map.1 hs; exact hok.nm d hd) (by omega))
      have bPr := blk_below HP.out HB.out
      have kP := (blk_cell bPr 0).trans rfl
      have hfe := firstErr_all HA.out
      have HX2 := Lib.hid (HX.out.trans (by rw [if_pos hfe, ← hns2]))
      have HPr := Lib.hid bPr
      clear hns hns2 hnl hCn bPr hfe
      go_wp2_with fail
      refine HT.out.mono ?_
      rintro en w2 ⟨rfl, hb2⟩
      have bP2 := blk_below HPr.out hb2
      have kP2 := (blk_cell bP2 0).trans rfl
      have HP2 := Lib.hid bP2
      have HB2 := Lib.hid (HB.out.trans (hb2.mono HB.out.size))
      clear hb2 bP2 kP
      cases ht : twB ns with
      | true =>
        rw [ht] at HX2
        go_wp2
        go_ret
        exact ⟨reti (by rw [HX2.out]; rfl), HQ.out.trans (HB2.out.mono HQ.out.size)⟩
      | false =>
        rw [ht] at HX2
        go_wp2
        obtain ⟨wo, rfl⟩ : ∃ wo : World, wo = wr := ⟨_, rfl⟩
        have B2 := Aside0.mk HB2.out
        go_loopg [43] defs.length (fun gg s43 wr => ∃ kk : Nat, kk ≤ defs.length ∧ defs.length - kk ≤ gg ∧ s43 = .int .i64 kk ∧ Aside0 (∀ j y, j < kk → defs[j]? = some y → callsD defs y = 0) ∧ Aside0 (Below W1.heap.size W1 wr))
        case atStart => exact ⟨0, Nat.zero_le _, by omega, rfl, ⟨fun j y h => absurd h (Nat.not_lt_zero _)⟩, B2⟩
        case round =>
          obtain ⟨kk, hkk, hg, rfl, HA2, HBe⟩ := hrel
          by_cases hlt : kk < defs.length
          · have hltz : (kk : Int) < (defs.length : Int) := by omega
            have qr : Below w.heap.size w wr := HQ.out.trans (HBe.out.mono HQ.out.size)
            obtain ⟨ad, g0, g1, g2, g3, g4, g5, rfl, hK, hcells, y0, y1, y2, y3, y4, y5⟩ := gett6 rfl (Kd.C_below HR.out qr) kk hlt
            have hFK := elemF HF.out kk hlt rfl hcells (fun p v hp hv => qr.cell (World.block_lt_of_cell? _ _ hv) |>.trans hv) (by decide)
            have hmem := List.getElem_mem hlt
            obtain ⟨dd, hdd⟩ : ∃ dd, defs[kk] = dd := ⟨_, rfl⟩
            have hk : defs[kk]? = some dd := by rw [List.getElem?_eq_getElem hlt, hdd]
            rw [hdd] at hFK hmem
            obtain ⟨Z1, z1, Z2, z2, Z5, z5, he, _⟩ := k59_openF hFK
            obtain ⟨rfl, rfl, rfl, rfl, rfl, rfl⟩ : g0 = _ ∧ g1 = _ ∧ g2 = _ ∧ g3 = _ ∧ g4 = _ ∧ g5 = _ := by simpa using he
            obtain ⟨Wa, hWa⟩ : ∃ Wa, wr.alloc (.cells #[.string dd.f0, .slice Z1 dd.f1.length z1, .slice Z2 dd.f2.length z2, .int .i64 dd.f3.f0, .string dd.f3.f1, .slice Z5 dd.f3.f2.length z5] 59) = Wa := ⟨_, rfl⟩
            have qa : Below wr.heap.size wr Wa := by rw [← hWa]; exact below_alloc1 _ _
            have qwa : Below w.heap.size w Wa := qr.trans (qa.mono qr.size)
            have bPa := blk_below (blk_below HP.out HBe.out) qa
            have kPa := (blk_cell bPa 0).trans rfl
            rw [← hWa] at kPa
            have hod := hok.d _ hmem
            have HC := Lib.hid (c_calls defs (some ad) c dd _ Wa (Kd.C_below HR.out qwa) hc (Kd.FK_mono (Kd.FK_below hFK qwa) (fun k hk => by have := qwa.size; omega)) (by have := hod.c; omega) hod.z)
            have HQA := Lib.hid qa
            have HWa := Lib.hid hWa
            have HK := Lib.hid hk
            have HDd := Lib.hid hdd
            clear hK hFK hcells he qa qwa hWa hk hdd qr bPa
            go_wp2_with fail
            rw [HWa.out]
            refine HC.out.mono ?_
            rintro en w5 ⟨rfl, hb5⟩
            have HQ5 := Lib.hid (HQA.out.trans (hb5.mono HQA.out.size))
            clear hb5 kPa
            cases he : (callsD defs dd != 0) with
            | true =>
              have HE := Lib.hid he
              go_wp2
              go_ret
              have hne : callsD defs dd ≠ 0 := by simpa using HE.out
              have hfe := firstErr_i HK.out hne HA2.out
              exact ⟨reti (by rw [HX2.out, hfe]; rfl), HQ.out.trans ((HBe.out.trans (HQ5.out.mono HBe.out.size)).mono HQ.out.size)⟩
            | false =>
              have HE := Lib.hid he
              go_wp2
              go_roundg (defs.length - (kk + 1))
              case measure => omega
              case rel => exact ⟨kk + 1, by omega, by omega, by go_num, ⟨zero_snoc HA2.out HK.out (by simpa using HE.out)⟩, ⟨HBe.out.trans (HQ5.out.mono HBe.out.size)⟩⟩
          · have : kk = defs.length := by omega
            subst this
            go_wp2
            go_ret
            exact ⟨reti (by rw [HX2.out, firstErr_all HA2.out]; rfl), HQ.out.trans (HBe.out.mono HQ.out.size)⟩
end Go.Proofs.YtacefdkfbpgedaaGreat.Mine
