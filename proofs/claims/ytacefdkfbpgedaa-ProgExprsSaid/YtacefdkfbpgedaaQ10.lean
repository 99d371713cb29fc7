/- prog's scoped. -/
import Derived.Test.YtacefdkfbpgedaaQ9
import Derived.Deep.RegionLaw
import Derived.Deep.RegionHeld3
namespace Go.Proofs.Ytacefdkfbpgedaa.Mine
open Go.Proofs.Ytacefdkfbpgedaa.PProgExprs
open Go.RowKit Go.Shelf Go.Proofs.YtacefdkfbpgedaaW.PrintWords Go.Proofs.YtacefdkfbpgedaaW.PrintLast Go.Proofs.YtacefdkfbpgedaaW.PrintMore
set_option linter.unusedVariables false
set_option linter.unusedSimpArgs false
attribute [local go_sem] Oper.semAt_some

/-- The names that are in scope in body i. -/
def scopeI (d : De) (i : Nat) : List ByteArray := d.f1 ++ (match d.f2[i]? with | some c => c.f1 | none => [])
def okV (sc : List ByteArray) (e : Ex) : Bool := !((e.f0 == 1) && !(memB e.f1 sc))
def scopedD (d : De) : Bool := (List.range (bodiesD d).length).all fun i => (plE ((bodiesD d).getD i ⟨0, ⟨#[]⟩, []⟩)).all (okV (scopeI d i))
theorem scopedD_yes {d : De} (h : ∀ (i : Nat) (b : Ex), i < (bodiesD d).length → (bodiesD d)[i]? = some b → (plE b).all (okV (scopeI d i)) = true) : scopedD d = true := by
  rw [scopedD, List.all_eq_true]
  intro i hi
  have hi := List.mem_range.1 hi
  exact h i _ hi (by rw [List.getD_eq_getElem?_getD, List.getElem?_eq_getElem hi]; rfl)
theorem scopedD_no {d : De} {i : Nat} {b : Ex} (hi : (bodiesD d)[i]? = some b) {pre : List Ex} (hp : pre <+: plE b) {x : Ex} (hx : x ∈ pre) (hb : okV (scopeI d i) x = false) : scopedD d = false := by
  rw [scopedD, List.all_eq_false]
  have hlt := (List.getElem?_eq_some_iff.1 hi).1
  refine ⟨i, List.mem_range.2 hlt, ?_⟩
  rw [List.getD_eq_getElem?_getD, hi, Option.getD_some, Bool.not_eq_true]
  exact evens_any hp hx hb

theorem Below.of_putObj {n k : Nat} {W : World} {o : Obj} (h : n ≤ k) : Below n W (W.putObj k o) := ⟨rfl, rfl, rfl, by simp, fun i hi => World.putObj_heap_other (by omega)⟩
set_option maxHeartbeats 1000000 in
theorem c_scoped1 (s : ByteArray) (B : Nat) (A : Option Addr) (c : Nat) (l : List ByteArray) (w : World) (hbox : w.heap[B]? = some (.cells #[.slice A l.length c] 25 (0, 0))) (hr : Kd.C Kd.string w A l.length l) (hc : l.length ≤ c) :
    Calls Try.prog 129 #[.string s, .pointer (some ⟨B, 0, none⟩)] w fun e w' => e = .returned (.bool (memB s l)) ∧ w' = w := by
  have k0 := cell_of_one hbox
  have HC := Lib.hid (c_ContS A c l s w hr hc)
  clear hbox hr
  go_enter Try.func129, Try.ntmps129
  go_wp2_with fail
  refine HC.out.mono ?_
  rintro e w' ⟨rfl, rfl⟩
  go_wp2
  go_ret
  exact ⟨rfl, rfl⟩

set_option maxRecDepth 100000 in
set_option maxHeartbeats 8000000 in
theorem c_scoped (d : De) (cs : List Value) (w : World) (hd : Kd.FK k58 w (fun k => k < w.heap.size) d cs) (hl : d.f2.length ≤ 1000000) (hz : ∀ b ∈ bodiesD d, szE b < 1000000) (hp : d.f1.length ≤ 100000) (hv : ∀ c ∈ d.f2, c.f1.length ≤ 100000) :
    Calls Try.prog 116 #[.agg cs.toArray] w fun en w' => en = .returned (.bool (scopedD d)) ∧ Below w.heap.size w w' := by
  obtain ⟨A1, c1, A2, c2, A5, c5, hcs, l1, F1, l2, F2, _⟩ := k58_openF hd
  obtain ⟨W1, hW1⟩ : ∃ W1, (w.alloc (.cells cs.toArray 58)).alloc (.cells #[.bool false] 4) = W1 := ⟨_, rfl⟩
  have z1 : W1.heap.size = w.heap.size + 1 + 1 := by rw [← hW1]; simp
  have q1 : Below w.heap.size w W1 := by rw [← hW1]; exact below_alloc2 _ _ _
  have bD : W1.heap[w.heap.size]? = some (.cells cs.toArray 58 (0, 0)) := by rw [← hW1]; exact blk_alloc (alloc_at _ _) _
  have bR : W1.heap[w.heap.size + 1]? = some (.cells #[.bool false] 4 (0, 0)) := by rw [← hW1]; have := alloc_at (w.alloc (.cells cs.toArray 58)) (.cells #[.bool false] 4); rw [World.size_alloc] at this; exact this
  have HB := Lib.hid (c_bodies d cs (fun k => k < w.heap.size) W1 (Kd.FK_below hd q1) hl)
  subst hcs
  have g0 := (blk_cell bD 0).trans rfl
  have g1 := (blk_cell bD 1).trans rfl
  have g2 := (blk_cell bD 2).trans rfl
  have g3 := (blk_cell bD 3).trans rfl
  have g4 := (blk_cell bD 4).trans rfl
  have g5 := (blk_cell bD 5).trans rfl
  have HD := Lib.hid bD
  have HR := Lib.hid bR
  have HQ := Lib.hid q1
  have HW1 := Lib.hid hW1
  have HF1 := Lib.hid F1
  have HF2 := Lib.hid F2
  have hm2 := (Kd.F_now F2).2.1
  clear hd bD bR q1 hW1 F1 F2
  refine (callsIn_wide (n := 6)).1 (callsIn_of_wp_marks (F := Fence.wide) Try.func116 rfl trivial ?_ rfl)
  simp only [Try.ntmps116, List.size_toArray, List.length_cons, List.length_nil, Nat.reduceAdd, Nat.reduceSub, Array.replicate_succ, Array.replicate_zero, List.push_toArray, List.append_toArray, List.nil_append, List.cons_append]
  rw [← HW1.out] at g0 g1 g2 g3 g4 g5
  gi_wp2_with fail
  rw [HW1.out]
  clear g0 g1 g2 g3 g4 g5
  refine ⟨trivial, (callsIn_wide.2 HB.out).mono ?_⟩
  rintro en W2 ⟨v, rfl, hRow, hb2⟩
  obtain ⟨Av, cv, rfl⟩ := hRow.slice
  have R2 := Lib.hid hRow
  have B2 := Lib.hid hb2
  have hlen : (bodiesD d).length ≤ 1000001 := by
    unfold bodiesD; split
    · simp
    · simp; omega
  obtain ⟨bs, hbs⟩ : ∃ bs, bodiesD d = bs := ⟨_, rfl⟩
  rw [hbs] at R2 hlen hz ⊢
  have HBs := Lib.hid hbs
  clear hRow hb2 hbs
  gi_wp2_with fail
  obtain ⟨dv, hdv⟩ : ∃ x : Value, x = .agg #[.string d.f0, .slice A1 d.f1.length c1, .slice A2 d.f2.length c2, .int .i64 d.f3.f0, .string d.f3.f1, .slice A5 d.f3.f2.length c5] := ⟨_, rfl⟩
  rw [← hdv]
  have HDv := Lib.hid hdv
  clear hdv
  refine wpIn_loopT (fun a Wr => ∃ (kk : Nat) (Ds : List Nat) (u3 u4 u5 u6 u7 u12 u13 u14 u15 u16 u17 u18 u19 u20 u21 u22 u23 u24 u25 u26 u27 u28 u29 u30 u31 u32 u33 u34 u35 u36 u37 u38 u39 u40 u41 u42 u43 u44 u45 : Value),
      a = { tmps := #[dv, .pointer (some ⟨w.heap.size, 0, none⟩), .pointer (some ⟨w.heap.size + 1, 0, none⟩), u3, u4, u5, u6, u7, dv, .slice Av bs.length cv, .int .i64 bs.length, .int .i64 kk, u12, u13, u14, u15, u16, u17, u18, u19, u20, u21, u22, u23, u24, u25, u26, u27, u28, u29, u30, u31, u32, u33, u34, u35, u36, u37, u38, u39, u40, u41, u42, u43, u44, u45], defers := Ds.map markD } ∧
      kk ≤ bs.length ∧ (∀ (j : Nat) (b : Ex), j < kk → bs[j]? = some b → (plE b).all (okV (scopeI d j)) = true) ∧ Marks (w.heap.size + 2) Ds Wr ∧ Below W2.heap.size W2 Wr)
    (fun a _ => bs.length - (intOf (a.tmps.getD 11 undef)).toNat) ?_ ?_
  · exact ⟨0, [], _, _, _, _, _, _, _, _, _, _, _, _, _, _, _, _, _, _, _, _, _, _, _, _, _, _, _, _, _, _, _, _, _, _, _, _, _, _, _, rfl, Nat.zero_le _, fun j b h => absurd h (Nat.not_lt_zero _), Marks.nil _ _, Below.refl _ _⟩
  rintro a Wr ⟨kk, Ds, u3, u4, u5, u6, u7, u12, u13, u14, u15, u16, u17, u18, u19, u20, u21, u22, u23, u24, u25, u26, u27, u28, u29, u30, u31, u32, u33, u34, u35, u36, u37, u38, u39, u40, u41, u42, u43, u44, u45, rfl, hkk, hall, hmk, hbr⟩ T hT
  have HT := Lib.hid hT
  have HAll := Lib.hid hall
  have HM := Lib.hid hmk
  have HBr := Lib.hid hbr
  clear hT hall hmk hbr HB
  by_cases hlt : kk < bs.length
  · have hltz : (kk : Int) < (bs.length : Int) := by omega
    have hrow := R2.out.keeps (KeepsBut.below (l := none) HBr.out) (fun k h => by cases h)
    obtain ⟨ad, A3, a3, rfl, x0, x1, x2, hl3, hF3⟩ := hrow.get kk hlt
    have HF3 := Lib.hid hF3
    have q1r : Below W1.heap.size W1 Wr := B2.out.trans (HBr.out.mono B2.out.size)
    have qr : Below w.heap.size w Wr := HQ.out.trans (q1r.mono HQ.out.size)
    obtain ⟨Wa, hWa⟩ : ∃ Wa, Wr.alloc (.cells #[.int .i64 bs[kk].f0, .string bs[kk].f1, .slice A3 bs[kk].f2.length a3] 24) = Wa := ⟨_, rfl⟩
    have qa : Below Wr.heap.size Wr Wa := by rw [← hWa]; exact below_alloc1 _ _
    have bDa := blk_below (blk_below HD.out q1r) qa
    have ga1 := (blk_cell bDa 1).trans rfl
    rw [← hWa] at ga1
    have HCl := Lib.hid (c_CloneS A1 c1 d.f1 Wa (Kd.F_now (Kd.F_below HF1.out (qr.trans (qa.mono qr.size)))) l1 (by omega))
    have HWa := Lib.hid hWa
    have HQr := Lib.hid qr
    have HQ1r := Lib.hid q1r
    have HQa := Lib.hid qa
    clear hrow hF3 qr q1r qa bDa hWa
    gi_wp2_with fail
    rw [HWa.out]
    refine ⟨trivial, (callsIn_wide.2 HCl.out).mono ?_⟩
    rintro en w2 ⟨vc, rfl, hOc, hbc⟩
    obtain ⟨Ac, cc, rfl⟩ := Kd.R_slice hOc
    have hccap : d.f1.length ≤ cc := by obtain ⟨A', c', he, h1, _⟩ := Kd.R_reads hOc; cases he; exact h1
    have zA : Wa.heap.size = Wr.heap.size + 1 := by rw [← HWa.out]; simp
    have bBa : Wa.heap[Wr.heap.size]? = some (.cells #[.int .i64 bs[kk].f0, .string bs[kk].f1, .slice A3 bs[kk].f2.length a3] 24 (0, 0)) := by rw [← HWa.out]; exact alloc_at _ _
    have q2 : Below Wr.heap.size Wr w2 := HQa.out.trans (hbc.mono HQa.out.size)
    have hz2 := hbc.size
    have bD2 := blk_below (blk_below HD.out HQ1r.out) q2
    have gd2 := fun o => (blk_cell (blk_alloc bD2 o) 2).trans rfl
    have bB2 := blk_below bBa hbc
    have HBB := Lib.hid bB2
    have HBD := Lib.hid bD2
    have HO := Lib.hid hOc
    have HQ2 := Lib.hid q2
    have HZA := Lib.hid zA
    have HPl := Lib.hid (c_places bs[kk] A3 a3)
    have hlen0 := HBs.out
    clear hOc bBa q2 bD2 bB2 hbc
    by_cases hc0 : d.f2.length = 0
    · have hc1 : decide (0 < d.f2.length) = false := decide_eq_false (by omega)
      have hsc : scopeI d kk = d.f1 := by
        have : d.f2 = [] := List.length_eq_zero_iff.1 hc0
        rw [scopeI, this]; simp
      have bBx := blk_alloc HBB.out (.cells #[.slice Ac d.f1.length cc] 25)
      have gb0 := fun o => (blk_cell (blk_alloc bBx o) 0).trans rfl
      have gb1 := fun o => (blk_cell (blk_alloc bBx o) 1).trans rfl
      have gb2 := fun o => (blk_cell (blk_alloc bBx o) 2).trans rfl
      have hsz2 := HQ2.out.size
      have hlw : Wr.heap.size < w2.heap.size := by have := HZA.out; omega
      have hcc : (scopeI d kk).length ≤ cc := by rw [hsc]; exact hccap
      have hsl : (scopeI d kk).length = d.f1.length := by rw [hsc]
      have HSl := Lib.hid hsl
      have HSc := Lib.hid hsc
      clear bBx hsc hc0 hsl
      gi_wp2_with fail
      clear gb0 gb1 gb2 gd2
      obtain ⟨Wc, hWc⟩ : ∃ Wc, w2.alloc (.cells #[.slice Ac d.f1.length cc] 25) = Wc := ⟨_, rfl⟩
      have qc : Below Wr.heap.size Wr Wc := by rw [← hWc]; exact HQ2.out.trans ((below_alloc1 _ _).mono HQ2.out.size)
      have bS : Wc.heap[w2.heap.size]? = some (.cells #[.slice Ac (scopeI d kk).length cc] 25 (0, 0)) := by rw [← hWc, HSl.out]; exact alloc_at _ _
      have rS : Kd.C Kd.string Wc Ac (scopeI d kk).length (scopeI d kk) := by rw [← hWc, HSc.out]; obtain ⟨A', c', he, _, h1⟩ := Kd.R_reads HO.out; cases he; exact Kd.C_below h1 (below_alloc1 _ _)
      have zC : w2.heap.size < Wc.heap.size := by rw [← hWc]; simp
      rw [hWc, show w2.heap.size + 1 = Wc.heap.size by rw [← hWc]; simp]
      clear hWc
      refine ⟨trivial, (callsIn_wide.2 (HPl.out _)).mono ?_⟩
      rintro en w5 ⟨rfl, rfl⟩
      gi_wp2_with fail
      obtain ⟨Wd, hWd⟩ : ∃ Wd, (Wc.alloc (.cells #[.func (.func 129) #[] #[.pointer (some ⟨w2.heap.size, 0, none⟩)]] 67)).alloc (.cells #[.int .i64 bs[kk].f0, .string bs[kk].f1, .slice A3 bs[kk].f2.length a3] 24) = Wd := ⟨_, rfl⟩
      have qcd : Below Wc.heap.size Wc Wd := by rw [← hWd]; exact below_alloc2 _ _ _
      have zD : Wd.heap.size = Wc.heap.size + 1 + 1 := by rw [← hWd]; simp
      have bF : Wd.heap[Wc.heap.size]? = some (.cells #[.func (.func 129) #[] #[.pointer (some ⟨w2.heap.size, 0, none⟩)]] 67 (0, 0)) := by rw [← hWd]; exact blk_alloc (alloc_at _ _) _
      have bP : Wd.heap[Wc.heap.size + 1]? = some (.cells (cellsH (bs[kk], A3, a3)) 24 (0, 0)) := by rw [← hWd]; have := alloc_at (Wc.alloc (.cells #[.func (.func 129) #[] #[.pointer (some ⟨w2.heap.size, 0, none⟩)]] 67)) (.cells #[.int .i64 bs[kk].f0, .string bs[kk].f1, .slice A3 bs[kk].f2.length a3] 24); rw [World.size_alloc] at this; simpa [cellsH] using this
      rw [hWd]
      have qrd : Below Wr.heap.size Wr Wd := qc.trans (qcd.mono qc.size)
      have q1d : Below w.heap.size w Wd := (HQ.out.trans (HQ1r.out.mono HQ.out.size)).trans (qrd.mono (HQ.out.trans (HQ1r.out.mono HQ.out.size)).size)
      have hwr := (HQ.out.trans (HQ1r.out.mono HQ.out.size)).size
      have hq1s := HQ1r.out.size
      have hw1s : W1.heap.size = w.heap.size + 1 + 1 := z1
      have hrd := qrd.size
      have m4 := HM.out.below qrd
      have bRd := blk_below (blk_below HR.out HQ1r.out) qrd
      have bSd := blk_below bS qcd
      have rSd := Kd.C_below rS qcd
      have hF4 : Kd.F k24 Wd (fun k => k < w.heap.size) A3 bs[kk].f2.length bs[kk].f2 := Kd.F_step HF3.out (fun k hk hlt => by rw [q1d.block k hk, HQ.out.block k hk])
      have M4 := Lib.hid m4
      have HBR := Lib.hid bRd
      have HBS := Lib.hid bSd
      have HRS := Lib.hid rSd
      have HBF := Lib.hid bF
      have HQD := Lib.hid qrd
      have HQ1D := Lib.hid q1d
      clear hWd m4 bRd bSd rSd bF qrd qcd q1d qc bS rS
      refine wpIn_rangeFunc_ownH rfl (by omega) (gf := 98) (lb := #[.pointer (some ⟨Wc.heap.size + 1, 0, none⟩)]) rfl trivial (enters_of Try.func98 (by kernel_rfl) rfl)
        (places_stops Wd NoM w.heap.size (fun k => k < w.heap.size) (fun k hk => hk.elim) (fun k hk => ⟨fun h => h, hk⟩) ⟨(bs[kk], A3, a3), hl3, hF4, hz _ (List.getElem_mem hlt)⟩ (Wc.heap.size + 1) (fun h => h) Wd ((KC.rel _ _).refl _) (Nat.le_refl _) bP)
        (KC.rel _ _).trans (fun Wx lx o o' hlx ho hcl _ => KC.putObj _ (by omega) ho hcl) (Below.refl _ _) (fun _ => rfl)
        (fun pre Wx => (exs pre).all (okV (scopeI d kk)) = true ∧ Bel Wd Wd.heap.size Wx)
        (fun c pre Wx => c = .ret ∧ (∃ x ∈ exs pre, okV (scopeI d kk) x = false) ∧ Wx.heap[w.heap.size + 1]? = some (.cells #[.bool false] 4 (0, 0)) ∧ Marks (w.heap.size + 2) Ds Wx ∧ Bel w Wd.heap.size Wx)
        (fun pre X Y row ⟨h1, h2⟩ hg hr => ⟨h1, (Bel.own (β := Unit) (Nat.le_refl _)) () X Y row h2 hg hr⟩)
        (fun c pre X Y row ⟨h1, h2, h3, h4, h5⟩ hg hr => ⟨h1, h2, Blk.notcells h3 hg (fun r e => (hr r e).2), M4.out.own () X Y row h4 hg hr, (Bel.own (β := Unit) (by omega)) () X Y row h5 hg hr⟩)
        ⟨rfl, Below.refl _ _, Nat.le_refl _⟩
        (fun x a' Wx => ∃ Bx, Wd.heap.size ≤ Bx ∧ Wx.heap[Bx]? = some (.cells (cellsH x.1) 24 (0, 0)) ∧ ∃ (v3 v13 v14 v15 v16 v17 v18 v19 v20 v21 v22 v23 v24 v25 v26 v27 v28 v29 v30 v31 v32 v33 v34 v35 v36 v37 v38 v39 v40 v41 v42 v43 v44 v45 : Value), a' = { tmps := #[dv, .pointer (some ⟨w.heap.size, 0, none⟩), .pointer (some ⟨w.heap.size + 1, 0, none⟩), v3, .pointer (some ⟨Wr.heap.size, 0, none⟩), .pointer (some ⟨w2.heap.size, 0, none⟩), .pointer (some ⟨Wc.heap.size, 0, none⟩), .pointer (some ⟨Bx, 0, none⟩), dv, .slice (some ad) bs.length cv, .int .i64 bs.length, .int .i64 kk, .bool true, v13, v14, v15, v16, v17, v18, v19, v20, v21, v22, v23, v24, v25, v26, v27, v28, v29, v30, v31, v32, v33, v34, v35, v36, v37, v38, v39, v40, v41, v42, v43, v44, v45], defers := [] })
        (fun x a' _ X Y row hs hg hr => by obtain ⟨Bx, h1, h2, h3⟩ := hs; exact ⟨Bx, h1, Blk.notcells h2 hg (fun r e => (hr r e).2), h3⟩)
        ?assign ?body ?done ?stop
      case assign =>
        rintro l' pre ⟨⟨x, A', c'⟩, hx⟩ Wx K ⟨h1, h2⟩ hK
        simp only [encH]
        have H1 := Lib.hid h1
        have H2 := Lib.hid h2
        clear h1 h2
        gi_wp2
        have q := below_alloc1 Wx (.cells #[.int .i64 x.f0, .string x.f1, .slice A' x.f2.length c'] 24)
        exact hK _ _ ((KeepsOthers.alloc _ _).from _) ((KC.rel _ _).below q) ⟨H1.out, H2.out.after q⟩ ⟨Wx.heap.size, H2.out.2, alloc_at _ _, _, _, _, _, _, _, _, _, _, _, _, _, _, _, _, _, _, _, _, _, _, _, _, _, _, _, _, _, _, _, _, _, _, _, rfl⟩
      case body =>
        rintro l' pre ⟨⟨x, A', c'⟩, hx⟩ a' Wx hl' hr' ⟨h1, h2⟩ ⟨Bx, hBx, bX, v3, v13, v14, v15, v16, v17, v18, v19, v20, v21, v22, v23, v24, v25, v26, v27, v28, v29, v30, v31, v32, v33, v34, v35, v36, v37, v38, v39, v40, v41, v42, v43, v44, v45, rfl⟩ hlt'
        have e0 : Wx.cell? ⟨Bx, 0, none⟩ = some (.int .i64 x.f0) := (blk_cell bX 0).trans rfl
        have e1 : Wx.cell? ⟨Bx, 1, none⟩ = some (.string x.f1) := (blk_cell bX 1).trans rfl
        have ef := cell_of_one (blk_below HBF.out h2.1)
        have er := cell_of_one (blk_below HBR.out h2.1)
        have bRx := blk_below HBR.out h2.1
        have fr' := blk_frozen bRx 0
        have HC := Lib.hid (c_scoped1 x.f1 w2.heap.size _ _ (scopeI d kk) Wx (blk_below HBS.out h2.1) (Kd.C_below HRS.out h2.1) hcc)
        have H1 := Lib.hid h1
        have H2 := Lib.hid h2
        have HRx := Lib.hid bRx
        clear h1 h2 bX bRx hr'
        by_cases hk : x.f0 = 1
        · have hk1 : (x.f0 == 1) = true := by rw [beq_iff_eq]; exact hk
          have HKk := Lib.hid hk1
          clear hk
          cases hp : memB x.f1 (scopeI d kk) with
          | true =>
            rw [hp] at HC
            have HP := Lib.hid (show okV (scopeI d kk) x = true by rw [okV, hp]; simp)
            clear hp
            gi_wp2_with fail
            refine ⟨trivial, (CallsIn.inRound l' (callsIn_wide.2 HC.out)).mono ?_⟩
            rintro en W5 ⟨rfl, rfl⟩
            gi_wp2_with fail
            exact ⟨KeepsFrom.refl _ _, (KC.rel _ _).refl _, by rw [exs_append, List.all_append, H1.out]; simp [exs, HP.out], H2.out⟩
          | false =>
            rw [hp] at HC
            have HP := Lib.hid (show okV (scopeI d kk) x = false by rw [okV, hp, hk1]; rfl)
            clear hp
            gi_wp2_with fail
            refine ⟨trivial, (CallsIn.inRound l' (callsIn_wide.2 HC.out)).mono ?_⟩
            rintro en W5 ⟨rfl, rfl⟩
            gi_wp2_with fail
            have hB2 := (H2.out.1.mono (Nat.le_refl _))
            exact ⟨(KeepsOthers.setCell _ _ _).from _, rfl, ⟨x, by simp [exs], HP.out⟩, by have := blk_put HRx.out 0 (.bool false) rfl; simpa using this, ((M4.out.below H2.out.1).keeps (KeepsBut.set (l := none) HRx.out (by decide) _ _) (fun k h => by cases h)), ((HQ1D.out.trans (H2.out.1.mono HQ1D.out.size)).setCell (by simp) _), by have := H2.out.2; simpa [World.setCell] using this⟩
        · have hk1 : (x.f0 == 1) = false := by rw [beq_eq_false_iff_ne]; exact hk
          have HP := Lib.hid (show okV (scopeI d kk) x = true by rw [okV, hk1]; rfl)
          clear hk
          gi_wp2_with fail
          refine ⟨by first | trivial | (intro f h; cases h), ?_⟩
          gi_wp2_with fail
          exact ⟨KeepsFrom.refl _ _, (KC.rel _ _).refl _, by rw [exs_append, List.all_append, H1.out]; simp [exs, HP.out], H2.out⟩
      case done =>
        rintro D zs Wx hD hzs ⟨h1, h2⟩ hK
        have hzs' : exs zs = plE bs[kk] := hzs
        rw [hzs'] at h1
        have hdx : Wd.heap.size ≤ Wx.heap.size := h2.2
        have H1 := Lib.hid h1
        have H2 := Lib.hid (HQD.out.trans (h2.1.mono HQD.out.size))
        have H3 := Lib.hid (Marks.cons M4.out (M4.out.below h2.1) hD (by omega) hK)
        clear h1 h2 hzs hzs' hK
        gi_wp2
        refine HT.out _ _ ⟨kk + 1, D :: Ds, _, _, _, _, _, _, _, _, _, _, _, _, _, _, _, _, _, _, _, _, _, _, _, _, _, _, _, _, _, _, _, _, _, _, _, _, _, _, _, rfl, by omega, ?_, H3.out, HBr.out.trans (H2.out.mono HBr.out.size)⟩ ?_
        · intro j b hj hb
          rcases Nat.lt_or_ge j kk with h | h
          · exact HAll.out j b h hb
          · obtain rfl : j = kk := by omega
            rw [List.getElem?_eq_getElem hlt] at hb
            cases hb
            exact H1.out
        · simp [intOf]
          omega
      case stop =>
        rintro D c pre Wx hD hSp ⟨rfl, ⟨x, hx1, hx2⟩, h3, h4, h5⟩ hK
        have H3 := Lib.hid h3
        have H5 := Lib.hid h5
        have HMk := Lib.hid (Marks.cons M4.out h4 hD (by omega) hK)
        have HSp := Lib.hid hSp
        clear h3 h4 h5 hK hSp
        gi_wp2
        show LeavesInM _ _ _ _ _ _ ((D :: Ds).map markD) .returning Wx
        exact leaves_marks (B := w.heap.size + 2) (I := fun X => X.heap[w.heap.size + 1]? = some (.cells #[.bool false] 4 (0, 0)) ∧ Below w.heap.size w X) (fun X E hE hX h => ⟨(World.putObj_heap_other (by omega)).trans h.1, h.2.trans (Below.of_putObj (by omega))⟩)
          (fun X h => ⟨_, results_bool rfl _ _ _ _ rfl h.1, by
            have hp : exs pre <+: plE bs[kk] := HSp.out
            rw [scopedD_no (d := d) (i := kk) (b := bs[kk]) (by rw [HBs.out]; exact List.getElem?_eq_getElem hlt) hp hx1 hx2], h.2⟩) (D :: Ds) Wx HMk.out.1 HMk.out.2 ⟨H3.out, H5.out.1⟩
    · have hc1 : decide (0 < d.f2.length) = true := decide_eq_true (by omega)
      have hbm : bs = d.f2.map (·.f2) := by rw [← hlen0, bodiesD, if_neg hc0]
      have hk2 : kk < d.f2.length := by rw [hbm] at hlt; simpa using hlt
      have hsc : scopeI d kk = d.f1 ++ d.f2[kk].f1 := by rw [scopeI, List.getElem?_eq_getElem hk2]
      obtain ⟨kd, e0, e1, e2, e3, e4, he5, hK, hcells, y0, y1, y2, y3, y4⟩ := gett5 rfl (Kd.F_now (Kd.F_below HF2.out (((HQ.out.trans (HQ1r.out.mono HQ.out.size)).trans (HQ2.out.mono (HQ.out.trans (HQ1r.out.mono HQ.out.size)).size))))) kk hk2
      obtain ⟨X1, x1', X4, x4', he, m1, G1, m4, G4⟩ := k99_open hK
      obtain ⟨rfl, rfl, rfl, rfl, rfl⟩ : e0 = _ ∧ e1 = _ ∧ e2 = _ ∧ e3 = _ ∧ e4 = _ := by simpa using he
      subst he5
      have hvl := hv _ (List.getElem_mem hk2)
      have hsz2 := HQ2.out.size
      have hlw : Wr.heap.size < w2.heap.size := by have := HZA.out; omega
      have y1' := pw_cell_below (below_alloc1 w2 (.cells #[.slice Ac d.f1.length cc] 25)) y1
      have hkz : (kk : Int) < (d.f2.length : Int) := by omega
      have HSc := Lib.hid hsc
      have HBm := Lib.hid hbm
      have HG1 := Lib.hid G1
      clear hbm hsc hc0 hK hcells he G1 G4 y0 y2 y3 y4 hlen0
      gi_wp2_with fail
      refine wpIn_wide.2 ?_
      have hOb := Kd.R_base HO.out
      have hOl := Kd.R_lt HO.out
      have hn1 : some w2.heap.size ≠ (Value.slice Ac d.f1.length cc).ownBlock := fun he => by have := hOl _ he.symm; omega
      have hn2 : some Wr.heap.size ≠ (Value.slice Ac d.f1.length cc).ownBlock := fun he => by have := hOb _ he.symm; have := HZA.out; omega
      have qx : Below w2.heap.size w2 (w2.alloc (.cells #[.slice Ac d.f1.length cc] 25)).drew := below_drew (below_alloc1 _ _)
      have HOx := Lib.hid (Kd.R_below HO.out qx)
      have HQx := Lib.hid qx
      have HCx := Lib.hid (Kd.C_below HG1.out qx)
      have HSx := Lib.hid (show (w2.alloc (.cells #[.slice Ac d.f1.length cc] 25)).drew.heap[w2.heap.size]? = some (.cells #[.slice Ac d.f1.length cc] 25 (0, 0)) from alloc_at w2 _)
      have HBx := Lib.hid (blk_below HBB.out qx)
      have hsa := HZA.out
      clear qx hOl hsa
      refine wp_region_noPanic ?_
      go_region_law (refine Kd.R_append_rows_step Kd.string (w0 := (w2.alloc (.cells #[.slice Ac d.f1.length cc] 25)).drew) Wa.heap.size (by rfl) (.tmp 23) (.tmp 29) 25 9 _ 16 rfl Try.underlying25 infoTx rfl (by decide) (by decide) (.slice Ac d.f1.length cc) d.f1 d.f2[kk].f1 X1 d.f2[kk].f1.length x1' (fun _ => True) (fun _ => False) rfl rfl HOx.out HCx.out (fun _ _ h => h) (fun _ h => h.elim) (fun _ _ => trivial) (Below.refl _ _) (Nat.le_trans hz2 HQx.out.size) (by omega) ?_; intro v1 w3 ho3 hb3 hg3 hat3; obtain ⟨As, cs', hv1, hcs', hrS⟩ := Kd.R_reads ho3; subst hv1; have HO3 := Lib.hid ho3; have HAt3 := Lib.hid hat3; have bS3 := blk_grown HSx.out hg3 hn1; have bB3 := blk_grown HBx.out hg3 hn2; have cS3 := cell_of_one bS3; have fS3 := blk_frozen bS3 0; have HrS := Lib.hid hrS; have HG3 := Lib.hid hg3; have HS3 := Lib.hid bS3; have HB3 := Lib.hid bB3; clear ho3 hb3 hg3 bS3 bB3 hrS hat3)
      all_goals
        have bBx := blk_far HB3.out (p := ⟨w2.heap.size, 0, none⟩) (by simp only; omega) (.slice As (d.f1.length + d.f2[kk].f1.length) cs')
        have gb0 := fun o => (blk_cell (blk_alloc bBx o) 0).trans rfl
        have gb1 := fun o => (blk_cell (blk_alloc bBx o) 1).trans rfl
        have gb2 := fun o => (blk_cell (blk_alloc bBx o) 2).trans rfl
        have hsl : (scopeI d kk).length = (d.f1 ++ d.f2[kk].f1).length := by rw [HSc.out]
        have hcc : (scopeI d kk).length ≤ cs' := by rw [HSc.out]; exact hcs'
        have HSl := Lib.hid hsl
        have HSl := Lib.hid hsl
        have hs3 := HG3.out.size
        have hsx := HQx.out.size
        have hss : w2.heap.size + 1 ≤ w3.heap.size := by have h1 : (w2.alloc (.cells #[.slice Ac d.f1.length cc] 25)).drew.heap.size = w2.heap.size + 1 := World.size_alloc _ _; omega
        clear bBx hsl
        refine NoPanic.normal ?_
        gi_wp2_with fail
        clear gb0 gb1 gb2 gd2
        obtain ⟨Wc, hWc⟩ : ∃ Wc, w3.setCell ⟨w2.heap.size, 0, none⟩ (.slice As (d.f1.length + d.f2[kk].f1.length) cs') = Wc := ⟨_, rfl⟩
        have zC3 : Wc.heap.size = w3.heap.size := by rw [← hWc]; simp [World.setCell]
        have hlsum : (scopeI d kk).length = d.f1.length + d.f2[kk].f1.length := by rw [HSc.out, List.length_append]
        have qc : Below Wr.heap.size Wr Wc := by
          rw [← hWc]
          exact ((HQ2.out.trans (HQx.out.mono HQ2.out.size)).grown HG3.out (Nat.le_trans hsz2 HQx.out.size) (fun k hk => by have := hOb k hk; have := HZA.out; omega)).setCell (by simp only; omega) _
        have bS : Wc.heap[w2.heap.size]? = some (.cells #[.slice As (scopeI d kk).length cs'] 25 (0, 0)) := by
          rw [← hWc, hlsum]
          have := blk_put HS3.out 0 (.slice As (d.f1.length + d.f2[kk].f1.length) cs') rfl
          simpa using this
        have rS : Kd.C Kd.string Wc As (scopeI d kk).length (scopeI d kk) := by
          rw [← hWc, HSc.out]
          have hR := Kd.R_far (p := ⟨w2.heap.size, 0, none⟩) (Kd.R_mono (Kd.R_tight rfl HO3.out) (ok' := fun k => k ≠ w2.heap.size) (fun k hk => by
            rcases HAt3.out with h | ⟨b, h, hb⟩
            · rw [h] at hk; intro e; subst e; exact hn1 hk
            · rw [h] at hk; cases hk
              have h1 : (w2.alloc (.cells #[.slice Ac d.f1.length cc] 25)).drew.heap.size = w2.heap.size + 1 := World.size_alloc _ _
              omega)) (fun k hk => hk) (.slice As (d.f1.length + d.f2[kk].f1.length) cs')
          obtain ⟨A', c', he, _, h1⟩ := Kd.R_reads hR
          cases he
          exact h1
        have zC : w2.heap.size < Wc.heap.size := by omega
        rw [hWc, ← zC3]
        clear zC3 hs3 hsx hss
        clear hWc HO3 HAt3 HG3 HS3 HB3 HSx HBx HQx HCx HOx
        refine ⟨trivial, (callsIn_wide.2 (HPl.out _)).mono ?_⟩
        rintro en w5 ⟨rfl, rfl⟩
        gi_wp2_with fail
        obtain ⟨Wd, hWd⟩ : ∃ Wd, (Wc.alloc (.cells #[.func (.func 129) #[] #[.pointer (some ⟨w2.heap.size, 0, none⟩)]] 67)).alloc (.cells #[.int .i64 bs[kk].f0, .string bs[kk].f1, .slice A3 bs[kk].f2.length a3] 24) = Wd := ⟨_, rfl⟩
        have qcd : Below Wc.heap.size Wc Wd := by rw [← hWd]; exact below_alloc2 _ _ _
        have zD : Wd.heap.size = Wc.heap.size + 1 + 1 := by rw [← hWd]; simp
        have bF : Wd.heap[Wc.heap.size]? = some (.cells #[.func (.func 129) #[] #[.pointer (some ⟨w2.heap.size, 0, none⟩)]] 67 (0, 0)) := by rw [← hWd]; exact blk_alloc (alloc_at _ _) _
        have bP : Wd.heap[Wc.heap.size + 1]? = some (.cells (cellsH (bs[kk], A3, a3)) 24 (0, 0)) := by rw [← hWd]; have := alloc_at (Wc.alloc (.cells #[.func (.func 129) #[] #[.pointer (some ⟨w2.heap.size, 0, none⟩)]] 67)) (.cells #[.int .i64 bs[kk].f0, .string bs[kk].f1, .slice A3 bs[kk].f2.length a3] 24); rw [World.size_alloc] at this; simpa [cellsH] using this
        rw [hWd]
        have qrd : Below Wr.heap.size Wr Wd := qc.trans (qcd.mono qc.size)
        have q1d : Below w.heap.size w Wd := (HQ.out.trans (HQ1r.out.mono HQ.out.size)).trans (qrd.mono (HQ.out.trans (HQ1r.out.mono HQ.out.size)).size)
        have hwr := (HQ.out.trans (HQ1r.out.mono HQ.out.size)).size
        have hq1s := HQ1r.out.size
        have hw1s : W1.heap.size = w.heap.size + 1 + 1 := z1
        have hrd := qrd.size
        have m4 := HM.out.below qrd
        have bRd := blk_below (blk_below HR.out HQ1r.out) qrd
        have bSd := blk_below bS qcd
        have rSd := Kd.C_below rS qcd
        have hF4 : Kd.F k24 Wd (fun k => k < w.heap.size) A3 bs[kk].f2.length bs[kk].f2 := Kd.F_step HF3.out (fun k hk hlt => by rw [q1d.block k hk, HQ.out.block k hk])
        have M4 := Lib.hid m4
        have HBR := Lib.hid bRd
        have HBS := Lib.hid bSd
        have HRS := Lib.hid rSd
        have HBF := Lib.hid bF
        have HQD := Lib.hid qrd
        have HQ1D := Lib.hid q1d
        clear hWd m4 bRd bSd rSd bF qrd qcd q1d qc bS rS
        refine wpIn_rangeFunc_ownH rfl (by omega) (gf := 98) (lb := #[.pointer (some ⟨Wc.heap.size + 1, 0, none⟩)]) rfl trivial (enters_of Try.func98 (by kernel_rfl) rfl)
          (places_stops Wd NoM w.heap.size (fun k => k < w.heap.size) (fun k hk => hk.elim) (fun k hk => ⟨fun h => h, hk⟩) ⟨(bs[kk], A3, a3), hl3, hF4, hz _ (List.getElem_mem hlt)⟩ (Wc.heap.size + 1) (fun h => h) Wd ((KC.rel _ _).refl _) (Nat.le_refl _) bP)
          (KC.rel _ _).trans (fun Wx lx o o' hlx ho hcl _ => KC.putObj _ (by omega) ho hcl) (Below.refl _ _) (fun _ => rfl)
          (fun pre Wx => (exs pre).all (okV (scopeI d kk)) = true ∧ Bel Wd Wd.heap.size Wx)
          (fun c pre Wx => c = .ret ∧ (∃ x ∈ exs pre, okV (scopeI d kk) x = false) ∧ Wx.heap[w.heap.size + 1]? = some (.cells #[.bool false] 4 (0, 0)) ∧ Marks (w.heap.size + 2) Ds Wx ∧ Bel w Wd.heap.size Wx)
          (fun pre X Y row ⟨h1, h2⟩ hg hr => ⟨h1, (Bel.own (β := Unit) (Nat.le_refl _)) () X Y row h2 hg hr⟩)
          (fun c pre X Y row ⟨h1, h2, h3, h4, h5⟩ hg hr => ⟨h1, h2, Blk.notcells h3 hg (fun r e => (hr r e).2), M4.out.own () X Y row h4 hg hr, (Bel.own (β := Unit) (by omega)) () X Y row h5 hg hr⟩)
          ⟨rfl, Below.refl _ _, Nat.le_refl _⟩
          (fun x a' Wx => ∃ Bx, Wd.heap.size ≤ Bx ∧ Wx.heap[Bx]? = some (.cells (cellsH x.1) 24 (0, 0)) ∧ ∃ (v3 v13 v14 v15 v16 v17 v18 v19 v20 v21 v22 v23 v24 v25 v26 v27 v28 v29 v30 v31 v32 v33 v34 v35 v36 v37 v38 v39 v40 v41 v42 v43 v44 v45 : Value), a' = { tmps := #[dv, .pointer (some ⟨w.heap.size, 0, none⟩), .pointer (some ⟨w.heap.size + 1, 0, none⟩), v3, .pointer (some ⟨Wr.heap.size, 0, none⟩), .pointer (some ⟨w2.heap.size, 0, none⟩), .pointer (some ⟨Wc.heap.size, 0, none⟩), .pointer (some ⟨Bx, 0, none⟩), dv, .slice (some ad) bs.length cv, .int .i64 bs.length, .int .i64 kk, .bool true, v13, v14, v15, v16, v17, v18, v19, v20, v21, v22, v23, v24, v25, v26, v27, v28, v29, v30, v31, v32, v33, v34, v35, v36, v37, v38, v39, v40, v41, v42, v43, v44, v45], defers := [] })
          (fun x a' _ X Y row hs hg hr => by obtain ⟨Bx, h1, h2, h3⟩ := hs; exact ⟨Bx, h1, Blk.notcells h2 hg (fun r e => (hr r e).2), h3⟩)
          ?assign ?body ?done ?stop
        case assign =>
          rintro l' pre ⟨⟨x, A', c'⟩, hx⟩ Wx K ⟨h1, h2⟩ hK
          simp only [encH]
          have H1 := Lib.hid h1
          have H2 := Lib.hid h2
          clear h1 h2
          gi_wp2
          have q := below_alloc1 Wx (.cells #[.int .i64 x.f0, .string x.f1, .slice A' x.f2.length c'] 24)
          exact hK _ _ ((KeepsOthers.alloc _ _).from _) ((KC.rel _ _).below q) ⟨H1.out, H2.out.after q⟩ ⟨Wx.heap.size, H2.out.2, alloc_at _ _, _, _, _, _, _, _, _, _, _, _, _, _, _, _, _, _, _, _, _, _, _, _, _, _, _, _, _, _, _, _, _, _, _, _, rfl⟩
        case body =>
          rintro l' pre ⟨⟨x, A', c'⟩, hx⟩ a' Wx hl' hr' ⟨h1, h2⟩ ⟨Bx, hBx, bX, v3, v13, v14, v15, v16, v17, v18, v19, v20, v21, v22, v23, v24, v25, v26, v27, v28, v29, v30, v31, v32, v33, v34, v35, v36, v37, v38, v39, v40, v41, v42, v43, v44, v45, rfl⟩ hlt'
          have e0 : Wx.cell? ⟨Bx, 0, none⟩ = some (.int .i64 x.f0) := (blk_cell bX 0).trans rfl
          have e1 : Wx.cell? ⟨Bx, 1, none⟩ = some (.string x.f1) := (blk_cell bX 1).trans rfl
          have ef := cell_of_one (blk_below HBF.out h2.1)
          have er := cell_of_one (blk_below HBR.out h2.1)
          have bRx := blk_below HBR.out h2.1
          have fr' := blk_frozen bRx 0
          have HC := Lib.hid (c_scoped1 x.f1 w2.heap.size _ _ (scopeI d kk) Wx (blk_below HBS.out h2.1) (Kd.C_below HRS.out h2.1) hcc)
          have H1 := Lib.hid h1
          have H2 := Lib.hid h2
          have HRx := Lib.hid bRx
          clear h1 h2 bX bRx hr'
          by_cases hk : x.f0 = 1
          · have hk1 : (x.f0 == 1) = true := by rw [beq_iff_eq]; exact hk
            have HKk := Lib.hid hk1
            clear hk
            cases hp : memB x.f1 (scopeI d kk) with
            | true =>
              rw [hp] at HC
              have HP := Lib.hid (show okV (scopeI d kk) x = true by rw [okV, hp]; simp)
              clear hp
              gi_wp2_with fail
              refine ⟨trivial, (CallsIn.inRound l' (callsIn_wide.2 HC.out)).mono ?_⟩
              rintro en W5 ⟨rfl, rfl⟩
              gi_wp2_with fail
              exact ⟨KeepsFrom.refl _ _, (KC.rel _ _).refl _, by rw [exs_append, List.all_append, H1.out]; simp [exs, HP.out], H2.out⟩
            | false =>
              rw [hp] at HC
              have HP := Lib.hid (show okV (scopeI d kk) x = false by rw [okV, hp, hk1]; rfl)
              clear hp
              gi_wp2_with fail
              refine ⟨trivial, (CallsIn.inRound l' (callsIn_wide.2 HC.out)).mono ?_⟩
              rintro en W5 ⟨rfl, rfl⟩
              gi_wp2_with fail
              have hB2 := (H2.out.1.mono (Nat.le_refl _))
              exact ⟨(KeepsOthers.setCell _ _ _).from _, rfl, ⟨x, by simp [exs], HP.out⟩, by have := blk_put HRx.out 0 (.bool false) rfl; simpa using this, ((M4.out.below H2.out.1).keeps (KeepsBut.set (l := none) HRx.out (by decide) _ _) (fun k h => by cases h)), ((HQ1D.out.trans (H2.out.1.mono HQ1D.out.size)).setCell (by simp) _), by have := H2.out.2; simpa [World.setCell] using this⟩
          · have hk1 : (x.f0 == 1) = false := by rw [beq_eq_false_iff_ne]; exact hk
            have HP := Lib.hid (show okV (scopeI d kk) x = true by rw [okV, hk1]; rfl)
            clear hk
            gi_wp2_with fail
            refine ⟨by first | trivial | (intro f h; cases h), ?_⟩
            gi_wp2_with fail
            exact ⟨KeepsFrom.refl _ _, (KC.rel _ _).refl _, by rw [exs_append, List.all_append, H1.out]; simp [exs, HP.out], H2.out⟩
        case done =>
          rintro D zs Wx hD hzs ⟨h1, h2⟩ hK
          have hzs' : exs zs = plE bs[kk] := hzs
          rw [hzs'] at h1
          have hdx : Wd.heap.size ≤ Wx.heap.size := h2.2
          have H1 := Lib.hid h1
          have H2 := Lib.hid (HQD.out.trans (h2.1.mono HQD.out.size))
          have H3 := Lib.hid (Marks.cons M4.out (M4.out.below h2.1) hD (by omega) hK)
          clear h1 h2 hzs hzs' hK
          gi_wp2
          refine HT.out _ _ ⟨kk + 1, D :: Ds, _, _, _, _, _, _, _, _, _, _, _, _, _, _, _, _, _, _, _, _, _, _, _, _, _, _, _, _, _, _, _, _, _, _, _, _, _, _, _, rfl, by omega, ?_, H3.out, HBr.out.trans (H2.out.mono HBr.out.size)⟩ ?_
          · intro j b hj hb
            rcases Nat.lt_or_ge j kk with h | h
            · exact HAll.out j b h hb
            · obtain rfl : j = kk := by omega
              rw [List.getElem?_eq_getElem hlt] at hb
              cases hb
              exact H1.out
          · simp [intOf]
            omega
        case stop =>
          rintro D c pre Wx hD hSp ⟨rfl, ⟨x, hx1, hx2⟩, h3, h4, h5⟩ hK
          have H3 := Lib.hid h3
          have H5 := Lib.hid h5
          have HMk := Lib.hid (Marks.cons M4.out h4 hD (by omega) hK)
          have HSp := Lib.hid hSp
          clear h3 h4 h5 hK hSp
          gi_wp2
          show LeavesInM _ _ _ _ _ _ ((D :: Ds).map markD) .returning Wx
          exact leaves_marks (B := w.heap.size + 2) (I := fun X => X.heap[w.heap.size + 1]? = some (.cells #[.bool false] 4 (0, 0)) ∧ Below w.heap.size w X) (fun X E hE hX h => ⟨(World.putObj_heap_other (by omega)).trans h.1, h.2.trans (Below.of_putObj (by omega))⟩)
            (fun X h => ⟨_, results_bool rfl _ _ _ _ rfl h.1, by
              have hp : exs pre <+: plE bs[kk] := HSp.out
              rw [scopedD_no (d := d) (i := kk) (b := bs[kk]) (by rw [HBs.out]; exact List.getElem?_eq_getElem hlt) hp hx1 hx2], h.2⟩) (D :: Ds) Wx HMk.out.1 HMk.out.2 ⟨H3.out, H5.out.1⟩
  · have : kk = bs.length := by omega
    subst this
    have bR3 := blk_below (blk_below HR.out B2.out) HBr.out
    have f3 := blk_frozen bR3 0
    have c3 := cell_of_one bR3
    have HR3 := Lib.hid bR3
    clear bR3
    gi_wp2_with fail
    show LeavesInM _ _ _ _ _ _ (Ds.map markD) .returning _
    have q1r : Below W1.heap.size W1 Wr := B2.out.trans (HBr.out.mono B2.out.size)
    have qr : Below w.heap.size w Wr := HQ.out.trans (q1r.mono HQ.out.size)
    have b1 := blk_put HR3.out 0 (.bool true) rfl
    refine leaves_marks (B := w.heap.size + 2) (I := fun X => X.heap[w.heap.size + 1]? = some (.cells #[.bool true] 4 (0, 0)) ∧ Below w.heap.size w X) (fun X E hE hX h => ⟨(World.putObj_heap_other (by omega)).trans h.1, h.2.trans (Below.of_putObj (by omega))⟩)
      (fun X h => ⟨_, results_bool rfl _ _ _ _ rfl h.1, by rw [scopedD_yes (fun i b hi hb => HAll.out i b (by rw [← HBs.out]; exact hi) (by rw [← HBs.out]; exact hb))], h.2⟩) Ds _ HM.out.1 ?_ ⟨by simpa using b1, qr.setCell (by simp) _⟩
    intro D hD
    have h1 := HM.out.2 D hD
    exact ⟨h1.1, (Below.heap_setCell _ _ _ _ (by simp only; omega)).trans h1.2⟩
end Go.Proofs.Ytacefdkfbpgedaa.Mine
