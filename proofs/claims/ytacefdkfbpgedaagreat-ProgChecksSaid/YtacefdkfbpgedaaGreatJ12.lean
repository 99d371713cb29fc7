/- prog's Heads: the walk (printed by mkh10.py). -/
import Derived.Test.YtacefdkfbpgedaaGreatJ11
import Derived.Test.YtacefdkfbpgedaaGreatJ9
import Derived.Test.YtacefdkfbpgedaaGreatJ6
import Derived.Test.YtacefdkfbpgedaaGreatJ10
import Derived.Test.YtacefdkfbpgedaaGreatJ8
import Derived.Test.YtacefdkfbpgedaaGreatJ1
import Derived.Deep.DeepCutAuto
import Derived.Deep.RegionHeld3
namespace Go.Proofs.YtacefdkfbpgedaaGreat.Mine
open Go.Proofs.YtacefdkfbpgedaaGreat.PProgSmall
open Go.RowKit Go.Shelf Go.Proofs.YtacefdkfbpgedaaGreatW.PrintWords Go.Proofs.YtacefdkfbpgedaaGreatW.PrintLast Go.Proofs.YtacefdkfbpgedaaGreatW.PrintMore
set_option linter.unusedVariables false
set_option linter.unusedSimpArgs false
attribute [local go_sem] Oper.semAt_some
theorem lit91 (a : Act) (h : a.tmps.size = 91) : ∃ f : Nat → Value, (∀ i, a.tmps.getD i undef = f i) ∧ a = { tmps := #[f 0, f 1, f 2, f 3, f 4, f 5, f 6, f 7, f 8, f 9, f 10, f 11, f 12, f 13, f 14, f 15, f 16, f 17, f 18, f 19, f 20, f 21, f 22, f 23, f 24, f 25, f 26, f 27, f 28, f 29, f 30, f 31, f 32, f 33, f 34, f 35, f 36, f 37, f 38, f 39, f 40, f 41, f 42, f 43, f 44, f 45, f 46, f 47, f 48, f 49, f 50, f 51, f 52, f 53, f 54, f 55, f 56, f 57, f 58, f 59, f 60, f 61, f 62, f 63, f 64, f 65, f 66, f 67, f 68, f 69, f 70, f 71, f 72, f 73, f 74, f 75, f 76, f 77, f 78, f 79, f 80, f 81, f 82, f 83, f 84, f 85, f 86, f 87, f 88, f 89, f 90], defers := a.defers } := by
  refine ⟨fun i => a.tmps.getD i undef, fun i => rfl, ?_⟩
  obtain ⟨tm, df⟩ := a
  have e : tm = ((List.range 91).map fun i => tm.getD i undef).toArray := by
    apply Array.ext
    · simpa using h
    · intro i h1 h2
      simp [h1]
  exact congrArg (fun t => ({ tmps := t, defers := df } : Act)) (e.trans rfl)
set_option maxRecDepth 100000 in
set_option maxHeartbeats 8000000 in
theorem c_Heads (defs : List De) (A : Option Addr) (c : Nat) (w : World) (hr : Kd.C k59 w A defs.length defs) (hc : defs.length ≤ c) (hok : OkP defs) (hT : (headsP defs).length < 1000000) (hTb : ∀ d ∈ defs, ∀ b ∈ bodiesD d, (headsP defs).length + szE b < 1000000) :
    Calls Tryz.prog 25 #[.agg #[.slice A defs.length c]] w fun en w' => ∃ v1 v2, en = .returned (.tuple #[v1, v2, .int .i64 (checkP defs)]) ∧ HS w.heap.size w' v1 v2 (headsE defs) ∧ Below w.heap.size w w' := by
  have HT := Lib.hid hT
  have HCk := Lib.hid (fun W (hb : Below w.heap.size w W) => c_Check defs A c W (Kd.C_below hr hb) hc hok)
  have hn := hok.n
  obtain ⟨W1, hW1⟩ : ∃ W1, w.alloc (.cells #[.slice A defs.length c] 24) = W1 := ⟨_, rfl⟩
  have q1 : Below w.heap.size w W1 := by rw [← hW1]; exact below_alloc1 _ _
  have bP : W1.heap[w.heap.size]? = some (.cells #[.slice A defs.length c] 24 (0, 0)) := by rw [← hW1]; exact alloc_at _ _
  have z1 : W1.heap.size = w.heap.size + 1 := by rw [← hW1]; simp
  have hmd := hr.2.1
  have HF := Lib.hid (Kd.C_F k59_heap hr)
  have HR := Lib.hid hr
  have Q := Aside0.mk q1
  have B := Aside0.mk bP
  have HW1 := Lib.hid hW1
  have HZ1 := Lib.hid z1
  clear hr q1 bP hW1 z1
  have hz1b := Nat.le_of_eq HZ1.out.symm
  have kP := (blk_cell B.out 0).trans rfl
  obtain ⟨ce, hce⟩ : ∃ ce, checkP defs = ce := ⟨_, rfl⟩
  have HCe := Lib.hid hce
  have HC1 := Lib.hid (HCk.out _ Q.out)
  rw [hce] at HC1 ⊢
  have HTb := Lib.hid hTb
  clear hT hTb hce HCk
  refine (callsIn_wide (n := 6)).1 (callsIn_of_wp_marks (F := Fence.wide) Tryz.func25 rfl trivial ?_ rfl)
  simp only [Tryz.ntmps25, List.size_toArray, List.length_cons, List.length_nil, Nat.reduceAdd, Nat.reduceSub, Array.replicate_succ, Array.replicate_zero, List.push_toArray, List.append_toArray, List.nil_append, List.cons_append]
  gi_wp2_with fail
  rw [HW1.out]
  gi_wp2_with fail
  refine ⟨trivial, (callsIn_wide.2 HC1.out).mono ?_⟩
  rintro en w2 ⟨rfl, hb⟩
  have Q := Aside0.mk (Q.out.trans (hb.mono Q.out.size))
  have B := Aside0.mk (blk_below B.out hb)
  have hw2 := hb.size
  clear hb kP HC1
  cases he : (ce != 0) with
  | true =>
    have HE := Lib.hid he
    gi_wp2_with fail
    have hne : ¬ checkP defs = 0 := by rw [HCe.out]; simpa using HE.out
    exact ⟨_, results_tmp3 rfl _ _ _, _, _, rfl, by rw [headsE, if_neg hne]; exact HS.nil _ _, Q.out⟩
  | false =>
    have hce0 : ce = 0 := by simpa using he
    subst hce0
    have kP := (blk_cell B.out 0).trans rfl
    obtain ⟨W3, hW3⟩ : ∃ W3, w2.alloc (.cells #[.slice none 0 0] 110) = W3 := ⟨_, rfl⟩
    have q3 : Below w2.heap.size w2 W3 := by rw [← hW3]; exact below_alloc1 _ _
    have b3 : Boxed W3 w2.heap.size 110 (.slice none 0 0) := by rw [← hW3]; exact alloc_at _ _
    have z3 : W3.heap.size = w2.heap.size + 1 := by rw [← hW3]; simp
    have Q3 := Aside0.mk q3
    have B3 := Aside0.mk b3
    have k3 := pw_cell_below q3 kP
    rw [← hW3] at k3
    have HW3 := Lib.hid hW3
    have hz3a := Nat.le_of_eq z3
    have hz3b := Nat.le_of_eq z3.symm
    clear q3 b3 hW3 z3
    gi_wp2_with fail
    rw [HW3.out]
    clear HW3 k3 kP
    refine wpIn_loopT (fun a Wr => ∃ (kk : Nat) (Ds : List Nat), a.tmps.size = 91 ∧ a.defers = Ds.map markD ∧ a.tmps.getD 6 undef = .pointer (some ⟨w2.heap.size, 0, none⟩) ∧ a.tmps.getD 22 undef = .slice A defs.length c ∧ a.tmps.getD 23 undef = .int .i64 defs.length ∧ a.tmps.getD 24 undef = .int .i64 kk ∧
        kk ≤ defs.length ∧ Marks W3.heap.size Ds Wr ∧ HdSt W3.heap.size w2.heap.size Wr ((defs.take kk).foldl headD []) ∧ Below w2.heap.size w2 Wr ∧ W3.heap.size ≤ Wr.heap.size)
      (fun a _ => defs.length - (intOf (a.tmps.getD 24 undef)).toNat) ?_ ?_
    · exact ⟨0, [], rfl, rfl, rfl, rfl, rfl, rfl, Nat.zero_le _, Marks.nil _ _, ⟨_, B3.out, Kd.R_nil _ _ _ _ _⟩, Q3.out, Nat.le_refl _⟩
    rintro a Wr ⟨kk, Ds, hsl, hdf, s6, s22, s23, s24, hkk, hmk, hhd, hbr, hsz⟩ T hT
    have HM1 := Lib.hid s24
    obtain ⟨f, hf, ha⟩ := lit91 a hsl
    have s6 := (hf 6).symm.trans s6
    have s22 := (hf 22).symm.trans s22
    have s23 := (hf 23).symm.trans s23
    have s24 := (hf 24).symm.trans s24
    rw [hdf] at ha
    rw [ha]
    rw [s6, s22, s23, s24]
    clear ha hf hsl hdf s6 s22 s23 s24
    have HT1 := Lib.hid hT
    have HMk := Aside0.mk hmk
    have HHd := Aside0.mk hhd
    have HBr := Aside0.mk hbr
    have HQ := Aside0.mk (Q.out.trans (hbr.mono Q.out.size))
    clear hT hmk hhd hbr
    obtain ⟨l0, hl0⟩ : ∃ l0, (defs.take kk).foldl headD [] = l0 := ⟨_, rfl⟩
    have HL0 := Lib.hid hl0
    rw [hl0] at HHd
    clear hl0
    by_cases hlt : kk < defs.length
    · have hltz : (kk : Int) < (defs.length : Int) := by omega
      obtain ⟨ad, g0, g1, g2, g3, g4, g5, rfl, hK, hcells, y0, y1, y2, y3, y4, y5⟩ := gett6 rfl (Kd.C_below HR.out HQ.out) kk hlt
      have hFK := elemF HF.out kk hlt rfl hcells (fun p v hp hv => (HQ.out).cell (World.block_lt_of_cell? _ _ hv) |>.trans hv) (by decide)
      have hmem := List.getElem_mem hlt
      obtain ⟨dd, hdd⟩ : ∃ dd, defs[kk] = dd := ⟨_, rfl⟩
      have HK := Lib.hid (show defs[kk]? = some dd by rw [List.getElem?_eq_getElem hlt, hdd])
      rw [hdd] at hFK hmem
      obtain ⟨Z1, z1, Z2, z2, Z5, z5, he, _⟩ := k59_openF hFK
      obtain ⟨rfl, rfl, rfl, rfl, rfl, rfl⟩ : g0 = _ ∧ g1 = _ ∧ g2 = _ ∧ g3 = _ ∧ g4 = _ ∧ g5 = _ := by simpa using he
      have HDd := Lib.hid hdd
      have HFk := Lib.hid (show Kd.FK k59 Wr (fun k => k < (Wr).heap.size) dd [.string dd.f0, .slice Z1 dd.f1.length z1, .slice Z2 dd.f2.length z2, .int .i64 dd.f3.f0, .string dd.f3.f1, .slice Z5 dd.f3.f2.length z5] from Kd.FK_mono (Kd.FK_below hFK (HQ.out)) (fun k hk => by have := (HQ.out).size; omega))
      clear hK hcells hFK he hdd
      have hFd : Kd.FK k59 w (fun k => k < w.heap.size) dd [.string dd.f0, .slice Z1 dd.f1.length z1, .slice Z2 dd.f2.length z2, .int .i64 dd.f3.f0, .string dd.f3.f1, .slice Z5 dd.f3.f2.length z5] := by
        have h1 := elemF (W := Wr) (cs := [.string dd.f0, .slice Z1 dd.f1.length z1, .slice Z2 dd.f2.length z2, .int .i64 dd.f3.f0, .string dd.f3.f1, .slice Z5 dd.f3.f2.length z5]) HF.out kk hlt rfl (fun j u hj => by
          have e6 : (k59).sz = 6 := rfl
          rw [e6]
          match j, hj with
          | 0, hj => cases hj; exact y0
          | 1, hj => cases hj; rw [add_field _ _ 1 (by omega)]; exact y1
          | 2, hj => cases hj; rw [add_field _ _ 2 (by omega)]; exact y2
          | 3, hj => cases hj; rw [add_field _ _ 3 (by omega)]; exact y3
          | 4, hj => cases hj; rw [add_field _ _ 4 (by omega)]; exact y4
          | 5, hj => cases hj; rw [add_field _ _ 5 (by omega)]; exact y5) (fun p v hp hv => HQ.out.cell (World.block_lt_of_cell? _ _ hv) |>.trans hv) (by decide)
        rwa [show defs[kk] = dd from HDd.out] at h1
      have hod := hok.d _ hmem
      have hcd := hod.c
      have hzd := hod.z
      obtain ⟨W4, hW4⟩ : ∃ W4, Wr.alloc (.cells #[.string dd.f0, .slice Z1 dd.f1.length z1, .slice Z2 dd.f2.length z2, .int .i64 dd.f3.f0, .string dd.f3.f1, .slice Z5 dd.f3.f2.length z5] 59) = W4 := ⟨_, rfl⟩
      have q4 : Below Wr.heap.size Wr W4 := by rw [← hW4]; exact below_alloc1 _ _
      have b4 : W4.heap[Wr.heap.size]? = some (.cells #[.string dd.f0, .slice Z1 dd.f1.length z1, .slice Z2 dd.f2.length z2, .int .i64 dd.f3.f0, .string dd.f3.f1, .slice Z5 dd.f3.f2.length z5] 59 (0, 0)) := by rw [← hW4]; exact alloc_at _ _
      have z4 : W4.heap.size = Wr.heap.size + 1 := by rw [← hW4]; simp
      have hwq := HQ.out.size
      have qw4 : Below w.heap.size w W4 := HQ.out.trans (q4.mono HQ.out.size)
      have HBo := Lib.hid (c_bodies dd _ (fun k => k < w.heap.size) W4 (Kd.FK_below hFd qw4) (by omega))
      have B4 := Aside0.mk b4
      have Q4 := Aside0.mk q4
      have QW4 := Aside0.mk qw4
      have HFd := Lib.hid hFd
      have HW4 := Lib.hid hW4
      have k0 := (blk_cell B4.out 0).trans rfl
      have k1 := (blk_cell B4.out 1).trans rfl
      have k2 := (blk_cell B4.out 2).trans rfl
      have k3 := (blk_cell B4.out 3).trans rfl
      have k4 := (blk_cell B4.out 4).trans rfl
      have k5 := (blk_cell B4.out 5).trans rfl
      rw [← hW4] at k0 k1 k2 k3 k4 k5
      have hz4a := Nat.le_of_eq z4
      have hz4b := Nat.le_of_eq z4.symm
      clear b4 q4 qw4 hW4 hFd hod z4
      gi_wp2_with fail
      rw [HW4.out]
      clear k0 k1 k2 k3 k4 k5 y0 y1 y2 y3 y4 y5 HW4
      refine ⟨trivial, (callsIn_wide.2 HBo.out).mono ?_⟩
      rintro en W5 ⟨v8, rfl, hRow, hb5⟩
      obtain ⟨Av, cv, rfl⟩ := hRow.slice
      obtain ⟨bs, hbs⟩ : ∃ bs, bodiesD dd = bs := ⟨_, rfl⟩
      rw [hbs] at hRow hzd ⊢
      have hbl : bs.length ≤ 100000 := by
        rw [← hbs]; unfold bodiesD; split
        · simp
        · simpa using hcd
      have HBs := Lib.hid hbs
      have HRow := Aside0.mk hRow
      have hw5 := hb5.size
      have BX5 := Aside0.mk (blk_below B4.out hb5)
      have q5 : Below Wr.heap.size Wr W5 := Q4.out.trans (hb5.mono Q4.out.size)
      have HHd5 := Aside0.mk (HHd.out.below q5)
      have HMk5 := Aside0.mk (HMk.out.below q5)
      have HBr5 := Aside0.mk (HBr.out.trans (q5.mono HBr.out.size))
      clear hRow hb5 hbs HBo q5 HHd HMk HBr
      gi_wp2_with fail
      refine wpIn_loopT (fun a Wj => ∃ (jj : Nat) (Es : List Nat), a.tmps.size = 91 ∧ a.defers = Es.map markD ∧ a.tmps.getD 6 undef = .pointer (some ⟨w2.heap.size, 0, none⟩) ∧ a.tmps.getD 8 undef = .pointer (some ⟨Wr.heap.size, 0, none⟩) ∧ a.tmps.getD 22 undef = .slice (some ad) defs.length c ∧ a.tmps.getD 23 undef = .int .i64 defs.length ∧ a.tmps.getD 24 undef = .int .i64 kk ∧ a.tmps.getD 29 undef = .slice Av bs.length cv ∧ a.tmps.getD 30 undef = .int .i64 bs.length ∧ a.tmps.getD 31 undef = .int .i64 jj ∧
          jj ≤ bs.length ∧ Marks W3.heap.size Es Wj ∧ HdSt W3.heap.size w2.heap.size Wj (headK dd l0 jj) ∧ Below w2.heap.size w2 Wj ∧ KH w2.heap.size W5 Wj)
        (fun a _ => bs.length - (intOf (a.tmps.getD 31 undef)).toNat) ?_ ?_
      · exact ⟨0, Ds, rfl, rfl, rfl, rfl, rfl, rfl, rfl, rfl, rfl, rfl, Nat.zero_le _, HMk5.out, HHd5.out, HBr5.out, KH.refl _ _⟩
      rintro a Wj ⟨jj, Es, hsl, hdf, s6, s8, s22, s23, s24, s29, s30, s31, hjj, hmk, hhd, hbr, hkh⟩ T2 hT2
      have HM2 := Lib.hid s31
      obtain ⟨f, hf, ha⟩ := lit91 a hsl
      have s6 := (hf 6).symm.trans s6
      have s8 := (hf 8).symm.trans s8
      have s22 := (hf 22).symm.trans s22
      have s23 := (hf 23).symm.trans s23
      have s24 := (hf 24).symm.trans s24
      have s29 := (hf 29).symm.trans s29
      have s30 := (hf 30).symm.trans s30
      have s31 := (hf 31).symm.trans s31
      rw [hdf] at ha
      rw [ha]
      rw [s6, s8, s22, s23, s24, s29, s30, s31]
      clear ha hf hsl hdf s6 s8 s22 s23 s24 s29 s30 s31
      have HT2 := Lib.hid hT2
      have HMk := Aside0.mk hmk
      have HHd := Aside0.mk hhd
      have HBr := Aside0.mk hbr
      have HKh := Aside0.mk hkh
      have hwj := hkh.1
      have HQj := Aside0.mk (Q.out.trans (hbr.mono Q.out.size))
      clear hT2 hmk hhd hbr hkh
      obtain ⟨lk, hlk⟩ : ∃ lk, headK dd l0 jj = lk := ⟨_, rfl⟩
      have HLk := Lib.hid hlk
      rw [hlk] at HHd
      clear hlk
      have HBX := Aside0.mk (HKh.out.blk BX5.out (by decide) (by omega))
      by_cases hltj : jj < bs.length
      · have hltjz : (jj : Int) < (bs.length : Int) := by omega
        obtain ⟨b, hbb⟩ : ∃ b, bs[jj] = b := ⟨_, rfl⟩
        have HBb := Lib.hid (show bs[jj]? = some b by rw [List.getElem?_eq_getElem hltj, hbb])
        have hmb : b ∈ bs := by rw [← hbb]; exact List.getElem_mem hltj
        have hszb : szE b < 1000000 := hzd b hmb
        have hcap : (headsP defs).length + szE b < 1000000 := HTb.out dd hmem b (by rw [HBs.out]; exact hmb)
        obtain ⟨lc, hlcd⟩ : ∃ lc, headCa dd jj lk = lc := ⟨_, rfl⟩
        have hlc : lc.length ≤ (headsP defs).length := by
          have h1 := heads_le2 HK.out (j := jj) (b := b) (by rw [HBs.out]; exact HBb.out) 0
          rw [List.take_zero, List.foldl_nil, HL0.out, HLk.out, hlcd] at h1
          exact h1
        have hlk1 : lk.length < 1000000 := by have := headCa_up dd jj lk; rw [hlcd] at this; omega
        have HLc := Lib.hid hlcd
        clear hlcd hmb
        obtain ⟨vq, hvq1, hvq2⟩ := HHd5.out
        have hrow := HRow.out.keeps (HKh.out.keeps hvq1) (fun k h => by cases h)
        clear hvq1 hvq2
        obtain ⟨a8, A3, a3, rfl, x0, x1, x2, hl3, hF3⟩ := hrow.get jj hltj
        rw [hbb] at x0 x1 x2 hl3 hF3
        have HF3 := Aside0.mk hF3
        have HPl := Lib.hid (c_places b A3 a3)
        obtain ⟨W6, hW6⟩ : ∃ W6, Wj.alloc (.cells #[.int .i64 b.f0, .string b.f1, .slice A3 b.f2.length a3] 57) = W6 := ⟨_, rfl⟩
        have q6 : Below Wj.heap.size Wj W6 := by rw [← hW6]; exact below_alloc1 _ _
        have b6 : W6.heap[Wj.heap.size]? = some (.cells #[.int .i64 b.f0, .string b.f1, .slice A3 b.f2.length a3] 57 (0, 0)) := by rw [← hW6]; exact alloc_at _ _
        have z6 : W6.heap.size = Wj.heap.size + 1 := by rw [← hW6]; simp
        have HH6 := Aside0.mk (HHd.out.below q6)
        have HM6 := Aside0.mk (HMk.out.below q6)
        have HB6 := Aside0.mk (HBr.out.trans (q6.mono HBr.out.size))
        have HK6 := Aside0.mk (HKh.out.trans (KH.of_below q6))
        have HQ6 := Aside0.mk (HQj.out.trans (q6.mono HQj.out.size))
        have BX6 := Aside0.mk (blk_below HBX.out q6)
        have B10 := Aside0.mk b6
        have k2 := (blk_cell BX6.out 2).trans rfl
        have e0 := (blk_cell b6 0).trans rfl
        have e1 := (blk_cell b6 1).trans rfl
        have e2 := (blk_cell b6 2).trans rfl
        rw [← hW6] at k2 e0 e1 e2
        have HW6 := Lib.hid hW6
        have hz6a := Nat.le_of_eq z6
        have hz6b := Nat.le_of_eq z6.symm
        clear z6 hrow hF3 hbb q6 b6 hW6 HHd HMk HBr HKh HQj
        by_cases h0 : dd.f2.length = 0
        · have c0 : decide (0 < dd.f2.length) = false := decide_eq_false (by omega)
          have c0z : decide ((0 : Int) < (dd.f2.length : Int)) = false := decide_eq_false (by omega)
          have HLe := Lib.hid (show lk = lc by rw [← HLc.out, headCa_no h0])
          clear h0
          gi_wp2_with fail
          rw [HW6.out]
          clear HW6 k2 e0 e1 e2 x0 x1 x2
          obtain ⟨Wx, hWx⟩ : ∃ Wx, W6 = Wx := ⟨_, rfl⟩
          have HHx : Aside0 (HdSt W3.heap.size w2.heap.size Wx lc) := ⟨by rw [← hWx, ← HLe.out]; exact HH6.out⟩
          have HMx : Aside0 (Marks W3.heap.size Es Wx) := ⟨by rw [← hWx]; exact HM6.out⟩
          have HBx : Aside0 (Below w2.heap.size w2 Wx) := ⟨by rw [← hWx]; exact HB6.out⟩
          have HKx : Aside0 (KH w2.heap.size W5 Wx) := ⟨by rw [← hWx]; exact HK6.out⟩
          have HQx : Aside0 (Below w.heap.size w Wx) := ⟨by rw [← hWx]; exact HQ6.out⟩
          rw [hWx]
          clear hWx HH6 HM6 HB6 HK6 HQ6 BX6 B10 HLe
          refine ⟨trivial, (callsIn_wide.2 (HPl.out _)).mono ?_⟩
          rintro en w7 ⟨rfl, rfl⟩
          gi_wp2_with fail
          obtain ⟨Wd, hWd⟩ : ∃ Wd, Wx.alloc (.cells #[.int .i64 b.f0, .string b.f1, .slice A3 b.f2.length a3] 57) = Wd := ⟨_, rfl⟩
          have qd : Below Wx.heap.size Wx Wd := by rw [← hWd]; exact below_alloc1 _ _
          have bP : Wd.heap[Wx.heap.size]? = some (.cells (cellsH (b, A3, a3)) 57 (0, 0)) := by rw [← hWd]; have := alloc_at Wx (.cells #[.int .i64 b.f0, .string b.f1, .slice A3 b.f2.length a3] 57); simpa [cellsH] using this
          have hF4 : Kd.F k57 Wd (fun k => k < w.heap.size) A3 b.f2.length b.f2 := Kd.F_step HF3.out (fun k hk hlt => by rw [(HQx.out.trans (qd.mono HQx.out.size)).block k hk, QW4.out.block k hk])
          rw [hWd]
          have hxs := HBx.out.size
          have hkx := HKx.out.1
          have hds := qd.size
          have HHd := Aside0.mk (HHx.out.below qd)
          have HMd := Aside0.mk (HMx.out.below qd)
          have HBd := Aside0.mk (HBx.out.trans (qd.mono HBx.out.size))
          have HKd := Aside0.mk (HKx.out.trans (KH.of_below qd))
          clear hWd qd HHx HMx HBx HKx HQx
          refine wpIn_rangeFunc_ownH rfl (by omega) (gf := 133) (lb := #[.pointer (some ⟨Wx.heap.size, 0, none⟩)]) rfl trivial (enters_of Tryz.func133 (by kernel_rfl) rfl)
            (places_stops Wd NoM w.heap.size (fun k => k < w.heap.size) (fun k hk => hk.elim) (fun k hk => ⟨fun h => h, hk⟩) ⟨(b, A3, a3), hl3, hF4, hszb⟩ Wx.heap.size (fun h => h) Wd ((KC.rel _ _).refl _) (Nat.le_refl _) bP)
            (KC.rel _ _).trans (fun Wy lx o o' hlx ho hcl _ => KC.putObj _ (by omega) ho hcl) (Below.refl _ _) (fun _ => rfl)
            (fun pre Wy => HdSt W3.heap.size w2.heap.size Wy ((exs pre).foldl headB lc) ∧ Marks W3.heap.size Es Wy ∧ KH w2.heap.size Wd Wy ∧ Below w2.heap.size w2 Wy)
            (fun _ _ _ => False)
            (fun pre X Y row ⟨h1, h2, h3, h4⟩ hg hr => ⟨h1.notcells hg (fun r e => (hr r e).2), HMd.out.own (β := Unit) () X Y row h2 hg hr, h3.grownN hg (fun r e => (hr r e).1), h4.grown hg h4.size (fun k hk => by have := (hr k hk).1; omega)⟩)
            (fun _ _ _ _ _ hs _ _ => hs)
            ⟨HHd.out, HMd.out, KH.refl _ _, HBd.out⟩
            (fun x a' Wy => a'.tmps.size = 91 ∧ a'.defers = [] ∧ a'.tmps.getD 6 undef = .pointer (some ⟨w2.heap.size, 0, none⟩) ∧ ∃ Bx, a'.tmps.getD 11 undef = .pointer (some ⟨Bx, 0, none⟩) ∧ Wd.heap.size ≤ Bx ∧ Wy.heap[Bx]? = some (.cells (cellsH x.1) 57 (0, 0)))
            (fun x a' _ X Y row hs hg hr => by obtain ⟨t1, t2, t3, Bx, t4, t5, t6⟩ := hs; exact ⟨t1, t2, t3, Bx, t4, t5, Blk.notcells t6 hg (fun r e => (hr r e).2)⟩)
            ?assign ?body ?done ?stop
          case assign =>
            rintro l' pre ⟨⟨x, A', c'⟩, hx⟩ Wy K ⟨h1, h2, h3, h4⟩ hK
            simp only [encH]
            have H1 := Lib.hid h1
            have H2 := Lib.hid h2
            have H3 := Lib.hid h3
            have H4 := Lib.hid h4
            clear h1 h2 h3 h4
            gi_wp2
            have q := below_alloc1 Wy (.cells #[.int .i64 x.f0, .string x.f1, .slice A' x.f2.length c'] 57)
            exact hK _ _ ((KeepsOthers.alloc _ _).from _) ((KC.rel _ _).below q) ⟨H1.out.below q, H2.out.below q, H3.out.trans (KH.of_below q), H4.out.trans (q.mono H4.out.size)⟩ ⟨rfl, rfl, rfl, Wy.heap.size, rfl, H3.out.1, alloc_at _ _⟩
          case body =>
            rintro l' pre ⟨⟨x, A', c'⟩, hx⟩ a' Wy hl' hr' ⟨h1, h2, h3, h4⟩ ⟨t1, t2, t3, Bx, t4, hBx, bX⟩ hlt'
            obtain ⟨g, hgf, ha⟩ := lit91 a' t1
            have s6 := (hgf 6).symm.trans t3
            have s11 := (hgf 11).symm.trans t4
            rw [t2] at ha
            rw [ha]
            rw [s6, s11]
            clear ha hgf s6 s11 t1 t2 t3 t4 a'
            have e0 : Wy.cell? ⟨Bx, 0, none⟩ = some (.int .i64 x.f0) := (blk_cell bX 0).trans rfl
            have e1 : Wy.cell? ⟨Bx, 1, none⟩ = some (.string x.f1) := (blk_cell bX 1).trans rfl
            have e2 : Wy.cell? ⟨Bx, 2, none⟩ = some (.slice A' x.f2.length c') := (blk_cell bX 2).trans rfl
            obtain ⟨v, g1, g2⟩ := h1
            obtain ⟨Ah, ch, rfl⟩ := Kd.R_slice g2
            have cO := g1.cell
            have hms := h4.size
            have hlen : ((exs pre).foldl headB lc).length < 1000000 := by
              have h := foldl_cap (f := headB) (c := 1) (xs := exs pre) (fun l x _ => headB_cap l x) lc
              rw [exs_length] at h
              simp only at hlt'
              omega
            have HC := Lib.hid (c_onceH W3.heap.size _ ((exs pre).foldl headB lc) ⟨x.f1, (x.f2.length : Int)⟩ Wy g2 (by have := h3.1; omega) hlen)
            have H1 := Lib.hid g1
            have H1b := Lib.hid g2
            have H2 := Lib.hid h2
            have H3 := Lib.hid h3
            have H4 := Lib.hid h4
            clear g1 g2 h2 h3 h4 bX hr'
            by_cases hk : x.f0 = 2
            · have hk1 : (x.f0 == 2) = true := by rw [beq_iff_eq]; exact hk
              have HKk := Lib.hid hk
              clear hk
              gi_wp2_with fail
              refine ⟨trivial, (CallsIn.inRound l' (callsIn_wide.2 HC.out)).mono ?_⟩
              rintro en w1 ⟨v1, rfl, hown, hg⟩
              obtain ⟨A1', c1', rfl⟩ := Kd.R_slice hown
              obtain ⟨hb1, hst⟩ := HdSt.put H1.out H1b.out hg hown
              have cO1 := hb1.cell
              have fO1 := hb1.frozen
              have H5 := Lib.hid hb1
              have H6 := Lib.hid hg
              have H7 := Lib.hid hst
              clear hown hb1 hg hst
              gi_wp2_with fail
              have hkc : KC NoM w.heap.size Wy w1 := KC.grown _ H6.out (fun k hk => by obtain ⟨hb, cs, hcs⟩ := H1b.out.typed k hk; exact ⟨by omega, cs, _, hcs, by decide, by decide⟩)
              have hko : KeepsOthers Wy w1 := KeepsOthers.of_grownBy H6.out (fun j o hj ho => by obtain ⟨_, cs, hcs⟩ := H1b.out.typed j hj; rw [hcs] at ho; cases ho; rfl)
              refine ⟨(hko.trans (KeepsOthers.setCell _ _ _)).from _, (KC.rel _ _).trans hkc (KC.set _ (by omega) H5.out (by decide) (by decide)), ?_, (((KH.refl _ Wy).once H1b.out H6.out).set 0 _).marks H2.out (by omega), (H3.out.once H1b.out H6.out).set 0 _, (H4.out.grown H6.out H4.out.size (fun k hk => by have := (H1b.out.typed k hk).1; omega)).setCell (Nat.le_refl _) _⟩
              rw [exs_append, List.foldl_append]
              simp only [exs, List.map_cons, List.map_nil, List.foldl_cons, List.foldl_nil]
              rw [headB, if_pos HKk.out]
              exact H7.out
            · have hk1 : (x.f0 == 2) = false := by rw [beq_eq_false_iff_ne]; exact hk
              have HKk := Lib.hid hk
              clear hk
              gi_wp2_with fail
              refine ⟨KeepsFrom.refl _ _, (KC.rel _ _).refl _, ⟨_, H1.out, ?_⟩, H2.out, H3.out, H4.out⟩
              rw [exs_append, List.foldl_append]
              simp only [exs, List.map_cons, List.map_nil, List.foldl_cons, List.foldl_nil]
              rw [headB, if_neg HKk.out]
              exact H1b.out
          case done =>
            rintro D zs Wy hD hzs ⟨h1, h2, h3, h4⟩ hK
            have hzs' : exs zs = plE b := hzs
            rw [hzs'] at h1
            have H1 := Lib.hid h1
            have H2 := Lib.hid (Marks.cons HMd.out h2 hD (by omega) hK)
            have H3 := Lib.hid (HKd.out.trans h3)
            have H4 := Lib.hid h4
            clear h1 h2 h3 h4 hzs hzs' hK
            gi_wp2
            refine HT2.out _ _ ⟨jj + 1, D :: Es, rfl, rfl, rfl, rfl, rfl, rfl, rfl, rfl, rfl, by simp, by omega, H2.out, by rw [headK_succ, headI_at (b := b) (by rw [HBs.out]; exact HBb.out), HLk.out, HLc.out]; exact H1.out, H4.out, H3.out⟩ ?_
            rw [HM2.out]
            simp [intOf]
            omega
          case stop =>
            rintro D c pre Wy _ _ h _
            exact h.elim
        · have c0 : decide (0 < dd.f2.length) = true := decide_eq_true (by omega)
          have c0z : decide ((0 : Int) < (dd.f2.length : Int)) = true := decide_eq_true (by omega)
          have hbm : bs = dd.f2.map (·.f2) := by rw [← HBs.out, bodiesD, if_neg h0]
          have hk2 : jj < dd.f2.length := by rw [hbm] at hltj; simpa using hltj
          have hk2z : (jj : Int) < (dd.f2.length : Int) := by omega
          obtain ⟨Y1, y1', Y2, y2', Y5, y5', hcs, m1, G1, m2, G2, m5, G5⟩ := k59_openF HFd.out
          obtain ⟨rfl, rfl, rfl, rfl, rfl, rfl⟩ : Z1 = Y1 ∧ z1 = y1' ∧ Z2 = Y2 ∧ z2 = y2' ∧ Z5 = Y5 ∧ z5 = y5' := by simpa [and_assoc] using hcs
          obtain ⟨kd, f0, f1, f2, f3, f4, rfl, hK, -, y0, y1, y2, y3, y4⟩ := gett5 rfl (Kd.F_now G2) jj hk2
          obtain ⟨X1, x1', X4, x4', he, m1', G1', m4', G4'⟩ := k62_open hK
          obtain ⟨rfl, rfl, rfl, rfl, rfl⟩ : f0 = _ ∧ f1 = _ ∧ f2 = _ ∧ f3 = _ ∧ f4 = _ := by simpa using he
          have hpl : (kd.add (jj * 5)).block < w.heap.size := World.block_lt_of_cell? _ _ y0
          have hm1' := G1'.2.1
          obtain ⟨ca, hca⟩ : ∃ ca, dd.f2[jj] = ca := ⟨_, rfl⟩
          rw [hca] at y0 y1 hm1'
          have y0 := (HQ6.out.cell (p := kd.add (jj * 5)) hpl).trans y0
          have y1 := (HQ6.out.cell (p := ⟨(kd.add (jj * 5)).block, (kd.add (jj * 5)).off + 1, none⟩) hpl).trans y1
          have HCa := Lib.hid (show lc = onceHL lk ⟨ca.f0, (ca.f1.length : Int)⟩ by rw [← HLc.out]; exact headCa_at (by rw [List.getElem?_eq_getElem hk2, hca]))
          clear hK he G1' G4' G1 G2 G5 m1' m4' m1 m2 m5 y2 y3 y4 hcs hca hbm h0
          gi_wp2_with fail
          rw [HW6.out]
          clear HW6 k2 e0 e1 e2 x0 x1 x2
          obtain ⟨v, g1, g2⟩ := HH6.out
          obtain ⟨Ah, ch, rfl⟩ := Kd.R_slice g2
          have hw6 := HB6.out.size
          have g2d := Kd.R_below g2 (below_drew (Below.refl W6.heap.size W6))
          have HC := Lib.hid (c_onceH W3.heap.size _ lk ⟨ca.f0, (ca.f1.length : Int)⟩ W6.drew g2d (by show W3.heap.size ≤ W6.heap.size; omega) hlk1)
          have hSd : (fun W => W.cell? ⟨w2.heap.size, 0, none⟩ = some (.slice Ah lk.length ch) ∧ HcS Wr.heap.size (.slice (some kd) dd.f2.length z2) (kd.add (jj * 5)) (.string ca.f0) (.slice X1 ca.f1.length x1') W) W6.drew := ⟨g1.cell, (blk_cell (show W6.drew.heap[Wr.heap.size]? = _ from BX6.out) 2).trans rfl, y0, y1⟩
          have G1 := Aside0.mk g1
          have G2 := Aside0.mk g2d
          clear g1 g2 g2d
          refine wpIn_wide.2 ?_
          refine wp_region_noPanic ?_
          refine wp_region_K (S := fun W => W.cell? ⟨w2.heap.size, 0, none⟩ = some (.slice Ah lk.length ch) ∧ HcS Wr.heap.size (.slice (some kd) dd.f2.length z2) (kd.add (jj * 5)) (.string ca.f0) (.slice X1 ca.f1.length x1') W) (k := 16) (by kernel_rfl) ?_
          change wpAnyK _ _ _ _ _ _ 17 (Array.replicate 17 false) _ _
          refine wpAnyK_take (i := 0) (v := ?_) rfl (by kernel_rfl) (by kernel_rfl) (by kernel_rfl) (by kernel_rfl) (fun _ _ _ h => h) hSd (Or.inl ⟨by rfl, ?_⟩) ?_
          rotate_left 1
          (intro w hSw; (try dsimp only at hSw); go_simp; try (with_reducible rfl))
          (try dsimp only [Act.put]); (try simp only [List.setIfInBounds_toArray, List.set_cons_zero, List.set_cons_succ])
          refine wpAnyK_take (i := 1) (v := ?_) rfl (by kernel_rfl) (by kernel_rfl) (by kernel_rfl) (by kernel_rfl) (fun _ _ _ h => h) hSd (Or.inl ⟨by rfl, ?_⟩) ?_
          rotate_left 1
          (intro w hSw; (try dsimp only at hSw); go_simp; try (with_reducible rfl))
          (try dsimp only [Act.put]); (try simp only [List.setIfInBounds_toArray, List.set_cons_zero, List.set_cons_succ])
          refine wpAnyK_take (i := 2) (v := ?_) rfl (by kernel_rfl) (by kernel_rfl) (by kernel_rfl) (by kernel_rfl) (fun _ _ _ h => h) hSd (Or.inl ⟨by rfl, ?_⟩) ?_
          rotate_left 1
          (intro w hSw; (try dsimp only at hSw); go_simp; try (with_reducible rfl))
          (try dsimp only [Act.put]); (try simp only [List.setIfInBounds_toArray, List.set_cons_zero, List.set_cons_succ])
          refine wpAnyK_take (i := 3) (v := ?_) rfl (by kernel_rfl) (by kernel_rfl) (by kernel_rfl) (by kernel_rfl) (fun _ _ _ h => h) hSd (Or.inl ⟨by rfl, ?_⟩) ?_
          rotate_left 1
          (intro w hSw; (try dsimp only at hSw); go_simp; try (with_reducible rfl))
          (try dsimp only [Act.put]); (try simp only [List.setIfInBounds_toArray, List.set_cons_zero, List.set_cons_succ])
          refine wpAnyK_take (i := 4) (v := ?_) rfl (by kernel_rfl) (by kernel_rfl) (by kernel_rfl) (by kernel_rfl) (fun _ _ _ h => h) hSd (Or.inl ⟨by rfl, ?_⟩) ?_
          rotate_left 1
          (intro w hSw; (try dsimp only at hSw); go_simp; try (with_reducible rfl))
          (try dsimp only [Act.put]); (try simp only [List.setIfInBounds_toArray, List.set_cons_zero, List.set_cons_succ])
          refine wpAnyK_take (i := 5) (v := ?_) rfl (by kernel_rfl) (by kernel_rfl) (by kernel_rfl) (by kernel_rfl) (fun _ _ _ h => h) hSd (Or.inl ⟨by rfl, ?_⟩) ?_
          rotate_left 1
          (intro w hSw; (try dsimp only at hSw); go_simp; try (with_reducible rfl))
          (try dsimp only [Act.put]); (try simp only [List.setIfInBounds_toArray, List.set_cons_zero, List.set_cons_succ])
          refine wpAnyK_take (i := 6) (v := ?_) rfl (by kernel_rfl) (by kernel_rfl) (by kernel_rfl) (by kernel_rfl) (fun _ _ _ h => h) hSd (Or.inl ⟨by rfl, ?_⟩) ?_
          rotate_left 1
          (intro w hSw; (try dsimp only at hSw); go_simp; try (with_reducible rfl))
          (try dsimp only [Act.put]); (try simp only [List.setIfInBounds_toArray, List.set_cons_zero, List.set_cons_succ])
          refine wpAnyK_take (i := 7) (v := ?_) rfl (by kernel_rfl) (by kernel_rfl) (by kernel_rfl) (by kernel_rfl) (fun _ _ _ h => h) hSd (Or.inl ⟨by rfl, ?_⟩) ?_
          rotate_left 1
          (intro w hSw; (try dsimp only at hSw); go_simp; try (with_reducible rfl))
          (try dsimp only [Act.put]); (try simp only [List.setIfInBounds_toArray, List.set_cons_zero, List.set_cons_succ])
          refine wpAnyK_take (i := 8) (v := ?_) rfl (by kernel_rfl) (by kernel_rfl) (by kernel_rfl) (by kernel_rfl) (fun _ _ _ h => h) hSd (Or.inl ⟨by rfl, ?_⟩) ?_
          rotate_left 1
          (intro w hSw; (try dsimp only at hSw); go_simp; try (with_reducible rfl))
          (try dsimp only [Act.put]); (try simp only [List.setIfInBounds_toArray, List.set_cons_zero, List.set_cons_succ])
          refine wpAnyK_take (i := 9) (v := ?_) rfl (by kernel_rfl) (by kernel_rfl) (by kernel_rfl) (by kernel_rfl) (fun _ _ _ h => h) hSd (Or.inl ⟨by rfl, ?_⟩) ?_
          rotate_left 1
          (intro w hSw; (try dsimp only at hSw); go_simp; try (with_reducible rfl))
          (try dsimp only [Act.put]); (try simp only [List.setIfInBounds_toArray, List.set_cons_zero, List.set_cons_succ])
          refine wpAnyK_take (i := 10) (v := ?_) rfl (by kernel_rfl) (by kernel_rfl) (by kernel_rfl) (by kernel_rfl) (fun _ _ _ h => h) hSd (Or.inl ⟨by rfl, ?_⟩) ?_
          rotate_left 1
          (intro w hSw; (try dsimp only at hSw); go_simp; try (with_reducible rfl))
          (try dsimp only [Act.put]); (try simp only [List.setIfInBounds_toArray, List.set_cons_zero, List.set_cons_succ])
          refine wpAnyK_take (i := 11) (v := ?_) rfl (by kernel_rfl) (by kernel_rfl) (by kernel_rfl) (by kernel_rfl) (fun _ _ _ h => h) hSd (Or.inl ⟨by rfl, ?_⟩) ?_
          rotate_left 1
          (intro w hSw; (try dsimp only at hSw); go_simp; try (with_reducible rfl))
          (try dsimp only [Act.put]); (try simp only [List.setIfInBounds_toArray, List.set_cons_zero, List.set_cons_succ])
          refine wpAnyK_take (i := 12) (v := ?_) rfl (by kernel_rfl) (by kernel_rfl) (by kernel_rfl) (by kernel_rfl) (fun _ _ _ h => h) hSd (Or.inl ⟨by rfl, ?_⟩) ?_
          rotate_left 1
          (intro w hSw; (try dsimp only at hSw); go_simp; try (with_reducible rfl))
          (try dsimp only [Act.put]); (try simp only [List.setIfInBounds_toArray, List.set_cons_zero, List.set_cons_succ])
          refine wpAnyK_one (i := 13) (by kernel_rfl) rfl (fun K hK => ?_)
          go_simp
          refine hK.out _ _ (fun _ => hSd) ?_
          clear hK
          refine wpAnyK_take (i := 14) (v := ?_) rfl (by kernel_rfl) (by kernel_rfl) (by kernel_rfl) (by kernel_rfl) (fun _ _ _ h => h) hSd (Or.inl ⟨by rfl, ?_⟩) ?_
          rotate_left 1
          (intro w hSw; (try dsimp only at hSw); go_simp; try (with_reducible rfl))
          (try dsimp only [Act.put]); (try simp only [List.setIfInBounds_toArray, List.set_cons_zero, List.set_cons_succ])
          refine wpAnyK_one (i := 15) (by kernel_rfl) rfl (fun K hK => ?_)
          go_simp
          go_at_call 81
          (with_reducible refine HC.out.mono ?_)
          rintro e w1 ⟨v1, rfl, hown, hg⟩
          obtain ⟨A1', c1', rfl⟩ := Kd.R_slice hown
          obtain ⟨hb1, hst⟩ := HdSt.put (show Boxed W6.drew w2.heap.size 110 _ from G1.out) G2.out hg hown
          have hkh := (KH.refl w2.heap.size W6.drew).once G2.out hg
          have hbe : Below w2.heap.size w2 w1 := (HB6.out.trans ((below_drew (Below.refl _ W6)))).grown hg (by show w2.heap.size ≤ W6.heap.size; omega) (fun k hk => by have := (OwnHd.typed G2.out k hk).1; omega)
          have hSd : (fun W => W.cell? ⟨w2.heap.size, 0, none⟩ = some (.slice Ah lk.length ch) ∧ HcS Wr.heap.size (.slice (some kd) dd.f2.length z2) (kd.add (jj * 5)) (.string ca.f0) (.slice X1 ca.f1.length x1') W) w1 := by
            have hq1 : w1.heap[(kd.add (jj * 5)).block]? = W6.drew.heap[(kd.add (jj * 5)).block]? := by rw [hbe.block _ (by omega)]; exact (HB6.out.block _ (by omega)).symm
            exact ⟨hb1.cell, (blk_cell (hkh.blk (show W6.drew.heap[Wr.heap.size]? = _ from BX6.out) (by decide) (by omega)) 2).trans rfl, cell_of_block y0 hq1, cell_of_block y1 hq1⟩
          have f1 := hb1.frozen
          have HBe := Aside0.mk hbe
          have HKe := Aside0.mk hkh
          have HSe := Aside0.mk hst
          clear hb1 hbe hkh hst hown hg
          refine hK.out _ _ (fun _ => hSd) ?_
          clear hK
          refine wpAnyK_one (i := 16) (by kernel_rfl) rfl (fun K hK => ?_)
          go_simp
          refine hK.out _ _ (fun h => absurd rfl h) ?_
          clear hK hSd
          refine wpAnyK_done (by kernel_rfl) ?_ _
          refine NoPanic.normal ?_
          clear y0 y1 f1
          obtain ⟨Wx, hWx⟩ : ∃ Wx, w1.setCell ⟨w2.heap.size, 0, none⟩ (.slice A1' (onceHL lk ⟨ca.f0, (ca.f1.length : Int)⟩).length c1') = Wx := ⟨_, rfl⟩
          have hk6 : KH w2.heap.size W6 Wx := by rw [← hWx]; exact (show KH w2.heap.size W6 w1 from HKe.out).set 0 _
          have HHx : Aside0 (HdSt W3.heap.size w2.heap.size Wx lc) := ⟨by rw [← hWx, HCa.out]; exact HSe.out⟩
          have HMx : Aside0 (Marks W3.heap.size Es Wx) := ⟨hk6.marks HM6.out (by omega)⟩
          have HBx : Aside0 (Below w2.heap.size w2 Wx) := ⟨by rw [← hWx]; exact HBe.out.setCell (Nat.le_refl _) _⟩
          have HKx : Aside0 (KH w2.heap.size W5 Wx) := ⟨HK6.out.trans hk6⟩
          have HQx : Aside0 (Below w.heap.size w Wx) := ⟨Q.out.trans (HBx.out.mono Q.out.size)⟩
          have b10 := hk6.blk B10.out (by decide) (by omega)
          have e0 := (blk_cell b10 0).trans rfl
          have e1 := (blk_cell b10 1).trans rfl
          have e2 := (blk_cell b10 2).trans rfl
          rw [hWx]
          clear hWx HH6 HM6 HB6 HK6 HQ6 BX6 B10 hk6 b10 HBe HKe HSe G1 G2 HC
          gi_wp2_with fail
          clear e0 e1 e2
          refine ⟨trivial, (callsIn_wide.2 (HPl.out _)).mono ?_⟩
          rintro en w7 ⟨rfl, rfl⟩
          gi_wp2_with fail
          obtain ⟨Wd, hWd⟩ : ∃ Wd, Wx.alloc (.cells #[.int .i64 b.f0, .string b.f1, .slice A3 b.f2.length a3] 57) = Wd := ⟨_, rfl⟩
          have qd : Below Wx.heap.size Wx Wd := by rw [← hWd]; exact below_alloc1 _ _
          have bP : Wd.heap[Wx.heap.size]? = some (.cells (cellsH (b, A3, a3)) 57 (0, 0)) := by rw [← hWd]; have := alloc_at Wx (.cells #[.int .i64 b.f0, .string b.f1, .slice A3 b.f2.length a3] 57); simpa [cellsH] using this
          have hF4 : Kd.F k57 Wd (fun k => k < w.heap.size) A3 b.f2.length b.f2 := Kd.F_step HF3.out (fun k hk hlt => by rw [(HQx.out.trans (qd.mono HQx.out.size)).block k hk, QW4.out.block k hk])
          rw [hWd]
          have hxs := HBx.out.size
          have hkx := HKx.out.1
          have hds := qd.size
          have HHd := Aside0.mk (HHx.out.below qd)
          have HMd := Aside0.mk (HMx.out.below qd)
          have HBd := Aside0.mk (HBx.out.trans (qd.mono HBx.out.size))
          have HKd := Aside0.mk (HKx.out.trans (KH.of_below qd))
          clear hWd qd HHx HMx HBx HKx HQx
          refine wpIn_rangeFunc_ownH rfl (by omega) (gf := 133) (lb := #[.pointer (some ⟨Wx.heap.size, 0, none⟩)]) rfl trivial (enters_of Tryz.func133 (by kernel_rfl) rfl)
            (places_stops Wd NoM w.heap.size (fun k => k < w.heap.size) (fun k hk => hk.elim) (fun k hk => ⟨fun h => h, hk⟩) ⟨(b, A3, a3), hl3, hF4, hszb⟩ Wx.heap.size (fun h => h) Wd ((KC.rel _ _).refl _) (Nat.le_refl _) bP)
            (KC.rel _ _).trans (fun Wy lx o o' hlx ho hcl _ => KC.putObj _ (by omega) ho hcl) (Below.refl _ _) (fun _ => rfl)
            (fun pre Wy => HdSt W3.heap.size w2.heap.size Wy ((exs pre).foldl headB lc) ∧ Marks W3.heap.size Es Wy ∧ KH w2.heap.size Wd Wy ∧ Below w2.heap.size w2 Wy)
            (fun _ _ _ => False)
            (fun pre X Y row ⟨h1, h2, h3, h4⟩ hg hr => ⟨h1.notcells hg (fun r e => (hr r e).2), HMd.out.own (β := Unit) () X Y row h2 hg hr, h3.grownN hg (fun r e => (hr r e).1), h4.grown hg h4.size (fun k hk => by have := (hr k hk).1; omega)⟩)
            (fun _ _ _ _ _ hs _ _ => hs)
            ⟨HHd.out, HMd.out, KH.refl _ _, HBd.out⟩
            (fun x a' Wy => a'.tmps.size = 91 ∧ a'.defers = [] ∧ a'.tmps.getD 6 undef = .pointer (some ⟨w2.heap.size, 0, none⟩) ∧ ∃ Bx, a'.tmps.getD 11 undef = .pointer (some ⟨Bx, 0, none⟩) ∧ Wd.heap.size ≤ Bx ∧ Wy.heap[Bx]? = some (.cells (cellsH x.1) 57 (0, 0)))
            (fun x a' _ X Y row hs hg hr => by obtain ⟨t1, t2, t3, Bx, t4, t5, t6⟩ := hs; exact ⟨t1, t2, t3, Bx, t4, t5, Blk.notcells t6 hg (fun r e => (hr r e).2)⟩)
            ?assign ?body ?done ?stop
          case assign =>
            rintro l' pre ⟨⟨x, A', c'⟩, hx⟩ Wy K ⟨h1, h2, h3, h4⟩ hK
            simp only [encH]
            have H1 := Lib.hid h1
            have H2 := Lib.hid h2
            have H3 := Lib.hid h3
            have H4 := Lib.hid h4
            clear h1 h2 h3 h4
            gi_wp2
            have q := below_alloc1 Wy (.cells #[.int .i64 x.f0, .string x.f1, .slice A' x.f2.length c'] 57)
            exact hK _ _ ((KeepsOthers.alloc _ _).from _) ((KC.rel _ _).below q) ⟨H1.out.below q, H2.out.below q, H3.out.trans (KH.of_below q), H4.out.trans (q.mono H4.out.size)⟩ ⟨rfl, rfl, rfl, Wy.heap.size, rfl, H3.out.1, alloc_at _ _⟩
          case body =>
            rintro l' pre ⟨⟨x, A', c'⟩, hx⟩ a' Wy hl' hr' ⟨h1, h2, h3, h4⟩ ⟨t1, t2, t3, Bx, t4, hBx, bX⟩ hlt'
            obtain ⟨g, hgf, ha⟩ := lit91 a' t1
            have s6 := (hgf 6).symm.trans t3
            have s11 := (hgf 11).symm.trans t4
            rw [t2] at ha
            rw [ha]
            rw [s6, s11]
            clear ha hgf s6 s11 t1 t2 t3 t4 a'
            have e0 : Wy.cell? ⟨Bx, 0, none⟩ = some (.int .i64 x.f0) := (blk_cell bX 0).trans rfl
            have e1 : Wy.cell? ⟨Bx, 1, none⟩ = some (.string x.f1) := (blk_cell bX 1).trans rfl
            have e2 : Wy.cell? ⟨Bx, 2, none⟩ = some (.slice A' x.f2.length c') := (blk_cell bX 2).trans rfl
            obtain ⟨v, g1, g2⟩ := h1
            obtain ⟨Ah, ch, rfl⟩ := Kd.R_slice g2
            have cO := g1.cell
            have hms := h4.size
            have hlen : ((exs pre).foldl headB lc).length < 1000000 := by
              have h := foldl_cap (f := headB) (c := 1) (xs := exs pre) (fun l x _ => headB_cap l x) lc
              rw [exs_length] at h
              simp only at hlt'
              omega
            have HC := Lib.hid (c_onceH W3.heap.size _ ((exs pre).foldl headB lc) ⟨x.f1, (x.f2.length : Int)⟩ Wy g2 (by have := h3.1; omega) hlen)
            have H1 := Lib.hid g1
            have H1b := Lib.hid g2
            have H2 := Lib.hid h2
            have H3 := Lib.hid h3
            have H4 := Lib.hid h4
            clear g1 g2 h2 h3 h4 bX hr'
            by_cases hk : x.f0 = 2
            · have hk1 : (x.f0 == 2) = true := by rw [beq_iff_eq]; exact hk
              have HKk := Lib.hid hk
              clear hk
              gi_wp2_with fail
              refine ⟨trivial, (CallsIn.inRound l' (callsIn_wide.2 HC.out)).mono ?_⟩
              rintro en w1 ⟨v1, rfl, hown, hg⟩
              obtain ⟨A1', c1', rfl⟩ := Kd.R_slice hown
              obtain ⟨hb1, hst⟩ := HdSt.put H1.out H1b.out hg hown
              have cO1 := hb1.cell
              have fO1 := hb1.frozen
              have H5 := Lib.hid hb1
              have H6 := Lib.hid hg
              have H7 := Lib.hid hst
              clear hown hb1 hg hst
              gi_wp2_with fail
              have hkc : KC NoM w.heap.size Wy w1 := KC.grown _ H6.out (fun k hk => by obtain ⟨hb, cs, hcs⟩ := H1b.out.typed k hk; exact ⟨by omega, cs, _, hcs, by decide, by decide⟩)
              have hko : KeepsOthers Wy w1 := KeepsOthers.of_grownBy H6.out (fun j o hj ho => by obtain ⟨_, cs, hcs⟩ := H1b.out.typed j hj; rw [hcs] at ho; cases ho; rfl)
              refine ⟨(hko.trans (KeepsOthers.setCell _ _ _)).from _, (KC.rel _ _).trans hkc (KC.set _ (by omega) H5.out (by decide) (by decide)), ?_, (((KH.refl _ Wy).once H1b.out H6.out).set 0 _).marks H2.out (by omega), (H3.out.once H1b.out H6.out).set 0 _, (H4.out.grown H6.out H4.out.size (fun k hk => by have := (H1b.out.typed k hk).1; omega)).setCell (Nat.le_refl _) _⟩
              rw [exs_append, List.foldl_append]
              simp only [exs, List.map_cons, List.map_nil, List.foldl_cons, List.foldl_nil]
              rw [headB, if_pos HKk.out]
              exact H7.out
            · have hk1 : (x.f0 == 2) = false := by rw [beq_eq_false_iff_ne]; exact hk
              have HKk := Lib.hid hk
              clear hk
              gi_wp2_with fail
              refine ⟨KeepsFrom.refl _ _, (KC.rel _ _).refl _, ⟨_, H1.out, ?_⟩, H2.out, H3.out, H4.out⟩
              rw [exs_append, List.foldl_append]
              simp only [exs, List.map_cons, List.map_nil, List.foldl_cons, List.foldl_nil]
              rw [headB, if_neg HKk.out]
              exact H1b.out
          case done =>
            rintro D zs Wy hD hzs ⟨h1, h2, h3, h4⟩ hK
            have hzs' : exs zs = plE b := hzs
            rw [hzs'] at h1
            have H1 := Lib.hid h1
            have H2 := Lib.hid (Marks.cons HMd.out h2 hD (by omega) hK)
            have H3 := Lib.hid (HKd.out.trans h3)
            have H4 := Lib.hid h4
            clear h1 h2 h3 h4 hzs hzs' hK
            gi_wp2
            refine HT2.out _ _ ⟨jj + 1, D :: Es, rfl, rfl, rfl, rfl, rfl, rfl, rfl, rfl, rfl, by simp, by omega, H2.out, by rw [headK_succ, headI_at (b := b) (by rw [HBs.out]; exact HBb.out), HLk.out, HLc.out]; exact H1.out, H4.out, H3.out⟩ ?_
            rw [HM2.out]
            simp [intOf]
            omega
          case stop =>
            rintro D c pre Wy _ _ h _
            exact h.elim
      · have : jj = bs.length := by omega
        subst this
        gi_wp2_with fail
        refine HT1.out _ _ ⟨kk + 1, Es, rfl, rfl, rfl, rfl, rfl, by simp, by omega, HMk.out, by rw [foldl_snoc HK.out, HL0.out, headD, HBs.out, HLk.out]; exact HHd.out, HBr.out, by omega⟩ ?_
        rw [HM1.out]
        simp [intOf]
        omega
    · have : kk = defs.length := by omega
      subst this
      rw [List.take_length] at HL0
      obtain ⟨v, g1, g2⟩ := HHd.out
      obtain ⟨Ah, ch, rfl, hch, hCh⟩ := Kd.R_reads g2
      have cO := g1.cell
      have hmh := hCh.2.1
      have HCh := Aside0.mk hCh
      have hl0 : headsP defs = l0 := HL0.out
      have hlT : l0.length < 1000000 := by rw [← hl0]; exact HT.out
      have HL := Lib.hid hl0
      clear g1 g2 hCh HHd hl0
      gi_wp2_with fail
      clear cO
      refine wpIn_loopT (fun a Wi => ∃ (ii nn mm : Nat) (An : Option Addr) (cn : Nat) (Am : Option Addr) (cm : Nat), a.tmps.size = 91 ∧ a.defers = Ds.map markD ∧ a.tmps.getD 12 undef = .slice An nn cn ∧ a.tmps.getD 13 undef = .slice Am mm cm ∧ a.tmps.getD 72 undef = .slice Ah l0.length ch ∧ a.tmps.getD 73 undef = .int .i64 l0.length ∧ a.tmps.getD 74 undef = .int .i64 ii ∧
          ii ≤ l0.length ∧ HS Wr.heap.size Wi (.slice An nn cn) (.slice Am mm cm) (l0.take ii) ∧ Below Wr.heap.size Wr Wi)
        (fun a _ => l0.length - (intOf (a.tmps.getD 74 undef)).toNat) ?_ ?_
      · exact ⟨0, 0, 0, none, 0, none, 0, rfl, rfl, rfl, rfl, rfl, rfl, rfl, Nat.zero_le _, HS.nil _ _, Below.refl _ _⟩
      rintro a Wi ⟨ii, nn, mm, An, cn, Am, cm, hsl, hdf, s12, s13, s72, s73, s74, hii, hhs, hbi⟩ T3 hT3
      have HM3 := Lib.hid s74
      obtain ⟨f, hf, ha⟩ := lit91 a hsl
      have s12 := (hf 12).symm.trans s12
      have s13 := (hf 13).symm.trans s13
      have s72 := (hf 72).symm.trans s72
      have s73 := (hf 73).symm.trans s73
      have s74 := (hf 74).symm.trans s74
      rw [hdf] at ha
      rw [ha]
      rw [s12, s13, s72, s73, s74]
      clear ha hf hsl hdf s12 s13 s72 s73 s74
      have HT3 := Lib.hid hT3
      have HHs := Aside0.mk hhs
      have HBi := Aside0.mk hbi
      have hwi := hbi.size
      have HQi := Aside0.mk (HQ.out.trans (hbi.mono HQ.out.size))
      clear hT3 hhs hbi
      by_cases hlti : ii < l0.length
      · have hltiz : (ii : Int) < (l0.length : Int) := by omega
        obtain ⟨ah, rfl, k0, k1⟩ := getHd (Kd.C_below HCh.out HBi.out) ii hlti
        obtain ⟨x, hx⟩ : ∃ x, l0[ii] = x := ⟨_, rfl⟩
        rw [hx] at k0 k1
        have HX := Lib.hid hx
        clear hx
        obtain ⟨W15, hW15⟩ : ∃ W15, Wi.alloc (.cells #[.string x.f0, .int .i64 x.f1] 113) = W15 := ⟨_, rfl⟩
        have q15 : Below Wi.heap.size Wi W15 := by rw [← hW15]; exact below_alloc1 _ _
        have b15 : W15.heap[Wi.heap.size]? = some (.cells #[.string x.f0, .int .i64 x.f1] 113 (0, 0)) := by rw [← hW15]; exact alloc_at _ _
        have HW15 := Lib.hid hW15
        have Q15 := Aside0.mk q15
        have B15 := Aside0.mk b15
        clear hW15 q15 b15
        gi_wp2_with fail
        rw [HW15.out]
        clear HW15 k0 k1
        obtain ⟨l1, hl1⟩ : ∃ l1, l0.take ii = l1 := ⟨_, rfl⟩
        have hl1l : l1.length ≤ 1000000 := by rw [← hl1, List.length_take]; omega
        have HL1 := Lib.hid (show l0.take (ii + 1) = l1 ++ [x] by rw [take_snoc hlti, hl1, HX.out])
        rw [hl1] at HHs
        have hs15 := Q15.out.size
        refine wpIn_wide.2 ?_
        refine wp_region_noPanic ?_
        have hSd : (fun W => W.cell? ⟨Wi.heap.size, 0, none⟩ = some (.string x.f0) ∧ W.cell? ⟨Wi.heap.size, 1, none⟩ = some (.int .i64 x.f1)) W15.drew := ⟨(blk_cell (show W15.drew.heap[Wi.heap.size]? = _ from B15.out) 0).trans rfl, (blk_cell (show W15.drew.heap[Wi.heap.size]? = _ from B15.out) 1).trans rfl⟩
        refine wp_region_K (S := fun W => W.cell? ⟨Wi.heap.size, 0, none⟩ = some (.string x.f0) ∧ W.cell? ⟨Wi.heap.size, 1, none⟩ = some (.int .i64 x.f1)) (k := 11) (by kernel_rfl) ?_
        change wpAnyK _ _ _ _ _ _ 12 (Array.replicate 12 false) _ _
        refine wpAnyK_take (i := 0) (v := ?_) rfl (by kernel_rfl) (by kernel_rfl) (by kernel_rfl) (by kernel_rfl) (fun _ _ _ h => h) hSd (Or.inl ⟨by rfl, ?_⟩) ?_
        rotate_left 1
        (intro w hSw; (try dsimp only at hSw); go_simp; try (with_reducible rfl))
        (try dsimp only [Act.put]); (try simp only [List.setIfInBounds_toArray, List.set_cons_zero, List.set_cons_succ])
        refine wpAnyK_take (i := 1) (v := ?_) rfl (by kernel_rfl) (by kernel_rfl) (by kernel_rfl) (by kernel_rfl) (fun _ _ _ h => h) hSd (Or.inl ⟨by rfl, ?_⟩) ?_
        rotate_left 1
        (intro w hSw; (try dsimp only at hSw); go_simp; try (with_reducible rfl))
        (try dsimp only [Act.put]); (try simp only [List.setIfInBounds_toArray, List.set_cons_zero, List.set_cons_succ])
        refine wpAnyK_take (i := 2) (v := ?_) rfl (by kernel_rfl) (by kernel_rfl) (by kernel_rfl) (by kernel_rfl) (fun _ _ _ h => h) hSd (Or.inl ⟨by rfl, ?_⟩) ?_
        rotate_left 1
        (intro w hSw; (try dsimp only at hSw); go_simp; try (with_reducible rfl))
        (try dsimp only [Act.put]); (try simp only [List.setIfInBounds_toArray, List.set_cons_zero, List.set_cons_succ])
        refine wpAnyK_take (i := 5) (v := ?_) rfl (by kernel_rfl) (by kernel_rfl) (by kernel_rfl) (by kernel_rfl) (fun _ _ _ h => h) hSd (Or.inl ⟨by rfl, ?_⟩) ?_
        rotate_left 1
        (intro w hSw; (try dsimp only at hSw); go_simp; try (with_reducible rfl))
        (try dsimp only [Act.put]); (try simp only [List.setIfInBounds_toArray, List.set_cons_zero, List.set_cons_succ])
        refine wpAnyK_take (i := 6) (v := ?_) rfl (by kernel_rfl) (by kernel_rfl) (by kernel_rfl) (by kernel_rfl) (fun _ _ _ h => h) hSd (Or.inl ⟨by rfl, ?_⟩) ?_
        rotate_left 1
        (intro w hSw; (try dsimp only at hSw); go_simp; try (with_reducible rfl))
        (try dsimp only [Act.put]); (try simp only [List.setIfInBounds_toArray, List.set_cons_zero, List.set_cons_succ])
        refine wpAnyK_take (i := 7) (v := ?_) rfl (by kernel_rfl) (by kernel_rfl) (by kernel_rfl) (by kernel_rfl) (fun _ _ _ h => h) hSd (Or.inl ⟨by rfl, ?_⟩) ?_
        rotate_left 1
        (intro w hSw; (try dsimp only at hSw); go_simp; try (with_reducible rfl))
        (try dsimp only [Act.put]); (try simp only [List.setIfInBounds_toArray, List.set_cons_zero, List.set_cons_succ])
        obtain ⟨X0, hX⟩ : ∃ X0, W15.drew = X0 := ⟨_, rfl⟩
        have q0 : Below Wi.heap.size Wi X0 := by rw [← hX]; exact below_drew Q15.out
        have HN := Aside0.mk (Kd.R_below HHs.out.1 q0)
        have HM := Aside0.mk (Kd.R_below HHs.out.2 q0)
        have BX := Aside0.mk (show X0.heap[Wi.heap.size]? = some (.cells #[.string x.f0, .int .i64 x.f1] 113 (0, 0)) by rw [← hX]; exact B15.out)
        have HW := Aside0.mk (HBi.out.trans (q0.mono HBi.out.size))
        have hw0 := q0.size
        rw [hX] at hSd ⊢
        clear hX q0 hl1 Q15 B15
        refine wpAnyK_two (i := 3) (j := 8) (by kernel_rfl) rfl rfl (fun K hK => ?_) (fun K hK => ?_)
        · skip
          go_simp
          obtain ⟨X1, hY⟩ : ∃ X1, X0.alloc (.cells #[.string x.f0] 9) = X1 := ⟨_, rfl⟩
          have q : Below X0.heap.size X0 X1 := by rw [← hY]; exact below_alloc1 _ _
          have TA := Aside0.mk (show X1.heap[X0.heap.size]? = some (.cells #[.string x.f0] 9 (0, 0)) by rw [← hY]; exact alloc_at _ _)
          rw [hY]
          have HN := Aside0.mk (Kd.R_below HN.out q)
          have HM := Aside0.mk (Kd.R_below HM.out q)
          have BX := Aside0.mk (blk_below BX.out q)
          have HW := Aside0.mk (HW.out.trans (q.mono HW.out.size))
          have hsq := q.size
          clear q hY
          have hSd : (fun W => W.cell? ⟨Wi.heap.size, 0, none⟩ = some (.string x.f0) ∧ W.cell? ⟨Wi.heap.size, 1, none⟩ = some (.int .i64 x.f1)) X1 := ⟨(blk_cell BX.out 0).trans rfl, (blk_cell BX.out 1).trans rfl⟩
          refine hK.out _ _ (fun _ => hSd) ?_
          clear hK
          refine wpAnyK_two (i := 4) (j := 8) (by kernel_rfl) rfl rfl (fun K hK => ?_) (fun K hK => ?_)
          · skip
            refine Kd.R_append_rows_step Kd.string (w0 := X1) Wr.heap.size (by rfl) (.tmp 78) (.tmp 81) 30 9 (.string ⟨#[]⟩) 16 rfl Tryz.underlying30 infoTx rfl (by decide) (by decide) (.slice An nn cn) (l1.map (·.f0)) [x.f0] (some ⟨X0.heap.size, 0, none⟩) 1 1 (fun _ => True) (fun _ => False) rfl rfl HN.out (one_txt TA.out) (fun _ _ h => h) (fun _ h => h.elim) (fun _ _ => trivial) (Below.refl _ _) (by omega) (by rw [List.length_map]; omega) ?_
            intro v1 X2 hR hB hg hat
            have HM := Aside0.mk (own_names HN.out HM.out hg)
            have BX := Aside0.mk (blk_grown BX.out hg (fun he => Kd.R_ne HN.out BX.out (by decide) he))
            have HN := Aside0.mk hR
            have HW := Aside0.mk (HW.out.trans hB)
            obtain ⟨A1, c1, rfl⟩ := Kd.R_slice hR
            have hsq := hB.size
            clear hR hB hg hat
            have hSd : (fun W => W.cell? ⟨Wi.heap.size, 0, none⟩ = some (.string x.f0) ∧ W.cell? ⟨Wi.heap.size, 1, none⟩ = some (.int .i64 x.f1)) X2 := ⟨(blk_cell BX.out 0).trans rfl, (blk_cell BX.out 1).trans rfl⟩
            refine hK.out _ _ (fun _ => hSd) ?_
            clear hK
            refine wpAnyK_one (i := 8) (by kernel_rfl) rfl (fun K hK => ?_)
            go_simp
            obtain ⟨X3, hY⟩ : ∃ X3, X2.alloc (.cells #[.int .i64 x.f1] 3) = X3 := ⟨_, rfl⟩
            have q : Below X2.heap.size X2 X3 := by rw [← hY]; exact below_alloc1 _ _
            have TB := Aside0.mk (show X3.heap[X2.heap.size]? = some (.cells #[.int .i64 x.f1] 3 (0, 0)) by rw [← hY]; exact alloc_at _ _)
            rw [hY]
            have HN := Aside0.mk (Kd.R_below HN.out q)
            have HM := Aside0.mk (Kd.R_below HM.out q)
            have BX := Aside0.mk (blk_below BX.out q)
            have HW := Aside0.mk (HW.out.trans (q.mono HW.out.size))
            have hsq := q.size
            clear q hY
            have hSd : (fun W => W.cell? ⟨Wi.heap.size, 0, none⟩ = some (.string x.f0) ∧ W.cell? ⟨Wi.heap.size, 1, none⟩ = some (.int .i64 x.f1)) X3 := ⟨(blk_cell BX.out 0).trans rfl, (blk_cell BX.out 1).trans rfl⟩
            refine hK.out _ _ (fun _ => hSd) ?_
            clear hK
            refine wpAnyK_one (i := 9) (by kernel_rfl) rfl (fun K hK => ?_)
            refine Kd.R_append_rows_step (Kd.int .i64) (w0 := X3) Wr.heap.size (by rfl) (.tmp 83) (.tmp 86) 48 3 (.int .i64 0) 8 rfl Tryz.underlying48 infoIn rfl (by decide) (by decide) (.slice Am mm cm) (l1.map (·.f1)) [x.f1] (some ⟨X2.heap.size, 0, none⟩) 1 1 (fun _ => True) (fun _ => False) rfl rfl HM.out (one_int TB.out) (fun _ _ h => h) (fun _ h => h.elim) (fun _ _ => trivial) (Below.refl _ _) (by omega) (by rw [List.length_map]; omega) ?_
            intro v2 X4 hR hB hg hat
            have HN := Aside0.mk (own_many HN.out HM.out hg)
            have BX := Aside0.mk (blk_grown BX.out hg (fun he => Kd.R_ne HM.out BX.out (by decide) he))
            have HM := Aside0.mk hR
            have HW := Aside0.mk (HW.out.trans hB)
            obtain ⟨A2, c2, rfl⟩ := Kd.R_slice hR
            have hsq := hB.size
            clear hR hB hg hat
            have hSd : (fun W => W.cell? ⟨Wi.heap.size, 0, none⟩ = some (.string x.f0) ∧ W.cell? ⟨Wi.heap.size, 1, none⟩ = some (.int .i64 x.f1)) X4 := ⟨(blk_cell BX.out 0).trans rfl, (blk_cell BX.out 1).trans rfl⟩
            refine hK.out _ _ (fun _ => hSd) ?_
            clear hK
            refine wpAnyK_one (i := 10) (by kernel_rfl) rfl (fun K hK => ?_)
            go_simp
            refine hK.out _ _ (fun _ => hSd) ?_
            clear hK
            refine wpAnyK_one (i := 11) (by kernel_rfl) rfl (fun K hK => ?_)
            go_simp
            refine hK.out _ _ (fun h => absurd rfl h) ?_
            clear hK hSd
            refine wpAnyK_done (by kernel_rfl) ?_ _
            refine NoPanic.normal ?_
            gi_wp2_with fail
            refine HT3.out _ _ ⟨ii + 1, _, _, _, _, _, _, rfl, rfl, rfl, rfl, rfl, rfl, by simp, by omega, ⟨by have h := HN.out; rw [List.length_append, List.length_map] at h; rw [HL1.out, List.map_append]; exact h, by have h := HM.out; rw [List.length_append, List.length_map] at h; rw [HL1.out, List.map_append]; exact h⟩, HW.out⟩ ?_
            rw [HM3.out]
            simp [intOf]
            omega
          · skip
            go_simp
            obtain ⟨X2, hY⟩ : ∃ X2, X1.alloc (.cells #[.int .i64 x.f1] 3) = X2 := ⟨_, rfl⟩
            have q : Below X1.heap.size X1 X2 := by rw [← hY]; exact below_alloc1 _ _
            have TB := Aside0.mk (show X2.heap[X1.heap.size]? = some (.cells #[.int .i64 x.f1] 3 (0, 0)) by rw [← hY]; exact alloc_at _ _)
            rw [hY]
            have HN := Aside0.mk (Kd.R_below HN.out q)
            have HM := Aside0.mk (Kd.R_below HM.out q)
            have BX := Aside0.mk (blk_below BX.out q)
            have HW := Aside0.mk (HW.out.trans (q.mono HW.out.size))
            have TA := Aside0.mk (blk_below TA.out q)
            have hsq := q.size
            clear q hY
            have hSd : (fun W => W.cell? ⟨Wi.heap.size, 0, none⟩ = some (.string x.f0) ∧ W.cell? ⟨Wi.heap.size, 1, none⟩ = some (.int .i64 x.f1)) X2 := ⟨(blk_cell BX.out 0).trans rfl, (blk_cell BX.out 1).trans rfl⟩
            refine hK.out _ _ (fun _ => hSd) ?_
            clear hK
            refine wpAnyK_one (i := 4) (by kernel_rfl) rfl (fun K hK => ?_)
            refine Kd.R_append_rows_step Kd.string (w0 := X2) Wr.heap.size (by rfl) (.tmp 78) (.tmp 81) 30 9 (.string ⟨#[]⟩) 16 rfl Tryz.underlying30 infoTx rfl (by decide) (by decide) (.slice An nn cn) (l1.map (·.f0)) [x.f0] (some ⟨X0.heap.size, 0, none⟩) 1 1 (fun _ => True) (fun _ => False) rfl rfl HN.out (one_txt TA.out) (fun _ _ h => h) (fun _ h => h.elim) (fun _ _ => trivial) (Below.refl _ _) (by omega) (by rw [List.length_map]; omega) ?_
            intro v1 X3 hR hB hg hat
            have HM := Aside0.mk (own_names HN.out HM.out hg)
            have BX := Aside0.mk (blk_grown BX.out hg (fun he => Kd.R_ne HN.out BX.out (by decide) he))
            have TB := Aside0.mk (blk_grown TB.out hg (fun he => Kd.R_ne HN.out TB.out (by decide) he))
            have HN := Aside0.mk hR
            have HW := Aside0.mk (HW.out.trans hB)
            obtain ⟨A1, c1, rfl⟩ := Kd.R_slice hR
            have hsq := hB.size
            clear hR hB hg hat
            have hSd : (fun W => W.cell? ⟨Wi.heap.size, 0, none⟩ = some (.string x.f0) ∧ W.cell? ⟨Wi.heap.size, 1, none⟩ = some (.int .i64 x.f1)) X3 := ⟨(blk_cell BX.out 0).trans rfl, (blk_cell BX.out 1).trans rfl⟩
            refine hK.out _ _ (fun _ => hSd) ?_
            clear hK
            refine wpAnyK_one (i := 9) (by kernel_rfl) rfl (fun K hK => ?_)
            refine Kd.R_append_rows_step (Kd.int .i64) (w0 := X3) Wr.heap.size (by rfl) (.tmp 83) (.tmp 86) 48 3 (.int .i64 0) 8 rfl Tryz.underlying48 infoIn rfl (by decide) (by decide) (.slice Am mm cm) (l1.map (·.f1)) [x.f1] (some ⟨X1.heap.size, 0, none⟩) 1 1 (fun _ => True) (fun _ => False) rfl rfl HM.out (one_int TB.out) (fun _ _ h => h) (fun _ h => h.elim) (fun _ _ => trivial) (Below.refl _ _) (by omega) (by rw [List.length_map]; omega) ?_
            intro v2 X4 hR hB hg hat
            have HN := Aside0.mk (own_many HN.out HM.out hg)
            have BX := Aside0.mk (blk_grown BX.out hg (fun he => Kd.R_ne HM.out BX.out (by decide) he))
            have HM := Aside0.mk hR
            have HW := Aside0.mk (HW.out.trans hB)
            obtain ⟨A2, c2, rfl⟩ := Kd.R_slice hR
            have hsq := hB.size
            clear hR hB hg hat
            have hSd : (fun W => W.cell? ⟨Wi.heap.size, 0, none⟩ = some (.string x.f0) ∧ W.cell? ⟨Wi.heap.size, 1, none⟩ = some (.int .i64 x.f1)) X4 := ⟨(blk_cell BX.out 0).trans rfl, (blk_cell BX.out 1).trans rfl⟩
            refine hK.out _ _ (fun _ => hSd) ?_
            clear hK
            refine wpAnyK_one (i := 10) (by kernel_rfl) rfl (fun K hK => ?_)
            go_simp
            refine hK.out _ _ (fun _ => hSd) ?_
            clear hK
            refine wpAnyK_one (i := 11) (by kernel_rfl) rfl (fun K hK => ?_)
            go_simp
            refine hK.out _ _ (fun h => absurd rfl h) ?_
            clear hK hSd
            refine wpAnyK_done (by kernel_rfl) ?_ _
            refine NoPanic.normal ?_
            gi_wp2_with fail
            refine HT3.out _ _ ⟨ii + 1, _, _, _, _, _, _, rfl, rfl, rfl, rfl, rfl, rfl, by simp, by omega, ⟨by have h := HN.out; rw [List.length_append, List.length_map] at h; rw [HL1.out, List.map_append]; exact h, by have h := HM.out; rw [List.length_append, List.length_map] at h; rw [HL1.out, List.map_append]; exact h⟩, HW.out⟩ ?_
            rw [HM3.out]
            simp [intOf]
            omega
        · skip
          go_simp
          obtain ⟨X1, hY⟩ : ∃ X1, X0.alloc (.cells #[.int .i64 x.f1] 3) = X1 := ⟨_, rfl⟩
          have q : Below X0.heap.size X0 X1 := by rw [← hY]; exact below_alloc1 _ _
          have TB := Aside0.mk (show X1.heap[X0.heap.size]? = some (.cells #[.int .i64 x.f1] 3 (0, 0)) by rw [← hY]; exact alloc_at _ _)
          rw [hY]
          have HN := Aside0.mk (Kd.R_below HN.out q)
          have HM := Aside0.mk (Kd.R_below HM.out q)
          have BX := Aside0.mk (blk_below BX.out q)
          have HW := Aside0.mk (HW.out.trans (q.mono HW.out.size))
          have hsq := q.size
          clear q hY
          have hSd : (fun W => W.cell? ⟨Wi.heap.size, 0, none⟩ = some (.string x.f0) ∧ W.cell? ⟨Wi.heap.size, 1, none⟩ = some (.int .i64 x.f1)) X1 := ⟨(blk_cell BX.out 0).trans rfl, (blk_cell BX.out 1).trans rfl⟩
          refine hK.out _ _ (fun _ => hSd) ?_
          clear hK
          refine wpAnyK_one (i := 3) (by kernel_rfl) rfl (fun K hK => ?_)
          go_simp
          obtain ⟨X2, hY⟩ : ∃ X2, X1.alloc (.cells #[.string x.f0] 9) = X2 := ⟨_, rfl⟩
          have q : Below X1.heap.size X1 X2 := by rw [← hY]; exact below_alloc1 _ _
          have TA := Aside0.mk (show X2.heap[X1.heap.size]? = some (.cells #[.string x.f0] 9 (0, 0)) by rw [← hY]; exact alloc_at _ _)
          rw [hY]
          have HN := Aside0.mk (Kd.R_below HN.out q)
          have HM := Aside0.mk (Kd.R_below HM.out q)
          have BX := Aside0.mk (blk_below BX.out q)
          have HW := Aside0.mk (HW.out.trans (q.mono HW.out.size))
          have TB := Aside0.mk (blk_below TB.out q)
          have hsq := q.size
          clear q hY
          have hSd : (fun W => W.cell? ⟨Wi.heap.size, 0, none⟩ = some (.string x.f0) ∧ W.cell? ⟨Wi.heap.size, 1, none⟩ = some (.int .i64 x.f1)) X2 := ⟨(blk_cell BX.out 0).trans rfl, (blk_cell BX.out 1).trans rfl⟩
          refine hK.out _ _ (fun _ => hSd) ?_
          clear hK
          refine wpAnyK_one (i := 4) (by kernel_rfl) rfl (fun K hK => ?_)
          refine Kd.R_append_rows_step Kd.string (w0 := X2) Wr.heap.size (by rfl) (.tmp 78) (.tmp 81) 30 9 (.string ⟨#[]⟩) 16 rfl Tryz.underlying30 infoTx rfl (by decide) (by decide) (.slice An nn cn) (l1.map (·.f0)) [x.f0] (some ⟨X1.heap.size, 0, none⟩) 1 1 (fun _ => True) (fun _ => False) rfl rfl HN.out (one_txt TA.out) (fun _ _ h => h) (fun _ h => h.elim) (fun _ _ => trivial) (Below.refl _ _) (by omega) (by rw [List.length_map]; omega) ?_
          intro v1 X3 hR hB hg hat
          have HM := Aside0.mk (own_names HN.out HM.out hg)
          have BX := Aside0.mk (blk_grown BX.out hg (fun he => Kd.R_ne HN.out BX.out (by decide) he))
          have TB := Aside0.mk (blk_grown TB.out hg (fun he => Kd.R_ne HN.out TB.out (by decide) he))
          have HN := Aside0.mk hR
          have HW := Aside0.mk (HW.out.trans hB)
          obtain ⟨A1, c1, rfl⟩ := Kd.R_slice hR
          have hsq := hB.size
          clear hR hB hg hat
          have hSd : (fun W => W.cell? ⟨Wi.heap.size, 0, none⟩ = some (.string x.f0) ∧ W.cell? ⟨Wi.heap.size, 1, none⟩ = some (.int .i64 x.f1)) X3 := ⟨(blk_cell BX.out 0).trans rfl, (blk_cell BX.out 1).trans rfl⟩
          refine hK.out _ _ (fun _ => hSd) ?_
          clear hK
          refine wpAnyK_one (i := 9) (by kernel_rfl) rfl (fun K hK => ?_)
          refine Kd.R_append_rows_step (Kd.int .i64) (w0 := X3) Wr.heap.size (by rfl) (.tmp 83) (.tmp 86) 48 3 (.int .i64 0) 8 rfl Tryz.underlying48 infoIn rfl (by decide) (by decide) (.slice Am mm cm) (l1.map (·.f1)) [x.f1] (some ⟨X0.heap.size, 0, none⟩) 1 1 (fun _ => True) (fun _ => False) rfl rfl HM.out (one_int TB.out) (fun _ _ h => h) (fun _ h => h.elim) (fun _ _ => trivial) (Below.refl _ _) (by omega) (by rw [List.length_map]; omega) ?_
          intro v2 X4 hR hB hg hat
          have HN := Aside0.mk (own_many HN.out HM.out hg)
          have BX := Aside0.mk (blk_grown BX.out hg (fun he => Kd.R_ne HM.out BX.out (by decide) he))
          have HM := Aside0.mk hR
          have HW := Aside0.mk (HW.out.trans hB)
          obtain ⟨A2, c2, rfl⟩ := Kd.R_slice hR
          have hsq := hB.size
          clear hR hB hg hat
          have hSd : (fun W => W.cell? ⟨Wi.heap.size, 0, none⟩ = some (.string x.f0) ∧ W.cell? ⟨Wi.heap.size, 1, none⟩ = some (.int .i64 x.f1)) X4 := ⟨(blk_cell BX.out 0).trans rfl, (blk_cell BX.out 1).trans rfl⟩
          refine hK.out _ _ (fun _ => hSd) ?_
          clear hK
          refine wpAnyK_one (i := 10) (by kernel_rfl) rfl (fun K hK => ?_)
          go_simp
          refine hK.out _ _ (fun _ => hSd) ?_
          clear hK
          refine wpAnyK_one (i := 11) (by kernel_rfl) rfl (fun K hK => ?_)
          go_simp
          refine hK.out _ _ (fun h => absurd rfl h) ?_
          clear hK hSd
          refine wpAnyK_done (by kernel_rfl) ?_ _
          refine NoPanic.normal ?_
          gi_wp2_with fail
          refine HT3.out _ _ ⟨ii + 1, _, _, _, _, _, _, rfl, rfl, rfl, rfl, rfl, rfl, by simp, by omega, ⟨by have h := HN.out; rw [List.length_append, List.length_map] at h; rw [HL1.out, List.map_append]; exact h, by have h := HM.out; rw [List.length_append, List.length_map] at h; rw [HL1.out, List.map_append]; exact h⟩, HW.out⟩ ?_
          rw [HM3.out]
          simp [intOf]
          omega
      · have : ii = l0.length := by omega
        subst this
        gi_wp2_with fail
        show LeavesInM _ _ _ _ _ _ (Ds.map markD) .returning _
        have hh := HHs.out
        rw [List.take_length] at hh
        refine leaves_marks (B := W3.heap.size) (I := fun X => HS Wr.heap.size X (.slice An nn cn) (.slice Am mm cm) l0 ∧ Below w.heap.size w X) (fun X E hE hX h => ⟨h.1.notcells (grownBy_putObj' X E (.deferred none)) (fun r e => by cases e; exact ⟨_, hX, rfl⟩), h.2.trans (Below.of_putObj (by have := HQ.out.size; have := Q.out.size; omega))⟩)
          (fun X h => ⟨_, results_tmp3 rfl _ _ _, _, _, rfl, ?_, h.2⟩) Ds _ HMk.out.1 (fun D hD => ⟨(HMk.out.2 D hD).1, blk_below (HMk.out.2 D hD).2 HBi.out⟩) ⟨hh, HQi.out⟩
        have hws := HQ.out.size
        rw [headsE, if_pos HCe.out, HL.out]
        exact ⟨Kd.R_lower h.1.1 hws, Kd.R_lower h.1.2 hws⟩
end Go.Proofs.YtacefdkfbpgedaaGreat.Mine
namespace Go.Proofs.YtacefdkfbpgedaaGreat.Mine
open Go.Proofs.YtacefdkfbpgedaaGreat.PProgSmall
open Go.RowKit Go.Shelf Go.Proofs.YtacefdkfbpgedaaGreatW.PrintWords Go.Proofs.YtacefdkfbpgedaaGreatW.PrintLast Go.Proofs.YtacefdkfbpgedaaGreatW.PrintMore
set_option linter.unusedVariables false
set_option linter.unusedSimpArgs false
set_option maxRecDepth 100000
set_option maxHeartbeats 4000000 in
theorem c_lawChecksBig (ps qs : List De) (A B : Option Addr) (c d : Nat) (w : World) (hr : Kd.C k59 w A ps.length ps) (hc : ps.length ≤ c) (hr2 : Kd.C k59 w B qs.length qs) (hd : qs.length ≤ d) (hn : ∀ d ∈ ps, nmD d) (hn2 : ∀ d ∈ qs, nmD d) (hbig : (bigP ps || bigP qs) = true) :
    Calls Tryz.prog 5 #[.agg #[.slice A ps.length c], .agg #[.slice B qs.length d]] w fun en w' => en = .returned (.bool true) ∧ Below w.heap.size w w' := by
  obtain ⟨W1, hW1⟩ : ∃ W1, (w.alloc (.cells #[.slice A ps.length c] 24)).alloc (.cells #[.slice B qs.length d] 24) = W1 := ⟨_, rfl⟩
  have q1 : Below w.heap.size w W1 := by rw [← hW1]; exact below_alloc2 _ _ _
  have bP : PBox w.heap.size A ps.length c W1 := by rw [← hW1]; exact blk_alloc (alloc_at _ _) _
  have bQ : PBox (w.heap.size + 1) B qs.length d W1 := by rw [← hW1]; have := alloc_at (w.alloc (.cells #[.slice A ps.length c] 24)) (.cells #[.slice B qs.length d] 24); rw [World.size_alloc] at this; exact this
  have z1 : W1.heap.size = w.heap.size + 1 + 1 := by rw [← hW1]; simp
  have hmp := hr.2.1
  have hmq := hr2.2.1
  have HR := Lib.hid hr
  have HR2 := Lib.hid hr2
  have Q := Aside0.mk q1
  have BP := Aside0.mk bP
  have BQ := Aside0.mk bQ
  have HW1 := Lib.hid hW1
  have hz1a := Nat.le_of_eq z1
  have hz1b := Nat.le_of_eq z1.symm
  have kP := (blk_cell bP 0).trans rfl
  have kQ := (blk_cell bQ 0).trans rfl
  clear hr hr2 q1 bP bQ hW1 z1
  have HB := Lib.hid (c_Big ps A c W1 (Kd.C_below HR.out Q.out) hc hn)
  have HB2 := Lib.hid (fun W (h : Below w.heap.size w W) => c_Big qs B d W (Kd.C_below HR2.out h) hd hn2)
  cases h1 : bigP ps with
  | true =>
    rw [h1] at HB
    go_enter Tryz.func5, Tryz.ntmps5
    go_wp2_with fail
    rw [HW1.out]
    go_wp2_with fail
    refine HB.out.mono ?_
    rintro en w2 ⟨rfl, hb⟩
    have Q := Aside0.mk (Q.out.trans (hb.mono Q.out.size))
    clear hb
    go_wp2_with fail
    refine (c_awake _).mono ?_
    rintro en w3 ⟨rfl, hb⟩
    go_wp2
    go_ret
    exact ⟨rfl, Q.out.trans (hb.mono Q.out.size)⟩
  | false =>
    rw [h1] at HB
    rw [h1, Bool.false_or] at hbig
    go_enter Tryz.func5, Tryz.ntmps5
    go_wp2_with fail
    rw [HW1.out]
    go_wp2_with fail
    refine HB.out.mono ?_
    rintro en w2 ⟨rfl, hb⟩
    have Q := Aside0.mk (Q.out.trans (hb.mono Q.out.size))
    have BQ := Aside0.mk (blk_below BQ.out hb)
    clear hb kQ
    have kQ := (blk_cell BQ.out 0).trans rfl
    have HC := Lib.hid (HB2.out w2 Q.out)
    rw [hbig] at HC
    go_wp2_with fail
    refine HC.out.mono ?_
    rintro en w3 ⟨rfl, hb⟩
    have Q := Aside0.mk (Q.out.trans (hb.mono Q.out.size))
    clear hb
    go_wp2_with fail
    refine (c_awake _).mono ?_
    rintro en w4 ⟨rfl, hb⟩
    go_wp2
    go_ret
    exact ⟨rfl, Q.out.trans (hb.mono Q.out.size)⟩
end Go.Proofs.YtacefdkfbpgedaaGreat.Mine
