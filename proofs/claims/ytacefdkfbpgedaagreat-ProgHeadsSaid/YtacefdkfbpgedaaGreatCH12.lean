/- ProgHeads, the law: the walk. -/
import Derived.Test.YtacefdkfbpgedaaGreatCH7
import Derived.Test.YtacefdkfbpgedaaGreatCH11
import Derived.Test.YtacefdkfbpgedaaGreatCH10
import Derived.Test.YtacefdkfbpgedaaGreatCH6
import Derived.Deep.RegionHeld3
import Derived.Deep.DeepCutAuto
import Derived.BigRegion
namespace Go.Proofs.YtacefdkfbpgedaaGreat.Mine
open Go.Proofs.YtacefdkfbpgedaaGreat.PProgSmall
open Go.RowKit Go.Shelf Go.Proofs.YtacefdkfbpgedaaGreatW.PrintWords Go.Proofs.YtacefdkfbpgedaaGreatW.PrintLast Go.Proofs.YtacefdkfbpgedaaGreatW.PrintMore
set_option linter.unusedVariables false
set_option linter.unusedSimpArgs false
set_option maxRecDepth 100000
theorem heads_at {W : World} {An Am : Option Addr} {hs : List He} (h1 : Kd.C Kd.string W An hs.length (hs.map (·.f0))) (h2 : Kd.C (Kd.int .i64) W Am hs.length (hs.map (·.f1))) (k : Nat) (hk : k < hs.length) :
  ∃ an am, An = some an ∧ Am = some am ∧ W.cell? (an.add k) = some (.string hs[k].f0) ∧ W.cell? (am.add k) = some (.int .i64 hs[k].f1) := by
 obtain ⟨an, c0, e1, hK, hc⟩ := get1 rfl (show Kd.C Kd.string W An (hs.map (·.f0)).length (hs.map (·.f0)) by rw [List.length_map]; exact h1) k (by rw [List.length_map]; exact hk)
 obtain ⟨am, d0, e2, hK2, hc2⟩ := get1 rfl (show Kd.C (Kd.int .i64) W Am (hs.map (·.f1)).length (hs.map (·.f1)) by rw [List.length_map]; exact h2) k (by rw [List.length_map]; exact hk)
 refine ⟨an, am, e1, e2, ?_, ?_⟩
 ·rw [hc]; rw [List.getElem_map] at hK; obtain rfl : c0 = .string hs[k].f0 := by simpa [Kd.string, Kd.scalar] using hK
  rfl
 ·rw [hc2]; rw [List.getElem_map] at hK2; obtain rfl : d0 = .int .i64 hs[k].f1 := by simpa [Kd.int, Kd.scalar] using hK2
  rfl
def isH (s : ByteArray) (n : Int) (h : He) : Bool := decide (h.f0 = s) && (h.f1 == n)
theorem isH_any {hs : List He} {s : ByteArray} {n : Int} : hs.any (isH s n) = true ↔ (⟨s, n⟩ : He) ∈ hs := by
 rw [List.any_eq_true]
 refine ⟨fun ⟨h, hm, he⟩ => ?_, fun hm => ⟨_, hm, by simp [isH]⟩⟩
 obtain ⟨a, b⟩ := h
 simp [isH] at he
 rw [← he.1, ← he.2]; exact hm
theorem any_take_succ {α : Type} {p : α → Bool} {l : List α} {k : Nat} (hk : k < l.length) : (l.take (k + 1)).any p = ((l.take k).any p || p l[k]) := by
 rw [take_snoc hk, List.any_append]; simp
set_option maxHeartbeats 8000000 in
theorem c_lawHeads (zs : List Int) (A : Option Addr) (c : Nat) (nested : Bool) (w : World) (hr : Kd.C (Kd.int .u8) w A zs.length zs) :
  Calls Tryz.prog 4 #[.slice A zs.length c, .bool nested] w fun en w' => en = .returned (.bool true) ∧ Below w.heap.size w w' := by
 have HF1 := Lib.hid (c_Fill A zs c w hr)
 clear hr
 go_enter Tryz.func4, Tryz.ntmps4
 go_wp2_with fail
 refine HF1.out.mono ?_
 rintro en w1 ⟨rfl, hS, hZ, hb, hlt⟩
 obtain ⟨b1, hb1⟩ : ∃ b1, w.heap.size = b1 := ⟨_, rfl⟩
 rw [hb1] at hS hZ ⊢
 have hw1 : w.heap.size ≤ b1 := Nat.le_of_eq hb1
 have hw2 : b1 ≤ w.heap.size := Nat.le_of_eq hb1.symm
 have hb1l : b1 < w1.heap.size := by omega
 have HM := Lib.hid (c_Made b1 A zs.length c zs nested w1 hS hZ)
 have Q := Aside0.mk hb
 have HB1 := Lib.hid hb1
 clear hS hZ hb HF1 hb1 hlt
 go_wp2_with fail
 refine HM.out.mono ?_
 rintro en w2 ⟨ars, ps, v, rfl, hP, hOk, hF⟩
 have Q := Aside0.mk (show Below w.heap.size w w2 from Q.out.trans ⟨hF.os, hF.tape, hF.output, hF.size, fun k hk => hF.block k (by omega) (by show ¬ k = b1; omega)⟩)
 obtain ⟨Ap, cp, rfl, hcp, hCp⟩ := Kd.R_reads hP
 have hpl6 : ps.length ≤ 6 := by rw [hOk.len]; exact hOk.n6
 have HP2 := Lib.hid hCp
 have HOk := Lib.hid hOk
 have hs2 := hF.size
 clear hF hP hCp hOk HM
 -- the box of the program
 obtain ⟨gp, hgp⟩ : ∃ gp, w2.heap.size = gp := ⟨_, rfl⟩
 obtain ⟨W3, hW3⟩ : ∃ W3, w2.alloc (.cells #[.slice Ap ps.length cp] 24) = W3 := ⟨_, rfl⟩
 have q3 : Below w2.heap.size w2 W3 := by rw [← hW3]; exact below_alloc1 _ _
 have z3 : W3.heap.size = gp + 1 := by rw [← hW3, ← hgp]; simp
 have BP := Aside0.mk (show W3.heap[gp]? = some (.cells #[.slice Ap ps.length cp] 24 (0, 0)) by rw [← hW3, ← hgp]; exact alloc_at _ _)
 have Q2 := Aside0.mk q3
 have HW3 := Lib.hid hW3
 have hgpa := Nat.le_of_eq hgp
 have hgpb := Nat.le_of_eq hgp.symm
 have hz3a := Nat.le_of_eq z3
 have hz3b := Nat.le_of_eq z3.symm
 clear hW3 q3 z3
 have HCp3 := Aside0.mk (Kd.C_below HP2.out Q2.out)
 have HCh := Lib.hid HOk.out.check
 have HOp := Lib.hid (okP_of (l := ps) (by omega) HOk.out.big)
 obtain ⟨hs, hhs⟩ : ∃ hs, headsP ps = hs := ⟨_, rfl⟩
 have hcap : (headsP ps).length ≤ 6 * (10 * 61) := heads_cap hpl6 (fun d hd => bodies_ok (HOk.out.big d hd))
 have HH := Lib.hid (show Calls Tryz.prog 25 #[.agg #[.slice Ap ps.length cp]] W3 (fun en w' => ∃ v1 v2, en = .returned (.tuple #[v1, v2, .int .i64 0]) ∧ HS W3.heap.size w' v1 v2 hs ∧ Below W3.heap.size W3 w') by
  have h1 := c_Heads ps Ap cp W3 HCp3.out hcp HOp.out (by omega) (fun d hd b hb => by have := (bodies_ok (HOk.out.big d hd)).2 b hb; omega)
  rw [HCh.out, headsE, if_pos HCh.out, hhs] at h1
  exact h1)
 have HHs := Lib.hid hhs
 have hhl : hs.length ≤ 6 * (10 * 61) := by rw [← hhs]; exact hcap
 clear hhs hcap
 have kP := (blk_cell BP.out 0).trans rfl
 go_upto_region 2 with fail
 rw [HW3.out]
 clear HW3 hgp
 go_wp2_with fail
 refine HH.out.mono ?_
 rintro en w4 ⟨v1, v2, rfl, hHS, hb⟩
 obtain ⟨An, cn, rfl, hcn, hCn⟩ := Kd.R_reads hHS.1
 obtain ⟨Am, cm, rfl, hcm, hCm⟩ := Kd.R_reads hHS.2
 rw [List.length_map] at hcn hcm hCn hCm
 have e1 : (List.map (fun x : He => x.f0) hs).length = hs.length := List.length_map ..
 have e2 : (List.map (fun x : He => x.f1) hs).length = hs.length := List.length_map ..
 rw [e1, e2]
 have BP := Aside0.mk (blk_below BP.out hb)
 have HQ4 := Aside0.mk hb
 have HCn := Aside0.mk hCn
 have HCm := Aside0.mk hCm
 have hs4 := hb.size
 have HSi := Lib.hid (show Calls Tryz.prog 26 #[.agg #[.slice Ap ps.length cp]] w4 (fun en w' => en = .returned (.tuple #[.bool (simpleP ps), .int .i64 0]) ∧ Below w4.heap.size w4 w') by
  have h1 := c_Simple ps Ap cp w4 (Kd.C_below HCp3.out hb) hcp HOp.out
  rw [HCh.out] at h1
  exact h1)
 obtain ⟨sb, hsb⟩ : ∃ sb, simpleP ps = sb := ⟨_, rfl⟩
 rw [hsb] at HSi
 have HSw := Lib.hid (show sb = !ps.any withinD by rw [← hsb]; exact simple_eq HCh.out)
 have HSn := Lib.hid (show nested = false → sb = true by rw [← hsb]; intro h; subst h; exact made_simple HOk.out)
 clear kP hb hHS hCn hCm e1 e2 HH hsb
 have kP := (blk_cell BP.out 0).trans rfl
 go_wp2_with fail
 refine HSi.out.mono ?_
 rintro en wa ⟨rfl, hb⟩
 have HQa := Aside0.mk (HQ4.out.trans (hb.mono HQ4.out.size))
 have BP := Aside0.mk (blk_below BP.out hb)
 have HCn := Aside0.mk (Kd.C_below HCn.out hb)
 have HCm := Aside0.mk (Kd.C_below HCm.out hb)
 have hsa := hb.size
 have hll : ((hs.length : Int) != (hs.length : Int)) = false := by simp
 clear kP hb HSi
 have HHas := Lib.hid (fun (s : ByteArray) (n : Int) (W : World) (hb : Below wa.heap.size wa W) => c_Hd1 ps Ap cp gp s n W (Kd.C_below HCp3.out (HQa.out.trans (hb.mono HQa.out.size))) hcp (fun d hd => by have := (bigD_ok (HOk.out.big d hd)).2.2.2.2.1; omega) (blk_below BP.out hb))
 go_upto_region 4 with fail
 go_cut [63] (fun s63 wx => s63 = .bool false ∧ wx = wa)
 case first =>
  cases nested with
  | true =>
   go_wp2_with fail
   all_goals go_meet
   all_goals exact ⟨rfl, rfl⟩
  | false =>
   have h1 := HSn.out rfl
   subst h1
   go_wp2_with fail
   all_goals go_meet
   all_goals exact ⟨rfl, rfl⟩
 case rest =>
  obtain ⟨rfl, rfl⟩ := hcut
  rename World => wa
  go_wp2_with fail
  go_loopg [67] hs.length (fun gg s67 wr => ∃ kk : Nat, kk ≤ hs.length ∧ hs.length - kk ≤ gg ∧ s67 = .int .i64 kk ∧ Aside0 (Below wa.heap.size wa wr))
  case atStart => exact ⟨0, Nat.zero_le _, by omega, rfl, ⟨Below.refl _ _⟩⟩
  case round =>
   rename World => wr
   obtain ⟨kk, hkk, hg, rfl, HB⟩ := hrel
   by_cases hlt : kk < hs.length
   ·have hltz : (kk : Int) < (hs.length : Int) := by omega
    obtain ⟨an, am, rfl, rfl, n0, m0⟩ := heads_at (Kd.C_below HCn.out HB.out) (Kd.C_below HCm.out HB.out) kk hlt
    obtain ⟨h, hh⟩ : ∃ h, hs[kk] = h := ⟨_, rfl⟩
    rw [hh] at n0 m0
    have HMh := Lib.hid (show hs[kk]? = some h by rw [List.getElem?_eq_getElem hlt, hh])
    have HHa := Lib.hid (show Calls Tryz.prog 27 #[.string h.f0, .int .i64 h.f1, .pointer (some ⟨gp, 0, none⟩)] wr (fun en w' => en = .returned (.bool true) ∧ Below wr.heap.size wr w') by
     refine (HHas.out h.f0 h.f1 wr HB.out).mono ?_
     rintro en w' ⟨rfl, hb⟩
     refine ⟨?_, hb⟩
     rw [heads_mem.1 (show h ∈ headsP ps by rw [HHs.out]; exact List.mem_of_getElem? HMh.out)])
    have HHh := Lib.hid hh
    go_wp2_with fail
    refine HHa.out.mono ?_
    rintro en w2' ⟨rfl, hb⟩
    have HB2 := Aside0.mk (HB.out.trans (hb.mono HB.out.size))
    clear n0 m0 HHa hh hb
    go_wp2_with fail
    go_loopg [81] kk (fun gg s81 wz => ∃ jj : Nat, jj ≤ kk ∧ kk - jj ≤ gg ∧ s81 = .int .i64 jj ∧ Aside0 (Below wa.heap.size wa wz))
    case atStart => exact ⟨0, Nat.zero_le _, by omega, rfl, HB2⟩
    case round =>
     rename World => wz
     obtain ⟨jj, hjj, hg2, rfl, HBz⟩ := hrel
     by_cases hl2 : jj < kk
     ·have hl2z : (jj : Int) < (kk : Int) := by omega
      have hl3 : jj < hs.length := by omega
      have hl3z : (jj : Int) < (hs.length : Int) := by omega
      obtain ⟨_, _, e1, e2, n1, m1⟩ := heads_at (Kd.C_below HCn.out HBz.out) (Kd.C_below HCm.out HBz.out) jj hl3
      cases e1
      cases e2
      obtain ⟨_, _, e1, e2, n0, m0⟩ := heads_at (Kd.C_below HCn.out HBz.out) (Kd.C_below HCm.out HBz.out) kk hlt
      cases e1
      cases e2
      rw [HHh.out] at n0 m0
      obtain ⟨y, hy⟩ : ∃ y, hs[jj] = y := ⟨_, rfl⟩
      rw [hy] at n1 m1
      have ht := heads_two (ps := ps) (i := kk) (k := jj) (x := h) (y := y) (by rw [HHs.out]; exact HMh.out) (by rw [HHs.out, List.getElem?_eq_getElem hl3, hy]) hl2
      have te := sEq y.f0 h.f0
      clear hy
      cases hd : decide (y.f0 = h.f0) with
      | true =>
       rw [hd] at te
       have tf : (y.f1 == h.f1) = false := by rw [hd] at ht; simpa using ht
       clear ht hd
       go_wp2_with fail
       go_quiet (fail)
       go_wp2_with fail
       go_roundg (kk - (jj + 1))
       case measure => omega
       case rel => exact ⟨jj + 1, by omega, by omega, by go_num, ⟨pw_below_drewN HBz.out _⟩⟩
      | false =>
       rw [hd] at te
       clear ht hd
       go_wp2_with fail
       go_quiet (fail)
       go_wp2_with fail
       go_roundg (kk - (jj + 1))
       case measure => omega
       case rel => exact ⟨jj + 1, by omega, by omega, by go_num, ⟨pw_below_drewN HBz.out _⟩⟩
     ·have hjk : jj = kk := by omega
      subst hjk
      go_wp2_with fail
      go_roundg (hs.length - (jj + 1))
      case measure => omega
      case rel => exact ⟨jj + 1, by omega, by omega, by go_num, HBz⟩
   ·have hkk2 : kk = hs.length := by omega
    subst hkk2
    go_wp2_with fail
    go_loopg [107] 3 (fun gg s107 wy => ∃ k : Nat, k ≤ 3 ∧ 3 - k ≤ gg ∧ s107 = .int .i64 k ∧ Aside0 (Below wa.heap.size wa wy))
    case atStart => exact ⟨0, Nat.zero_le _, by omega, rfl, HB⟩
    case round =>
     rename World => wy
     obtain ⟨k, hk3, hgk, rfl, HBy⟩ := hrel
     have hszy := HBy.out.size
     by_cases hk : k < 3
     ·have hkz : (k : Int) < 3 := by omega
      obtain ⟨ha, hb, h6a, h6b, hi⟩ := idx6 k hk
      obtain ⟨gh, hgh⟩ : ∃ gh, wy.heap.size = gh := ⟨_, rfl⟩
      obtain ⟨Wh, hWh⟩ : ∃ Wh, wy.alloc (.cells #[.string ha, .string hb] 70) = Wh := ⟨_, rfl⟩
      have qh : Below wy.heap.size wy Wh := by rw [← hWh]; exact below_alloc1 _ _
      have BH := Aside0.mk (show Wh.heap[gh]? = some (.cells #[.string ha, .string hb] 70 (0, 0)) by rw [← hWh, ← hgh]; exact alloc_at _ _)
      have HBh := Aside0.mk (HBy.out.trans (qh.mono HBy.out.size))
      have hgha := Nat.le_of_eq hgh
      have hghb := Nat.le_of_eq hgh.symm
      have HWh := Lib.hid hWh
      have H6 := Lib.hid (And.intro h6a h6b)
      clear hWh qh h6a h6b
      go_upto_region 22 with fail
      rw [HWh.out]
      clear HWh hgh hi
      have x0 := (blk_cell BH.out 0).trans rfl
      have x1 := (blk_cell BH.out 1).trans rfl
      go_wp2_with fail
      clear x0 x1 BH
      go_loopg [112] 2 (fun gg s112 wz => ∃ j : Nat, j ≤ 2 ∧ 2 - j ≤ gg ∧ s112 = .int .i64 j ∧ Aside0 (Below wa.heap.size wa wz))
      case atStart => exact ⟨0, Nat.zero_le _, by omega, rfl, HBh⟩
      case round =>
       rename World => wz
       obtain ⟨j, hj2, hgj, rfl, HBz⟩ := hrel
       by_cases hj : j < 2
       ·have hjz : (j : Int) < 2 := by omega
        obtain ⟨hd, h6, hi⟩ := idxh ha hb k j H6.out.1 H6.out.2 hj
        clear h6
        go_wp2_with fail
        clear hi
        go_loopg [19, 117] hs.length (fun gg s19 s117 wu => ∃ ii : Nat, ii ≤ hs.length ∧ hs.length - ii ≤ gg ∧ s117 = .int .i64 ii ∧ s19 = .bool ((hs.take ii).any (isH hd (k : Int))) ∧ Aside0 (Below wa.heap.size wa wu))
        case atStart => exact ⟨0, Nat.zero_le _, by omega, rfl, by simp, HBz⟩
        case round =>
         rename World => wu
         obtain ⟨ii, hii, hgi, rfl, rfl, HBu⟩ := hrel
         by_cases hil : ii < hs.length
         ·have hilz : (ii : Int) < (hs.length : Int) := by omega
          obtain ⟨an, am, e1, e2, n0, m0⟩ := heads_at (Kd.C_below HCn.out HBu.out) (Kd.C_below HCm.out HBu.out) ii hil
          subst e1
          subst e2
          have HAn := Lib.hid (any_take_succ (p := isH hd (k : Int)) hil)
          obtain ⟨y, hy⟩ : ∃ y, hs[ii] = y := ⟨_, rfl⟩
          rw [hy] at n0 m0 HAn
          obtain ⟨bb, hbb⟩ : ∃ bb, (hs.take ii).any (isH hd (k : Int)) = bb := ⟨_, rfl⟩
          rw [hbb] at HAn ⊢
          have te := sEq y.f0 hd
          clear hy hbb
          cases bb with
          | true =>
           have HV := Lib.hid (show true = (hs.take (ii + 1)).any (isH hd (k : Int)) by rw [HAn.out, Bool.true_or])
           clear te HAn
           go_wp2_with fail
           go_roundg (hs.length - (ii + 1))
           case measure => omega
           case rel => exact ⟨ii + 1, by omega, by omega, by go_num, congrArg Value.bool HV.out, HBu⟩
          | false =>
           cases hc : decide (y.f0 = hd) with
           | true =>
            rw [hc] at te
            have HV := Lib.hid (show (y.f1 == (k : Int)) = (hs.take (ii + 1)).any (isH hd (k : Int)) by rw [HAn.out, Bool.false_or, isH, hc, Bool.true_and])
            clear HAn hc
            go_wp2_with fail
            go_roundg (hs.length - (ii + 1))
            case measure => omega
            case rel => exact ⟨ii + 1, by omega, by omega, by go_num, congrArg Value.bool HV.out, HBu⟩
           | false =>
            rw [hc] at te
            have HV := Lib.hid (show false = (hs.take (ii + 1)).any (isH hd (k : Int)) by rw [HAn.out, Bool.false_or, isH, hc, Bool.false_and])
            clear HAn hc
            go_wp2_with fail
            go_roundg (hs.length - (ii + 1))
            case measure => omega
            case rel => exact ⟨ii + 1, by omega, by omega, by go_num, congrArg Value.bool HV.out, HBu⟩
         ·have hi2 : ii = hs.length := by omega
          subst hi2
          obtain ⟨cb, hcb⟩ : ∃ cb, (hs.take hs.length).any (isH hd (k : Int)) = cb := ⟨_, rfl⟩
          rw [hcb]
          have HHa := Lib.hid (show Calls Tryz.prog 27 #[.string hd, .int .i64 (k : Int), .pointer (some ⟨gp, 0, none⟩)] wu (fun en w' => en = .returned (.bool cb) ∧ Below wu.heap.size wu w') by
           refine (HHas.out hd (k : Int) wu HBu.out).mono ?_
           rintro en w' ⟨rfl, hb⟩
           refine ⟨?_, hb⟩
           rw [← hcb, List.take_length]
           exact retb (Bool.eq_iff_iff.2 (by rw [isH_any, ← HHs.out]; exact (heads_mem (y := ⟨hd, (k : Int)⟩)).symm)))
          have tcb : (cb != cb) = false := by simp
          clear hcb
          go_wp2_with fail
          refine HHa.out.mono ?_
          rintro en w2' ⟨rfl, hb⟩
          have HB2 := Aside0.mk (HBu.out.trans (hb.mono HBu.out.size))
          clear hb HHa
          go_wp2_with fail
          go_roundg (2 - (j + 1))
          case measure => omega
          case rel => exact ⟨j + 1, by omega, by omega, by go_num, HB2⟩
       ·have hj22 : j = 2 := by omega
        subst hj22
        go_wp2_with fail
        go_roundg (3 - (k + 1))
        case measure => omega
        case rel => exact ⟨k + 1, by omega, by omega, by go_num, HBz⟩
     ·have hk33 : k = 3 := by omega
      subst hk33
      have BPy := Aside0.mk (blk_below BP.out HBy.out)
      have kP := (blk_cell BPy.out 0).trans rfl
      go_wp2_with fail
      clear kP
      go_loopg [21, 149] ps.length (fun gg s21 s149 wy => ∃ kk : Nat, kk ≤ ps.length ∧ ps.length - kk ≤ gg ∧ s149 = .int .i64 kk ∧ s21 = .bool ((ps.take kk).any withinD) ∧ Aside0 (Below wa.heap.size wa wy))
      case atStart => exact ⟨0, Nat.zero_le _, by omega, rfl, by simp, HBy⟩
      case round =>
       clear HBy BPy hszy
       rename World => wr
       obtain ⟨kk, hkk, hg, rfl, rfl, HB⟩ := hrel
       have HQr := Aside0.mk (HQa.out.trans (HB.out.mono HQa.out.size))
       have hsr := HB.out.size
       by_cases hlt : kk < ps.length
       ·have hltz : (kk : Int) < (ps.length : Int) := by omega
        obtain ⟨ap, e0, e1, e2, e3, e4, e5, hA2, hK2, hcells2, x0, x1, x2, x3, x4, x5⟩ := gett6 rfl (Kd.C_below HCp3.out HQr.out) kk hlt
        have HAn := Lib.hid (any_take_succ (p := withinD) hlt)
        obtain ⟨xx, hxx⟩ : ∃ xx, ps[kk] = xx := ⟨_, rfl⟩
        rw [hxx] at hK2 HAn
        subst hA2
        have HMx := Lib.hid (show ps[kk]? = some xx by rw [List.getElem?_eq_getElem hlt, hxx])
        have hFx := K_FK k59_heap hK2
        obtain ⟨Y1, y1, Y2, y2, Y5, y5, he2, g1, G1, g2, G2, g5, G5⟩ := k59_open hK2
        obtain ⟨rfl, rfl, rfl, rfl, rfl, rfl⟩ : e0 = _ ∧ e1 = _ ∧ e2 = _ ∧ e3 = _ ∧ e4 = _ ∧ e5 = _ := by simpa using he2
        obtain ⟨gx, hgx⟩ : ∃ gx, wr.heap.size = gx := ⟨_, rfl⟩
        obtain ⟨Wx, hWx⟩ : ∃ Wx, wr.alloc (.cells #[.string xx.f0, .slice Y1 xx.f1.length y1, .slice Y2 xx.f2.length y2, .int .i64 xx.f3.f0, .string xx.f3.f1, .slice Y5 xx.f3.f2.length y5] 59) = Wx := ⟨_, rfl⟩
        have qx : Below wr.heap.size wr Wx := by rw [← hWx]; exact below_alloc1 _ _
        have BX := Aside0.mk (show Wx.heap[gx]? = some (.cells #[.string xx.f0, .slice Y1 xx.f1.length y1, .slice Y2 xx.f2.length y2, .int .i64 xx.f3.f0, .string xx.f3.f1, .slice Y5 xx.f3.f2.length y5] 59 (0, 0)) by rw [← hWx, ← hgx]; exact alloc_at _ _)
        have HBx := Aside0.mk (HB.out.trans (qx.mono HB.out.size))
        have HFX := Lib.hid (Kd.FK_mono (Kd.FK_below hFx qx) (ok' := fun k => k < Wx.heap.size) (fun k hk => by have := qx.size; omega))
        have HG2 := Aside0.mk (Kd.C_below G2 qx)
        have hcl : xx.f2.length ≤ 10 := (bigD_ok (HOk.out.big xx (List.mem_of_getElem? HMx.out))).2.2.2.2.1
        have HWx := Lib.hid hWx
        have hgxa := Nat.le_of_eq hgx
        have hgxb := Nat.le_of_eq hgx.symm
        clear hK2 he2 hcells2 hFx hWx qx hxx G1 G2 G5 g1 g5
        go_upto_region 39 with fail
        rw [HWx.out]
        clear HWx hgx x0 x1 x2 x3 x4 x5
        have d2 := (blk_cell BX.out 2).trans rfl
        go_wp2_with fail
        clear d2
        go_loopg [156] xx.f2.length (fun gg s156 wz => ∃ jj : Nat, jj ≤ xx.f2.length ∧ xx.f2.length - jj ≤ gg ∧ s156 = .int .i64 jj ∧ Aside0 (Below Wx.heap.size Wx wz))
        case atStart => exact ⟨0, Nat.zero_le _, by omega, rfl, ⟨Below.refl _ _⟩⟩
        case round =>
         rename World => wz
         obtain ⟨jj, hjj, hgj, rfl, HBz⟩ := hrel
         have hszz := HBz.out.size
         by_cases hjl : jj < xx.f2.length
         ·have hjlz : (jj : Int) < (xx.f2.length : Int) := by omega
          obtain ⟨ac, c0, c1, c2, c3, c4, hAc, hKc, _, k0, k1, k2, k3, k4⟩ := gett5 rfl (Kd.C_below HG2.out HBz.out) jj hjl
          subst hAc
          obtain ⟨ca, hca⟩ : ∃ ca, xx.f2[jj] = ca := ⟨_, rfl⟩
          rw [hca] at hKc
          have HCa := Lib.hid (show xx.f2[jj]? = some ca by rw [List.getElem?_eq_getElem hjl, hca])
          obtain ⟨U1, u1, U4, u4, hec, m1, M1, m4, M4⟩ := k62_open hKc
          obtain ⟨rfl, rfl, rfl, rfl, rfl⟩ : c0 = _ ∧ c1 = _ ∧ c2 = _ ∧ c3 = _ ∧ c4 = _ := by simpa using hec
          obtain ⟨gc, hgc⟩ : ∃ gc, wz.heap.size = gc := ⟨_, rfl⟩
          obtain ⟨Wc, hWc⟩ : ∃ Wc, wz.alloc (.cells #[.string ca.f0, .slice U1 ca.f1.length u1, .int .i64 ca.f2.f0, .string ca.f2.f1, .slice U4 ca.f2.f2.length u4] 62) = Wc := ⟨_, rfl⟩
          have qc : Below wz.heap.size wz Wc := by rw [← hWc]; exact below_alloc1 _ _
          have BC := Aside0.mk (show Wc.heap[gc]? = some (.cells #[.string ca.f0, .slice U1 ca.f1.length u1, .int .i64 ca.f2.f0, .string ca.f2.f1, .slice U4 ca.f2.f2.length u4] 62 (0, 0)) by rw [← hWc, ← hgc]; exact alloc_at _ _)
          have HBc := Aside0.mk (HBz.out.trans (qc.mono HBz.out.size))
          have BXc := Aside0.mk (blk_below BX.out HBc.out)
          have h1 := c_Pick xx _ ca.f0 (ca.f1.length : Int) Wc (Kd.FK_mono (Kd.FK_below HFX.out HBc.out) (ok' := fun k => k < Wc.heap.size) (fun k hk => by have := HBc.out.size; omega))
          rw [pick_case (HOk.out.defs kk xx HMx.out) HCa.out] at h1
          have HPi := Lib.hid h1
          clear h1
          have HWc := Lib.hid hWc
          have hgca := Nat.le_of_eq hgc
          have hgcb := Nat.le_of_eq hgc.symm
          clear hKc hec hWc qc hca M1 M4 m4
          go_upto_region 42 with fail
          rw [HWc.out]
          clear HWc hgc k0 k1 k2 k3 k4
          have d0 := (blk_cell BXc.out 0).trans rfl
          have d1 := (blk_cell BXc.out 1).trans rfl
          have d2 := (blk_cell BXc.out 2).trans rfl
          have d3 := (blk_cell BXc.out 3).trans rfl
          have d4 := (blk_cell BXc.out 4).trans rfl
          have d5 := (blk_cell BXc.out 5).trans rfl
          have k0 := (blk_cell BC.out 0).trans rfl
          have k1 := (blk_cell BC.out 1).trans rfl
          go_wp2_with fail
          refine HPi.out.mono ?_
          rintro en w2 ⟨rfl, hb⟩
          have HB2 := Aside0.mk (HBc.out.trans (hb.mono HBc.out.size))
          have tj : ((jj : Int) != (jj : Int)) = false := by simp
          clear hb d0 d1 d2 d3 d4 d5 k0 k1 HPi
          go_wp2_with fail
          go_roundg (xx.f2.length - (jj + 1))
          case measure => omega
          case rel => exact ⟨jj + 1, by omega, by omega, by go_num, HB2⟩
         ·have hj2 : jj = xx.f2.length := by omega
          subst hj2
          obtain ⟨bb, hbb⟩ : ∃ bb, (ps.take kk).any withinD = bb := ⟨_, rfl⟩
          rw [hbb] at HAn ⊢
          clear hbb
          have HBw := Aside0.mk (HBx.out.trans (HBz.out.mono HBx.out.size))
          cases bb with
          | true =>
           have HV := Lib.hid (show true = (ps.take (kk + 1)).any withinD by rw [HAn.out, Bool.true_or])
           clear HAn
           go_wp2_with fail
           go_roundg (ps.length - (kk + 1))
           case measure => omega
           case rel => exact ⟨kk + 1, by omega, by omega, by go_num, congrArg Value.bool HV.out, HBw⟩
          | false =>
           have HV := Lib.hid (show (bodiesD xx).any (anyE outE) = (ps.take (kk + 1)).any withinD by rw [HAn.out, Bool.false_or]; rfl)
           have BXz := Aside0.mk (blk_below BX.out HBz.out)
           have HBo := Lib.hid (c_lbodies xx _ (fun k => k < wz.heap.size) wz (Kd.FK_mono (Kd.FK_below HFX.out HBz.out) (fun k hk => by have := HBz.out.size; omega)) (by omega))
           have d0 := (blk_cell BXz.out 0).trans rfl
           have d1 := (blk_cell BXz.out 1).trans rfl
           have d2 := (blk_cell BXz.out 2).trans rfl
           have d3 := (blk_cell BXz.out 3).trans rfl
           have d4 := (blk_cell BXz.out 4).trans rfl
           have d5 := (blk_cell BXz.out 5).trans rfl
           clear HAn
           go_wp2_with fail
           refine HBo.out.mono ?_
           rintro en w3 ⟨v, rfl, hN, hb⟩
           obtain ⟨Ae, ce, rfl, hce, hCe⟩ := RowN.reads hN (fun k hk hlt => hb.block k hlt)
           have HB3 := Aside0.mk (HBw.out.trans (hb.mono HBw.out.size))
           have HHa := Lib.hid (hasE_p Ae ce (bodiesD xx) w3 hce hCe 38 #[] (enters_of Tryz.func38 (by kernel_rfl) rfl) (anyE outE) (fun y cy W2 hy hKy hb2 => c_Hd2 y cy W2 hKy))
           clear d0 d1 d2 d3 d4 d5 hb hN hCe HBo
           go_wp2_with fail
           refine HHa.out.mono ?_
           rintro en w4 ⟨rfl, hb⟩
           have HB4 := Aside0.mk (HB3.out.trans (hb.mono HB3.out.size))
           clear hb HHa
           go_wp2_with fail
           go_roundg (ps.length - (kk + 1))
           case measure => omega
           case rel => exact ⟨kk + 1, by omega, by omega, by go_num, congrArg Value.bool HV.out, HB4⟩
       ·have hk2 : kk = ps.length := by omega
        subst hk2
        obtain ⟨wb, hwb⟩ : ∃ wb, (ps.take ps.length).any withinD = wb := ⟨_, rfl⟩
        rw [hwb]
        have hw0 : sb = !wb := by rw [HSw.out, ← hwb, List.take_length]
        have tsb : (sb == wb) = false := by rw [hw0]; cases wb <;> rfl
        have HAw := Lib.hid (c_awake wr)
        have HQz := Aside0.mk (Q.out.trans ((Q2.out.trans (HQr.out.mono Q2.out.size)).mono Q.out.size))
        clear hwb hw0
        go_wp2_with fail
        refine HAw.out.mono ?_
        rintro en wu ⟨rfl, hb⟩
        have Qu := Aside0.mk (HQz.out.trans (hb.mono HQz.out.size))
        clear hb HAw
        go_wp2_with fail
        go_ret
        exact ⟨rfl, Qu.out⟩
end Go.Proofs.YtacefdkfbpgedaaGreat.Mine
