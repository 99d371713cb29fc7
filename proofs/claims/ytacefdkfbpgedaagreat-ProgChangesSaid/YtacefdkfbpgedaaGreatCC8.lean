/- The reference's Find, Check, Named. -/
import Derived.Test.YtacefdkfbpgedaaGreatCC7
import Derived.Test.YtacefdkfbpgedaaGreatCC5
import Derived.Deep.RegionLaw
import Derived.Deep.DeepMust
import Derived.Deep.DeepCutAuto
import Derived.BigRegion
namespace Go.Proofs.YtacefdkfbpgedaaGreat.Mine
open Go.Proofs.YtacefdkfbpgedaaGreat.PProgSmall
open Go.RowKit Go.Shelf Go.Proofs.YtacefdkfbpgedaaGreatW.PrintWords Go.Proofs.YtacefdkfbpgedaaGreatW.PrintLast Go.Proofs.YtacefdkfbpgedaaGreatW.PrintMore
set_option linter.unusedVariables false
set_option linter.unusedSimpArgs false
set_option maxRecDepth 100000 in
set_option maxHeartbeats 2000000 in
theorem c_rFind (defs : List De) (A : Option Addr) (c : Nat) (s : ByteArray) (w : World) (hr : Kd.C k59 w A defs.length defs) (hc : defs.length ≤ c) :
  Calls Tryz.prog 12 #[.agg #[.slice A defs.length c], .string s] w fun en w' => en = .returned (.int .i64 (numD defs s)) ∧ Below w.heap.size w w' := by
 obtain ⟨W1, hW1⟩ : ∃ W1, w.alloc (.cells #[.slice A defs.length c] 24) = W1 := ⟨_, rfl⟩
 have q1 : Below w.heap.size w W1 := by rw [← hW1]; exact below_alloc1 _ _
 have bP : W1.heap[w.heap.size]? = some (.cells #[.slice A defs.length c] 24 (0, 0)) := by rw [← hW1]; exact alloc_at _ _
 have z1 : W1.heap.size = w.heap.size + 1 := by rw [← hW1]; simp
 have hmd := hr.2.1
 have HF := Lib.hid (Kd.C_F k59_heap hr)
 have HR := Lib.hid hr
 have Q := Aside0.mk q1
 have B := Aside0.mk bP
 have HW1 := Lib.hid hW1
 have HZ1 := Lib.hid z1
 clear hr q1 bP hW1 z1
 go_enter Tryz.func12, Tryz.ntmps12
 go_wp2_with fail
 rw [HW1.out]
 go_wp2
 go_loopg [5] defs.length (fun gg s5 wr => ∃ kk : Nat, kk ≤ defs.length ∧ defs.length - kk ≤ gg ∧ s5 = .int .i64 kk ∧ Aside0 (∀ j x, j < kk → defs[j]? = some x → decide (x.f0 = s) = false) ∧ W1 = wr)
 case atStart => exact ⟨0, Nat.zero_le _, by omega, rfl, ⟨fun j x hj => absurd hj (Nat.not_lt_zero _)⟩, rfl⟩
 case round =>
  obtain ⟨kk, hkk, hg, rfl, HI, rfl⟩ := hrel
  have kP := (blk_cell B.out 0).trans rfl
  by_cases hlt : kk < defs.length
  ·have hltz : (kk : Int) < (defs.length : Int) := by omega
   obtain ⟨ad, g0, g1, g2, g3, g4, g5, rfl, hK, hcells, y0, y1, y2, y3, y4, y5⟩ := gett6 rfl (Kd.C_below HR.out Q.out) kk hlt
   have hFK := elemF HF.out kk hlt rfl hcells (fun p v hp hv => (Q.out).cell (World.block_lt_of_cell? _ _ hv) |>.trans hv) (by decide)
   have hmem := List.getElem_mem hlt
   obtain ⟨dd, hdd⟩ : ∃ dd, defs[kk] = dd := ⟨_, rfl⟩
   have HK := Lib.hid (show defs[kk]? = some dd by rw [List.getElem?_eq_getElem hlt, hdd])
   rw [hdd] at hFK hmem
   obtain ⟨Z1, z1, Z2, z2, Z5, z5, he, _⟩ := k59_openF hFK
   obtain ⟨rfl, rfl, rfl, rfl, rfl, rfl⟩ : g0 = _ ∧ g1 = _ ∧ g2 = _ ∧ g3 = _ ∧ g4 = _ ∧ g5 = _ := by simpa using he
   have HDd := Lib.hid hdd
   have HFk := Lib.hid (show Kd.FK k59 W1 (fun k => k < (W1).heap.size) dd [.string dd.f0, .slice Z1 dd.f1.length z1, .slice Z2 dd.f2.length z2, .int .i64 dd.f3.f0, .string dd.f3.f1, .slice Z5 dd.f3.f2.length z5] from Kd.FK_mono (Kd.FK_below hFK (Q.out)) (fun k hk => by have := (Q.out).size; omega))
   clear hK hcells hFK he hdd
   have kP := (blk_cell B.out 0).trans rfl
   by_cases he : dd.f0 = s
   ·have hb : (dd.f0.toList == s.toList) = true := by rw [sEq]; simpa using he
    have HE := Lib.hid he
    clear he
    go_wp2
    go_ret
    exact ⟨reti (idxB_some HK.out (by simpa using HE.out) HI.out).symm, Q.out⟩
   ·have hb : (dd.f0.toList == s.toList) = false := by rw [sEq]; simpa using he
    have HE := Lib.hid he
    clear he
    go_wp2
    go_roundg (defs.length - (kk + 1))
    case measure => omega
    case rel => exact ⟨kk + 1, by omega, by omega, by go_num, ⟨none_snoc (p := fun x : De => decide (x.f0 = s)) HI.out HK.out (by simpa using HE.out)⟩, rfl⟩
  ·have : kk = defs.length := by omega
   subst this
   go_wp2
   go_ret
   exact ⟨reti (idxB_none HI.out).symm, Q.out⟩
theorem numD_first {defs : List De} {i : Nat} {d : De} (h : defs[i]? = some d) : ∃ k : Nat, numD defs d.f0 = (k : Int) ∧ k ≤ i ∧ ∃ x, defs[k]? = some x ∧ x.f0 = d.f0 := by
 have hi := (List.getElem?_eq_some_iff.1 h).1
 have he := (List.getElem?_eq_some_iff.1 h).2
 have ha : defs.any (fun x => decide (x.f0 = d.f0)) = true := List.any_eq_true.2 ⟨d, List.mem_of_getElem? h, by simp⟩
 have hlt := List.findIdx_lt_length_of_exists (p := fun x : De => decide (x.f0 = d.f0)) (xs := defs) ⟨d, List.mem_of_getElem? h, by simp⟩
 refine ⟨defs.findIdx (fun x => decide (x.f0 = d.f0)), by rw [numD, idxB, if_pos ha], ?_, defs[defs.findIdx (fun x => decide (x.f0 = d.f0))], List.getElem?_eq_getElem hlt, by have := List.findIdx_getElem (w := hlt); simpa using this⟩
 rcases Nat.lt_or_ge i (defs.findIdx (fun x => decide (x.f0 = d.f0))) with h2 | h2
 ·have := List.not_of_lt_findIdx h2
  simp [he] at this
 ·exact h2
theorem names_tw {defs : List De} {i : Nat} {d : De} (h : defs[i]? = some d) (hn : numD defs d.f0 < (i : Int)) : twB (defs.map (·.f0)) = true := by
 obtain ⟨k, hk, _, x, hx, he⟩ := numD_first h
 have hi := (List.getElem?_eq_some_iff.1 h).1
 have hd := (List.getElem?_eq_some_iff.1 h).2
 refine twB_of (k := i) (by simpa using hi) ?_
 rw [List.mem_iff_getElem?]
 refine ⟨k, ?_⟩
 rw [List.getElem?_take, if_pos (by omega), List.getElem?_map, hx]
 simp [he, hd]
theorem names_no {defs : List De} {i : Nat} {d : De} (h : defs[i]? = some d) (hn : ¬ numD defs d.f0 < (i : Int)) (hnd : ((defs.map (·.f0)).take i).Nodup) : ((defs.map (·.f0)).take (i + 1)).Nodup := by
 have hi := (List.getElem?_eq_some_iff.1 h).1
 have hd := (List.getElem?_eq_some_iff.1 h).2
 refine nodup_take_succ (by simpa using hi) hnd (fun hm => ?_)
 obtain ⟨j, hj⟩ := List.mem_iff_getElem?.1 hm
 rw [List.getElem?_take] at hj
 split at hj
 ·next hji =>
  rw [List.getElem?_map] at hj
  obtain ⟨y, hy, hye⟩ := Option.map_eq_some_iff.1 hj
  have hye : y.f0 = d.f0 := by simpa [hd] using hye
  rw [← hye] at hn
  obtain ⟨k, hk, hkj, _⟩ := numD_first hy
  omega
 ·simp at hj
abbrev FdS (W0 : World) (B : Nat) (P : Value) (p : Addr) (v : Value) (W : World) : Prop := Below W0.heap.size W0 W ∧ W.cell? ⟨B, 0, none⟩ = some P ∧ W.cell? p = some v
theorem FdS.step {W0 : World} {B : Nat} {P : Value} {p : Addr} {v : Value} {W W' : World} (h : FdS W0 B P p v W) (hb : Below W.heap.size W W') : FdS W0 B P p v W' := by
 obtain ⟨h0, h1, h2⟩ := h
 exact ⟨h0.trans (hb.mono h0.size), pw_cell_below hb h1, pw_cell_below hb h2⟩
set_option maxRecDepth 100000 in
set_option maxHeartbeats 8000000 in
theorem c_rCheck (defs : List De) (A : Option Addr) (c : Nat) (w : World) (hr : Kd.C k59 w A defs.length defs) (hc : defs.length ≤ c) (hok : OkP defs) :
  Calls Tryz.prog 42 #[.agg #[.slice A defs.length c]] w fun en w' => en = .returned (.int .i64 (checkP defs)) ∧ Below w.heap.size w w' := by
 have hn := hok.n
 have HFi := Lib.hid (fun W (hb : Below w.heap.size w W) s => c_rFind defs A c s W (Kd.C_below hr hb) hc)
 obtain ⟨W1, hW1⟩ : ∃ W1, w.alloc (.cells #[.slice A defs.length c] 24) = W1 := ⟨_, rfl⟩
 have q1 : Below w.heap.size w W1 := by rw [← hW1]; exact below_alloc1 _ _
 have bP : W1.heap[w.heap.size]? = some (.cells #[.slice A defs.length c] 24 (0, 0)) := by rw [← hW1]; exact alloc_at _ _
 have z1 : W1.heap.size = w.heap.size + 1 := by rw [← hW1]; simp
 have hmd := hr.2.1
 have HF := Lib.hid (Kd.C_F k59_heap hr)
 have HR := Lib.hid hr
 have Q := Aside0.mk q1
 have B := Aside0.mk bP
 have HW1 := Lib.hid hW1
 have HZ1 := Lib.hid z1
 clear hr q1 bP hW1 z1
 have kP := (blk_cell B.out 0).trans rfl
 cases t1 : decide ((defs.length : Int) < 1) with
 | true =>
  have HX := Lib.hid (show checkP defs = 2 by rw [checkP, t1]; rfl)
  go_enter Tryz.func42, Tryz.ntmps42
  go_wp2_with fail
  rw [HW1.out]
  go_wp2
  go_ret
  exact ⟨reti HX.out.symm, Q.out⟩
 | false =>
 cases t2 : decide ((12 : Int) < (defs.length : Int)) with
 | true =>
  have HX := Lib.hid (show checkP defs = 2 by rw [checkP, t1, t2]; rfl)
  go_enter Tryz.func42, Tryz.ntmps42
  go_wp2_with fail
  rw [HW1.out]
  go_wp2
  go_ret
  exact ⟨reti HX.out.symm, Q.out⟩
 | false =>
 have HX := Lib.hid (show checkP defs = _ by rw [checkP, t1, t2, cond_false, cond_false])
 go_enter Tryz.func42, Tryz.ntmps42
 go_wp2_with fail
 rw [HW1.out]
 go_wp2
 clear kP
 go_loopg [3] defs.length (fun gg s3 wr => ∃ kk : Nat, kk ≤ defs.length ∧ defs.length - kk ≤ gg ∧ s3 = .int .i64 kk ∧ Aside0 (∀ j y, j < kk → defs[j]? = some y → rightE y = 0) ∧ Aside0 (Below w.heap.size w wr) ∧ Aside0 (wr.heap[w.heap.size]? = some (.cells #[.slice A defs.length c] 24 (0, 0))))
 case atStart => exact ⟨0, Nat.zero_le _, by omega, rfl, ⟨fun j y h => absurd h (Nat.not_lt_zero _)⟩, Q, B⟩
 case round =>
  obtain ⟨kk, hkk, hg, rfl, HA, HB, BK⟩ := hrel
  by_cases hlt : kk < defs.length
  ·have hltz : (kk : Int) < (defs.length : Int) := by omega
   obtain ⟨ad, g0, g1, g2, g3, g4, g5, rfl, hK, hcells, y0, y1, y2, y3, y4, y5⟩ := gett6 rfl (Kd.C_below HR.out HB.out) kk hlt
   have hFK := elemF HF.out kk hlt rfl hcells (fun p v hp hv => (HB.out).cell (World.block_lt_of_cell? _ _ hv) |>.trans hv) (by decide)
   have hmem := List.getElem_mem hlt
   obtain ⟨dd, hdd⟩ : ∃ dd, defs[kk] = dd := ⟨_, rfl⟩
   have HK := Lib.hid (show defs[kk]? = some dd by rw [List.getElem?_eq_getElem hlt, hdd])
   rw [hdd] at hFK hmem
   obtain ⟨Z1, z1, Z2, z2, Z5, z5, he, _⟩ := k59_openF hFK
   obtain ⟨rfl, rfl, rfl, rfl, rfl, rfl⟩ : g0 = _ ∧ g1 = _ ∧ g2 = _ ∧ g3 = _ ∧ g4 = _ ∧ g5 = _ := by simpa using he
   have HDd := Lib.hid hdd
   have HFk := Lib.hid (show Kd.FK k59 wr (fun k => k < (wr).heap.size) dd [.string dd.f0, .slice Z1 dd.f1.length z1, .slice Z2 dd.f2.length z2, .int .i64 dd.f3.f0, .string dd.f3.f1, .slice Z5 dd.f3.f2.length z5] from Kd.FK_mono (Kd.FK_below hFK (HB.out)) (fun k hk => by have := (HB.out).size; omega))
   clear hK hcells hFK he hdd
   have kP := (blk_cell BK.out 0).trans rfl
   have HC := Lib.hid (c_rcheck dd _ wr HFk.out (hok.d _ hmem) (by have := hok.z _ hmem; omega))
   go_wp2_with fail
   refine HC.out.mono ?_
   rintro en w2 ⟨rfl, hb2⟩
   have HB2 := Aside0.mk (HB.out.trans (hb2.mono HB.out.size))
   have BK2 := Aside0.mk (blk_below BK.out hb2)
   clear hb2
   cases he : (rightE dd != 0) with
   | true =>
    have HE := Lib.hid he
    go_wp2
    go_ret
    have hne : rightE dd ≠ 0 := by simpa using HE.out
    have hfe := firstErr_i HK.out hne HA.out
    exact ⟨reti (by rw [HX.out, if_neg (by rw [hfe]; exact hne), hfe]), HB2.out⟩
   | false =>
    have HE := Lib.hid he
    go_wp2
    go_roundg (defs.length - (kk + 1))
    case measure => omega
    case rel => exact ⟨kk + 1, by omega, by omega, by go_num, ⟨zero_snoc HA.out HK.out (by simpa using HE.out)⟩, HB2, BK2⟩
  ·have : kk = defs.length := by omega
   subst this
   have kP := (blk_cell BK.out 0).trans rfl
   have HX2 := Lib.hid (HX.out.trans (by rw [if_pos (firstErr_all HA.out)]))
   clear HX HA
   go_wp2
   clear kP
   go_loopg [5] defs.length (fun gg s5 wr => ∃ kk : Nat, kk ≤ defs.length ∧ defs.length - kk ≤ gg ∧ s5 = .int .i64 kk ∧ Aside0 (((defs.map (·.f0)).take kk).Nodup) ∧ Aside0 (Below w.heap.size w wr) ∧ Aside0 (wr.heap[w.heap.size]? = some (.cells #[.slice A defs.length c] 24 (0, 0))))
   case atStart => exact ⟨0, Nat.zero_le _, by omega, rfl, ⟨by simp⟩, HB, BK⟩
   case round =>
    obtain ⟨kk, hkk, hg, rfl, HA, HB, BK⟩ := hrel
    by_cases hlt : kk < defs.length
    ·have hltz : (kk : Int) < (defs.length : Int) := by omega
     obtain ⟨ad, g0, g1, g2, g3, g4, g5, rfl, hK, hcells, y0, y1, y2, y3, y4, y5⟩ := gett6 rfl (Kd.C_below HR.out HB.out) kk hlt
     have hFK := elemF HF.out kk hlt rfl hcells (fun p v hp hv => (HB.out).cell (World.block_lt_of_cell? _ _ hv) |>.trans hv) (by decide)
     have hmem := List.getElem_mem hlt
     obtain ⟨dd, hdd⟩ : ∃ dd, defs[kk] = dd := ⟨_, rfl⟩
     have HK := Lib.hid (show defs[kk]? = some dd by rw [List.getElem?_eq_getElem hlt, hdd])
     rw [hdd] at hFK hmem
     obtain ⟨Z1, z1, Z2, z2, Z5, z5, he, _⟩ := k59_openF hFK
     obtain ⟨rfl, rfl, rfl, rfl, rfl, rfl⟩ : g0 = _ ∧ g1 = _ ∧ g2 = _ ∧ g3 = _ ∧ g4 = _ ∧ g5 = _ := by simpa using he
     have HDd := Lib.hid hdd
     have HFk := Lib.hid (show Kd.FK k59 wr (fun k => k < (wr).heap.size) dd [.string dd.f0, .slice Z1 dd.f1.length z1, .slice Z2 dd.f2.length z2, .int .i64 dd.f3.f0, .string dd.f3.f1, .slice Z5 dd.f3.f2.length z5] from Kd.FK_mono (Kd.FK_below hFK (HB.out)) (fun k hk => by have := (HB.out).size; omega))
     clear hK hcells hFK he hdd
     have kP := (blk_cell BK.out 0).trans rfl
     have hS0 : FdS wr w.heap.size (.slice (some ad) defs.length c) (ad.add (kk * 6)) (.string dd.f0) wr := ⟨Below.refl _ _, kP, y0⟩
     obtain ⟨nn, hnn⟩ : ∃ nn, numD defs dd.f0 = nn := ⟨_, rfl⟩
     have HNn := Lib.hid hnn
     have HC := Lib.hid (fun W (hS : FdS wr w.heap.size (.slice (some ad) defs.length c) (ad.add (kk * 6)) (.string dd.f0) W) => (HFi.out W (HB.out.trans (hS.1.mono HB.out.size)) dd.f0).mono (R' := fun e W' => e = .returned (.int .i64 nn) ∧ FdS wr w.heap.size (.slice (some ad) defs.length c) (ad.add (kk * 6)) (.string dd.f0) W') (by rintro e W' ⟨h1, h2⟩; exact ⟨by rw [h1, hnn], hS.step h2⟩))
     clear hnn y1 y2 y3 y4 y5
     cases t3 : decide (nn < (kk : Int)) with
     | true =>
      have HT := Lib.hid t3
      go_wp2_with fail
      go_region_held3 (fun W => FdS wr w.heap.size (.slice (some ad) defs.length c) (ad.add (kk * 6)) (.string dd.f0) W) (first | assumption | exact hS0.step (below_drew (Below.refl _ _))) (first | (go_at_call 12; (with_reducible refine (HC.out _ (by assumption)).mono ?_); rintro e w5 ⟨rfl, hS5⟩))
      go_wp2
      go_ret
      exact ⟨reti (by rw [HX2.out, names_tw HK.out (by rw [HNn.out]; simpa using HT.out)]; rfl), HB.out.trans (hS5.1.mono HB.out.size)⟩
     | false =>
      have HT := Lib.hid t3
      go_wp2_with fail
      go_region_held3 (fun W => FdS wr w.heap.size (.slice (some ad) defs.length c) (ad.add (kk * 6)) (.string dd.f0) W) (first | assumption | exact hS0.step (below_drew (Below.refl _ _))) (first | (go_at_call 12; (with_reducible refine (HC.out _ (by assumption)).mono ?_); rintro e w5 ⟨rfl, hS5⟩))
      have HB5 := Aside0.mk (HB.out.trans (hS5.1.mono HB.out.size))
      have BK5 := Aside0.mk (blk_below BK.out hS5.1)
      clear hS5 hS0
      go_wp2
      go_roundg (defs.length - (kk + 1))
      case measure => omega
      case rel => exact ⟨kk + 1, by omega, by omega, by go_num, ⟨names_no HK.out (by rw [HNn.out]; simpa using HT.out) HA.out⟩, HB5, BK5⟩
    ·have : kk = defs.length := by omega
     subst this
     have kP := (blk_cell BK.out 0).trans rfl
     have HX3 := Lib.hid (HX2.out.trans (by rw [twB_take (l := defs.map (·.f0)) (by rw [List.length_map]; exact HA.out)]))
     clear HX2 HA
     go_wp2
     clear kP
     go_loopg [6] defs.length (fun gg s6 wr => ∃ kk : Nat, kk ≤ defs.length ∧ defs.length - kk ≤ gg ∧ s6 = .int .i64 kk ∧ Aside0 (∀ j y, j < kk → defs[j]? = some y → callsD defs y = 0) ∧ Aside0 (Below w.heap.size w wr) ∧ Aside0 (wr.heap[w.heap.size]? = some (.cells #[.slice A defs.length c] 24 (0, 0))))
     case atStart => exact ⟨0, Nat.zero_le _, by omega, rfl, ⟨fun j y h => absurd h (Nat.not_lt_zero _)⟩, HB, BK⟩
     case round =>
      obtain ⟨kk, hkk, hg, rfl, HA, HB, BK⟩ := hrel
      by_cases hlt : kk < defs.length
      ·have hltz : (kk : Int) < (defs.length : Int) := by omega
       obtain ⟨ad, g0, g1, g2, g3, g4, g5, rfl, hK, hcells, y0, y1, y2, y3, y4, y5⟩ := gett6 rfl (Kd.C_below HR.out HB.out) kk hlt
       have hFK := elemF HF.out kk hlt rfl hcells (fun p v hp hv => (HB.out).cell (World.block_lt_of_cell? _ _ hv) |>.trans hv) (by decide)
       have hmem := List.getElem_mem hlt
       obtain ⟨dd, hdd⟩ : ∃ dd, defs[kk] = dd := ⟨_, rfl⟩
       have HK := Lib.hid (show defs[kk]? = some dd by rw [List.getElem?_eq_getElem hlt, hdd])
       rw [hdd] at hFK hmem
       obtain ⟨Z1, z1, Z2, z2, Z5, z5, he, _⟩ := k59_openF hFK
       obtain ⟨rfl, rfl, rfl, rfl, rfl, rfl⟩ : g0 = _ ∧ g1 = _ ∧ g2 = _ ∧ g3 = _ ∧ g4 = _ ∧ g5 = _ := by simpa using he
       have HDd := Lib.hid hdd
       have HFk := Lib.hid (show Kd.FK k59 wr (fun k => k < (wr).heap.size) dd [.string dd.f0, .slice Z1 dd.f1.length z1, .slice Z2 dd.f2.length z2, .int .i64 dd.f3.f0, .string dd.f3.f1, .slice Z5 dd.f3.f2.length z5] from Kd.FK_mono (Kd.FK_below hFK (HB.out)) (fun k hk => by have := (HB.out).size; omega))
       clear hK hcells hFK he hdd
       have kP := (blk_cell BK.out 0).trans rfl
       have HC := Lib.hid (c_rall dd _ (fun k => k < wr.heap.size) wr HFk.out (fun k hk => hk) (by have := (hok.d _ hmem).c; omega) (by have := hok.z _ hmem; omega))
       go_wp2_with fail
       refine HC.out.mono ?_
       rintro en w2 ⟨v, rfl, hN, hb2⟩
       obtain ⟨es, hes⟩ : ∃ es, eachD dd = es := ⟨_, rfl⟩
       rw [hes] at hN
       obtain ⟨Ae, ce, rfl, hce, hCe⟩ := Kd.N_reads hN
       have hme := hCe.2.1
       have HCe := Aside0.mk hCe
       have HEs := Lib.hid (show callsD defs dd = firstErr (callErr defs) es by rw [callsD, hes])
       have HB2 := Aside0.mk (HB.out.trans (hb2.mono HB.out.size))
       have BK2 := Aside0.mk (blk_below BK.out hb2)
       clear hb2 hN hCe hes HC kP y0 y1 y2 y3 y4 y5
       obtain ⟨adp, hadp⟩ : ∃ adp, adp = ad := ⟨_, rfl⟩
       go_wp2
       go_loopg [8] es.length (fun gg s8 wx => ∃ jj : Nat, jj ≤ es.length ∧ es.length - jj ≤ gg ∧ s8 = .int .i64 jj ∧ Aside0 (∀ j y, j < jj → es[j]? = some y → callErr defs y = 0) ∧ Aside0 (Below w2.heap.size w2 wx))
       case atStart => exact ⟨0, Nat.zero_le _, by omega, rfl, ⟨fun j y h => absurd h (Nat.not_lt_zero _)⟩, ⟨Below.refl _ _⟩⟩
       case round =>
        obtain ⟨jj, hjj, hg2, rfl, HJ, HW⟩ := hrel
        have HBj := Aside0.mk (HB2.out.trans (HW.out.mono HB2.out.size))
        have BKj := Aside0.mk (blk_below BK2.out HW.out)
        by_cases hlt2 : jj < es.length
        ·have hltz2 : (jj : Int) < (es.length : Int) := by omega
         obtain ⟨ae, c0, c1, c2, rfl, hK, k0, k1, k2⟩ := get3 rfl (Kd.C_below HCe.out HW.out) jj hlt2
         obtain ⟨X2, x2, rfl, rfl, rfl, hl2, hi2⟩ := kE_cells hK
         have hmx := hi2.2.1
         have HXj := Lib.hid (show es[jj]? = some es[jj] from List.getElem?_eq_getElem hlt2)
         obtain ⟨x, hx⟩ : ∃ x, es[jj] = x := ⟨_, rfl⟩
         rw [hx] at k0 k1 k2 HXj hmx
         clear hK hi2 hl2 hx
         by_cases hk3 : x.f0 = 3
         ·have t4 : (x.f0 != 3) = false := by simp [hk3]
          have HK3 := Lib.hid hk3
          clear hk3
          obtain ⟨nn, hnn⟩ : ∃ nn, numD defs x.f1 = nn := ⟨_, rfl⟩
          have HNn := Lib.hid hnn
          have kP := (blk_cell BKj.out 0).trans rfl
          have hS0 : FdS wr w.heap.size (.slice (some ad) defs.length c) ⟨(ae.add (jj * 3)).block, (ae.add (jj * 3)).off + 1, none⟩ (.string x.f1) wr := ⟨Below.refl _ _, kP, k1⟩
          have HC := Lib.hid (fun W (hS : FdS wr w.heap.size (.slice (some ad) defs.length c) ⟨(ae.add (jj * 3)).block, (ae.add (jj * 3)).off + 1, none⟩ (.string x.f1) W) => (HFi.out W (HBj.out.trans (hS.1.mono HBj.out.size)) x.f1).mono (R' := fun e W' => e = .returned (.int .i64 nn) ∧ FdS wr w.heap.size (.slice (some ad) defs.length c) ⟨(ae.add (jj * 3)).block, (ae.add (jj * 3)).off + 1, none⟩ (.string x.f1) W') (by rintro e W' ⟨h1, h2⟩; exact ⟨by rw [h1, hnn], hS.step h2⟩))
          clear hnn k2
          go_wp2_with fail
          go_region_held3 (fun W => FdS wr w.heap.size (.slice (some ad) defs.length c) ⟨(ae.add (jj * 3)).block, (ae.add (jj * 3)).off + 1, none⟩ (.string x.f1) W) (first | assumption | exact hS0.step (below_drew (Below.refl _ _))) (first | (go_at_call 12; (with_reducible refine (HC.out _ (by assumption)).mono ?_); rintro e w5 ⟨rfl, hS5⟩))
          have HW5 := Aside0.mk (HW.out.trans (hS5.1.mono HW.out.size))
          have HB5 := Aside0.mk (HBj.out.trans (hS5.1.mono HBj.out.size))
          have BK5 := Aside0.mk (blk_below BKj.out hS5.1)
          clear hS5 hS0 HC kP k0 k1
          have hnc := idxB_cases (fun d : De => decide (d.f0 = x.f1)) defs
          rw [show idxB (fun d : De => decide (d.f0 = x.f1)) defs = nn from HNn.out] at hnc
          rcases hnc with rfl | ⟨i, rfl, hi⟩
          ·have HEr := Lib.hid (show callErr defs x = 1 by rw [callErr, if_pos HK3.out, HNn.out, if_pos (by omega)])
           go_wp2
           go_ret
           have hfe : firstErr (callErr defs) es = 1 := by rw [firstErr_i HXj.out (by rw [HEr.out]; decide) HJ.out, HEr.out]
           have hfe2 : firstErr (callsD defs) defs = 1 := by rw [firstErr_i HK.out (by rw [HEs.out, hfe]; decide) HA.out, HEs.out, hfe]
           exact ⟨reti (by rw [HX3.out, hfe2]; rfl), HB5.out⟩
          ·have hiz : (i : Int) < (defs.length : Int) := by omega
           have hi0 : (0 : Int) ≤ (i : Int) := by omega
           have hlt0 : decide ((i : Int) < 0) = false := decide_eq_false (by omega)
           obtain ⟨ad', f0, f1, f2, f3, f4, f5, had, hK, hcells, u0, u1, u2, u3, u4, u5⟩ := gett6 rfl (Kd.C_below HR.out HB5.out) i hi
           cases had
           obtain ⟨Y1, y1, Y2, y2, Y5, y5, he, m1, _⟩ := k59_open hK
           obtain ⟨rfl, rfl, rfl, rfl, rfl, rfl⟩ : f0 = _ ∧ f1 = _ ∧ f2 = _ ∧ f3 = _ ∧ f4 = _ ∧ f5 = _ := by simpa using he
           have hpz : defs[i].f1.length ≤ 9223372036854775807 := (k59_open hK).choose_spec.choose_spec.choose_spec.choose_spec.choose_spec.choose_spec.2.2.1.2.1
           clear hK hcells he u0 u2 u3 u4 u5
           obtain ⟨ae', c0, c1, c2, hae, hK, k0, k1, k2⟩ := get3 rfl (Kd.C_below HCe.out HW5.out) jj hlt2
           cases hae
           obtain ⟨X3, x3, rfl, rfl, rfl, hl2, hi2⟩ := kE_cells hK
           have hx2 : es[jj] = x := by have := HXj.out; rw [List.getElem?_eq_getElem hlt2] at this; exact Option.some.inj this
           rw [hx2] at k2
           have kP := (blk_cell BK5.out 0).trans rfl
           clear hK hi2 hl2 k0 k1 hx2
           cases hne : ((x.f2.length : Int) != (defs[i].f1.length : Int)) with
           | false =>
            have HEr := Lib.hid (show callErr defs x = 0 by
             have h1 : (x.f2.length : Int) = (defs[i].f1.length : Int) := by simpa using hne
             rw [callErr, if_pos HK3.out, HNn.out, if_neg (by omega), Int.toNat_natCast, List.getElem?_eq_getElem hi]
             simp [h1])
            go_wp2_with fail
            go_quiet (fail)
            go_wp2
            go_roundg (es.length - (jj + 1))
            case measure => omega
            case rel => exact ⟨jj + 1, by omega, by omega, by go_num, ⟨zero_snoc HJ.out HXj.out HEr.out⟩, ⟨pw_below_drewN HW5.out _⟩⟩
           | true =>
            have HEr := Lib.hid (show callErr defs x = 7 by
             have h1 : ¬ (x.f2.length : Int) = (defs[i].f1.length : Int) := by simpa using hne
             rw [callErr, if_pos HK3.out, HNn.out, if_neg (by omega), Int.toNat_natCast, List.getElem?_eq_getElem hi]
             simp only [if_neg h1])
            go_wp2_with fail
            go_quiet (fail)
            go_wp2
            go_ret
            have hfe : firstErr (callErr defs) es = 7 := by rw [firstErr_i HXj.out (by rw [HEr.out]; decide) HJ.out, HEr.out]
            have hfe2 : firstErr (callsD defs) defs = 7 := by rw [firstErr_i HK.out (by rw [HEs.out, hfe]; decide) HA.out, HEs.out, hfe]
            exact ⟨reti (by rw [HX3.out, hfe2]; rfl), pw_below_drewN HB5.out _⟩
         ·have t4 : (x.f0 != 3) = true := by simp [hk3]
          have HEr := Lib.hid (show callErr defs x = 0 by rw [callErr, if_neg hk3])
          clear hk3
          go_wp2
          go_roundg (es.length - (jj + 1))
          case measure => omega
          case rel => exact ⟨jj + 1, by omega, by omega, by go_num, ⟨zero_snoc HJ.out HXj.out HEr.out⟩, HW⟩
        ·have : jj = es.length := by omega
         subst this
         have HEz := Lib.hid (show callsD defs dd = 0 by rw [HEs.out, firstErr_all HJ.out])
         go_wp2
         go_roundg (defs.length - (kk + 1))
         case measure => omega
         case rel => exact ⟨kk + 1, by omega, by omega, by go_num, ⟨zero_snoc HA.out HK.out HEz.out⟩, HBj, BKj⟩
      ·have : kk = defs.length := by omega
       subst this
       have kP := (blk_cell BK.out 0).trans rfl
       go_wp2
       go_ret
       exact ⟨reti (by rw [HX3.out, firstErr_all HA.out]; rfl), HB.out⟩
end Go.Proofs.YtacefdkfbpgedaaGreat.Mine
namespace Go.Proofs.YtacefdkfbpgedaaGreat.Mine
open Go.Proofs.YtacefdkfbpgedaaGreat.PProgSmall
open Go.RowKit Go.Shelf Go.Proofs.YtacefdkfbpgedaaGreatW.PrintWords Go.Proofs.YtacefdkfbpgedaaGreatW.PrintLast Go.Proofs.YtacefdkfbpgedaaGreatW.PrintMore
set_option linter.unusedVariables false
set_option linter.unusedSimpArgs false
abbrev RcS (W0 : World) (B : Nat) (P : Value) (p : Addr) (g0 g1 g2 g3 g4 g5 : Value) (W : World) : Prop := Below W0.heap.size W0 W ∧ W.cell? ⟨B, 0, none⟩ = some P ∧ W.cell? p = some g0 ∧ W.cell? ⟨p.block, p.off + 1, none⟩ = some g1 ∧ W.cell? ⟨p.block, p.off + 2, none⟩ = some g2 ∧ W.cell? ⟨p.block, p.off + 3, none⟩ = some g3 ∧ W.cell? ⟨p.block, p.off + 4, none⟩ = some g4 ∧ W.cell? ⟨p.block, p.off + 5, none⟩ = some g5
theorem RcS.step {W0 : World} {B : Nat} {P : Value} {p : Addr} {g0 g1 g2 g3 g4 g5 : Value} {W W' : World} (h : RcS W0 B P p g0 g1 g2 g3 g4 g5 W) (hb : Below W.heap.size W W') : RcS W0 B P p g0 g1 g2 g3 g4 g5 W' := by
 obtain ⟨h0, h1, h2, h3, h4, h5, h6, h7⟩ := h
 exact ⟨h0.trans (hb.mono h0.size), pw_cell_below hb h1, pw_cell_below hb h2, pw_cell_below hb h3, pw_cell_below hb h4, pw_cell_below hb h5, pw_cell_below hb h6, pw_cell_below hb h7⟩
abbrev RrS (W0 : World) (B : Nat) (P : Value) (p : Addr) (s : ByteArray) (W : World) : Prop := Below W0.heap.size W0 W ∧ W.cell? ⟨B, 0, none⟩ = some P ∧ W.cell? p = some (.string s)
theorem RrS.step {W0 : World} {B : Nat} {P : Value} {p : Addr} {s : ByteArray} {W W' : World} (h : RrS W0 B P p s W) (hb : Below W.heap.size W W') : RrS W0 B P p s W' := by
 obtain ⟨h0, h1, h2⟩ := h
 exact ⟨h0.trans (hb.mono h0.size), pw_cell_below hb h1, pw_cell_below hb h2⟩
end Go.Proofs.YtacefdkfbpgedaaGreat.Mine
namespace Go.Proofs.YtacefdkfbpgedaaGreat.Mine
open Go.Proofs.YtacefdkfbpgedaaGreat.PProgSmall
open Go.RowKit Go.Shelf Go.Proofs.YtacefdkfbpgedaaGreatW.PrintWords Go.Proofs.YtacefdkfbpgedaaGreatW.PrintLast Go.Proofs.YtacefdkfbpgedaaGreatW.PrintMore
set_option linter.unusedVariables false
set_option linter.unusedSimpArgs false
theorem infoDe : (Tryz.prog.info? 59).map (fun i => (i.zero, i.size, i.bytes)) = some (some (.agg #[.string ⟨#[]⟩, .slice none 0 0, .slice none 0 0, .int .i64 0, .string ⟨#[]⟩, .slice none 0 0]), 6, 112) := by kernel_rfl
end Go.Proofs.YtacefdkfbpgedaaGreat.Mine
namespace Go.Proofs.YtacefdkfbpgedaaGreat.Mine
open Go.Proofs.YtacefdkfbpgedaaGreat.PProgSmall
open Go.RowKit Go.Shelf Go.Proofs.YtacefdkfbpgedaaGreatW.PrintWords Go.Proofs.YtacefdkfbpgedaaGreatW.PrintLast Go.Proofs.YtacefdkfbpgedaaGreatW.PrintMore
set_option linter.unusedVariables false
set_option linter.unusedSimpArgs false
set_option maxHeartbeats 2000000 in
theorem c_rsameListQ (A B : Option Addr) (c d : Nat) (l m : List ByteArray) (w : World) (hr : Kd.C Kd.string w A l.length l) (hc : l.length ≤ c) (hs : Kd.C Kd.string w B m.length m) (hd : m.length ≤ d) :
  Calls Tryz.prog 71 #[.slice A l.length c, .slice B m.length d] w fun e w' => e = .returned (.bool (decide (l = m))) ∧ ∃ n, w' = w.drewN n := by
 have hm1 := hr.2.1
 have hm2 := hs.2.1
 have HR := Aside0.mk hr
 have HS := Aside0.mk hs
 clear hr hs
 by_cases hl : l.length = m.length
 ·have hl1 : ((l.length : Int) != (m.length : Int)) = false := by simp only [bne_eq_false_iff_eq]; omega
  have HL := Lib.hid hl
  clear hl
  go_enter Tryz.func71, Tryz.ntmps71
  go_wp2
  go_loopg [5] l.length (fun gg s5 wr => ∃ kk : Nat, kk ≤ l.length ∧ l.length - kk ≤ gg ∧ s5 = .int .i64 kk ∧ Aside0 (∀ j x y, j < kk → l[j]? = some x → m[j]? = some y → decide (x = y) = true) ∧ Aside0 (∃ n, wr = w.drewN n))
  case atStart => exact ⟨0, Nat.zero_le _, by omega, rfl, ⟨fun j x y hj => absurd hj (Nat.not_lt_zero _)⟩, ⟨⟨0, rfl⟩⟩⟩
  case round =>
   obtain ⟨kk, hkk, hg, rfl, HI, HN⟩ := hrel
   have HB := Aside0.mk (show Below w.heap.size w wr by obtain ⟨n, hn⟩ := HN.out; rw [hn]; exact pw_below_drewN (Below.refl _ _) n)
   by_cases hlt : kk < l.length
   ·have hltz : (kk : Int) < (l.length : Int) := by omega
    have hlt2 : kk < m.length := by have := HL.out; omega
    have hltz2 : (kk : Int) < (m.length : Int) := by omega
    obtain ⟨ad, c0, rfl, hK, k0⟩ := get1 rfl (Kd.C_below HR.out HB.out) kk hlt
    obtain rfl : c0 = .string l[kk] := by simpa [Kd.string, Kd.scalar] using hK
    obtain ⟨bd, d0, rfl, hK2, l0⟩ := get1 rfl (Kd.C_below HS.out HB.out) kk hlt2
    obtain rfl : d0 = .string m[kk] := by simpa [Kd.string, Kd.scalar] using hK2
    have HX := Lib.hid (show l[kk]? = some l[kk] from List.getElem?_eq_getElem hlt)
    have HY := Lib.hid (show m[kk]? = some m[kk] from List.getElem?_eq_getElem hlt2)
    clear hK hK2
    by_cases he : l[kk] = m[kk]
    ·have hb : (l[kk].toList != m[kk].toList) = false := by rw [sNe]; simpa using he
     have hb2 : (l[kk].toList == m[kk].toList) = true := by rw [sEq]; simpa using he
     have HE := Lib.hid he
     clear he
     go_wp2_with fail
     go_quiet (fail)
     go_wp2
     go_roundg (l.length - (kk + 1))
     case measure => omega
     case rel => exact ⟨kk + 1, by omega, by omega, by go_num, ⟨fun j x y hj hx hy => by
      rcases Nat.lt_or_ge j kk with h | h
      ·exact HI.out j x y h hx hy
      ·obtain rfl : j = kk := by omega
       rw [HX.out] at hx; rw [HY.out] at hy
       cases hx; cases hy; simpa using HE.out⟩, ⟨by obtain ⟨n, hn⟩ := HN.out; exact ⟨n + _, by rw [hn, World.drewN_drewN]⟩⟩⟩
    ·have hb : (l[kk].toList != m[kk].toList) = true := by rw [sNe]; simpa using he
     have hb2 : (l[kk].toList == m[kk].toList) = false := by rw [sEq]; simpa using he
     have HE := Lib.hid he
     clear he
     go_wp2_with fail
     go_quiet (fail)
     go_wp2
     go_ret
     exact ⟨retb (by symm; rw [decide_eq_false_iff_not]; intro h; subst h; exact HE.out rfl), by obtain ⟨n, hn⟩ := HN.out; exact ⟨n + _, by rw [hn, World.drewN_drewN]⟩⟩
   ·have : kk = l.length := by omega
    subst this
    go_wp2
    go_ret
    exact ⟨retb (by
     symm; rw [decide_eq_true_iff]
     apply List.ext_getElem HL.out
     intro i h1 h2
     simpa using HI.out i _ _ h1 (List.getElem?_eq_getElem h1) (List.getElem?_eq_getElem h2)), HN.out⟩
 ·have hl1 : ((l.length : Int) != (m.length : Int)) = true := by simp only [bne_iff_ne, ne_eq]; omega
  have HL := Lib.hid hl
  clear hl
  go_enter Tryz.func71, Tryz.ntmps71
  go_wp2
  go_ret
  exact ⟨retb (by symm; rw [decide_eq_false_iff_not]; intro h; exact HL.out (by rw [h])), 0, rfl⟩
theorem c_rsameList (A B : Option Addr) (c d : Nat) (l m : List ByteArray) (w : World) (hr : Kd.C Kd.string w A l.length l) (hc : l.length ≤ c) (hs : Kd.C Kd.string w B m.length m) (hd : m.length ≤ d) :
  Calls Tryz.prog 71 #[.slice A l.length c, .slice B m.length d] w fun e w' => e = .returned (.bool (decide (l = m))) ∧ Below w.heap.size w w' :=
 (c_rsameListQ A B c d l m w hr hc hs hd).mono (fun e w' ⟨h1, n, h2⟩ => ⟨h1, by rw [h2]; exact pw_below_drewN (Below.refl _ _) n⟩)
noncomputable def sameC (c d : Ca) : Bool := decide (c.f0 = d.f0) && (decide (c.f1 = d.f1) && sameE c.f2 d.f2)
noncomputable def sameD (x y : De) : Bool := decide (x.f0 = y.f0) && (decide (x.f1 = y.f1) && (sameE x.f3 y.f3 && eqL sameC x.f2 y.f2))
abbrev SmS (W0 : World) (b6 b7 : Nat) (C6 C7 : Value) (p : Addr) (u0 u1 u2 u3 u4 : Value) (q : Addr) (v0 v1 v2 v3 v4 : Value) (W : World) : Prop := Below W0.heap.size W0 W ∧ W.cell? ⟨b6, 2, none⟩ = some C6 ∧ W.cell? ⟨b7, 2, none⟩ = some C7 ∧
 W.cell? p = some u0 ∧ W.cell? ⟨p.block, p.off + 1, none⟩ = some u1 ∧ W.cell? ⟨p.block, p.off + 2, none⟩ = some u2 ∧ W.cell? ⟨p.block, p.off + 3, none⟩ = some u3 ∧ W.cell? ⟨p.block, p.off + 4, none⟩ = some u4 ∧
 W.cell? q = some v0 ∧ W.cell? ⟨q.block, q.off + 1, none⟩ = some v1 ∧ W.cell? ⟨q.block, q.off + 2, none⟩ = some v2 ∧ W.cell? ⟨q.block, q.off + 3, none⟩ = some v3 ∧ W.cell? ⟨q.block, q.off + 4, none⟩ = some v4
theorem SmS.step {W0 : World} {b6 b7 : Nat} {C6 C7 : Value} {p : Addr} {u0 u1 u2 u3 u4 : Value} {q : Addr} {v0 v1 v2 v3 v4 : Value} {W W' : World} (h : SmS W0 b6 b7 C6 C7 p u0 u1 u2 u3 u4 q v0 v1 v2 v3 v4 W) (hb : Below W.heap.size W W') : SmS W0 b6 b7 C6 C7 p u0 u1 u2 u3 u4 q v0 v1 v2 v3 v4 W' := by
 obtain ⟨h0, h1, h2, h3, h4, h5, h6, h7, h8, h9, h10, h11, h12⟩ := h
 exact ⟨h0.trans (hb.mono h0.size), pw_cell_below hb h1, pw_cell_below hb h2, pw_cell_below hb h3, pw_cell_below hb h4, pw_cell_below hb h5, pw_cell_below hb h6, pw_cell_below hb h7, pw_cell_below hb h8, pw_cell_below hb h9, pw_cell_below hb h10, pw_cell_below hb h11, pw_cell_below hb h12⟩
set_option maxRecDepth 100000 in
set_option maxHeartbeats 8000000 in
theorem c_rSameP (xs ys : List De) (A B : Option Addr) (c d : Nat) (w : World) (hr : Kd.C k59 w A xs.length xs) (hc : xs.length ≤ c) (hr2 : Kd.C k59 w B ys.length ys) (hd : ys.length ≤ d) :
  Calls Tryz.prog 21 #[.agg #[.slice A xs.length c], .agg #[.slice B ys.length d]] w fun en w' => en = .returned (.bool (eqL sameD xs ys)) ∧ Below w.heap.size w w' := by
 have hm1 := hr.2.1
 have hm2 := hr2.2.1
 have HR := Aside0.mk hr
 have HR2 := Aside0.mk hr2
 obtain ⟨W1, hW1⟩ : ∃ W1, (w.alloc (.cells #[.slice A xs.length c] 24)).alloc (.cells #[.slice B ys.length d] 24) = W1 := ⟨_, rfl⟩
 have Q := Aside0.mk (show Below w.heap.size w W1 by rw [← hW1]; exact below_alloc2 _ _ _)
 have B0 := Aside0.mk (show W1.heap[w.heap.size]? = some (.cells #[.slice A xs.length c] 24 (0, 0)) by rw [← hW1]; exact blk_alloc (alloc_at _ _) _)
 have B1 := Aside0.mk (show W1.heap[w.heap.size + 1]? = some (.cells #[.slice B ys.length d] 24 (0, 0)) by rw [← hW1]; have := alloc_at (w.alloc (.cells #[.slice A xs.length c] 24)) (.cells #[.slice B ys.length d] 24); rw [World.size_alloc] at this; exact this)
 have HW1 := Lib.hid hW1
 clear hr hr2 hW1
 have k0 := (blk_cell B0.out 0).trans rfl
 have k1 := (blk_cell B1.out 0).trans rfl
 by_cases hl : xs.length = ys.length
 case neg =>
  have hl1 : ((xs.length : Int) != (ys.length : Int)) = true := by simp only [bne_iff_ne, ne_eq]; omega
  have HL := Lib.hid hl
  clear hl
  go_enter Tryz.func21, Tryz.ntmps21
  go_wp2_with fail
  rw [HW1.out]
  go_wp2
  go_ret
  exact ⟨retb (eqL_len HL.out).symm, Q.out⟩
 have hl1 : ((xs.length : Int) != (ys.length : Int)) = false := by simp only [bne_eq_false_iff_eq]; omega
 have HL := Lib.hid hl
 clear hl
 go_enter Tryz.func21, Tryz.ntmps21
 go_wp2_with fail
 rw [HW1.out]
 go_wp2
 clear k0 k1
 go_loopg [5] xs.length (fun gg s5 wr => ∃ kk : Nat, kk ≤ xs.length ∧ xs.length - kk ≤ gg ∧ s5 = .int .i64 kk ∧ Aside0 (∀ j x y, j < kk → xs[j]? = some x → ys[j]? = some y → sameD x y = true) ∧ Aside0 (Below w.heap.size w wr) ∧ Aside0 (wr.heap[w.heap.size]? = some (.cells #[.slice A xs.length c] 24 (0, 0))) ∧ Aside0 (wr.heap[w.heap.size + 1]? = some (.cells #[.slice B ys.length d] 24 (0, 0))))
 case atStart => exact ⟨0, Nat.zero_le _, by omega, rfl, ⟨fun j x y hj => absurd hj (Nat.not_lt_zero _)⟩, Q, B0, B1⟩
 case round =>
  obtain ⟨kk, hkk, hg, rfl, HI, HB, C0, C1⟩ := hrel
  have k0 := (blk_cell C0.out 0).trans rfl
  have k1 := (blk_cell C1.out 0).trans rfl
  by_cases hlt : kk < xs.length
  ·have hltz : (kk : Int) < (xs.length : Int) := by omega
   have hlt2 : kk < ys.length := by have := HL.out; omega
   have hltz2 : (kk : Int) < (ys.length : Int) := by omega
   obtain ⟨ad, g0, g1, g2, g3, g4, g5, rfl, hK, hcells, y0, y1, y2, y3, y4, y5⟩ := gett6 rfl (Kd.C_below HR.out HB.out) kk hlt
   obtain ⟨Z1, z1, Z2, z2, Z5, z5, he, m1, G1, m2, G2, m5, G5⟩ := k59_open hK
   obtain ⟨rfl, rfl, rfl, rfl, rfl, rfl⟩ : g0 = _ ∧ g1 = _ ∧ g2 = _ ∧ g3 = _ ∧ g4 = _ ∧ g5 = _ := by simpa using he
   obtain ⟨bd, h0, h1, h2, h3, h4, h5, rfl, hK2, hcells2, x0, x1, x2, x3, x4, x5⟩ := gett6 rfl (Kd.C_below HR2.out HB.out) kk hlt2
   obtain ⟨V1, v1, V2, v2, V5, v5, he2, n1, I1, n2, I2, n5, I5⟩ := k59_open hK2
   obtain ⟨rfl, rfl, rfl, rfl, rfl, rfl⟩ : h0 = _ ∧ h1 = _ ∧ h2 = _ ∧ h3 = _ ∧ h4 = _ ∧ h5 = _ := by simpa using he2
   have HX := Lib.hid (show xs[kk]? = some xs[kk] from List.getElem?_eq_getElem hlt)
   have HY := Lib.hid (show ys[kk]? = some ys[kk] from List.getElem?_eq_getElem hlt2)
   obtain ⟨x, hx⟩ : ∃ x, xs[kk] = x := ⟨_, rfl⟩
   obtain ⟨y, hy⟩ : ∃ y, ys[kk] = y := ⟨_, rfl⟩
   rw [hx] at HX y0 y1 y2 y3 y4 y5 G1 G2 G5 m1 m2 m5
   rw [hy] at HY x0 x1 x2 x3 x4 x5 I1 I2 I5 n1 n2 n5
   have HG := Aside0.mk (And.intro m1 (And.intro m2 (And.intro m5 (And.intro G1 (And.intro G2 G5)))))
   have HI2 := Aside0.mk (And.intro n1 (And.intro n2 (And.intro n5 (And.intro I1 (And.intro I2 I5)))))
   have ha := World.block_lt_of_cell? _ _ y0
   have hb := World.block_lt_of_cell? _ _ x0
   have hc0 := blk_lt C0.out
   have hc1 := blk_lt C1.out
   clear hK hcells he hK2 hcells2 he2 hx hy m1 m2 m5 n1 n2 n5 G1 G2 G5 I1 I2 I5
   go_upto_region 6 with fail
   go_cut [6, 7] (fun s6 s7 wx => ∃ b6 b7 : Nat, s6 = .pointer (some ⟨b6, 0, none⟩) ∧ s7 = .pointer (some ⟨b7, 0, none⟩) ∧ Aside0 (Below wr.heap.size wr wx) ∧ Aside0 (wx.heap[b6]? = some (.cells #[.string x.f0, .slice Z1 x.f1.length z1, .slice Z2 x.f2.length z2, .int .i64 x.f3.f0, .string x.f3.f1, .slice Z5 x.f3.f2.length z5] 59 (0, 0))) ∧ Aside0 (wx.heap[b7]? = some (.cells #[.string y.f0, .slice V1 y.f1.length v1, .slice V2 y.f2.length v2, .int .i64 y.f3.f0, .string y.f3.f1, .slice V5 y.f3.f2.length v5] 59 (0, 0))))
   case first =>
    go_region
    all_goals (go_wp2_with fail; go_meet)
    ·exact ⟨_, _, rfl, rfl, ⟨below_drew (below_alloc2 _ _ _)⟩, ⟨blk_alloc (alloc_at wr _) _⟩, ⟨by have := alloc_at (wr.alloc (.cells #[.string x.f0, .slice Z1 x.f1.length z1, .slice Z2 x.f2.length z2, .int .i64 x.f3.f0, .string x.f3.f1, .slice Z5 x.f3.f2.length z5] 59)) (.cells #[.string y.f0, .slice V1 y.f1.length v1, .slice V2 y.f2.length v2, .int .i64 y.f3.f0, .string y.f3.f1, .slice V5 y.f3.f2.length v5] 59); rw [World.size_alloc] at this; exact this⟩⟩
    ·exact ⟨_, _, rfl, rfl, ⟨below_drew (below_alloc2 _ _ _)⟩, ⟨by have := alloc_at (wr.alloc (.cells #[.string y.f0, .slice V1 y.f1.length v1, .slice V2 y.f2.length v2, .int .i64 y.f3.f0, .string y.f3.f1, .slice V5 y.f3.f2.length v5] 59)) (.cells #[.string x.f0, .slice Z1 x.f1.length z1, .slice Z2 x.f2.length z2, .int .i64 x.f3.f0, .string x.f3.f1, .slice Z5 x.f3.f2.length z5] 59); rw [World.size_alloc] at this; exact this⟩, ⟨blk_alloc (alloc_at wr _) _⟩⟩
   case rest =>
    obtain ⟨b6, b7, rfl, rfl, HW, H6, H7⟩ := hcut
    have HBc := Aside0.mk (HB.out.trans (HW.out.mono HB.out.size))
    have D0 := Aside0.mk (blk_below C0.out HW.out)
    have D1 := Aside0.mk (blk_below C1.out HW.out)
    obtain ⟨HG1, HG2, HG3⟩ : Hid (x.f1.length ≤ z1 ∧ x.f2.length ≤ z2 ∧ x.f3.f2.length ≤ z5) ∧ Hid (∀ W, Below wr.heap.size wr W → Kd.C Kd.string W Z1 x.f1.length x.f1 ∧ Kd.C k62 W Z2 x.f2.length x.f2 ∧ Kd.C k57 W Z5 x.f3.f2.length x.f3.f2) ∧ True := ⟨Lib.hid ⟨HG.out.1, HG.out.2.1, HG.out.2.2.1⟩, Lib.hid (fun W hb => ⟨Kd.C_below HG.out.2.2.2.1 hb, Kd.C_below HG.out.2.2.2.2.1 hb, Kd.C_below HG.out.2.2.2.2.2 hb⟩), trivial⟩
    obtain ⟨HJ1, HJ2, HJ3⟩ : Hid (y.f1.length ≤ v1 ∧ y.f2.length ≤ v2 ∧ y.f3.f2.length ≤ v5) ∧ Hid (∀ W, Below wr.heap.size wr W → Kd.C Kd.string W V1 y.f1.length y.f1 ∧ Kd.C k62 W V2 y.f2.length y.f2 ∧ Kd.C k57 W V5 y.f3.f2.length y.f3.f2) ∧ True := ⟨Lib.hid ⟨HI2.out.1, HI2.out.2.1, HI2.out.2.2.1⟩, Lib.hid (fun W hb => ⟨Kd.C_below HI2.out.2.2.2.1 hb, Kd.C_below HI2.out.2.2.2.2.1 hb, Kd.C_below HI2.out.2.2.2.2.2 hb⟩), trivial⟩
    have hzx := ((HG2.out _ (Below.refl _ _)).2.1).2.1
    have hzy := ((HJ2.out _ (Below.refl _ _)).2.1).2.1
    have x0 := (blk_cell H6.out 0).trans rfl
    have x1 := (blk_cell H6.out 1).trans rfl
    have x2 := (blk_cell H6.out 2).trans rfl
    have x3 := (blk_cell H6.out 3).trans rfl
    have x4 := (blk_cell H6.out 4).trans rfl
    have x5 := (blk_cell H6.out 5).trans rfl
    have y0 := (blk_cell H7.out 0).trans rfl
    have y1 := (blk_cell H7.out 1).trans rfl
    have y2 := (blk_cell H7.out 2).trans rfl
    have y3 := (blk_cell H7.out 3).trans rfl
    have y4 := (blk_cell H7.out 4).trans rfl
    have y5 := (blk_cell H7.out 5).trans rfl
    clear k0 k1 HG HI2
    have HLs := Lib.hid (c_rsameList Z1 V1 z1 v1 x.f1 y.f1 wc (HG2.out _ HW.out).1 HG1.out.1 (HJ2.out _ HW.out).1 HJ1.out.1)
    by_cases hn : x.f0 = y.f0
    case neg =>
     have t1 : (x.f0.toList != y.f0.toList) = true := by rw [sNe]; simpa using hn
     have t1' : (x.f0.toList == y.f0.toList) = false := by rw [sEq]; simpa using hn
     have HN := Lib.hid (decide_eq_false hn)
     clear hn
     go_wp2
     go_ret
     exact ⟨retb (eqL_false HX.out HY.out (by simp only [sameD, HN.out, Bool.false_and])).symm, HBc.out⟩
    have t1 : (x.f0.toList != y.f0.toList) = false := by rw [sNe]; simpa using hn
    have t1' : (x.f0.toList == y.f0.toList) = true := by rw [sEq]; simpa using hn
    have HN := Lib.hid (decide_eq_true hn)
    clear hn
    cases t2 : decide (x.f1 = y.f1) with
    | false =>
     rw [t2] at HLs
     have HT := Lib.hid t2
     clear t2
     go_wp2_with fail
     refine HLs.out.mono ?_
     rintro en w5 ⟨rfl, hb5⟩
     go_wp2
     go_ret
     exact ⟨retb (eqL_false HX.out HY.out (by simp only [sameD, HT.out, Bool.false_and, Bool.and_false])).symm, HBc.out.trans (hb5.mono HBc.out.size)⟩
    | true =>
    rw [t2] at HLs
    have HT2 := Lib.hid t2
    clear t2
    by_cases hl3 : x.f2.length = y.f2.length
    case neg =>
     have t3 : ((x.f2.length : Int) != (y.f2.length : Int)) = true := by simp only [bne_iff_ne, ne_eq]; omega
     have HL3 := Lib.hid hl3
     clear hl3
     go_wp2_with fail
     refine HLs.out.mono ?_
     rintro en w5 ⟨rfl, hb5⟩
     have x2 := pw_cell_below hb5 x2
     have y2 := pw_cell_below hb5 y2
     have HB5 := Aside0.mk (HBc.out.trans (hb5.mono HBc.out.size))
     clear hb5
     go_wp2
     go_ret
     exact ⟨retb (eqL_false HX.out HY.out (by simp only [sameD, eqL_len HL3.out, Bool.and_false])).symm, HB5.out⟩
    have t3 : ((x.f2.length : Int) != (y.f2.length : Int)) = false := by simp only [bne_eq_false_iff_eq]; omega
    have HL3 := Lib.hid hl3
    clear hl3
    go_wp2_with fail
    refine HLs.out.mono ?_
    rintro en w5 ⟨rfl, hb5⟩
    have HW5 := Aside0.mk (HW.out.trans (hb5.mono HW.out.size))
    have H6 := Aside0.mk (blk_below H6.out hb5)
    have H7 := Aside0.mk (blk_below H7.out hb5)
    have D0 := Aside0.mk (blk_below D0.out hb5)
    have D1 := Aside0.mk (blk_below D1.out hb5)
    have HBc := Aside0.mk (HBc.out.trans (hb5.mono HBc.out.size))
    have x2 := pw_cell_below hb5 x2
    have x3 := pw_cell_below hb5 x3
    have x4 := pw_cell_below hb5 x4
    have x5 := pw_cell_below hb5 x5
    have y2 := pw_cell_below hb5 y2
    have y3 := pw_cell_below hb5 y3
    have y4 := pw_cell_below hb5 y4
    have y5 := pw_cell_below hb5 y5
    clear hb5 x0 x1 y0 y1 HW
    have HSm := Lib.hid (c_rSame _ x.f3 y.f3 Z5 V5 z5 v5 w5 (Nat.le_refl _) (HG2.out _ HW5.out).2.2 HG1.out.2.2 (HJ2.out _ HW5.out).2.2 HJ1.out.2.2)
    go_wp2_with fail
    cases t4 : sameE x.f3 y.f3 with
    | false =>
     rw [t4] at HSm
     have HT := Lib.hid t4
     clear t4
     refine HSm.out.mono ?_
     rintro en w6 ⟨rfl, hb6⟩
     go_wp2
     go_ret
     exact ⟨retb (eqL_false HX.out HY.out (by simp only [sameD, HT.out, Bool.false_and, Bool.and_false])).symm, HBc.out.trans (hb6.mono HBc.out.size)⟩
    | true =>
    rw [t4] at HSm
    have HT4 := Lib.hid t4
    clear t4
    refine HSm.out.mono ?_
    rintro en w6 ⟨rfl, hb6⟩
    have HW6 := Aside0.mk (HW5.out.trans (hb6.mono HW5.out.size))
    have H6 := Aside0.mk (blk_below H6.out hb6)
    have H7 := Aside0.mk (blk_below H7.out hb6)
    have D0 := Aside0.mk (blk_below D0.out hb6)
    have D1 := Aside0.mk (blk_below D1.out hb6)
    have HBc := Aside0.mk (HBc.out.trans (hb6.mono HBc.out.size))
    clear hb6 x2 x3 x4 x5 y2 y3 y4 y5 HW5
    obtain ⟨Wo, hWo⟩ : ∃ Wo : World, Wo = wr := ⟨_, rfl⟩
    rw [← hWo] at HG2 HJ2 HW6
    clear hWo
    go_wp2
    go_loopg [8] x.f2.length (fun gg s8 wx => ∃ jj : Nat, jj ≤ x.f2.length ∧ x.f2.length - jj ≤ gg ∧ s8 = .int .i64 jj ∧ Aside0 (∀ j u v, j < jj → x.f2[j]? = some u → y.f2[j]? = some v → sameC u v = true) ∧ Aside0 (Below w6.heap.size w6 wx))
    case atStart => exact ⟨0, Nat.zero_le _, by omega, rfl, ⟨fun j u v hj => absurd hj (Nat.not_lt_zero _)⟩, ⟨Below.refl _ _⟩⟩
    case round =>
     obtain ⟨jj, hjj, hg2, rfl, HJ, HWx⟩ := hrel
     have HWy := Aside0.mk (HW6.out.trans (HWx.out.mono HW6.out.size))
     have HBy := Aside0.mk (HBc.out.trans (HWx.out.mono HBc.out.size))
     have E6 := Aside0.mk (blk_below H6.out HWx.out)
     have E7 := Aside0.mk (blk_below H7.out HWx.out)
     have r2' := (blk_cell E6.out 2).trans rfl
     have s2' := (blk_cell E7.out 2).trans rfl
     by_cases hlt3 : jj < x.f2.length
     ·have hltz3 : (jj : Int) < (x.f2.length : Int) := by omega
      have hlt4 : jj < y.f2.length := by have := HL3.out; omega
      have hltz4 : (jj : Int) < (y.f2.length : Int) := by omega
      obtain ⟨Z, u0, u1, u2, u3, u4, rfl, hK, e0, e1, e2, e3, e4⟩ := get5 rfl (HG2.out _ HWy.out).2.1 jj hlt3
      obtain ⟨P1, p1, P4, p4, he, m1, G1, m4, G4⟩ := k62_open hK
      obtain ⟨rfl, rfl, rfl, rfl, rfl⟩ : u0 = _ ∧ u1 = _ ∧ u2 = _ ∧ u3 = _ ∧ u4 = _ := by simpa using he
      obtain ⟨V, q0, q1, q2, q3, q4, rfl, hK2, f0, f1, f2, f3, f4⟩ := get5 rfl (HJ2.out _ HWy.out).2.1 jj hlt4
      obtain ⟨R1, r1, R4, r4, he2, n1, I1, n4, I4⟩ := k62_open hK2
      obtain ⟨rfl, rfl, rfl, rfl, rfl⟩ : q0 = _ ∧ q1 = _ ∧ q2 = _ ∧ q3 = _ ∧ q4 = _ := by simpa using he2
      have HCa := Lib.hid (show x.f2[jj]? = some x.f2[jj] from List.getElem?_eq_getElem hlt3)
      have HCb := Lib.hid (show y.f2[jj]? = some y.f2[jj] from List.getElem?_eq_getElem hlt4)
      obtain ⟨ca, hca⟩ : ∃ ca, x.f2[jj] = ca := ⟨_, rfl⟩
      obtain ⟨cb, hcb⟩ : ∃ cb, y.f2[jj] = cb := ⟨_, rfl⟩
      rw [hca] at HCa e0 e1 e2 e3 e4 m1 G1 m4 G4
      rw [hcb] at HCb f0 f1 f2 f3 f4 n1 I1 n4 I4
      have hS0 : SmS wr b6 b7 (.slice (some Z) x.f2.length z2) (.slice (some V) y.f2.length v2) (Z.add (jj * 5)) (.string ca.f0) (.slice P1 ca.f1.length p1) (.int .i64 ca.f2.f0) (.string ca.f2.f1) (.slice P4 ca.f2.f2.length p4) (V.add (jj * 5)) (.string cb.f0) (.slice R1 cb.f1.length r1) (.int .i64 cb.f2.f0) (.string cb.f2.f1) (.slice R4 cb.f2.f2.length r4) wr := ⟨Below.refl _ _, r2', s2', e0, e1, e2, e3, e4, f0, f1, f2, f3, f4⟩
      have HS0 := Lib.hid hS0
      have HLq0 := Lib.hid (fun n => c_rsameListQ P1 R1 p1 r1 ca.f1 cb.f1 (wr.drewN n) (Kd.C_below G1 (pw_below_drewN (Below.refl _ _) n)) m1 (Kd.C_below I1 (pw_below_drewN (Below.refl _ _) n)) n1)
      have HLs := Lib.hid (fun W (hS : SmS wr b6 b7 (.slice (some Z) x.f2.length z2) (.slice (some V) y.f2.length v2) (Z.add (jj * 5)) (.string ca.f0) (.slice P1 ca.f1.length p1) (.int .i64 ca.f2.f0) (.string ca.f2.f1) (.slice P4 ca.f2.f2.length p4) (V.add (jj * 5)) (.string cb.f0) (.slice R1 cb.f1.length r1) (.int .i64 cb.f2.f0) (.string cb.f2.f1) (.slice R4 cb.f2.f2.length r4) W) => (c_rsameList P1 R1 p1 r1 ca.f1 cb.f1 W (Kd.C_below G1 hS.1) m1 (Kd.C_below I1 hS.1) n1).mono (R' := fun e W' => e = .returned (.bool (decide (ca.f1 = cb.f1))) ∧ SmS wr b6 b7 (.slice (some Z) x.f2.length z2) (.slice (some V) y.f2.length v2) (Z.add (jj * 5)) (.string ca.f0) (.slice P1 ca.f1.length p1) (.int .i64 ca.f2.f0) (.string ca.f2.f1) (.slice P4 ca.f2.f2.length p4) (V.add (jj * 5)) (.string cb.f0) (.slice R1 cb.f1.length r1) (.int .i64 cb.f2.f0) (.string cb.f2.f1) (.slice R4 cb.f2.f2.length r4) W') (by rintro e W' ⟨h1, h2⟩; exact ⟨h1, hS.step h2⟩))
      have HSm := Lib.hid (fun W (hS : SmS wr b6 b7 (.slice (some Z) x.f2.length z2) (.slice (some V) y.f2.length v2) (Z.add (jj * 5)) (.string ca.f0) (.slice P1 ca.f1.length p1) (.int .i64 ca.f2.f0) (.string ca.f2.f1) (.slice P4 ca.f2.f2.length p4) (V.add (jj * 5)) (.string cb.f0) (.slice R1 cb.f1.length r1) (.int .i64 cb.f2.f0) (.string cb.f2.f1) (.slice R4 cb.f2.f2.length r4) W) => (c_rSame _ ca.f2 cb.f2 P4 R4 p4 r4 W (Nat.le_refl _) (Kd.C_below G4 hS.1) m4 (Kd.C_below I4 hS.1) n4).mono (R' := fun e W' => e = .returned (.bool (sameE ca.f2 cb.f2)) ∧ SmS wr b6 b7 (.slice (some Z) x.f2.length z2) (.slice (some V) y.f2.length v2) (Z.add (jj * 5)) (.string ca.f0) (.slice P1 ca.f1.length p1) (.int .i64 ca.f2.f0) (.string ca.f2.f1) (.slice P4 ca.f2.f2.length p4) (V.add (jj * 5)) (.string cb.f0) (.slice R1 cb.f1.length r1) (.int .i64 cb.f2.f0) (.string cb.f2.f1) (.slice R4 cb.f2.f2.length r4) W') (by rintro e W' ⟨h1, h2⟩; exact ⟨h1, hS.step h2⟩))
      clear hK he hK2 he2 hca hcb m1 G1 m4 G4 n1 I1 n4 I4 hS0 e0 e1 e2 e3 e4 f0 f1 f2 f3 f4
      by_cases hn : ca.f0 = cb.f0
      case neg =>
       have t1 : (ca.f0.toList != cb.f0.toList) = true := by rw [sNe]; simpa using hn
       have t1' : (ca.f0.toList == cb.f0.toList) = false := by rw [sEq]; simpa using hn
       have HT := Lib.hid (decide_eq_false hn)
       clear hn
       obtain ⟨_, z0, z1', z2', z3', z4', z5', z6', z7', z8', z9', z10', z11'⟩ := HS0.out
       go_wp2_with fail
       go_quiet (fail)
       go_wp2
       go_ret
       have hcf : sameC ca cb = false := by simp only [sameC, HT.out]; try simp
       have hdf : sameD x y = false := by
        have h := eqL_false (p := sameC) HCa.out HCb.out hcf
        simp only [sameD, h, Bool.and_false]
       refine ⟨retb (eqL_false HX.out HY.out hdf).symm, ?_⟩
       exact pw_below_drewN HBy.out _
      have t1 : (ca.f0.toList != cb.f0.toList) = false := by rw [sNe]; simpa using hn
      have t1' : (ca.f0.toList == cb.f0.toList) = true := by rw [sEq]; simpa using hn
      have HN2 := Lib.hid (decide_eq_true hn)
      clear hn
      cases t5 : decide (ca.f1 = cb.f1) with
      | false =>
       have HT := Lib.hid t5
       have HLq := Lib.hid (fun n => HLq0.out n)
       rw [t5] at HLq
       clear t5
       obtain ⟨_, z0, z1', z2', z3', z4', z5', z6', z7', z8', z9', z10', z11'⟩ := HS0.out
       go_wp2_with fail
       go_quiet ((go_at_call 71; refine Calls.quiet_of (HLq.out _)))
       go_wp2
       go_ret
       have hcf : sameC ca cb = false := by simp only [sameC, HT.out]; try simp
       have hdf : sameD x y = false := by
        have h := eqL_false (p := sameC) HCa.out HCb.out hcf
        simp only [sameD, h, Bool.and_false]
       refine ⟨retb (eqL_false HX.out HY.out hdf).symm, ?_⟩
       exact pw_below_drewN HBy.out _
      | true =>
      rw [t5] at HLs
      have HT5 := Lib.hid t5
      obtain ⟨bb, hbb⟩ : ∃ bb, sameE ca.f2 cb.f2 = bb := ⟨_, rfl⟩
      have HBb := Lib.hid hbb
      rw [hbb] at HSm
      clear hbb t5
      go_wp2_with fail
      go_region_held3 (fun W => SmS wr b6 b7 (.slice (some Z) x.f2.length z2) (.slice (some V) y.f2.length v2) (Z.add (jj * 5)) (.string ca.f0) (.slice P1 ca.f1.length p1) (.int .i64 ca.f2.f0) (.string ca.f2.f1) (.slice P4 ca.f2.f2.length p4) (V.add (jj * 5)) (.string cb.f0) (.slice R1 cb.f1.length r1) (.int .i64 cb.f2.f0) (.string cb.f2.f1) (.slice R4 cb.f2.f2.length r4) W) (first | assumption | exact HS0.out.step (below_drew (Below.refl _ _))) (first | (go_at_call 71; (with_reducible refine (HLs.out _ (by assumption)).mono ?_); rintro e w5 ⟨rfl, hS5⟩) | (go_at_call 72; (with_reducible refine (HSm.out _ (by assumption)).mono ?_); rintro e w6 ⟨rfl, hS6⟩))
      cases bb with
      | false =>
       have HT := HBb
       go_wp2
       go_ret
       have hcf : sameC ca cb = false := by simp only [sameC, HT.out]; try simp
       have hdf : sameD x y = false := by
        have h := eqL_false (p := sameC) HCa.out HCb.out hcf
        simp only [sameD, h, Bool.and_false]
       refine ⟨retb (eqL_false HX.out HY.out hdf).symm, ?_⟩
       exact HBy.out.trans (hS6.1.mono HBy.out.size)
      | true =>
       have HW7 := Aside0.mk (HWx.out.trans (hS6.1.mono HWx.out.size))
       have HCt := Lib.hid (show sameC ca cb = true by simp only [sameC, HN2.out, HT5.out, HBb.out]; rfl)
       clear hS5 hS6
       go_wp2
       go_roundg (x.f2.length - (jj + 1))
       case measure => omega
       case rel => exact ⟨jj + 1, by omega, by omega, by go_num, ⟨fun j u v hj hu hv => by
        rcases Nat.lt_or_ge j jj with h | h
        ·exact HJ.out j u v h hu hv
        ·obtain rfl : j = jj := by omega
         rw [HCa.out] at hu; rw [HCb.out] at hv
         cases hu; cases hv; exact HCt.out⟩, HW7⟩
     ·have : jj = x.f2.length := by omega
      subst this
      have hdt : sameD x y = true := by
       simp only [sameD, HN.out, HT2.out, HT4.out, eqL_true HL3.out HJ.out]; rfl
      have HDt := Lib.hid hdt
      have F0 := Aside0.mk (blk_below D0.out HWx.out)
      have F1 := Aside0.mk (blk_below D1.out HWx.out)
      clear hdt
      go_wp2
      go_roundg (xs.length - (kk + 1))
      case measure => omega
      case rel => exact ⟨kk + 1, by omega, by omega, by go_num, ⟨fun j u v hj hu hv => by
       rcases Nat.lt_or_ge j kk with h | h
       ·exact HI.out j u v h hu hv
       ·obtain rfl : j = kk := by omega
        rw [HX.out] at hu; rw [HY.out] at hv
        cases hu; cases hv; exact HDt.out⟩, HBy, F0, F1⟩
  ·have : kk = xs.length := by omega
   subst this
   go_wp2
   go_ret
   exact ⟨retb (eqL_true HL.out HI.out).symm, HB.out⟩
end Go.Proofs.YtacefdkfbpgedaaGreat.Mine
