/- Index, Contains, once of heads. -/
import Derived.Test.YtacefdkfbpgedaaGreatJ8
import Derived.Deep.DeepMust
import Derived.Test.YtacefdkfbpgedaaGreatJ7
import Derived.Test.YtacefdkfbpgedaaGreatJ1
import Derived.Deep.DeepCutAuto
import Derived.Test.YtacefdkfbpgedaaGreatJ4
namespace Go.Proofs.YtacefdkfbpgedaaGreat.Mine
open Go.Proofs.YtacefdkfbpgedaaGreat.PProgSmall
open Go.RowKit Go.Shelf Go.Proofs.YtacefdkfbpgedaaGreatW.PrintWords Go.Proofs.YtacefdkfbpgedaaGreatW.PrintLast Go.Proofs.YtacefdkfbpgedaaGreatW.PrintMore
set_option linter.unusedVariables false
set_option linter.unusedSimpArgs false
theorem get2 {α : Type} {d : Kd α} {W : World} {A : Option Addr} {xs : List α} (hs : d.sz = 2) (h : d.C W A xs.length xs) (i : Nat) (hi : i < xs.length) :
    ∃ ad c0 c1, A = some ad ∧ d.K W xs[i] [c0, c1] ∧ W.cell? (ad.add (i * 2)) = some c0 ∧ W.cell? ⟨(ad.add (i * 2)).block, (ad.add (i * 2)).off + 1, none⟩ = some c1 := by
  obtain ⟨ad, c, rfl, hl, hK, hc⟩ := cget h i hi
  rw [hs] at hl hc
  match c, hl with
  | [c0, c1], _ => exact ⟨ad, c0, c1, rfl, hK, hc 0 _ rfl, by rw [← add_field _ _ 1 (by omega)]; exact hc 1 _ rfl⟩
abbrev He := S113
def eqH (x y : He) : Bool := decide (y.f0 = x.f0) && (y.f1 == x.f1)
attribute [local go_sem] max2_int min2_int max_two min_two
theorem eqHd (d : Nat) (w : World) (x0 y0 : ByteArray) (x1 y1 : Int) :
    (Op.equalIn (d + 2) 113 (.agg #[.string x0, .int .i64 x1]) (.agg #[.string y0, .int .i64 y1])).run Tryz.prog w = .ok (x0.toList == y0.toList && (x1 == y1)) w := by
  refine eqA_of Tryz.underlying113 (by kernel_rfl) ?_
  refine eqf_cons (by rfl) (by go_simp; rfl) (by go_simp; rfl) (by go_simp) ?_
  exact eqf_last (by rfl) (by go_simp; rfl) (by go_simp; rfl) (by go_simp)
theorem eqH_bool (x y : He) : (x.f0.toList == y.f0.toList && (x.f1 == y.f1)) = eqH x y := by
  rw [sEq, eqH, Bool.eq_iff_iff]
  simp only [Bool.and_eq_true, decide_eq_true_eq, beq_iff_eq]
  exact ⟨fun ⟨a, b⟩ => ⟨a.symm, b.symm⟩, fun ⟨a, b⟩ => ⟨a.symm, b.symm⟩⟩
set_option maxRecDepth 100000 in
set_option maxHeartbeats 2000000 in
theorem c_IndexH (A : Option Addr) (c : Nat) (l : List He) (x : He) (w : World) (hr : Kd.C k113 w A l.length l) (hc : l.length ≤ c) :
    Calls Tryz.prog 165 #[.slice A l.length c, .agg #[.string x.f0, .int .i64 x.f1]] w fun e w' => e = .returned (.int .i64 (idxB (eqH x) l)) ∧ Below w.heap.size w w' := by
  have hm := hr.2.1
  obtain ⟨W1, hW1⟩ : ∃ W1, w.alloc (.cells #[.string x.f0, .int .i64 x.f1] 113) = W1 := ⟨_, rfl⟩
  have Q := Aside0.mk (show Below w.heap.size w W1 by rw [← hW1]; exact below_alloc1 _ _)
  have B := Aside0.mk (show W1.heap[w.heap.size]? = some (.cells #[.string x.f0, .int .i64 x.f1] 113 (0, 0)) by rw [← hW1]; exact alloc_at _ _)
  have HR := Aside0.mk hr
  have HW1 := Lib.hid hW1
  clear hr hW1
  go_enter Tryz.func165, Tryz.ntmps165
  go_wp2_with fail
  rw [HW1.out]
  go_wp2
  go_loopg [5, 8] l.length (fun gg _ s8 wr => ∃ kk : Nat, kk ≤ l.length ∧ l.length - kk ≤ gg ∧ s8 = .int .i64 kk ∧ Aside0 (∀ j y, j < kk → l[j]? = some y → eqH x y = false) ∧ Aside0 (Below w.heap.size w wr) ∧ Aside0 (wr.heap[w.heap.size]? = some (.cells #[.string x.f0, .int .i64 x.f1] 113 (0, 0))))
  case atStart => exact ⟨0, Nat.zero_le _, by omega, rfl, ⟨fun j x hj => absurd hj (Nat.not_lt_zero _)⟩, Q, B⟩
  case round =>
    obtain ⟨kk, hkk, hg, rfl, HI, HB, BK⟩ := hrel
    have k0 := (blk_cell BK.out 0).trans rfl
    have k1 := (blk_cell BK.out 1).trans rfl
    by_cases hlt : kk < l.length
    · have hltz : (kk : Int) < (l.length : Int) := by omega
      obtain ⟨ad, c0, c1, rfl, hK, e0, e1⟩ := get2 rfl (Kd.C_below HR.out HB.out) kk hlt
      obtain ⟨rfl, rfl⟩ : c0 = _ ∧ c1 = _ := by simpa using k113_open hK
      have HX := Lib.hid (show l[kk]? = some l[kk] from List.getElem?_eq_getElem hlt)
      obtain ⟨y, hy⟩ : ∃ y, l[kk] = y := ⟨_, rfl⟩
      rw [hy] at e0 e1 HX
      clear hK hy
      have hq := fun d (w : World) => eqHd d w x.f0 y.f0 x.f1 y.f1
      simp only [eqH_bool] at hq
      cases he : eqH x y with
      | true =>
        have HE := Lib.hid he
        simp only [he] at hq
        clear he
        go_wp2_with fail
        go_quiet (fail)
        go_wp2
        go_ret
        exact ⟨reti (idxB_some HX.out HE.out HI.out).symm, pw_below_drewN HB.out _⟩
      | false =>
        have HE := Lib.hid he
        simp only [he] at hq
        clear he
        go_wp2_with fail
        go_quiet (fail)
        go_wp2
        go_roundg (l.length - (kk + 1))
        case measure => omega
        case rel => exact ⟨kk + 1, by omega, by omega, by go_num, ⟨none_snoc HI.out HX.out HE.out⟩, ⟨pw_below_drewN HB.out _⟩, BK⟩
    · have : kk = l.length := by omega
      subst this
      go_wp2
      go_ret
      exact ⟨reti (idxB_none HI.out).symm, HB.out⟩
set_option maxRecDepth 100000 in
set_option maxHeartbeats 2000000 in
theorem c_ContH (A : Option Addr) (c : Nat) (l : List He) (x : He) (w : World) (hr : Kd.C k113 w A l.length l) (hc : l.length ≤ c) :
    Calls Tryz.prog 132 #[.slice A l.length c, .agg #[.string x.f0, .int .i64 x.f1]] w fun e w' => e = .returned (.bool (l.any (eqH x))) ∧ Below w.heap.size w w' := by
  obtain ⟨W1, hW1⟩ : ∃ W1, w.alloc (.cells #[.string x.f0, .int .i64 x.f1] 113) = W1 := ⟨_, rfl⟩
  have Q := Aside0.mk (show Below w.heap.size w W1 by rw [← hW1]; exact below_alloc1 _ _)
  have B : W1.heap[w.heap.size]? = some (.cells #[.string x.f0, .int .i64 x.f1] 113 (0, 0)) := by rw [← hW1]; exact alloc_at _ _
  have k0 := (blk_cell B 0).trans rfl
  have k1 := (blk_cell B 1).trans rfl
  have HC := Lib.hid (c_IndexH A c l x W1 (Kd.C_below hr Q.out) hc)
  have HW1 := Lib.hid hW1
  clear hr hW1 B
  go_enter Tryz.func132, Tryz.ntmps132
  go_wp2_with fail
  rw [HW1.out]
  go_wp2_with fail
  refine HC.out.mono ?_
  rintro e w' ⟨rfl, hb⟩
  go_wp2
  go_ret
  exact ⟨retb (idxB_nonneg _ _), Q.out.trans (hb.mono Q.out.size)⟩
theorem grown_trans0 {w w1 w2 : World} {row : Option Nat} (h : Below w.heap.size w w1) (hg : w1.grownBy w2 row) : w.grownBy w2 row := ⟨hg.os.trans h.os, hg.tape.trans h.tape, hg.output.trans h.output, Nat.le_trans h.size hg.size, fun i hi hne => (hg.block i (Nat.lt_of_lt_of_le hi h.size) hne).trans (h.block i hi)⟩
def onceHL (l : List He) (x : He) : List He := if l.any (eqH x) then l else l ++ [x]
abbrev OwnHd (W : World) (base : Nat) (v : Value) (l : List He) : Prop := Kd.R k113 113 W base (fun _ => True) v l
theorem infoHd : (Tryz.prog.info? 113).map (fun i => (i.zero, i.size, i.bytes)) = some (some (.agg #[.string ⟨#[]⟩, .int .i64 0]), 2, 24) := by kernel_rfl
set_option maxRecDepth 100000 in
set_option maxHeartbeats 2000000 in
theorem c_onceH (base : Nat) (v : Value) (l : List He) (x : He) (w : World) (HO : OwnHd w base v l) (hb : base ≤ w.heap.size) (hl : l.length < 1000000) :
    Calls Tryz.prog 81 #[v, .agg #[.string x.f0, .int .i64 x.f1]] w fun e w' => ∃ v1, e = .returned v1 ∧ OwnHd w' base v1 (onceHL l x) ∧ w.grownBy w' v.ownBlock := by
  obtain ⟨A, c, rfl, hc, hr⟩ := Kd.R_reads HO
  have hm := hr.2.1
  obtain ⟨W1, hW1⟩ : ∃ W1, w.alloc (.cells #[.string x.f0, .int .i64 x.f1] 113) = W1 := ⟨_, rfl⟩
  have q1 : Below w.heap.size w W1 := by rw [← hW1]; exact below_alloc1 _ _
  have B := Aside0.mk (show W1.heap[w.heap.size]? = some (.cells #[.string x.f0, .int .i64 x.f1] 113 (0, 0)) by rw [← hW1]; exact alloc_at _ _)
  have k0 := (blk_cell B.out 0).trans rfl
  have k1 := (blk_cell B.out 1).trans rfl
  have HC := Lib.hid (c_ContH A c l x W1 (Kd.C_below hr q1) hc)
  have Q := Aside0.mk q1
  have HO := Aside0.mk HO
  have HW1 := Lib.hid hW1
  clear hr hW1 q1
  cases hm2 : l.any (eqH x) with
  | true =>
    rw [hm2] at HC
    have HX := Lib.hid (show onceHL l x = l by rw [onceHL, if_pos hm2])
    clear hm2
    go_enter Tryz.func81, Tryz.ntmps81
    go_wp2_with fail
    rw [HW1.out]
    go_wp2_with fail
    refine HC.out.mono ?_
    rintro e w' ⟨rfl, hb2⟩
    have hbb := Q.out.trans (hb2.mono Q.out.size)
    have HB := Lib.hid hbb
    clear hb2 hbb k0 k1
    go_wp2
    go_ret
    exact ⟨_, rfl, by rw [HX.out]; exact Kd.R_below HO.out HB.out, grown_of_below HB.out _⟩
  | false =>
    rw [hm2] at HC
    have HX := Lib.hid (show onceHL l x = l ++ [x] by rw [onceHL, if_neg (by simp [hm2])])
    clear hm2
    go_enter Tryz.func81, Tryz.ntmps81
    go_wp2_with fail
    rw [HW1.out]
    go_wp2_with fail
    refine HC.out.mono ?_
    rintro e w' ⟨rfl, hb2⟩
    have k0 := pw_cell_below hb2 k0
    have k1 := pw_cell_below hb2 k1
    have hbb := Q.out.trans (hb2.mono Q.out.size)
    have HB := Lib.hid hbb
    have HO2 := Aside0.mk (Kd.R_below HO.out hbb)
    have hs := hbb.size
    clear hb2 hbb
    go_wp2_with (at_builtin; go_must (refine Kd.R_append k113 (w0 := w') (W := w') base rfl (.tmp 9) (.tmp 11) 110 113 _ 24 rfl Tryz.underlying110 infoHd rfl (by decide) (by decide) (.slice A l.length c) l x [.string x.f0, .int .i64 x.f1] (fun _ => True) (fun _ => False) rfl rfl (k113_mkM _ _ _ x) (fun _ h => h.elim) (fun _ _ => trivial) HO2.out (Below.refl _ _) (by omega) (by omega) ?_; intro v1 w3 hR3 hB3 hg3 hat3; have HR3 := Aside0.mk hR3; have HG3 := Lib.hid hg3; clear hR3 hB3 hg3 hat3))
    go_ret
    exact ⟨_, rfl, by rw [HX.out]; exact HR3.out, grown_trans0 HB.out HG3.out⟩
end Go.Proofs.YtacefdkfbpgedaaGreat.Mine
namespace Go.Proofs.YtacefdkfbpgedaaGreat.Mine
open Go.Proofs.YtacefdkfbpgedaaGreat.PProgSmall
open Go.RowKit Go.Shelf Go.Proofs.YtacefdkfbpgedaaGreatW.PrintWords Go.Proofs.YtacefdkfbpgedaaGreatW.PrintLast Go.Proofs.YtacefdkfbpgedaaGreatW.PrintMore
set_option linter.unusedVariables false
set_option linter.unusedSimpArgs false
abbrev OwnI (W : World) (base : Nat) (v : Value) (l : List Int) : Prop := Kd.R (Kd.int .i64) 3 W base (fun _ => True) v l
theorem infoIn : (Tryz.prog.info? 3).map (fun i => (i.zero, i.size, i.bytes)) = some (some (.int .i64 0), 1, 8) := by kernel_rfl
def NewB (w : World) (v v1 : Value) : Prop := ∀ b, v1.ownBlock = some b → v.ownBlock = some b ∨ w.heap.size ≤ b
theorem NewB.refl (w : World) (v : Value) : NewB w v v := fun b h => .inl h
theorem NewB.of {w w3 : World} {v v1 : Value} (h : v1.ownBlock = v.ownBlock ∨ ∃ b, v1.ownBlock = some b ∧ w3.heap.size ≤ b) (hs : w.heap.size ≤ w3.heap.size) : NewB w v v1 := fun b hb => by
  rcases h with h | ⟨c, h, hc⟩
  · rw [h] at hb; exact .inl hb
  · rw [h] at hb; cases hb; exact .inr (by omega)
theorem txt_int {W : World} {base base' : Nat} {v u : Value} {l : List ByteArray} {m : List Int} (h : OwnT W base v l) (k : OwnI W base' u m) (b : Nat) (hb : v.ownBlock = some b) : some b ≠ u.ownBlock := fun he => by
  obtain ⟨_, _, _, q, hq, cs, hc⟩ := (Kd.R_bound h).1 b hb
  obtain ⟨_, _, _, q', hq', cs', hc'⟩ := (Kd.R_bound k).1 b he.symm
  rw [hc] at hc'
  injection hc' with e
  injection e with _ e2 _
  have h1 : q = 9 := by simpa [Kd.string, Kd.scalar] using hq
  have h2 : q' = 3 := by simpa [Kd.int, Kd.scalar] using hq'
  rw [h1, h2] at e2
  exact absurd e2 (by decide)
set_option maxRecDepth 100000 in
set_option maxHeartbeats 4000000 in
theorem c_rwith (base : Nat) (vn vm : Value) (l : List He) (x : He) (w : World) (hN : OwnT w base vn (l.map (·.f0))) (hM : OwnI w base vm (l.map (·.f1))) (hb : base ≤ w.heap.size) (hl : l.length < 1000000) :
    Calls Tryz.prog 97 #[vn, vm, .string x.f0, .int .i64 x.f1] w fun en w' => ∃ v1 v2, en = .returned (.tuple #[v1, v2]) ∧ OwnT w' base v1 ((onceHL l x).map (·.f0)) ∧ OwnI w' base v2 ((onceHL l x).map (·.f1)) ∧ Fr (fun k => some k = vn.ownBlock ∨ some k = vm.ownBlock) w w' ∧ NewB w vn v1 ∧ NewB w vm v2 := by
  obtain ⟨A, c, rfl, hc, hr⟩ := Kd.R_reads hN
  obtain ⟨A2, c2, rfl, hc2, hr2⟩ := Kd.R_reads hM
  have hm := hr.2.1
  have hll : (l.map (·.f0)).length = l.length := by simp
  have hll2 : (l.map (·.f1)).length = l.length := by simp
  obtain ⟨ns, hns⟩ : ∃ ns, l.map (·.f0) = ns := ⟨_, rfl⟩
  obtain ⟨ms, hms⟩ : ∃ ms, l.map (·.f1) = ms := ⟨_, rfl⟩
  rw [hns] at hN hr hc hm hll ⊢
  rw [hms] at hM hr2 hc2 hll2 ⊢
  have HNs := Lib.hid hns
  have HMs := Lib.hid hms
  have HN := Aside0.mk hN
  have HM := Aside0.mk hM
  have HR := Aside0.mk hr
  have HR2 := Aside0.mk hr2
  have HLl := Lib.hid hll
  have HLl2 := Lib.hid hll2
  clear hN hM hr hr2 hns hms hll hll2
  go_enter Tryz.func97, Tryz.ntmps97
  go_wp2
  go_loopg [10] ns.length (fun gg s10 wr => ∃ kk : Nat, kk ≤ ns.length ∧ ns.length - kk ≤ gg ∧ s10 = .int .i64 kk ∧ Aside0 (∀ j y, j < kk → l[j]? = some y → eqH x y = false) ∧ w = wr)
  case atStart => exact ⟨0, Nat.zero_le _, by omega, rfl, ⟨fun j x hj => absurd hj (Nat.not_lt_zero _)⟩, rfl⟩
  case round =>
    obtain ⟨kk, hkk, hg, rfl, HI, rfl⟩ := hrel
    have hl1 := Nat.le_of_eq HLl.out
    have hl2 := Nat.le_of_eq HLl2.out
    have hl3 := Nat.le_of_eq HLl.out.symm
    have hl4 := Nat.le_of_eq HLl2.out.symm
    by_cases hlt : kk < ns.length
    · have hltz : (kk : Int) < (ns.length : Int) := by omega
      have hlt2 : kk < ms.length := by omega
      have hltz2 : (kk : Int) < (ms.length : Int) := by omega
      have hlt3 : kk < l.length := by omega
      obtain ⟨ad, c0, rfl, hK, k0⟩ := get1 rfl HR.out kk hlt
      obtain rfl : c0 = .string ns[kk] := by simpa [Kd.string, Kd.scalar] using hK
      obtain ⟨bd, d0, rfl, hK2, l0⟩ := get1 rfl HR2.out kk hlt2
      obtain rfl : d0 = .int .i64 ms[kk] := by simpa [Kd.int, Kd.scalar] using hK2
      have HX := Lib.hid (show l[kk]? = some l[kk] from List.getElem?_eq_getElem hlt3)
      obtain ⟨y, hy⟩ : ∃ y, l[kk] = y := ⟨_, rfl⟩
      have e1 : ns[kk] = y.f0 := by have := HNs.out; subst this; simp [hy]
      have e2 : ms[kk] = y.f1 := by have := HMs.out; subst this; simp [hy]
      rw [e1] at k0
      rw [e2] at l0
      rw [hy] at HX
      clear hK hK2 hy e1 e2
      by_cases hn : y.f0 = x.f0
      · have hnb : (y.f0.toList == x.f0.toList) = true := by rw [sEq]; simpa using hn
        cases t2 : (y.f1 == x.f1) with
        | true =>
          have HP := Lib.hid (show eqH x y = true by simp only [eqH, hn, t2, decide_true, Bool.and_self])
          clear hn
          go_wp2
          go_ret2
          have ho : onceHL l x = l := by rw [onceHL, if_pos (List.any_eq_true.2 ⟨y, List.mem_of_getElem? HX.out, HP.out⟩)]
          exact ⟨_, _, rfl, by rw [ho, HNs.out]; exact HN.out, by rw [ho, HMs.out]; exact HM.out, Fr.refl _ _, NewB.refl _ _, NewB.refl _ _⟩
        | false =>
          have HP := Lib.hid (show eqH x y = false by simp only [eqH, t2, Bool.and_false])
          clear hn
          go_wp2
          go_roundg (ns.length - (kk + 1))
          case measure => omega
          case rel => exact ⟨kk + 1, by omega, by omega, by go_num, ⟨none_snoc HI.out HX.out HP.out⟩, rfl⟩
      · have hnb : (y.f0.toList == x.f0.toList) = false := by rw [sEq]; simpa using hn
        have HP := Lib.hid (show eqH x y = false by simp only [eqH, decide_eq_false hn, Bool.false_and])
        clear hn
        go_wp2
        go_roundg (ns.length - (kk + 1))
        case measure => omega
        case rel => exact ⟨kk + 1, by omega, by omega, by go_num, ⟨none_snoc HI.out HX.out HP.out⟩, rfl⟩
    · have : kk = ns.length := by omega
      subst this
      have ho : onceHL l x = l ++ [x] := by
        rw [onceHL, if_neg]
        rw [any_none (fun j y hj hy => HI.out j y (by omega) hy)]; simp
      have HOn := Lib.hid ho
      have hti := fun b hb => txt_int HN.out HM.out b hb
      have HTi := Lib.hid hti
      clear ho hti
      go_wp2_with (first | (at_builtin; refine Kd.R_append Kd.string (w0 := w) (W := w) base rfl (.tmp 33) (.tmp 35) 30 9 (.string ⟨#[]⟩) 16 rfl Tryz.underlying30 infoTx rfl (by decide) (by decide) (.slice A ns.length c) ns x.f0 [.string x.f0] (fun _ => True) (fun _ => False) rfl rfl rfl (fun _ h => h.elim) (fun _ _ => trivial) HN.out (Below.refl _ _) hb (by omega) ?_; intro v1 w3 hR3 hB3 hg3 hat3; have HG3 := Lib.hid hg3; have HB3 := Lib.hid hB3; have HM3 := Aside0.mk (Kd.R_grown (Kd.R_tight rfl HM.out) hg3 (fun k hk he => HTi.out k he.symm hk)); obtain ⟨Ax, cx, hvx⟩ := Kd.R_slice hR3; rw [show (ns ++ [x.f0]).length = ns.length + 1 from by simp] at hvx; subst hvx; have hs3 := hg3.size; have HR3 := Aside0.mk hR3; have HA3 := Lib.hid hat3; clear hR3 hg3 hB3 hat3) | (at_builtin; refine Kd.R_append (Kd.int .i64) (w0 := w3) (W := w3) base rfl (.tmp 37) (.tmp 39) 48 3 (.int .i64 0) 8 rfl Tryz.underlying48 infoIn rfl (by decide) (by decide) (.slice A2 ms.length c2) ms x.f1 [.int .i64 x.f1] (fun _ => True) (fun _ => False) rfl rfl rfl (fun _ h => h.elim) (fun _ _ => trivial) (Kd.R_mono HM3.out (fun _ _ => trivial)) (Below.refl _ _) (by omega) (by omega) ?_; intro v2 w4 hR4 hB4 hg4 hat4; have HR4 := Aside0.mk hR4; have HG4 := Lib.hid hg4; have HA4 := Lib.hid hat4; clear hR4 hg4 hB4 hat4))
      go_ret2
      have h3 := txt_int HR3.out (Kd.R_mono HM3.out (ok' := fun _ => True) (fun _ _ => trivial))
      refine ⟨_, _, rfl, by rw [HOn.out, List.map_append, HNs.out]; exact Kd.R_mono (Kd.R_grown (Kd.R_tight rfl HR3.out) HG4.out (fun k hk => h3 k hk.symm)) (fun _ _ => trivial), by rw [HOn.out, List.map_append, HMs.out]; exact HR4.out, ?_, NewB.of HA3.out (Nat.le_refl _), NewB.of HA4.out hs3⟩
      exact ((Fr.refl _ _).grown HG3.out (fun k hk => .inl (.inl hk.symm))).trans (((Fr.refl _ _).grown HG4.out (fun k hk => .inl (.inr hk.symm))))
end Go.Proofs.YtacefdkfbpgedaaGreat.Mine
namespace Go.Proofs.YtacefdkfbpgedaaGreat.Mine
open Go.Proofs.YtacefdkfbpgedaaGreat.PProgSmall
open Go.RowKit Go.Shelf Go.Proofs.YtacefdkfbpgedaaGreatW.PrintWords Go.Proofs.YtacefdkfbpgedaaGreatW.PrintLast Go.Proofs.YtacefdkfbpgedaaGreatW.PrintMore
set_option linter.unusedVariables false
set_option linter.unusedSimpArgs false
def headB (l : List He) (e : Ex) : List He := if e.f0 = 2 then onceHL l ⟨e.f1, (e.f2.length : Int)⟩ else l
def headCa (d : De) (i : Nat) (l : List He) : List He := match d.f2[i]? with | some c => onceHL l ⟨c.f0, (c.f1.length : Int)⟩ | none => l
def headI (d : De) (l : List He) (i : Nat) : List He := match (bodiesD d)[i]? with | some b => (plE b).foldl headB (headCa d i l) | none => l
def headK (d : De) (l : List He) (k : Nat) : List He := (List.range k).foldl (headI d) l
def headD (l : List He) (d : De) : List He := headK d l (bodiesD d).length
def headsP (defs : List De) : List He := defs.foldl headD []
theorem headK_succ (d : De) (l : List He) (k : Nat) : headK d l (k + 1) = headI d (headK d l k) k := by simp [headK, List.range_succ]
theorem headI_at {d : De} {l : List He} {i : Nat} {b : Ex} (h : (bodiesD d)[i]? = some b) : headI d l i = (plE b).foldl headB (headCa d i l) := by simp [headI, h]
theorem headCa_at {d : De} {l : List He} {i : Nat} {c : Ca} (h : d.f2[i]? = some c) : headCa d i l = onceHL l ⟨c.f0, (c.f1.length : Int)⟩ := by simp [headCa, h]
theorem headCa_no {d : De} {l : List He} {i : Nat} (h : d.f2.length = 0) : headCa d i l = l := by
  have : d.f2 = [] := List.eq_nil_of_length_eq_zero h
  simp [headCa, this]
theorem foldl_snoc {α β : Type} {f : β → α → β} {b : β} {l : List α} {k : Nat} {x : α} (h : l[k]? = some x) : (l.take (k + 1)).foldl f b = f ((l.take k).foldl f b) x := by
  obtain ⟨hk, rfl⟩ := List.getElem?_eq_some_iff.1 h
  rw [take_snoc hk, List.foldl_append]; rfl
theorem onceHL_len (l : List He) (x : He) : l.length ≤ (onceHL l x).length ∧ (onceHL l x).length ≤ l.length + 1 := by
  unfold onceHL; split <;> simp
theorem foldl_up {α : Type} {f : List He → α → List He} (h : ∀ l x, l.length ≤ (f l x).length) : ∀ (xs : List α) (l : List He), l.length ≤ (xs.foldl f l).length
  | [], l => Nat.le_refl _
  | x :: xs, l => Nat.le_trans (h l x) (foldl_up h xs (f l x))
theorem foldl_take_up {α : Type} {f : List He → α → List He} (h : ∀ l x, l.length ≤ (f l x).length) (xs : List α) (l : List He) (k : Nat) : ((xs.take k).foldl f l).length ≤ (xs.foldl f l).length := by
  conv => rhs; rw [← List.take_append_drop k xs, List.foldl_append]
  exact foldl_up h _ _
theorem headB_up (l : List He) (e : Ex) : l.length ≤ (headB l e).length := by
  unfold headB; split
  · exact (onceHL_len _ _).1
  · exact Nat.le_refl _
theorem headCa_up (d : De) (i : Nat) (l : List He) : l.length ≤ (headCa d i l).length := by
  unfold headCa; split
  · exact (onceHL_len _ _).1
  · exact Nat.le_refl _
theorem headI_up (d : De) (l : List He) (i : Nat) : l.length ≤ (headI d l i).length := by
  unfold headI; split
  · exact Nat.le_trans (headCa_up d i l) (foldl_up headB_up _ _)
  · exact Nat.le_refl _
theorem headK_up (d : De) (l : List He) (j n : Nat) (h : j ≤ n) : (headK d l j).length ≤ (headK d l n).length := by
  have h2 := foldl_take_up (headI_up d) (List.range n) l j
  rw [List.take_range, Nat.min_eq_left h] at h2
  exact h2
theorem headD_up (l : List He) (d : De) : l.length ≤ (headD l d).length := foldl_up (headI_up d) _ _
theorem heads_le0 (defs : List De) (k : Nat) : ((defs.take k).foldl headD []).length ≤ (headsP defs).length := foldl_take_up headD_up defs [] k
theorem heads_le1 {defs : List De} {k : Nat} {d : De} (h : defs[k]? = some d) (j : Nat) (hj : j ≤ (bodiesD d).length) : (headK d ((defs.take k).foldl headD []) j).length ≤ (headsP defs).length := by
  have h1 := heads_le0 defs (k + 1)
  rw [foldl_snoc h] at h1
  exact Nat.le_trans (headK_up d _ j _ hj) h1
theorem heads_le2 {defs : List De} {k : Nat} {d : De} (h : defs[k]? = some d) {j : Nat} {b : Ex} (hb : (bodiesD d)[j]? = some b) (i : Nat) : (((plE b).take i).foldl headB (headCa d j (headK d ((defs.take k).foldl headD []) j))).length ≤ (headsP defs).length := by
  have hj := (List.getElem?_eq_some_iff.1 hb).1
  have h1 := heads_le1 h (j + 1) hj
  rw [headK_succ, headI_at hb] at h1
  exact Nat.le_trans (foldl_take_up headB_up _ _ i) h1
theorem foldl_cap {α : Type} {f : List He → α → List He} {c : Nat} {xs : List α} (h : ∀ l, ∀ x ∈ xs, (f l x).length ≤ l.length + c) : ∀ (l : List He), (xs.foldl f l).length ≤ l.length + xs.length * c := by
  induction xs with
  | nil => intro l; simp
  | cons x xs ih =>
    intro l
    have h1 := h l x List.mem_cons_self
    have h2 := ih (fun l y hy => h l y (List.mem_cons_of_mem _ hy)) (f l x)
    rw [List.foldl_cons, List.length_cons, Nat.add_mul, Nat.one_mul]
    omega
theorem headB_cap (l : List He) (e : Ex) : (headB l e).length ≤ l.length + 1 := by
  unfold headB; split
  · exact (onceHL_len _ _).2
  · omega
theorem headCa_cap (d : De) (i : Nat) (l : List He) : (headCa d i l).length ≤ l.length + 1 := by
  unfold headCa; split
  · exact (onceHL_len _ _).2
  · omega
theorem heads_cap {defs : List De} {n k s : Nat} (hn : defs.length ≤ n) (h : ∀ d ∈ defs, (bodiesD d).length ≤ k ∧ ∀ b ∈ bodiesD d, szE b ≤ s) : (headsP defs).length ≤ n * (k * (s + 1)) := by
  have hI : ∀ d ∈ defs, ∀ (l : List He) (i : Nat), (headI d l i).length ≤ l.length + (s + 1) := fun d hd l i => by
    unfold headI
    split
    · next b hb =>
      have h1 := foldl_cap (f := headB) (c := 1) (xs := plE b) (fun l x _ => headB_cap l x) (headCa d i l)
      have h2 := headCa_cap d i l
      have h3 := (h d hd).2 b (List.mem_of_getElem? hb)
      rw [length_plE] at h1
      omega
    · omega
  have hD : ∀ (l : List He), ∀ d ∈ defs, (headD l d).length ≤ l.length + k * (s + 1) := fun l d hd => by
    have h1 := foldl_cap (f := headI d) (c := s + 1) (xs := List.range (bodiesD d).length) (fun l i _ => hI d hd l i) l
    rw [List.length_range] at h1
    have h2 : (bodiesD d).length * (s + 1) ≤ k * (s + 1) := Nat.mul_le_mul_right _ (h d hd).1
    have h3 : (headD l d).length ≤ l.length + (bodiesD d).length * (s + 1) := h1
    omega
  have h1 := foldl_cap (f := headD) (c := k * (s + 1)) (xs := defs) hD []
  have h2 : defs.length * (k * (s + 1)) ≤ n * (k * (s + 1)) := Nat.mul_le_mul_right _ hn
  simp only [List.length_nil, Nat.zero_add] at h1
  exact Nat.le_trans h1 h2
end Go.Proofs.YtacefdkfbpgedaaGreat.Mine
namespace Go.Proofs.YtacefdkfbpgedaaGreat.Mine
open Go.Proofs.YtacefdkfbpgedaaGreat.PProgSmall
open Go.RowKit Go.Shelf Go.Proofs.YtacefdkfbpgedaaGreatW.PrintWords Go.Proofs.YtacefdkfbpgedaaGreatW.PrintLast Go.Proofs.YtacefdkfbpgedaaGreatW.PrintMore
set_option linter.unusedVariables false
set_option linter.unusedSimpArgs false
def HS (base : Nat) (W : World) (vn vm : Value) (l : List He) : Prop := OwnT W base vn (l.map (·.f0)) ∧ OwnI W base vm (l.map (·.f1))
theorem HS.nil (base : Nat) (W : World) : HS base W (.slice none 0 0) (.slice none 0 0) [] := ⟨Kd.R_nil _ _ _ _ _, Kd.R_nil _ _ _ _ _⟩
theorem HS.below {base : Nat} {W W' : World} {vn vm : Value} {l : List He} (h : HS base W vn vm l) (hb : Below W.heap.size W W') : HS base W' vn vm l := ⟨Kd.R_below h.1 hb, Kd.R_below h.2 hb⟩
theorem HS.lt {base : Nat} {W : World} {vn vm : Value} {l : List He} (h : HS base W vn vm l) : (∀ k, some k = vn.ownBlock → base ≤ k ∧ k < W.heap.size) ∧ (∀ k, some k = vm.ownBlock → base ≤ k ∧ k < W.heap.size) :=
  ⟨fun k hk => by obtain ⟨_, h1, h2, _⟩ := (Kd.R_bound h.1).1 k hk.symm; exact ⟨h1, h2⟩, fun k hk => by obtain ⟨_, h1, h2, _⟩ := (Kd.R_bound h.2).1 k hk.symm; exact ⟨h1, h2⟩⟩
theorem HS.ne {base : Nat} {W : World} {vn vm : Value} {l : List He} (h : HS base W vn vm l) {g t : Nat} {cs : Array Value} (hb : W.heap[g]? = some (.cells cs t (0, 0))) (h1 : 9 ≠ t) (h2 : 3 ≠ t) : some g ≠ vn.ownBlock ∧ some g ≠ vm.ownBlock := ⟨Kd.R_ne h.1 hb h1, Kd.R_ne h.2 hb h2⟩
def Dj (ok : Nat → Prop) (v : Value) : Prop := ∀ k, ok k → some k ≠ v.ownBlock
theorem Dj.new {ok : Nat → Prop} {W : World} {v v1 : Value} (h : Dj ok v) (hn : NewB W v v1) (hlt : ∀ k, ok k → k < W.heap.size) : Dj ok v1 := fun k hk he => by
  rcases hn k he.symm with h1 | h1
  · exact h k hk h1.symm
  · have := hlt k hk; omega
def StayB (W W' : World) (vn vm : Value) : Prop := ∀ k, k < W.heap.size → some k ≠ vn.ownBlock → some k ≠ vm.ownBlock → W'.heap[k]? = W.heap[k]?
theorem StayB.F {α : Type} {d : Kd α} {W W' : World} {vn vm : Value} (h : StayB W W' vn vm) {ok : Nat → Prop} {A : Option Addr} {n : Nat} {xs : List α} (hF : Kd.F d W ok A n xs) (h1 : Dj ok vn) (h2 : Dj ok vm) : Kd.F d W' ok A n xs := Kd.F_step hF (fun k hk hlt => h k hlt (h1 k hk) (h2 k hk))
theorem StayB.blk {W W' : World} {vn vm : Value} (h : StayB W W' vn vm) {g : Nat} {o : Obj} (hb : W.heap[g]? = some o) (hne : some g ≠ vn.ownBlock ∧ some g ≠ vm.ownBlock) : W'.heap[g]? = some o := (h g (blk_lt hb) hne.1 hne.2).trans hb
theorem c_rwithS (base : Nat) (vn vm : Value) (l : List He) (s : ByteArray) (n : Int) (W : World) (hS : HS base W vn vm l) (hb : base ≤ W.heap.size) (hl : l.length < 1000000) :
    Calls Tryz.prog 97 #[vn, vm, .string s, .int .i64 n] W fun en w' => ∃ A c B d, en = .returned (.tuple #[.slice A (onceHL l ⟨s, n⟩).length c, .slice B (onceHL l ⟨s, n⟩).length d]) ∧ HS base w' (.slice A (onceHL l ⟨s, n⟩).length c) (.slice B (onceHL l ⟨s, n⟩).length d) (onceHL l ⟨s, n⟩) ∧ Below base W w' ∧ StayB W w' vn vm ∧
      NewB W vn (.slice A (onceHL l ⟨s, n⟩).length c) ∧ NewB W vm (.slice B (onceHL l ⟨s, n⟩).length d) :=
  (c_rwith base vn vm l ⟨s, n⟩ W hS.1 hS.2 hb hl).mono (fun en w' ⟨v1, v2, h1, h2, h3, h4, h5, h6⟩ => by
    obtain ⟨A, c, rfl⟩ := Kd.R_slice h2
    obtain ⟨B, d, rfl⟩ := Kd.R_slice h3
    rw [List.length_map] at h1 h2 h3 h5 h6
    rw [List.length_map] at h1
    exact ⟨A, c, B, d, h1, ⟨h2, h3⟩, h4.below hb (fun k hk hk2 => by
      rcases hk2 with hk2 | hk2
      · have := hS.lt.1 k hk2; omega
      · have := hS.lt.2 k hk2; omega), fun k hk hk1 hk2 => h4.block k hk (fun hh => hh.elim hk1 hk2), h5, h6⟩)
end Go.Proofs.YtacefdkfbpgedaaGreat.Mine
namespace Go.Proofs.YtacefdkfbpgedaaGreat.Mine
open Go.Proofs.YtacefdkfbpgedaaGreat.PProgSmall
open Go.RowKit Go.Shelf Go.Proofs.YtacefdkfbpgedaaGreatW.PrintWords Go.Proofs.YtacefdkfbpgedaaGreatW.PrintLast Go.Proofs.YtacefdkfbpgedaaGreatW.PrintMore
set_option linter.unusedVariables false
set_option linter.unusedSimpArgs false
abbrev HcS (B : Nat) (C : Value) (p : Addr) (u0 u1 : Value) (W : World) : Prop := W.cell? ⟨B, 2, none⟩ = some C ∧ W.cell? p = some u0 ∧ W.cell? ⟨p.block, p.off + 1, none⟩ = some u1
abbrev HpS (p : Addr) (u1 u2 : Value) (W : World) : Prop := W.cell? ⟨p.block, p.off + 1, none⟩ = some u1 ∧ W.cell? ⟨p.block, p.off + 2, none⟩ = some u2
theorem cell_of_block0 {W W' : World} {p : Addr} {u : Value} (h : W.cell? p = some u) (hb : W'.heap[p.block]? = W.heap[p.block]?) : W'.cell? p = some u := by
  rw [← h]; simp only [World.cell?, hb]
theorem add_block (a : Addr) (i : Nat) : (a.add i).block = a.block := by unfold Addr.add; split <;> rfl
def RowX (W : World) (v : Value) : Prop := ∀ g, v.ownBlock = some g → ∃ cs, W.heap[g]? = some (.cells cs 57 (0, 0))
theorem RowX.of {W : World} {base : Nat} {ok : Nat → Prop} {v : Value} {xs : List Ex} (h : Kd.N k57 57 W base ok v xs) : RowX W v := fun g hg => by
  obtain ⟨_, rows, _, hR, _⟩ := h
  obtain ⟨inner, ho⟩ := Kd.R_own hR
  exact own_typed ho g hg
theorem RowX.stay {base : Nat} {W W' : World} {vn vm v : Value} {l : List He} (h : RowX W v) (hs : HS base W vn vm l) (hSt : StayB W W' vn vm) : RowX W' v := fun g hg => by
  obtain ⟨cs, hcs⟩ := h g hg
  exact ⟨cs, hSt.blk hcs (hs.ne hcs (by decide) (by decide))⟩
theorem RowX.cell {base : Nat} {W W' : World} {vn vm : Value} {l : List He} {ap p : Addr} {n c : Nat} {u : Value} (h : RowX W (.slice (some ap) n c)) (hs : HS base W vn vm l) (hSt : StayB W W' vn vm) (hp : p.block = ap.block) (hc : W.cell? p = some u) : W'.cell? p = some u := by
  obtain ⟨cs, hcs⟩ := h ap.block rfl
  have hne := hs.ne hcs (by decide) (by decide)
  refine cell_of_block0 hc ?_
  rw [hp]
  exact hSt _ (blk_lt hcs) hne.1 hne.2
theorem cell_of_block {W W' : World} {p : Addr} {u : Value} (h : W.cell? p = some u) (hb : W'.heap[p.block]? = W.heap[p.block]?) : W'.cell? p = some u := by
  rw [← h]; simp only [World.cell?, hb]
set_option maxRecDepth 100000 in
set_option maxHeartbeats 8000000 in
theorem c_rHeads (defs : List De) (A : Option Addr) (c : Nat) (w : World) (hr : Kd.C k59 w A defs.length defs) (hc : defs.length ≤ c) (hn : defs.length ≤ 100000) (hcz : ∀ d ∈ defs, d.f2.length ≤ 100000) (hz : ∀ d ∈ defs, ∀ b ∈ bodiesD d, szE b ≤ 1000000) (hT : (headsP defs).length < 1000000) :
    Calls Tryz.prog 44 #[.agg #[.slice A defs.length c]] w fun en w' => ∃ v1 v2, en = .returned (.tuple #[v1, v2]) ∧ HS w.heap.size w' v1 v2 (headsP defs) ∧ Below w.heap.size w w' := by
  have HT := Lib.hid hT
  obtain ⟨W1, hW1⟩ : ∃ W1, w.alloc (.cells #[.slice A defs.length c] 24) = W1 := ⟨_, rfl⟩
  have q1 : Below w.heap.size w W1 := by rw [← hW1]; exact below_alloc1 _ _
  have bP : W1.heap[w.heap.size]? = some (.cells #[.slice A defs.length c] 24 (0, 0)) := by rw [← hW1]; exact alloc_at _ _
  have z1 : W1.heap.size = w.heap.size + 1 := by rw [← hW1]; simp
  have hmd := hr.2.1
  have HF := Lib.hid (Kd.C_F k59_heap hr)
  have HR := Lib.hid hr
  have Q := Aside0.mk q1
  have B := Aside0.mk bP
  have HW1 := Lib.hid hW1
  have HZ1 := Lib.hid z1
  clear hr q1 bP hW1 z1
  have hz1b := Nat.le_of_eq HZ1.out.symm
  have kP := (blk_cell B.out 0).trans rfl
  clear hT
  go_enter Tryz.func44, Tryz.ntmps44
  go_wp2_with fail
  rw [HW1.out]
  go_wp2_with fail
  clear kP
  go_loopg [4, 5, 6] defs.length (fun gg s4 s5 s6 wr => ∃ (kk nn : Nat) (An : Option Addr) (cn : Nat) (Am : Option Addr) (cm : Nat), s4 = .slice An nn cn ∧ s5 = .slice Am nn cm ∧ kk ≤ defs.length ∧ defs.length - kk ≤ gg ∧ s6 = .int .i64 kk ∧ Aside0 (HS W1.heap.size wr (.slice An nn cn) (.slice Am nn cm) ((defs.take kk).foldl headD [])) ∧ Aside0 (Below W1.heap.size W1 wr))
  case atStart => exact ⟨0, 0, none, 0, none, 0, rfl, rfl, Nat.zero_le _, by omega, rfl, ⟨HS.nil _ _⟩, ⟨Below.refl _ _⟩⟩
  case round =>
    obtain ⟨kk, nn, An, cn, Am, cm, rfl, rfl, hkk, hg, rfl, HH, HB⟩ := hrel
    have HQ := Aside0.mk (Q.out.trans (HB.out.mono (by omega)))
    have BP := Aside0.mk (blk_below B.out HB.out)
    have kP := (blk_cell BP.out 0).trans rfl
    have hwr := HB.out.size
    obtain ⟨l0, hl0⟩ : ∃ l0, (defs.take kk).foldl headD [] = l0 := ⟨_, rfl⟩
    rw [hl0] at HH
    have HL0 := Lib.hid hl0
    clear hl0
    by_cases hlt : kk < defs.length
    · have hltz : (kk : Int) < (defs.length : Int) := by omega
      obtain ⟨ad, g0, g1, g2, g3, g4, g5, rfl, hK, hcells, y0, y1, y2, y3, y4, y5⟩ := gett6 rfl (Kd.C_below HR.out HQ.out) kk hlt
      have hFK := elemF HF.out kk hlt rfl hcells (fun p v hp hv => (HQ.out).cell (World.block_lt_of_cell? _ _ hv) |>.trans hv) (by decide)
      have hmem := List.getElem_mem hlt
      obtain ⟨dd, hdd⟩ : ∃ dd, defs[kk] = dd := ⟨_, rfl⟩
      have HK := Lib.hid (show defs[kk]? = some dd by rw [List.getElem?_eq_getElem hlt, hdd])
      rw [hdd] at hFK hmem
      obtain ⟨Z1, z1, Z2, z2, Z5, z5, he, _⟩ := k59_openF hFK
      obtain ⟨rfl, rfl, rfl, rfl, rfl, rfl⟩ : g0 = _ ∧ g1 = _ ∧ g2 = _ ∧ g3 = _ ∧ g4 = _ ∧ g5 = _ := by simpa using he
      have HDd := Lib.hid hdd
      have HFk := Lib.hid (show Kd.FK k59 wr (fun k => k < (wr).heap.size) dd [.string dd.f0, .slice Z1 dd.f1.length z1, .slice Z2 dd.f2.length z2, .int .i64 dd.f3.f0, .string dd.f3.f1, .slice Z5 dd.f3.f2.length z5] from Kd.FK_mono (Kd.FK_below hFK (HQ.out)) (fun k hk => by have := (HQ.out).size; omega))
      clear hK hcells hFK he hdd
      have hFd : Kd.FK k59 w (fun k => k < w.heap.size) dd [.string dd.f0, .slice Z1 dd.f1.length z1, .slice Z2 dd.f2.length z2, .int .i64 dd.f3.f0, .string dd.f3.f1, .slice Z5 dd.f3.f2.length z5] := by
        have h1 := elemF (W := wr) (cs := [.string dd.f0, .slice Z1 dd.f1.length z1, .slice Z2 dd.f2.length z2, .int .i64 dd.f3.f0, .string dd.f3.f1, .slice Z5 dd.f3.f2.length z5]) HF.out kk hlt rfl (fun j u hj => by
          have e6 : (k59).sz = 6 := rfl
          rw [e6]
          match j, hj with
          | 0, hj => cases hj; exact y0
          | 1, hj => cases hj; rw [add_field _ _ 1 (by omega)]; exact y1
          | 2, hj => cases hj; rw [add_field _ _ 2 (by omega)]; exact y2
          | 3, hj => cases hj; rw [add_field _ _ 3 (by omega)]; exact y3
          | 4, hj => cases hj; rw [add_field _ _ 4 (by omega)]; exact y4
          | 5, hj => cases hj; rw [add_field _ _ 5 (by omega)]; exact y5) (fun p v hp hv => HQ.out.cell (World.block_lt_of_cell? _ _ hv) |>.trans hv) (by decide)
        rwa [show defs[kk] = dd from HDd.out] at h1
      have hcd := hcz _ hmem
      have hzd := hz _ hmem
      obtain ⟨W2, hW2⟩ : ∃ W2, wr.alloc (.cells #[.string dd.f0, .slice Z1 dd.f1.length z1, .slice Z2 dd.f2.length z2, .int .i64 dd.f3.f0, .string dd.f3.f1, .slice Z5 dd.f3.f2.length z5] 59) = W2 := ⟨_, rfl⟩
      have q2 : Below wr.heap.size wr W2 := by rw [← hW2]; exact below_alloc1 _ _
      have b2 : W2.heap[wr.heap.size]? = some (.cells #[.string dd.f0, .slice Z1 dd.f1.length z1, .slice Z2 dd.f2.length z2, .int .i64 dd.f3.f0, .string dd.f3.f1, .slice Z5 dd.f3.f2.length z5] 59 (0, 0)) := by rw [← hW2]; exact alloc_at _ _
      have z2' : W2.heap.size = wr.heap.size + 1 := by rw [← hW2]; simp
      have hFd2 := Kd.FK_below hFd (HQ.out.trans (q2.mono HQ.out.size))
      have hqsz := HQ.out.size
      have HBo := Lib.hid (c_rBodies dd _ (fun k => k < w.heap.size) W2 hFd2 (fun k hk => by omega) (by omega))
      have B2 := Aside0.mk b2
      have Q2 := Aside0.mk q2
      have HFd := Lib.hid hFd
      have HW2 := Lib.hid hW2
      clear b2 q2 hW2 hFd hFd2
      go_upto_region 7 with fail
      rw [HW2.out]
      clear HW2
      have k0 := (blk_cell B2.out 0).trans rfl
      have k1 := (blk_cell B2.out 1).trans rfl
      have k2 := (blk_cell B2.out 2).trans rfl
      have k3 := (blk_cell B2.out 3).trans rfl
      have k4 := (blk_cell B2.out 4).trans rfl
      have k5 := (blk_cell B2.out 5).trans rfl
      go_wp2_with fail
      refine HBo.out.mono ?_
      rintro en w3 ⟨v8, rfl, hN, hb⟩
      clear k0 k1 k2 k3 k4 k5
      obtain ⟨bs, hbs⟩ : ∃ bs, bodiesD dd = bs := ⟨_, rfl⟩
      rw [hbs] at hN hzd
      obtain ⟨A8, c8, rfl⟩ := Kd.N_slice hN
      have hF3 := Kd.N_F (Kd.N_bound hN)
      obtain ⟨ok3, hok3⟩ : ∃ ok3 : Nat → Prop, (fun k => (k < w.heap.size ∨ W2.heap.size ≤ k) ∧ k < w3.heap.size) = ok3 := ⟨_, rfl⟩
      have hk3 : ∀ k, ok3 k → (k < w.heap.size ∨ W2.heap.size ≤ k) ∧ k < w3.heap.size := fun k hk => by rw [← hok3] at hk; exact hk
      rw [hok3] at hF3
      have HK3 := Aside0.mk hk3
      have hbl := (Kd.F_now hF3).2.1
      have HF3 := Aside0.mk hF3
      have hw3 := hb.size
      have HH3 := Aside0.mk ((HH.out.below Q2.out).below hb)
      have HB3 := Aside0.mk (HB.out.trans ((Q2.out.trans (hb.mono Q2.out.size)).mono HB.out.size))
      have BX3 := Aside0.mk (blk_below B2.out hb)
      have HDj := Aside0.mk (show Dj ok3 (.slice An nn cn) ∧ Dj ok3 (.slice Am nn cm) from ⟨fun k hk he => by have := hk3 k hk; have := HH.out.lt.1 k he; omega, fun k hk he => by have := hk3 k hk; have := HH.out.lt.2 k he; omega⟩)
      have HBs := Lib.hid hbs
      have HQ3 := Aside0.mk (HQ.out.trans ((Q2.out.trans (hb.mono Q2.out.size)).mono HQ.out.size))
      clear hN hF3 hok3 hk3 hb hbs HBo HH HB
      go_wp2_with fail
      go_loopg [4, 5, 9] bs.length (fun gg s4 s5 s9 wj => ∃ (jj nn : Nat) (An : Option Addr) (cn : Nat) (Am : Option Addr) (cm : Nat), s4 = .slice An nn cn ∧ s5 = .slice Am nn cm ∧ jj ≤ bs.length ∧ bs.length - jj ≤ gg ∧ s9 = .int .i64 jj ∧ Aside0 (HS W1.heap.size wj (.slice An nn cn) (.slice Am nn cm) (headK dd l0 jj)) ∧ Aside0 (Below W1.heap.size W1 wj) ∧ w3.heap.size ≤ wj.heap.size ∧
        Aside0 (wj.heap[wr.heap.size]? = some (.cells #[.string dd.f0, .slice Z1 dd.f1.length z1, .slice Z2 dd.f2.length z2, .int .i64 dd.f3.f0, .string dd.f3.f1, .slice Z5 dd.f3.f2.length z5] 59 (0, 0))) ∧ Aside0 (Kd.F k57 wj ok3 A8 bs.length bs) ∧ Aside0 (Dj ok3 (.slice An nn cn) ∧ Dj ok3 (.slice Am nn cm)))
      case atStart => exact ⟨0, _, _, _, _, _, rfl, rfl, Nat.zero_le _, by omega, rfl, HH3, HB3, Nat.le_refl _, BX3, HF3, HDj⟩
      case round =>
        rename World => wj
        obtain ⟨jj, nj, Bn, bn, Bm, bm, rfl, rfl, hjj, hgj, rfl, HHj, HBj, hwj, BXj, HFj, HDjj⟩ := hrel
        have hsq := HBj.out.size
        have HQj := Aside0.mk (Q.out.trans (HBj.out.mono (by omega)))
        obtain ⟨lk, hlk⟩ : ∃ lk, headK dd l0 jj = lk := ⟨_, rfl⟩
        rw [hlk] at HHj
        have HLk := Lib.hid hlk
        clear hlk
        by_cases hltj : jj < bs.length
        · have hltjz : (jj : Int) < (bs.length : Int) := by omega
          obtain ⟨b, hbb⟩ : ∃ b, bs[jj] = b := ⟨_, rfl⟩
          have HBb := Lib.hid (show bs[jj]? = some b by rw [List.getElem?_eq_getElem hltj, hbb])
          have hszb : szE b ≤ 1000000 := hzd b (by rw [← hbb]; exact List.getElem_mem hltj)
          have hlc : (headCa dd jj lk).length < 1000000 := by
            have h1 := heads_le2 HK.out (j := jj) (b := b) (by rw [HBs.out]; exact HBb.out) 0
            rw [List.take_zero, List.foldl_nil, HL0.out, HLk.out] at h1
            exact Nat.lt_of_le_of_lt h1 HT.out
          have hlk1 : lk.length < 1000000 := Nat.lt_of_le_of_lt (headCa_up dd jj lk) hlc
          have k2 := (blk_cell BXj.out 2).trans rfl
          go_upto_if 35 with fail
          go_cut [4, 5] (fun s4 s5 wx => ∃ (nn : Nat) (An : Option Addr) (cn : Nat) (Am : Option Addr) (cm : Nat), s4 = .slice An nn cn ∧ s5 = .slice Am nn cm ∧ Aside0 (HS W1.heap.size wx (.slice An nn cn) (.slice Am nn cm) (headCa dd jj lk)) ∧ Aside0 (Below W1.heap.size W1 wx) ∧ wj.heap.size ≤ wx.heap.size ∧
            Aside0 (wx.heap[wr.heap.size]? = some (.cells #[.string dd.f0, .slice Z1 dd.f1.length z1, .slice Z2 dd.f2.length z2, .int .i64 dd.f3.f0, .string dd.f3.f1, .slice Z5 dd.f3.f2.length z5] 59 (0, 0))) ∧ Aside0 (Kd.F k57 wx ok3 A8 bs.length bs) ∧ Aside0 (Dj ok3 (.slice An nn cn) ∧ Dj ok3 (.slice Am nn cm)))
          case first =>
            by_cases h0 : dd.f2.length = 0
            · have c0 : decide (0 < dd.f2.length) = false := decide_eq_false (by omega)
              have c0z : decide ((0 : Int) < (dd.f2.length : Int)) = false := decide_eq_false (by omega)
              have HC0 := Lib.hid (headCa_no (i := jj) (l := lk) h0)
              clear h0
              rw [c0]
              go_wp2_with fail
              go_meet
              exact ⟨_, _, _, _, _, rfl, rfl, ⟨by rw [HC0.out]; exact HHj.out⟩, HBj, Nat.le_refl _, BXj, HFj, HDjj⟩
            · have c0 : decide (0 < dd.f2.length) = true := decide_eq_true (by omega)
              have c0z : decide ((0 : Int) < (dd.f2.length : Int)) = true := decide_eq_true (by omega)
              have hbm : bs = dd.f2.map (·.f2) := by rw [← HBs.out, bodiesD, if_neg h0]
              have hk2 : jj < dd.f2.length := by rw [hbm] at hltj; simpa using hltj
              have hk2z : (jj : Int) < (dd.f2.length : Int) := by omega
              obtain ⟨Y1, y1', Y2, y2', Y5, y5', hcs, m1, G1, m2, G2, m5, G5⟩ := k59_openF HFd.out
              obtain ⟨rfl, rfl, rfl, rfl, rfl, rfl⟩ : Z1 = Y1 ∧ z1 = y1' ∧ Z2 = Y2 ∧ z2 = y2' ∧ Z5 = Y5 ∧ z5 = y5' := by simpa [and_assoc] using hcs
              obtain ⟨kd, e0, e1, e2, e3, e4, rfl, hK, -, y0, y1, y2, y3, y4⟩ := gett5 rfl (Kd.F_now G2) jj hk2
              obtain ⟨X1, x1', X4, x4', he, m1', G1', m4', G4'⟩ := k62_open hK
              obtain ⟨rfl, rfl, rfl, rfl, rfl⟩ : e0 = _ ∧ e1 = _ ∧ e2 = _ ∧ e3 = _ ∧ e4 = _ := by simpa using he
              have hpl : (kd.add (jj * 5)).block < w.heap.size := World.block_lt_of_cell? _ _ y0
              have hm1' := G1'.2.1
              obtain ⟨ca, hca⟩ : ∃ ca, dd.f2[jj] = ca := ⟨_, rfl⟩
              rw [hca] at y0 y1 hm1'
              have y0 := (HQj.out.cell (p := kd.add (jj * 5)) hpl).trans y0
              have y1 := (HQj.out.cell (p := ⟨(kd.add (jj * 5)).block, (kd.add (jj * 5)).off + 1, none⟩) hpl).trans y1
              have HCa := Lib.hid (show headCa dd jj lk = onceHL lk ⟨ca.f0, (ca.f1.length : Int)⟩ from headCa_at (by rw [List.getElem?_eq_getElem hk2, hca]))
              have hwjb := HHj.out.lt
              clear hK he G1' G4' G1 G2 G5 m1' m4' m1 m2 m5 y2 y3 y4 hcs hca hbm h0
              rw [c0]
              go_upto_region 12 with fail
              have hSd : (fun W => HcS wr.heap.size (.slice (some kd) dd.f2.length z2) (kd.add (jj * 5)) (.string ca.f0) (.slice X1 ca.f1.length x1') W) wj.drew := ⟨k2, y0, y1⟩
              have HWi := Lib.hid (c_rwithS W1.heap.size (.slice Bn nj bn) (.slice Bm nj bm) lk ca.f0 ca.f1.length wj.drew (HHj.out.below (below_drew (Below.refl _ _))) hsq hlk1)
              refine wp_region_K (S := fun W => HcS wr.heap.size (.slice (some kd) dd.f2.length z2) (kd.add (jj * 5)) (.string ca.f0) (.slice X1 ca.f1.length x1') W) (k := 20) (by kernel_rfl) ?_
              change wpAnyK _ _ _ _ _ _ 21 (Array.replicate 21 false) _ _
              refine wpAnyK_take (i := 0) (v := ?_) rfl (by kernel_rfl) (by kernel_rfl) (by kernel_rfl) (by kernel_rfl) (fun _ _ _ h => h) hSd (Or.inl ⟨by rfl, ?_⟩) ?_
              rotate_left 1
              (intro w hSw; (try dsimp only at hSw); go_simp; try (with_reducible rfl))
              (try dsimp only [Act.put]); (try simp only [List.setIfInBounds_toArray, List.set_cons_zero, List.set_cons_succ])
              refine wpAnyK_take (i := 1) (v := ?_) rfl (by kernel_rfl) (by kernel_rfl) (by kernel_rfl) (by kernel_rfl) (fun _ _ _ h => h) hSd (Or.inl ⟨by rfl, ?_⟩) ?_
              rotate_left 1
              (intro w hSw; (try dsimp only at hSw); go_simp; try (with_reducible rfl))
              (try dsimp only [Act.put]); (try simp only [List.setIfInBounds_toArray, List.set_cons_zero, List.set_cons_succ])
              refine wpAnyK_take (i := 2) (v := ?_) rfl (by kernel_rfl) (by kernel_rfl) (by kernel_rfl) (by kernel_rfl) (fun _ _ _ h => h) hSd (Or.inl ⟨by rfl, ?_⟩) ?_
              rotate_left 1
              (intro w hSw; (try dsimp only at hSw); go_simp; try (with_reducible rfl))
              (try dsimp only [Act.put]); (try simp only [List.setIfInBounds_toArray, List.set_cons_zero, List.set_cons_succ])
              refine wpAnyK_take (i := 3) (v := ?_) rfl (by kernel_rfl) (by kernel_rfl) (by kernel_rfl) (by kernel_rfl) (fun _ _ _ h => h) hSd (Or.inl ⟨by rfl, ?_⟩) ?_
              rotate_left 1
              (intro w hSw; (try dsimp only at hSw); go_simp; try (with_reducible rfl))
              (try dsimp only [Act.put]); (try simp only [List.setIfInBounds_toArray, List.set_cons_zero, List.set_cons_succ])
              refine wpAnyK_take (i := 4) (v := ?_) rfl (by kernel_rfl) (by kernel_rfl) (by kernel_rfl) (by kernel_rfl) (fun _ _ _ h => h) hSd (Or.inl ⟨by rfl, ?_⟩) ?_
              rotate_left 1
              (intro w hSw; (try dsimp only at hSw); go_simp; try (with_reducible rfl))
              (try dsimp only [Act.put]); (try simp only [List.setIfInBounds_toArray, List.set_cons_zero, List.set_cons_succ])
              refine wpAnyK_take (i := 5) (v := ?_) rfl (by kernel_rfl) (by kernel_rfl) (by kernel_rfl) (by kernel_rfl) (fun _ _ _ h => h) hSd (Or.inl ⟨by rfl, ?_⟩) ?_
              rotate_left 1
              (intro w hSw; (try dsimp only at hSw); go_simp; try (with_reducible rfl))
              (try dsimp only [Act.put]); (try simp only [List.setIfInBounds_toArray, List.set_cons_zero, List.set_cons_succ])
              refine wpAnyK_take (i := 6) (v := ?_) rfl (by kernel_rfl) (by kernel_rfl) (by kernel_rfl) (by kernel_rfl) (fun _ _ _ h => h) hSd (Or.inl ⟨by rfl, ?_⟩) ?_
              rotate_left 1
              (intro w hSw; (try dsimp only at hSw); go_simp; try (with_reducible rfl))
              (try dsimp only [Act.put]); (try simp only [List.setIfInBounds_toArray, List.set_cons_zero, List.set_cons_succ])
              refine wpAnyK_take (i := 7) (v := ?_) rfl (by kernel_rfl) (by kernel_rfl) (by kernel_rfl) (by kernel_rfl) (fun _ _ _ h => h) hSd (Or.inl ⟨by rfl, ?_⟩) ?_
              rotate_left 1
              (intro w hSw; (try dsimp only at hSw); go_simp; try (with_reducible rfl))
              (try dsimp only [Act.put]); (try simp only [List.setIfInBounds_toArray, List.set_cons_zero, List.set_cons_succ])
              refine wpAnyK_take (i := 8) (v := ?_) rfl (by kernel_rfl) (by kernel_rfl) (by kernel_rfl) (by kernel_rfl) (fun _ _ _ h => h) hSd (Or.inl ⟨by rfl, ?_⟩) ?_
              rotate_left 1
              (intro w hSw; (try dsimp only at hSw); go_simp; try (with_reducible rfl))
              (try dsimp only [Act.put]); (try simp only [List.setIfInBounds_toArray, List.set_cons_zero, List.set_cons_succ])
              refine wpAnyK_take (i := 9) (v := ?_) rfl (by kernel_rfl) (by kernel_rfl) (by kernel_rfl) (by kernel_rfl) (fun _ _ _ h => h) hSd (Or.inl ⟨by rfl, ?_⟩) ?_
              rotate_left 1
              (intro w hSw; (try dsimp only at hSw); go_simp; try (with_reducible rfl))
              (try dsimp only [Act.put]); (try simp only [List.setIfInBounds_toArray, List.set_cons_zero, List.set_cons_succ])
              refine wpAnyK_take (i := 10) (v := ?_) rfl (by kernel_rfl) (by kernel_rfl) (by kernel_rfl) (by kernel_rfl) (fun _ _ _ h => h) hSd (Or.inl ⟨by rfl, ?_⟩) ?_
              rotate_left 1
              (intro w hSw; (try dsimp only at hSw); go_simp; try (with_reducible rfl))
              (try dsimp only [Act.put]); (try simp only [List.setIfInBounds_toArray, List.set_cons_zero, List.set_cons_succ])
              refine wpAnyK_take (i := 11) (v := ?_) rfl (by kernel_rfl) (by kernel_rfl) (by kernel_rfl) (by kernel_rfl) (fun _ _ _ h => h) hSd (Or.inl ⟨by rfl, ?_⟩) ?_
              rotate_left 1
              (intro w hSw; (try dsimp only at hSw); go_simp; try (with_reducible rfl))
              (try dsimp only [Act.put]); (try simp only [List.setIfInBounds_toArray, List.set_cons_zero, List.set_cons_succ])
              refine wpAnyK_take (i := 12) (v := ?_) rfl (by kernel_rfl) (by kernel_rfl) (by kernel_rfl) (by kernel_rfl) (fun _ _ _ h => h) hSd (Or.inl ⟨by rfl, ?_⟩) ?_
              rotate_left 1
              (intro w hSw; (try dsimp only at hSw); go_simp; try (with_reducible rfl))
              (try dsimp only [Act.put]); (try simp only [List.setIfInBounds_toArray, List.set_cons_zero, List.set_cons_succ])
              refine wpAnyK_take (i := 13) (v := ?_) rfl (by kernel_rfl) (by kernel_rfl) (by kernel_rfl) (by kernel_rfl) (fun _ _ _ h => h) hSd (Or.inl ⟨by rfl, ?_⟩) ?_
              rotate_left 1
              (intro w hSw; (try dsimp only at hSw); go_simp; try (with_reducible rfl))
              (try dsimp only [Act.put]); (try simp only [List.setIfInBounds_toArray, List.set_cons_zero, List.set_cons_succ])
              refine wpAnyK_one (i := 14) (by kernel_rfl) rfl (fun K hK => ?_)
              go_simp
              refine hK.out _ _ (fun _ => hSd) ?_
              clear hK
              refine wpAnyK_one (i := 15) (by kernel_rfl) rfl (fun K hK => ?_)
              go_simp
              go_at_call 97
              (with_reducible refine HWi.out.mono ?_)
              rintro e wE ⟨An, cn, Am, cm, rfl, hH4, hB4, hSt, hN1, hN2⟩
              have hbx := hSt.blk (show wj.drew.heap[wr.heap.size]? = _ from BXj.out) (HHj.out.ne BXj.out (by decide) (by decide))
              have hw1 := hB4.size
              have hSd : (fun W => HcS wr.heap.size (.slice (some kd) dd.f2.length z2) (kd.add (jj * 5)) (.string ca.f0) (.slice X1 ca.f1.length x1') W) wE := ⟨(blk_cell hbx 2).trans rfl, cell_of_block y0 (hB4.block _ (by omega)), cell_of_block y1 (hB4.block _ (by show (kd.add (jj * 5)).block < _; omega))⟩
              have HBX := Aside0.mk hbx
              have HF4 := Aside0.mk (hSt.F (Kd.F_drew HFj.out) HDjj.out.1 HDjj.out.2)
              have HD4 := Aside0.mk (And.intro (HDjj.out.1.new hN1 (fun k hk => by have := (HK3.out k hk).2; show k < wj.heap.size; omega)) (HDjj.out.2.new hN2 (fun k hk => by have := (HK3.out k hk).2; show k < wj.heap.size; omega)))
              have HB4 := Aside0.mk (HBj.out.trans (((below_drew (Below.refl _ wj)).trans hB4).mono (Nat.le_refl _)))
              have HH4 := Aside0.mk hH4
              have hw2 : wj.heap.size ≤ wE.heap.size := hw1
              clear hbx hB4 hSt hN1 hN2 hH4
              refine hK.out _ _ (fun _ => hSd) ?_
              clear hK
              refine wpAnyK_one (i := 16) (by kernel_rfl) rfl (fun K hK => ?_)
              go_simp
              refine hK.out _ _ (fun _ => hSd) ?_
              clear hK
              refine wpAnyK_take (i := 17) (v := ?_) rfl (by kernel_rfl) (by kernel_rfl) (by kernel_rfl) (by kernel_rfl) (fun _ _ _ h => h) hSd (Or.inl ⟨by rfl, ?_⟩) ?_
              rotate_left 1
              (intro w hSw; (try dsimp only at hSw); go_simp; try (with_reducible rfl))
              (try dsimp only [Act.put]); (try simp only [List.setIfInBounds_toArray, List.set_cons_zero, List.set_cons_succ])
              refine wpAnyK_take (i := 18) (v := ?_) rfl (by kernel_rfl) (by kernel_rfl) (by kernel_rfl) (by kernel_rfl) (fun _ _ _ h => h) hSd (Or.inl ⟨by rfl, ?_⟩) ?_
              rotate_left 1
              (intro w hSw; (try dsimp only at hSw); go_simp; try (with_reducible rfl))
              (try dsimp only [Act.put]); (try simp only [List.setIfInBounds_toArray, List.set_cons_zero, List.set_cons_succ])
              refine wpAnyK_one (i := 19) (by kernel_rfl) rfl (fun K hK => ?_)
              go_simp
              refine hK.out _ _ (fun _ => hSd) ?_
              clear hK
              refine wpAnyK_one (i := 20) (by kernel_rfl) rfl (fun K hK => ?_)
              go_simp
              refine hK.out _ _ (fun h => absurd rfl h) ?_
              clear hK hSd
              refine wpAnyK_done (by kernel_rfl) ?_ _
              go_wp2_with fail
              go_meet
              exact ⟨_, _, _, _, _, rfl, rfl, ⟨by rw [HCa.out]; exact HH4.out⟩, HB4, hw2, HBX, HF4, HD4⟩
          case rest =>
            obtain ⟨nx, Cn, cn, Cm, cm, rfl, rfl, HHx, HBx, hwx, BXx, HFx, HDx⟩ := hcut
            clear HHj HBj BXj HFj HDjj k2
            have hsx := HBx.out.size
            obtain ⟨ad8, e0, e1, e2, rfl, hK, hcells, k0, k1, k2⟩ := gett3 rfl (Kd.F_now HFx.out) jj hltj
            obtain ⟨X2, x2, he, hl2, hF2⟩ := k57_openF (elemF HFx.out jj hltj rfl hcells (fun _ _ _ h => h) (by decide))
            obtain ⟨rfl, rfl, rfl⟩ : e0 = _ ∧ e1 = _ ∧ e2 = _ := by simpa using he
            rw [hbb] at k0 k1 k2 hl2 hF2
            have HPl := Lib.hid (c_rPlaces _ b X2 x2 wc ok3 (Nat.le_refl _) hszb hF2 (fun k hk => by have := (HK3.out k hk).2; omega) hl2)
            clear hK hcells he hl2 hF2 hbb
            go_wp2_with fail
            refine HPl.out.mono ?_
            rintro en w5 ⟨v10, rfl, hN, hb⟩
            clear k0 k1 k2
            obtain ⟨pl, hpl⟩ : ∃ pl, plE b = pl := ⟨_, rfl⟩
            rw [hpl] at hN
            obtain ⟨A10, c10, rfl⟩ := Kd.N_slice hN
            have hF5 := Kd.N_F (Kd.N_bound hN)
            have HRX := Aside0.mk (RowX.of hN)
            obtain ⟨ok5, hok5⟩ : ∃ ok5 : Nat → Prop, (fun k => (ok3 k ∨ wc.heap.size ≤ k) ∧ k < w5.heap.size) = ok5 := ⟨_, rfl⟩
            have hw5 := hb.size
            have hk5 : ∀ k, ok5 k → (ok3 k ∨ wc.heap.size ≤ k) ∧ k < w5.heap.size := fun k hk => by rw [← hok5] at hk; exact hk
            have hk35 : ∀ k, ok3 k → ok5 k := fun k hk => by rw [← hok5]; exact ⟨.inl hk, by have := (HK3.out k hk).2; omega⟩
            rw [hok5] at hF5
            have hpl2 := (Kd.F_now hF5).2.1
            have HFp := Aside0.mk hF5
            have HK5 := Aside0.mk hk5
            have HK35 := Aside0.mk hk35
            have HH5 := Aside0.mk (HHx.out.below hb)
            have HB5 := Aside0.mk (HBx.out.trans (hb.mono HBx.out.size))
            have BX5 := Aside0.mk (blk_below BXx.out hb)
            have HF5 := Aside0.mk (Kd.F_below HFx.out hb)
            have HD5 := Aside0.mk (show Dj ok5 (.slice Cn nx cn) ∧ Dj ok5 (.slice Cm nx cm) from ⟨fun k hk he => by
                rcases (hk5 k hk).1 with h | h
                · exact HDx.out.1 k h he
                · have := HHx.out.lt.1 k he; omega, fun k hk he => by
                rcases (hk5 k hk).1 with h | h
                · exact HDx.out.2 k h he
                · have := HHx.out.lt.2 k he; omega⟩)
            have HPp := Lib.hid hpl
            obtain ⟨lc, hlcd⟩ : ∃ lc, headCa dd jj lk = lc := ⟨_, rfl⟩
            rw [hlcd] at HH5
            have HLc := Lib.hid hlcd
            clear hN hF5 hok5 hk5 hk35 hb hpl HPl HHx HBx BXx HFx HDx hlcd
            go_wp2_with fail
            go_loopg [4, 5, 11] pl.length (fun gg s4 s5 s11 wi => ∃ (ii nn : Nat) (An : Option Addr) (cn : Nat) (Am : Option Addr) (cm : Nat), s4 = .slice An nn cn ∧ s5 = .slice Am nn cm ∧ ii ≤ pl.length ∧ pl.length - ii ≤ gg ∧ s11 = .int .i64 ii ∧ Aside0 (HS W1.heap.size wi (.slice An nn cn) (.slice Am nn cm) ((pl.take ii).foldl headB lc)) ∧ Aside0 (Below W1.heap.size W1 wi) ∧ w5.heap.size ≤ wi.heap.size ∧
              Aside0 (wi.heap[wr.heap.size]? = some (.cells #[.string dd.f0, .slice Z1 dd.f1.length z1, .slice Z2 dd.f2.length z2, .int .i64 dd.f3.f0, .string dd.f3.f1, .slice Z5 dd.f3.f2.length z5] 59 (0, 0))) ∧ Aside0 (Kd.F k57 wi ok3 (some ad8) bs.length bs) ∧ Aside0 (Kd.F k57 wi ok5 A10 pl.length pl) ∧ Aside0 (RowX wi (.slice A10 pl.length c10)) ∧ Aside0 (Dj ok5 (.slice An nn cn) ∧ Dj ok5 (.slice Am nn cm)))
            case atStart => exact ⟨0, _, _, _, _, _, rfl, rfl, Nat.zero_le _, by omega, rfl, HH5, HB5, Nat.le_refl _, BX5, HF5, HFp, HRX, HD5⟩
            case round =>
              rename World => wi
              obtain ⟨ii, ni, En, en, Em, em, rfl, rfl, hii, hgi, rfl, HHi, HBi, hwi, BXi, HFi, HFq, HRi, HDi⟩ := hrel
              have hsi := HBi.out.size
              obtain ⟨li, hli⟩ : ∃ li, (pl.take ii).foldl headB lc = li := ⟨_, rfl⟩
              have HLi := Lib.hid hli
              rw [hli] at HHi
              by_cases hlti : ii < pl.length
              · have hltiz : (ii : Int) < (pl.length : Int) := by omega
                have hll : li.length < 1000000 := by
                  have h1 := heads_le2 HK.out (j := jj) (b := b) (by rw [HBs.out]; exact HBb.out) ii
                  rw [HL0.out, HLk.out, HLc.out, HPp.out, hli] at h1
                  exact Nat.lt_of_le_of_lt h1 HT.out
                obtain ⟨ap, e0, e1, e2, rfl, hK, -, k0, k1, k2⟩ := gett3 rfl (Kd.F_now HFq.out) ii hlti
                obtain ⟨X3, x3, he, hl3, hC3⟩ := k57_open hK
                obtain ⟨rfl, rfl, rfl⟩ : e0 = _ ∧ e1 = _ ∧ e2 = _ := by simpa using he
                have hm3 := hC3.2.1
                obtain ⟨x, hx⟩ : ∃ x, pl[ii] = x := ⟨_, rfl⟩
                rw [hx] at k0 k1 k2 hm3
                have HX := Lib.hid (show pl[ii]? = some x by rw [List.getElem?_eq_getElem hlti, hx])
                clear hK he hl3 hC3 hx hli
                cases t1 : (x.f0 == 2) with
                | false =>
                  have HNo := Lib.hid (show headB li x = li by rw [headB, if_neg (by simpa using t1)])
                  go_wp2_with fail
                  go_roundg (pl.length - (ii + 1))
                  case measure => omega
                  case rel => exact ⟨ii + 1, _, _, _, _, _, rfl, rfl, by omega, by omega, by go_num, ⟨by rw [foldl_snoc HX.out, HLi.out, HNo.out]; exact HHi.out⟩, HBi, hwi, BXi, HFi, HFq, HRi, HDi⟩
                | true =>
                  have HYe := Lib.hid (show headB li x = onceHL li ⟨x.f1, (x.f2.length : Int)⟩ by rw [headB, if_pos (by simpa using t1)])
                  have hSd : (fun W => HpS (ap.add (ii * 3)) (.string x.f1) (.slice X3 x.f2.length x3) W) wi.drew := ⟨k1, k2⟩
                  have hapl : (ap.add (ii * 3)).block < wi.heap.size := World.block_lt_of_cell? _ _ k0
                  have HFt := Aside0.mk (Kd.F_drew HFq.out)
                  have HWi := Lib.hid (c_rwithS W1.heap.size (.slice En ni en) (.slice Em ni em) li x.f1 x.f2.length wi.drew (HHi.out.below (below_drew (Below.refl _ _))) hsi hll)
                  go_upto_region 18 with fail
                  refine wp_region_K (S := fun W => HpS (ap.add (ii * 3)) (.string x.f1) (.slice X3 x.f2.length x3) W) (k := 18) (by kernel_rfl) ?_
                  change wpAnyK _ _ _ _ _ _ 19 (Array.replicate 19 false) _ _
                  refine wpAnyK_take (i := 0) (v := ?_) rfl (by kernel_rfl) (by kernel_rfl) (by kernel_rfl) (by kernel_rfl) (fun _ _ _ h => h) hSd (Or.inl ⟨by rfl, ?_⟩) ?_
                  rotate_left 1
                  (intro w hSw; (try dsimp only at hSw); go_simp; try (with_reducible rfl))
                  (try dsimp only [Act.put]); (try simp only [List.setIfInBounds_toArray, List.set_cons_zero, List.set_cons_succ])
                  refine wpAnyK_take (i := 1) (v := ?_) rfl (by kernel_rfl) (by kernel_rfl) (by kernel_rfl) (by kernel_rfl) (fun _ _ _ h => h) hSd (Or.inl ⟨by rfl, ?_⟩) ?_
                  rotate_left 1
                  (intro w hSw; (try dsimp only at hSw); go_simp; try (with_reducible rfl))
                  (try dsimp only [Act.put]); (try simp only [List.setIfInBounds_toArray, List.set_cons_zero, List.set_cons_succ])
                  refine wpAnyK_take (i := 2) (v := ?_) rfl (by kernel_rfl) (by kernel_rfl) (by kernel_rfl) (by kernel_rfl) (fun _ _ _ h => h) hSd (Or.inl ⟨by rfl, ?_⟩) ?_
                  rotate_left 1
                  (intro w hSw; (try dsimp only at hSw); go_simp; try (with_reducible rfl))
                  (try dsimp only [Act.put]); (try simp only [List.setIfInBounds_toArray, List.set_cons_zero, List.set_cons_succ])
                  refine wpAnyK_take (i := 3) (v := ?_) rfl (by kernel_rfl) (by kernel_rfl) (by kernel_rfl) (by kernel_rfl) (fun _ _ _ h => h) hSd (Or.inl ⟨by rfl, ?_⟩) ?_
                  rotate_left 1
                  (intro w hSw; (try dsimp only at hSw); go_simp; try (with_reducible rfl))
                  (try dsimp only [Act.put]); (try simp only [List.setIfInBounds_toArray, List.set_cons_zero, List.set_cons_succ])
                  refine wpAnyK_take (i := 4) (v := ?_) rfl (by kernel_rfl) (by kernel_rfl) (by kernel_rfl) (by kernel_rfl) (fun _ _ _ h => h) hSd (Or.inl ⟨by rfl, ?_⟩) ?_
                  rotate_left 1
                  (intro w hSw; (try dsimp only at hSw); go_simp; try (with_reducible rfl))
                  (try dsimp only [Act.put]); (try simp only [List.setIfInBounds_toArray, List.set_cons_zero, List.set_cons_succ])
                  refine wpAnyK_take (i := 5) (v := ?_) rfl (by kernel_rfl) (by kernel_rfl) (by kernel_rfl) (by kernel_rfl) (fun _ _ _ h => h) hSd (Or.inl ⟨by rfl, ?_⟩) ?_
                  rotate_left 1
                  (intro w hSw; (try dsimp only at hSw); go_simp; try (with_reducible rfl))
                  (try dsimp only [Act.put]); (try simp only [List.setIfInBounds_toArray, List.set_cons_zero, List.set_cons_succ])
                  refine wpAnyK_take (i := 6) (v := ?_) rfl (by kernel_rfl) (by kernel_rfl) (by kernel_rfl) (by kernel_rfl) (fun _ _ _ h => h) hSd (Or.inl ⟨by rfl, ?_⟩) ?_
                  rotate_left 1
                  (intro w hSw; (try dsimp only at hSw); go_simp; try (with_reducible rfl))
                  (try dsimp only [Act.put]); (try simp only [List.setIfInBounds_toArray, List.set_cons_zero, List.set_cons_succ])
                  refine wpAnyK_take (i := 7) (v := ?_) rfl (by kernel_rfl) (by kernel_rfl) (by kernel_rfl) (by kernel_rfl) (fun _ _ _ h => h) hSd (Or.inl ⟨by rfl, ?_⟩) ?_
                  rotate_left 1
                  (intro w hSw; (try dsimp only at hSw); go_simp; try (with_reducible rfl))
                  (try dsimp only [Act.put]); (try simp only [List.setIfInBounds_toArray, List.set_cons_zero, List.set_cons_succ])
                  refine wpAnyK_take (i := 8) (v := ?_) rfl (by kernel_rfl) (by kernel_rfl) (by kernel_rfl) (by kernel_rfl) (fun _ _ _ h => h) hSd (Or.inl ⟨by rfl, ?_⟩) ?_
                  rotate_left 1
                  (intro w hSw; (try dsimp only at hSw); go_simp; try (with_reducible rfl))
                  (try dsimp only [Act.put]); (try simp only [List.setIfInBounds_toArray, List.set_cons_zero, List.set_cons_succ])
                  refine wpAnyK_take (i := 9) (v := ?_) rfl (by kernel_rfl) (by kernel_rfl) (by kernel_rfl) (by kernel_rfl) (fun _ _ _ h => h) hSd (Or.inl ⟨by rfl, ?_⟩) ?_
                  rotate_left 1
                  (intro w hSw; (try dsimp only at hSw); go_simp; try (with_reducible rfl))
                  (try dsimp only [Act.put]); (try simp only [List.setIfInBounds_toArray, List.set_cons_zero, List.set_cons_succ])
                  refine wpAnyK_take (i := 10) (v := ?_) rfl (by kernel_rfl) (by kernel_rfl) (by kernel_rfl) (by kernel_rfl) (fun _ _ _ h => h) hSd (Or.inl ⟨by rfl, ?_⟩) ?_
                  rotate_left 1
                  (intro w hSw; (try dsimp only at hSw); go_simp; try (with_reducible rfl))
                  (try dsimp only [Act.put]); (try simp only [List.setIfInBounds_toArray, List.set_cons_zero, List.set_cons_succ])
                  refine wpAnyK_take (i := 11) (v := ?_) rfl (by kernel_rfl) (by kernel_rfl) (by kernel_rfl) (by kernel_rfl) (fun _ _ _ h => h) hSd (Or.inl ⟨by rfl, ?_⟩) ?_
                  rotate_left 1
                  (intro w hSw; (try dsimp only at hSw); go_simp; try (with_reducible rfl))
                  (try dsimp only [Act.put]); (try simp only [List.setIfInBounds_toArray, List.set_cons_zero, List.set_cons_succ])
                  refine wpAnyK_one (i := 12) (by kernel_rfl) rfl (fun K hK => ?_)
                  go_simp
                  refine hK.out _ _ (fun _ => hSd) ?_
                  clear hK
                  refine wpAnyK_one (i := 13) (by kernel_rfl) rfl (fun K hK => ?_)
                  go_simp
                  go_at_call 97
                  (with_reducible refine HWi.out.mono ?_)
                  rintro e wE ⟨An, cn', Am, cm', rfl, hH4, hB4, hSt, hN1, hN2⟩
                  have hbx := hSt.blk (show wi.drew.heap[wr.heap.size]? = _ from BXi.out) (HHi.out.ne BXi.out (by decide) (by decide))
                  have hw1 := hB4.size
                  have HF4 := Aside0.mk (hSt.F (Kd.F_drew HFi.out) (fun k hk => HDi.out.1 k (HK35.out k hk)) (fun k hk => HDi.out.2 k (HK35.out k hk)))
                  have hfq := hSt.F HFt.out HDi.out.1 HDi.out.2
                  have hRd : RowX wi.drew (.slice (some ap) pl.length c10) := HRi.out
                  have hHd := HHi.out.below (below_drew (Below.refl _ _))
                  have hSd : (fun W => HpS (ap.add (ii * 3)) (.string x.f1) (.slice X3 x.f2.length x3) W) wE := ⟨hRd.cell hHd hSt (add_block _ _) hSd.1, hRd.cell hHd hSt (add_block _ _) hSd.2⟩
                  have HR4 := Aside0.mk (hRd.stay hHd hSt)
                  have HFQ4 := Aside0.mk hfq
                  have HBX := Aside0.mk hbx
                  have HD4 := Aside0.mk (And.intro (HDi.out.1.new hN1 (fun k hk => by have := (HK5.out k hk).2; show k < wi.heap.size; omega)) (HDi.out.2.new hN2 (fun k hk => by have := (HK5.out k hk).2; show k < wi.heap.size; omega)))
                  have HB4 := Aside0.mk (HBi.out.trans (((below_drew (Below.refl _ wi)).trans hB4).mono (Nat.le_refl _)))
                  have HH4 := Aside0.mk hH4
                  have hw2 : wi.heap.size ≤ wE.heap.size := hw1
                  clear hbx hB4 hSt hN1 hN2 hH4 hfq hRd hHd
                  refine hK.out _ _ (fun _ => hSd) ?_
                  clear hK
                  refine wpAnyK_one (i := 14) (by kernel_rfl) rfl (fun K hK => ?_)
                  go_simp
                  refine hK.out _ _ (fun _ => hSd) ?_
                  clear hK
                  refine wpAnyK_take (i := 15) (v := ?_) rfl (by kernel_rfl) (by kernel_rfl) (by kernel_rfl) (by kernel_rfl) (fun _ _ _ h => h) hSd (Or.inl ⟨by rfl, ?_⟩) ?_
                  rotate_left 1
                  (intro w hSw; (try dsimp only at hSw); go_simp; try (with_reducible rfl))
                  (try dsimp only [Act.put]); (try simp only [List.setIfInBounds_toArray, List.set_cons_zero, List.set_cons_succ])
                  refine wpAnyK_take (i := 16) (v := ?_) rfl (by kernel_rfl) (by kernel_rfl) (by kernel_rfl) (by kernel_rfl) (fun _ _ _ h => h) hSd (Or.inl ⟨by rfl, ?_⟩) ?_
                  rotate_left 1
                  (intro w hSw; (try dsimp only at hSw); go_simp; try (with_reducible rfl))
                  (try dsimp only [Act.put]); (try simp only [List.setIfInBounds_toArray, List.set_cons_zero, List.set_cons_succ])
                  refine wpAnyK_one (i := 17) (by kernel_rfl) rfl (fun K hK => ?_)
                  go_simp
                  refine hK.out _ _ (fun _ => hSd) ?_
                  clear hK
                  refine wpAnyK_one (i := 18) (by kernel_rfl) rfl (fun K hK => ?_)
                  go_simp
                  refine hK.out _ _ (fun h => absurd rfl h) ?_
                  clear hK hSd
                  refine wpAnyK_done (by kernel_rfl) ?_ _
                  go_wp2_with fail
                  go_roundg (pl.length - (ii + 1))
                  case measure => omega
                  case rel => exact ⟨ii + 1, _, _, _, _, _, rfl, rfl, by omega, by omega, by go_num, ⟨by rw [foldl_snoc HX.out, HLi.out, HYe.out]; exact HH4.out⟩, HB4, by omega, HBX, HF4, HFQ4, HR4, HD4⟩
              · have : ii = pl.length := by omega
                subst this
                rw [List.take_length] at HLi
                go_wp2_with fail
                go_roundg (bs.length - (jj + 1))
                case measure => omega
                case rel => exact ⟨jj + 1, _, _, _, _, _, rfl, rfl, by omega, by omega, by go_num, ⟨by rw [headK_succ, headI_at (b := b) (by rw [HBs.out]; exact HBb.out), HLk.out, HLc.out, HPp.out, HLi.out]; exact HHi.out⟩, HBi, by omega, BXi, HFi, ⟨fun k hk => HDi.out.1 k (HK35.out k hk), fun k hk => HDi.out.2 k (HK35.out k hk)⟩⟩
        · have : jj = bs.length := by omega
          subst this
          go_wp2_with fail
          go_roundg (defs.length - (kk + 1))
          case measure => omega
          case rel => exact ⟨kk + 1, _, _, _, _, _, rfl, rfl, by omega, by omega, by go_num, ⟨by rw [foldl_snoc HK.out, HL0.out, headD, HBs.out, HLk.out]; exact HHj.out⟩, HBj⟩
    · have : kk = defs.length := by omega
      subst this
      rw [List.take_length] at HL0
      go_wp2
      go_ret2
      have hl := HL0.out
      exact ⟨_, _, rfl, ⟨Kd.R_lower (by rw [headsP, hl]; exact HH.out.1) (by omega), Kd.R_lower (by rw [headsP, hl]; exact HH.out.2) (by omega)⟩, HQ.out⟩
end Go.Proofs.YtacefdkfbpgedaaGreat.Mine
namespace Go.Proofs.YtacefdkfbpgedaaGreat.Mine
open Go.Proofs.YtacefdkfbpgedaaGreat.PProgSmall
open Go.RowKit Go.Shelf Go.Proofs.YtacefdkfbpgedaaGreatW.PrintWords Go.Proofs.YtacefdkfbpgedaaGreatW.PrintLast Go.Proofs.YtacefdkfbpgedaaGreatW.PrintMore
set_option linter.unusedVariables false
set_option linter.unusedSimpArgs false
theorem OwnHd.typed {W : World} {base : Nat} {v : Value} {l : List He} (h : OwnHd W base v l) (k : Nat) (hk : v.ownBlock = some k) : base ≤ k ∧ ∃ cs, W.heap[k]? = some (.cells cs 113 (0, 0)) := by
  obtain ⟨inner, ho⟩ := Kd.R_own h
  exact ⟨own_base ho k hk, own_typed ho k hk⟩
theorem OwnHd.notcells {W W' : World} {row : Option Nat} {base : Nat} {v : Value} {l : List He} (h : OwnHd W base v l) (hg : W.grownBy W' row) (hr : ∀ r, row = some r → ∃ o : Obj, W.heap[r]? = some o ∧ o.isCells = false) : OwnHd W' base v l :=
  Kd.R_mono (Kd.R_grown (Kd.R_bound h) hg (fun k hk he => by
    obtain ⟨_, _, _, q, _, cs, hc⟩ := hk
    obtain ⟨o, h1, h2⟩ := hr k he.symm
    rw [hc] at h1; cases h1; cases h2)) (fun _ _ => trivial)
def HdSt (base B : Nat) (W : World) (l : List He) : Prop := ∃ v, Boxed W B 110 v ∧ OwnHd W base v l
theorem HdSt.notcells {base B : Nat} {W W' : World} {row : Option Nat} {l : List He} (h : HdSt base B W l) (hg : W.grownBy W' row) (hr : ∀ r, row = some r → ∃ o : Obj, W.heap[r]? = some o ∧ o.isCells = false) : HdSt base B W' l := by
  obtain ⟨v, h1, h2⟩ := h
  exact ⟨v, Boxed.notcells h1 hg hr, h2.notcells hg hr⟩
theorem HdSt.below {base B : Nat} {W W' : World} {l : List He} (h : HdSt base B W l) (hb : Below W.heap.size W W') : HdSt base B W' l := by
  obtain ⟨v, h1, h2⟩ := h
  exact ⟨v, blk_below h1 hb, Kd.R_below h2 hb⟩
def KH (B : Nat) (W W' : World) : Prop := W.heap.size ≤ W'.heap.size ∧ ∀ k o, k ≠ B → W.heap[k]? = some o → (∀ cs, o ≠ .cells cs 113 (0, 0)) → W'.heap[k]? = some o
theorem KH.refl (B : Nat) (W : World) : KH B W W := ⟨Nat.le_refl _, fun _ _ _ h _ => h⟩
theorem KH.trans {B : Nat} {a b c : World} (h : KH B a b) (k : KH B b c) : KH B a c := ⟨Nat.le_trans h.1 k.1, fun i o hi ho hn => k.2 i o hi (h.2 i o hi ho hn) hn⟩
theorem KH.of_below {B : Nat} {W W' : World} (h : Below W.heap.size W W') : KH B W W' := ⟨h.size, fun k o _ hk _ => (h.block k (blk_lt hk)).trans hk⟩
theorem KH.grownN {B : Nat} {W X Y : World} {row : Option Nat} (h : KH B W X) (hg : X.grownBy Y row) (hr : ∀ r, row = some r → W.heap.size ≤ r) : KH B W Y := ⟨Nat.le_trans h.1 hg.size, fun k o hi ho hn => by
  have h1 := h.2 k o hi ho hn
  exact (hg.block k (blk_lt h1) (fun e => by have := hr k e.symm; have := blk_lt ho; omega)).trans h1⟩
theorem KH.once {B base : Nat} {W X Y : World} {v : Value} {l : List He} (h : KH B W X) (ho : OwnHd X base v l) (hg : X.grownBy Y v.ownBlock) : KH B W Y := ⟨Nat.le_trans h.1 hg.size, fun k o hi h0 hn => by
  have h1 := h.2 k o hi h0 hn
  exact (hg.block k (blk_lt h1) (fun e => by obtain ⟨_, cs, hc⟩ := ho.typed k e.symm; rw [hc] at h1; cases h1; exact hn cs rfl)).trans h1⟩
theorem KH.set {B : Nat} {W X : World} (h : KH B W X) (j : Nat) (u : Value) : KH B W (X.setCell ⟨B, j, none⟩ u) := ⟨by have := h.1; simpa [World.setCell] using this, fun k o hi ho hn => (Below.heap_setCell _ _ _ _ hi).trans (h.2 k o hi ho hn)⟩
theorem KH.blk {B : Nat} {W W' : World} (h : KH B W W') {g t : Nat} {cs : Array Value} (hb : W.heap[g]? = some (.cells cs t (0, 0))) (ht : t ≠ 113) (hg : g ≠ B) : W'.heap[g]? = some (.cells cs t (0, 0)) := h.2 g _ hg hb (fun cs' e => by cases e; exact ht rfl)
theorem KH.marks {B n : Nat} {W W' : World} {Ds : List Nat} (h : KH B W W') (hm : Marks n Ds W) (hB : B < n) : Marks n Ds W' := ⟨hm.1, fun D hD => ⟨(hm.2 D hD).1, h.2 D _ (by have := (hm.2 D hD).1; omega) (hm.2 D hD).2 (fun cs e => by cases e)⟩⟩
theorem KH.keeps {B : Nat} {W W' : World} {v : Value} (h : KH B W W') (hb : Boxed W B 110 v) : KeepsBut none W W' := ⟨h.1, fun k o _ hk ho => h.2 k o (fun e => by
    subst e
    rw [show W.heap[k]? = _ from hb] at hk
    cases hk
    rcases ho with ho | ho
    · cases ho
    · simp [exO] at ho) hk (fun cs e => by
    subst e
    rcases ho with ho | ho
    · cases ho
    · simp [exO] at ho)⟩
theorem HdSt.put {base B : Nat} {W W1 : World} {v v1 : Value} {l : List He} (hb : Boxed W B 110 v) (ho : OwnHd W base v l) (hg : W.grownBy W1 v.ownBlock) {l1 : List He} (h1 : OwnHd W1 base v1 l1) : Boxed W1 B 110 v ∧ HdSt base B (W1.setCell ⟨B, 0, none⟩ v1) l1 := by
  have hb1 : Boxed W1 B 110 v := (hg.block B (blk_lt hb) (fun e => by
    obtain ⟨_, cs, hc⟩ := ho.typed B e.symm
    rw [show W.heap[B]? = _ from hb] at hc
    cases hc)).trans hb
  refine ⟨hb1, v1, hb1.set v1, ?_⟩
  exact Kd.R_mono (Kd.R_set h1 (show W1.heap[B]? = _ from hb1) (fun q hq => by
    have hq' : q ∈ [113] := hq
    rw [List.mem_singleton.1 hq']; decide) 0 v1) (fun _ _ => trivial)
theorem wpAnyK_two {P : Program} {ops : Array Oper} {Q : Exit → Act → World → Prop} {md : Region.Mode} {S : World → Prop} {k i j : Nat} {oi oj : Oper} {fuel : Nat} {listed : Array Bool} {a : Act} {w : World} (hr : Region.ready md ops listed = [i, j]) (hoi : ops[i]? = some oi) (hoj : ops[j]? = some oj)
    (hi : ∀ K' : Act → World → Prop, Shut (∀ a w, (i ≠ k → S w) → wpAnyK P md ops Q S k fuel (listed.setIfInBounds i true) a w → K' a w) → if Region.wanted oi (yielded ops a.tmps) = true then Oper.wp P oi a w K' Q else K' (a.put oi.dst undef) w)
    (hj : ∀ K' : Act → World → Prop, Shut (∀ a w, (j ≠ k → S w) → wpAnyK P md ops Q S k fuel (listed.setIfInBounds j true) a w → K' a w) → if Region.wanted oj (yielded ops a.tmps) = true then Oper.wp P oj a w K' Q else K' (a.put oj.dst undef) w) :
    wpAnyK P md ops Q S k (fuel + 1) listed a w :=
  ⟨fun h0 => (by rw [h0] at hr; cases hr), fun m hm => by
    rw [hr] at hm
    rcases List.mem_cons.1 hm with h | h
    · subst h
      exact wpOp_step hoi (fun K' hK => hi K' (fun a w hS hW => hK a w ⟨hS, hW⟩))
    · obtain rfl : m = j := by simpa using h
      exact wpOp_step hoj (fun K' hK => hj K' (fun a w hS hW => hK a w ⟨hS, hW⟩))⟩
theorem R_notcells {α : Type} {d : Kd α} {e : Nat} {W W' : World} {row : Option Nat} {base : Nat} {v : Value} {l : List α} (h : d.R e W base (fun _ => True) v l) (hg : W.grownBy W' row) (hr : ∀ r, row = some r → ∃ o : Obj, W.heap[r]? = some o ∧ o.isCells = false) : d.R e W' base (fun _ => True) v l :=
  Kd.R_mono (Kd.R_grown (Kd.R_bound h) hg (fun k hk he => by
    obtain ⟨_, _, _, q, _, cs, hc⟩ := hk
    obtain ⟨o, h1, h2⟩ := hr k he.symm
    rw [hc] at h1; cases h1; cases h2)) (fun _ _ => trivial)
theorem HS.notcells {base : Nat} {W W' : World} {row : Option Nat} {vn vm : Value} {l : List He} (h : HS base W vn vm l) (hg : W.grownBy W' row) (hr : ∀ r, row = some r → ∃ o : Obj, W.heap[r]? = some o ∧ o.isCells = false) : HS base W' vn vm l := ⟨R_notcells h.1 hg hr, R_notcells h.2 hg hr⟩
theorem own_names {base : Nat} {X Y : World} {vn vm : Value} {ns : List ByteArray} {ms : List Int} (h1 : OwnT X base vn ns) (h2 : OwnI X base vm ms) (hg : X.grownBy Y vn.ownBlock) : OwnI Y base vm ms := Kd.R_mono (Kd.R_grown (Kd.R_tight rfl h2) hg (fun k hk he => txt_int h1 h2 k he.symm hk)) (fun _ _ => trivial)
theorem own_many {base : Nat} {X Y : World} {vn vm : Value} {ns : List ByteArray} {ms : List Int} (h1 : OwnT X base vn ns) (h2 : OwnI X base vm ms) (hg : X.grownBy Y vm.ownBlock) : OwnT Y base vn ns := Kd.R_mono (Kd.R_grown (Kd.R_tight rfl h1) hg (fun k hk he => txt_int h1 h2 k hk.symm he)) (fun _ _ => trivial)
theorem one_txt {W : World} {t : Nat} {s : ByteArray} (h : W.heap[t]? = some (.cells #[.string s] 9 (0, 0))) : Kd.C Kd.string W (some ⟨t, 0, none⟩) 1 [s] := ⟨rfl, by decide, fun _ => ⟨_, rfl, fun j p hj => by
  cases j with
  | zero => cases hj; exact ⟨[.string s], rfl, rfl, fun i u hu => by
      cases i with
      | zero => cases hu; exact (blk_cell h 0).trans rfl
      | succ i => simp at hu⟩
  | succ j => simp at hj⟩⟩
theorem one_int {W : World} {t : Nat} {s : Int} (h : W.heap[t]? = some (.cells #[.int .i64 s] 3 (0, 0))) : Kd.C (Kd.int .i64) W (some ⟨t, 0, none⟩) 1 [s] := ⟨rfl, by decide, fun _ => ⟨_, rfl, fun j p hj => by
  cases j with
  | zero => cases hj; exact ⟨[.int .i64 s], rfl, rfl, fun i u hu => by
      cases i with
      | zero => cases hu; exact (blk_cell h 0).trans rfl
      | succ i => simp at hu⟩
  | succ j => simp at hj⟩⟩
theorem getHd {W : World} {A : Option Addr} {l : List He} (h : Kd.C k113 W A l.length l) (i : Nat) (hi : i < l.length) :
    ∃ ad, A = some ad ∧ W.cell? (ad.add (i * 2)) = some (.string l[i].f0) ∧ W.cell? ⟨(ad.add (i * 2)).block, (ad.add (i * 2)).off + 1, none⟩ = some (.int .i64 l[i].f1) := by
  obtain ⟨ad, c, rfl, hl, hK, hc⟩ := cget h i hi
  have he := k113_open hK
  subst he
  have e2 : (k113).sz = 2 := rfl
  rw [e2] at hc
  exact ⟨ad, rfl, hc 0 _ rfl, by rw [← add_field _ _ 1 (by omega)]; exact hc 1 _ rfl⟩
def headsE (defs : List De) : List He := if checkP defs = 0 then headsP defs else []
end Go.Proofs.YtacefdkfbpgedaaGreat.Mine
