/- Index, Contains, once of heads. -/
import Derived.Test.YtacefdkfbpgedaaGreatCH8
import Derived.Deep.DeepMust
import Derived.Test.YtacefdkfbpgedaaGreatCH1
import Derived.Deep.DeepCutAuto
import Derived.Test.YtacefdkfbpgedaaGreatCH4
import Derived.Test.YtacefdkfbpgedaaGreatCH6
import Derived.Test.YtacefdkfbpgedaaGreatCH5
import Derived.Test.YtacefdkfbpgedaaGreatCH2
namespace Go.Proofs.YtacefdkfbpgedaaGreat.Mine
open Go.Proofs.YtacefdkfbpgedaaGreat.PProgSmall
open Go.RowKit Go.Shelf Go.Proofs.YtacefdkfbpgedaaGreatW.PrintWords Go.Proofs.YtacefdkfbpgedaaGreatW.PrintLast Go.Proofs.YtacefdkfbpgedaaGreatW.PrintMore
set_option linter.unusedVariables false
set_option linter.unusedSimpArgs false
theorem get2 {α : Type} {d : Kd α} {W : World} {A : Option Addr} {xs : List α} (hs : d.sz = 2) (h : d.C W A xs.length xs) (i : Nat) (hi : i < xs.length) :
  ∃ ad c0 c1, A = some ad ∧ d.K W xs[i] [c0, c1] ∧ W.cell? (ad.add (i * 2)) = some c0 ∧ W.cell? ⟨(ad.add (i * 2)).block, (ad.add (i * 2)).off + 1, none⟩ = some c1 := by
 obtain ⟨ad, c, rfl, hl, hK, hc⟩ := cget h i hi
 rw [hs] at hl hc
 match c, hl with
 | [c0, c1], _ => exact ⟨ad, c0, c1, rfl, hK, hc 0 _ rfl, by rw [← add_field _ _ 1 (by omega)]; exact hc 1 _ rfl⟩
abbrev He := S113
def eqH (x y : He) : Bool := decide (y.f0 = x.f0) && (y.f1 == x.f1)
attribute [local go_sem] max2_int min2_int max_two min_two
theorem eqHd (d : Nat) (w : World) (x0 y0 : ByteArray) (x1 y1 : Int) :
  (Op.equalIn (d + 2) 113 (.agg #[.string x0, .int .i64 x1]) (.agg #[.string y0, .int .i64 y1])).run Tryz.prog w = .ok (x0.toList == y0.toList && (x1 == y1)) w := by
 refine eqA_of Tryz.underlying113 (by kernel_rfl) ?_
 refine eqf_cons (by rfl) (by go_simp; rfl) (by go_simp; rfl) (by go_simp) ?_
 exact eqf_last (by rfl) (by go_simp; rfl) (by go_simp; rfl) (by go_simp)
theorem eqH_bool (x y : He) : (x.f0.toList == y.f0.toList && (x.f1 == y.f1)) = eqH x y := by
 rw [sEq, eqH, Bool.eq_iff_iff]
 simp only [Bool.and_eq_true, decide_eq_true_eq, beq_iff_eq]
 exact ⟨fun ⟨a, b⟩ => ⟨a.symm, b.symm⟩, fun ⟨a, b⟩ => ⟨a.symm, b.symm⟩⟩
set_option maxRecDepth 100000 in
set_option maxHeartbeats 2000000 in
theorem c_IndexH (A : Option Addr) (c : Nat) (l : List He) (x : He) (w : World) (hr : Kd.C k113 w A l.length l) (hc : l.length ≤ c) :
  Calls Tryz.prog 165 #[.slice A l.length c, .agg #[.string x.f0, .int .i64 x.f1]] w fun e w' => e = .returned (.int .i64 (idxB (eqH x) l)) ∧ Below w.heap.size w w' := by
 have hm := hr.2.1
 obtain ⟨W1, hW1⟩ : ∃ W1, w.alloc (.cells #[.string x.f0, .int .i64 x.f1] 113) = W1 := ⟨_, rfl⟩
 have Q := Aside0.mk (show Below w.heap.size w W1 by rw [← hW1]; exact below_alloc1 _ _)
 have B := Aside0.mk (show W1.heap[w.heap.size]? = some (.cells #[.string x.f0, .int .i64 x.f1] 113 (0, 0)) by rw [← hW1]; exact alloc_at _ _)
 have HR := Aside0.mk hr
 have HW1 := Lib.hid hW1
 clear hr hW1
 go_enter Tryz.func165, Tryz.ntmps165
 go_wp2_with fail
 rw [HW1.out]
 go_wp2
 go_loopg [5, 8] l.length (fun gg _ s8 wr => ∃ kk : Nat, kk ≤ l.length ∧ l.length - kk ≤ gg ∧ s8 = .int .i64 kk ∧ Aside0 (∀ j y, j < kk → l[j]? = some y → eqH x y = false) ∧ Aside0 (Below w.heap.size w wr) ∧ Aside0 (wr.heap[w.heap.size]? = some (.cells #[.string x.f0, .int .i64 x.f1] 113 (0, 0))))
 case atStart => exact ⟨0, Nat.zero_le _, by omega, rfl, ⟨fun j x hj => absurd hj (Nat.not_lt_zero _)⟩, Q, B⟩
 case round =>
  obtain ⟨kk, hkk, hg, rfl, HI, HB, BK⟩ := hrel
  have k0 := (blk_cell BK.out 0).trans rfl
  have k1 := (blk_cell BK.out 1).trans rfl
  by_cases hlt : kk < l.length
  ·have hltz : (kk : Int) < (l.length : Int) := by omega
   obtain ⟨ad, c0, c1, rfl, hK, e0, e1⟩ := get2 rfl (Kd.C_below HR.out HB.out) kk hlt
   obtain ⟨rfl, rfl⟩ : c0 = _ ∧ c1 = _ := by simpa using k113_open hK
   have HX := Lib.hid (show l[kk]? = some l[kk] from List.getElem?_eq_getElem hlt)
   obtain ⟨y, hy⟩ : ∃ y, l[kk] = y := ⟨_, rfl⟩
   rw [hy] at e0 e1 HX
   clear hK hy
   have hq := fun d (w : World) => eqHd d w x.f0 y.f0 x.f1 y.f1
   simp only [eqH_bool] at hq
   cases he : eqH x y with
   | true =>
    have HE := Lib.hid he
    simp only [he] at hq
    clear he
    go_wp2_with fail
    go_quiet (fail)
    go_wp2
    go_ret
    exact ⟨reti (idxB_some HX.out HE.out HI.out).symm, pw_below_drewN HB.out _⟩
   | false =>
    have HE := Lib.hid he
    simp only [he] at hq
    clear he
    go_wp2_with fail
    go_quiet (fail)
    go_wp2
    go_roundg (l.length - (kk + 1))
    case measure => omega
    case rel => exact ⟨kk + 1, by omega, by omega, by go_num, ⟨none_snoc HI.out HX.out HE.out⟩, ⟨pw_below_drewN HB.out _⟩, BK⟩
  ·have : kk = l.length := by omega
   subst this
   go_wp2
   go_ret
   exact ⟨reti (idxB_none HI.out).symm, HB.out⟩
set_option maxRecDepth 100000 in
set_option maxHeartbeats 2000000 in
theorem c_ContH (A : Option Addr) (c : Nat) (l : List He) (x : He) (w : World) (hr : Kd.C k113 w A l.length l) (hc : l.length ≤ c) :
  Calls Tryz.prog 132 #[.slice A l.length c, .agg #[.string x.f0, .int .i64 x.f1]] w fun e w' => e = .returned (.bool (l.any (eqH x))) ∧ Below w.heap.size w w' := by
 obtain ⟨W1, hW1⟩ : ∃ W1, w.alloc (.cells #[.string x.f0, .int .i64 x.f1] 113) = W1 := ⟨_, rfl⟩
 have Q := Aside0.mk (show Below w.heap.size w W1 by rw [← hW1]; exact below_alloc1 _ _)
 have B : W1.heap[w.heap.size]? = some (.cells #[.string x.f0, .int .i64 x.f1] 113 (0, 0)) := by rw [← hW1]; exact alloc_at _ _
 have k0 := (blk_cell B 0).trans rfl
 have k1 := (blk_cell B 1).trans rfl
 have HC := Lib.hid (c_IndexH A c l x W1 (Kd.C_below hr Q.out) hc)
 have HW1 := Lib.hid hW1
 clear hr hW1 B
 go_enter Tryz.func132, Tryz.ntmps132
 go_wp2_with fail
 rw [HW1.out]
 go_wp2_with fail
 refine HC.out.mono ?_
 rintro e w' ⟨rfl, hb⟩
 go_wp2
 go_ret
 exact ⟨retb (idxB_nonneg _ _), Q.out.trans (hb.mono Q.out.size)⟩
theorem grown_trans0 {w w1 w2 : World} {row : Option Nat} (h : Below w.heap.size w w1) (hg : w1.grownBy w2 row) : w.grownBy w2 row := ⟨hg.os.trans h.os, hg.tape.trans h.tape, hg.output.trans h.output, Nat.le_trans h.size hg.size, fun i hi hne => (hg.block i (Nat.lt_of_lt_of_le hi h.size) hne).trans (h.block i hi)⟩
def onceHL (l : List He) (x : He) : List He := if l.any (eqH x) then l else l ++ [x]
abbrev OwnHd (W : World) (base : Nat) (v : Value) (l : List He) : Prop := Kd.R k113 113 W base (fun _ => True) v l
theorem infoHd : (Tryz.prog.info? 113).map (fun i => (i.zero, i.size, i.bytes)) = some (some (.agg #[.string ⟨#[]⟩, .int .i64 0]), 2, 24) := by kernel_rfl
set_option maxRecDepth 100000 in
set_option maxHeartbeats 2000000 in
theorem c_onceH (base : Nat) (v : Value) (l : List He) (x : He) (w : World) (HO : OwnHd w base v l) (hb : base ≤ w.heap.size) (hl : l.length < 1000000) :
  Calls Tryz.prog 81 #[v, .agg #[.string x.f0, .int .i64 x.f1]] w fun e w' => ∃ v1, e = .returned v1 ∧ OwnHd w' base v1 (onceHL l x) ∧ w.grownBy w' v.ownBlock := by
 obtain ⟨A, c, rfl, hc, hr⟩ := Kd.R_reads HO
 have hm := hr.2.1
 obtain ⟨W1, hW1⟩ : ∃ W1, w.alloc (.cells #[.string x.f0, .int .i64 x.f1] 113) = W1 := ⟨_, rfl⟩
 have q1 : Below w.heap.size w W1 := by rw [← hW1]; exact below_alloc1 _ _
 have B := Aside0.mk (show W1.heap[w.heap.size]? = some (.cells #[.string x.f0, .int .i64 x.f1] 113 (0, 0)) by rw [← hW1]; exact alloc_at _ _)
 have k0 := (blk_cell B.out 0).trans rfl
 have k1 := (blk_cell B.out 1).trans rfl
 have HC := Lib.hid (c_ContH A c l x W1 (Kd.C_below hr q1) hc)
 have Q := Aside0.mk q1
 have HO := Aside0.mk HO
 have HW1 := Lib.hid hW1
 clear hr hW1 q1
 cases hm2 : l.any (eqH x) with
 | true =>
  rw [hm2] at HC
  have HX := Lib.hid (show onceHL l x = l by rw [onceHL, if_pos hm2])
  clear hm2
  go_enter Tryz.func81, Tryz.ntmps81
  go_wp2_with fail
  rw [HW1.out]
  go_wp2_with fail
  refine HC.out.mono ?_
  rintro e w' ⟨rfl, hb2⟩
  have hbb := Q.out.trans (hb2.mono Q.out.size)
  have HB := Lib.hid hbb
  clear hb2 hbb k0 k1
  go_wp2
  go_ret
  exact ⟨_, rfl, by rw [HX.out]; exact Kd.R_below HO.out HB.out, grown_of_below HB.out _⟩
 | false =>
  rw [hm2] at HC
  have HX := Lib.hid (show onceHL l x = l ++ [x] by rw [onceHL, if_neg (by simp [hm2])])
  clear hm2
  go_enter Tryz.func81, Tryz.ntmps81
  go_wp2_with fail
  rw [HW1.out]
  go_wp2_with fail
  refine HC.out.mono ?_
  rintro e w' ⟨rfl, hb2⟩
  have k0 := pw_cell_below hb2 k0
  have k1 := pw_cell_below hb2 k1
  have hbb := Q.out.trans (hb2.mono Q.out.size)
  have HB := Lib.hid hbb
  have HO2 := Aside0.mk (Kd.R_below HO.out hbb)
  have hs := hbb.size
  clear hb2 hbb
  go_wp2_with (at_builtin; go_must (refine Kd.R_append k113 (w0 := w') (W := w') base rfl (.tmp 9) (.tmp 11) 110 113 _ 24 rfl Tryz.underlying110 infoHd rfl (by decide) (by decide) (.slice A l.length c) l x [.string x.f0, .int .i64 x.f1] (fun _ => True) (fun _ => False) rfl rfl (k113_mkM _ _ _ x) (fun _ h => h.elim) (fun _ _ => trivial) HO2.out (Below.refl _ _) (by omega) (by omega) ?_; intro v1 w3 hR3 hB3 hg3 hat3; have HR3 := Aside0.mk hR3; have HG3 := Lib.hid hg3; clear hR3 hB3 hg3 hat3))
  go_ret
  exact ⟨_, rfl, by rw [HX.out]; exact HR3.out, grown_trans0 HB.out HG3.out⟩
end Go.Proofs.YtacefdkfbpgedaaGreat.Mine
namespace Go.Proofs.YtacefdkfbpgedaaGreat.Mine
open Go.Proofs.YtacefdkfbpgedaaGreat.PProgSmall
open Go.RowKit Go.Shelf Go.Proofs.YtacefdkfbpgedaaGreatW.PrintWords Go.Proofs.YtacefdkfbpgedaaGreatW.PrintLast Go.Proofs.YtacefdkfbpgedaaGreatW.PrintMore
set_option linter.unusedVariables false
set_option linter.unusedSimpArgs false
abbrev OwnI (W : World) (base : Nat) (v : Value) (l : List Int) : Prop := Kd.R (Kd.int .i64) 3 W base (fun _ => True) v l
theorem infoIn : (Tryz.prog.info? 3).map (fun i => (i.zero, i.size, i.bytes)) = some (some (.int .i64 0), 1, 8) := by kernel_rfl
def NewB (w : World) (v v1 : Value) : Prop := ∀ b, v1.ownBlock = some b → v.ownBlock = some b ∨ w.heap.size ≤ b
theorem NewB.refl (w : World) (v : Value) : NewB w v v := fun b h => .inl h
theorem NewB.of {w w3 : World} {v v1 : Value} (h : v1.ownBlock = v.ownBlock ∨ ∃ b, v1.ownBlock = some b ∧ w3.heap.size ≤ b) (hs : w.heap.size ≤ w3.heap.size) : NewB w v v1 := fun b hb => by
 rcases h with h | ⟨c, h, hc⟩
 ·rw [h] at hb; exact .inl hb
 ·rw [h] at hb; cases hb; exact .inr (by omega)
theorem txt_int {W : World} {base base' : Nat} {v u : Value} {l : List ByteArray} {m : List Int} (h : OwnT W base v l) (k : OwnI W base' u m) (b : Nat) (hb : v.ownBlock = some b) : some b ≠ u.ownBlock := fun he => by
 obtain ⟨_, _, _, q, hq, cs, hc⟩ := (Kd.R_bound h).1 b hb
 obtain ⟨_, _, _, q', hq', cs', hc'⟩ := (Kd.R_bound k).1 b he.symm
 rw [hc] at hc'
 injection hc' with e
 injection e with _ e2 _
 have h1 : q = 9 := by simpa [Kd.string, Kd.scalar] using hq
 have h2 : q' = 3 := by simpa [Kd.int, Kd.scalar] using hq'
 rw [h1, h2] at e2
 exact absurd e2 (by decide)
end Go.Proofs.YtacefdkfbpgedaaGreat.Mine
namespace Go.Proofs.YtacefdkfbpgedaaGreat.Mine
open Go.Proofs.YtacefdkfbpgedaaGreat.PProgSmall
open Go.RowKit Go.Shelf Go.Proofs.YtacefdkfbpgedaaGreatW.PrintWords Go.Proofs.YtacefdkfbpgedaaGreatW.PrintLast Go.Proofs.YtacefdkfbpgedaaGreatW.PrintMore
set_option linter.unusedVariables false
set_option linter.unusedSimpArgs false
def headB (l : List He) (e : Ex) : List He := if e.f0 = 2 then onceHL l ⟨e.f1, (e.f2.length : Int)⟩ else l
def headCa (d : De) (i : Nat) (l : List He) : List He := match d.f2[i]? with | some c => onceHL l ⟨c.f0, (c.f1.length : Int)⟩ | none => l
def headI (d : De) (l : List He) (i : Nat) : List He := match (bodiesD d)[i]? with | some b => (plE b).foldl headB (headCa d i l) | none => l
def headK (d : De) (l : List He) (k : Nat) : List He := (List.range k).foldl (headI d) l
def headD (l : List He) (d : De) : List He := headK d l (bodiesD d).length
def headsP (defs : List De) : List He := defs.foldl headD []
theorem headK_succ (d : De) (l : List He) (k : Nat) : headK d l (k + 1) = headI d (headK d l k) k := by simp [headK, List.range_succ]
theorem headI_at {d : De} {l : List He} {i : Nat} {b : Ex} (h : (bodiesD d)[i]? = some b) : headI d l i = (plE b).foldl headB (headCa d i l) := by simp [headI, h]
theorem headCa_at {d : De} {l : List He} {i : Nat} {c : Ca} (h : d.f2[i]? = some c) : headCa d i l = onceHL l ⟨c.f0, (c.f1.length : Int)⟩ := by simp [headCa, h]
theorem headCa_no {d : De} {l : List He} {i : Nat} (h : d.f2.length = 0) : headCa d i l = l := by
 have : d.f2 = [] := List.eq_nil_of_length_eq_zero h
 simp [headCa, this]
theorem foldl_snoc {α β : Type} {f : β → α → β} {b : β} {l : List α} {k : Nat} {x : α} (h : l[k]? = some x) : (l.take (k + 1)).foldl f b = f ((l.take k).foldl f b) x := by
 obtain ⟨hk, rfl⟩ := List.getElem?_eq_some_iff.1 h
 rw [take_snoc hk, List.foldl_append]; rfl
theorem onceHL_len (l : List He) (x : He) : l.length ≤ (onceHL l x).length ∧ (onceHL l x).length ≤ l.length + 1 := by
 unfold onceHL; split <;> simp
theorem foldl_up {α : Type} {f : List He → α → List He} (h : ∀ l x, l.length ≤ (f l x).length) : ∀ (xs : List α) (l : List He), l.length ≤ (xs.foldl f l).length
 | [], l => Nat.le_refl _
 | x :: xs, l => Nat.le_trans (h l x) (foldl_up h xs (f l x))
theorem foldl_take_up {α : Type} {f : List He → α → List He} (h : ∀ l x, l.length ≤ (f l x).length) (xs : List α) (l : List He) (k : Nat) : ((xs.take k).foldl f l).length ≤ (xs.foldl f l).length := by
 conv => rhs; rw [← List.take_append_drop k xs, List.foldl_append]
 exact foldl_up h _ _
theorem headB_up (l : List He) (e : Ex) : l.length ≤ (headB l e).length := by
 unfold headB; split
 ·exact (onceHL_len _ _).1
 ·exact Nat.le_refl _
theorem headCa_up (d : De) (i : Nat) (l : List He) : l.length ≤ (headCa d i l).length := by
 unfold headCa; split
 ·exact (onceHL_len _ _).1
 ·exact Nat.le_refl _
theorem headI_up (d : De) (l : List He) (i : Nat) : l.length ≤ (headI d l i).length := by
 unfold headI; split
 ·exact Nat.le_trans (headCa_up d i l) (foldl_up headB_up _ _)
 ·exact Nat.le_refl _
theorem headK_up (d : De) (l : List He) (j n : Nat) (h : j ≤ n) : (headK d l j).length ≤ (headK d l n).length := by
 have h2 := foldl_take_up (headI_up d) (List.range n) l j
 rw [List.take_range, Nat.min_eq_left h] at h2
 exact h2
theorem headD_up (l : List He) (d : De) : l.length ≤ (headD l d).length := foldl_up (headI_up d) _ _
theorem heads_le0 (defs : List De) (k : Nat) : ((defs.take k).foldl headD []).length ≤ (headsP defs).length := foldl_take_up headD_up defs [] k
theorem heads_le1 {defs : List De} {k : Nat} {d : De} (h : defs[k]? = some d) (j : Nat) (hj : j ≤ (bodiesD d).length) : (headK d ((defs.take k).foldl headD []) j).length ≤ (headsP defs).length := by
 have h1 := heads_le0 defs (k + 1)
 rw [foldl_snoc h] at h1
 exact Nat.le_trans (headK_up d _ j _ hj) h1
theorem heads_le2 {defs : List De} {k : Nat} {d : De} (h : defs[k]? = some d) {j : Nat} {b : Ex} (hb : (bodiesD d)[j]? = some b) (i : Nat) : (((plE b).take i).foldl headB (headCa d j (headK d ((defs.take k).foldl headD []) j))).length ≤ (headsP defs).length := by
 have hj := (List.getElem?_eq_some_iff.1 hb).1
 have h1 := heads_le1 h (j + 1) hj
 rw [headK_succ, headI_at hb] at h1
 exact Nat.le_trans (foldl_take_up headB_up _ _ i) h1
theorem foldl_cap {α : Type} {f : List He → α → List He} {c : Nat} {xs : List α} (h : ∀ l, ∀ x ∈ xs, (f l x).length ≤ l.length + c) : ∀ (l : List He), (xs.foldl f l).length ≤ l.length + xs.length * c := by
 induction xs with
 | nil => intro l; simp
 | cons x xs ih =>
  intro l
  have h1 := h l x List.mem_cons_self
  have h2 := ih (fun l y hy => h l y (List.mem_cons_of_mem _ hy)) (f l x)
  rw [List.foldl_cons, List.length_cons, Nat.add_mul, Nat.one_mul]
  omega
theorem headB_cap (l : List He) (e : Ex) : (headB l e).length ≤ l.length + 1 := by
 unfold headB; split
 ·exact (onceHL_len _ _).2
 ·omega
theorem headCa_cap (d : De) (i : Nat) (l : List He) : (headCa d i l).length ≤ l.length + 1 := by
 unfold headCa; split
 ·exact (onceHL_len _ _).2
 ·omega
theorem heads_cap {defs : List De} {n k s : Nat} (hn : defs.length ≤ n) (h : ∀ d ∈ defs, (bodiesD d).length ≤ k ∧ ∀ b ∈ bodiesD d, szE b ≤ s) : (headsP defs).length ≤ n * (k * (s + 1)) := by
 have hI : ∀ d ∈ defs, ∀ (l : List He) (i : Nat), (headI d l i).length ≤ l.length + (s + 1) := fun d hd l i => by
  unfold headI
  split
  ·next b hb =>
   have h1 := foldl_cap (f := headB) (c := 1) (xs := plE b) (fun l x _ => headB_cap l x) (headCa d i l)
   have h2 := headCa_cap d i l
   have h3 := (h d hd).2 b (List.mem_of_getElem? hb)
   rw [length_plE] at h1
   omega
  ·omega
 have hD : ∀ (l : List He), ∀ d ∈ defs, (headD l d).length ≤ l.length + k * (s + 1) := fun l d hd => by
  have h1 := foldl_cap (f := headI d) (c := s + 1) (xs := List.range (bodiesD d).length) (fun l i _ => hI d hd l i) l
  rw [List.length_range] at h1
  have h2 : (bodiesD d).length * (s + 1) ≤ k * (s + 1) := Nat.mul_le_mul_right _ (h d hd).1
  have h3 : (headD l d).length ≤ l.length + (bodiesD d).length * (s + 1) := h1
  omega
 have h1 := foldl_cap (f := headD) (c := k * (s + 1)) (xs := defs) hD []
 have h2 : defs.length * (k * (s + 1)) ≤ n * (k * (s + 1)) := Nat.mul_le_mul_right _ hn
 simp only [List.length_nil, Nat.zero_add] at h1
 exact Nat.le_trans h1 h2
end Go.Proofs.YtacefdkfbpgedaaGreat.Mine
namespace Go.Proofs.YtacefdkfbpgedaaGreat.Mine
open Go.Proofs.YtacefdkfbpgedaaGreat.PProgSmall
open Go.RowKit Go.Shelf Go.Proofs.YtacefdkfbpgedaaGreatW.PrintWords Go.Proofs.YtacefdkfbpgedaaGreatW.PrintLast Go.Proofs.YtacefdkfbpgedaaGreatW.PrintMore
set_option linter.unusedVariables false
set_option linter.unusedSimpArgs false
def HS (base : Nat) (W : World) (vn vm : Value) (l : List He) : Prop := OwnT W base vn (l.map (·.f0)) ∧ OwnI W base vm (l.map (·.f1))
theorem HS.nil (base : Nat) (W : World) : HS base W (.slice none 0 0) (.slice none 0 0) [] := ⟨Kd.R_nil _ _ _ _ _, Kd.R_nil _ _ _ _ _⟩
theorem HS.below {base : Nat} {W W' : World} {vn vm : Value} {l : List He} (h : HS base W vn vm l) (hb : Below W.heap.size W W') : HS base W' vn vm l := ⟨Kd.R_below h.1 hb, Kd.R_below h.2 hb⟩
theorem HS.lt {base : Nat} {W : World} {vn vm : Value} {l : List He} (h : HS base W vn vm l) : (∀ k, some k = vn.ownBlock → base ≤ k ∧ k < W.heap.size) ∧ (∀ k, some k = vm.ownBlock → base ≤ k ∧ k < W.heap.size) :=
 ⟨fun k hk => by obtain ⟨_, h1, h2, _⟩ := (Kd.R_bound h.1).1 k hk.symm; exact ⟨h1, h2⟩, fun k hk => by obtain ⟨_, h1, h2, _⟩ := (Kd.R_bound h.2).1 k hk.symm; exact ⟨h1, h2⟩⟩
theorem HS.ne {base : Nat} {W : World} {vn vm : Value} {l : List He} (h : HS base W vn vm l) {g t : Nat} {cs : Array Value} (hb : W.heap[g]? = some (.cells cs t (0, 0))) (h1 : 9 ≠ t) (h2 : 3 ≠ t) : some g ≠ vn.ownBlock ∧ some g ≠ vm.ownBlock := ⟨Kd.R_ne h.1 hb h1, Kd.R_ne h.2 hb h2⟩
def Dj (ok : Nat → Prop) (v : Value) : Prop := ∀ k, ok k → some k ≠ v.ownBlock
theorem Dj.new {ok : Nat → Prop} {W : World} {v v1 : Value} (h : Dj ok v) (hn : NewB W v v1) (hlt : ∀ k, ok k → k < W.heap.size) : Dj ok v1 := fun k hk he => by
 rcases hn k he.symm with h1 | h1
 ·exact h k hk h1.symm
 ·have := hlt k hk; omega
def StayB (W W' : World) (vn vm : Value) : Prop := ∀ k, k < W.heap.size → some k ≠ vn.ownBlock → some k ≠ vm.ownBlock → W'.heap[k]? = W.heap[k]?
theorem StayB.F {α : Type} {d : Kd α} {W W' : World} {vn vm : Value} (h : StayB W W' vn vm) {ok : Nat → Prop} {A : Option Addr} {n : Nat} {xs : List α} (hF : Kd.F d W ok A n xs) (h1 : Dj ok vn) (h2 : Dj ok vm) : Kd.F d W' ok A n xs := Kd.F_step hF (fun k hk hlt => h k hlt (h1 k hk) (h2 k hk))
theorem StayB.blk {W W' : World} {vn vm : Value} (h : StayB W W' vn vm) {g : Nat} {o : Obj} (hb : W.heap[g]? = some o) (hne : some g ≠ vn.ownBlock ∧ some g ≠ vm.ownBlock) : W'.heap[g]? = some o := (h g (blk_lt hb) hne.1 hne.2).trans hb
end Go.Proofs.YtacefdkfbpgedaaGreat.Mine
namespace Go.Proofs.YtacefdkfbpgedaaGreat.Mine
open Go.Proofs.YtacefdkfbpgedaaGreat.PProgSmall
open Go.RowKit Go.Shelf Go.Proofs.YtacefdkfbpgedaaGreatW.PrintWords Go.Proofs.YtacefdkfbpgedaaGreatW.PrintLast Go.Proofs.YtacefdkfbpgedaaGreatW.PrintMore
set_option linter.unusedVariables false
set_option linter.unusedSimpArgs false
abbrev HcS (B : Nat) (C : Value) (p : Addr) (u0 u1 : Value) (W : World) : Prop := W.cell? ⟨B, 2, none⟩ = some C ∧ W.cell? p = some u0 ∧ W.cell? ⟨p.block, p.off + 1, none⟩ = some u1
theorem cell_of_block0 {W W' : World} {p : Addr} {u : Value} (h : W.cell? p = some u) (hb : W'.heap[p.block]? = W.heap[p.block]?) : W'.cell? p = some u := by
 rw [← h]; simp only [World.cell?, hb]
theorem add_block (a : Addr) (i : Nat) : (a.add i).block = a.block := by unfold Addr.add; split <;> rfl
def RowX (W : World) (v : Value) : Prop := ∀ g, v.ownBlock = some g → ∃ cs, W.heap[g]? = some (.cells cs 57 (0, 0))
theorem RowX.of {W : World} {base : Nat} {ok : Nat → Prop} {v : Value} {xs : List Ex} (h : Kd.N k57 57 W base ok v xs) : RowX W v := fun g hg => by
 obtain ⟨_, rows, _, hR, _⟩ := h
 obtain ⟨inner, ho⟩ := Kd.R_own hR
 exact own_typed ho g hg
theorem RowX.cell {base : Nat} {W W' : World} {vn vm : Value} {l : List He} {ap p : Addr} {n c : Nat} {u : Value} (h : RowX W (.slice (some ap) n c)) (hs : HS base W vn vm l) (hSt : StayB W W' vn vm) (hp : p.block = ap.block) (hc : W.cell? p = some u) : W'.cell? p = some u := by
 obtain ⟨cs, hcs⟩ := h ap.block rfl
 have hne := hs.ne hcs (by decide) (by decide)
 refine cell_of_block0 hc ?_
 rw [hp]
 exact hSt _ (blk_lt hcs) hne.1 hne.2
theorem cell_of_block {W W' : World} {p : Addr} {u : Value} (h : W.cell? p = some u) (hb : W'.heap[p.block]? = W.heap[p.block]?) : W'.cell? p = some u := by
 rw [← h]; simp only [World.cell?, hb]
end Go.Proofs.YtacefdkfbpgedaaGreat.Mine
namespace Go.Proofs.YtacefdkfbpgedaaGreat.Mine
open Go.Proofs.YtacefdkfbpgedaaGreat.PProgSmall
open Go.RowKit Go.Shelf Go.Proofs.YtacefdkfbpgedaaGreatW.PrintWords Go.Proofs.YtacefdkfbpgedaaGreatW.PrintLast Go.Proofs.YtacefdkfbpgedaaGreatW.PrintMore
set_option linter.unusedVariables false
set_option linter.unusedSimpArgs false
theorem OwnHd.typed {W : World} {base : Nat} {v : Value} {l : List He} (h : OwnHd W base v l) (k : Nat) (hk : v.ownBlock = some k) : base ≤ k ∧ ∃ cs, W.heap[k]? = some (.cells cs 113 (0, 0)) := by
 obtain ⟨inner, ho⟩ := Kd.R_own h
 exact ⟨own_base ho k hk, own_typed ho k hk⟩
theorem OwnHd.notcells {W W' : World} {row : Option Nat} {base : Nat} {v : Value} {l : List He} (h : OwnHd W base v l) (hg : W.grownBy W' row) (hr : ∀ r, row = some r → ∃ o : Obj, W.heap[r]? = some o ∧ o.isCells = false) : OwnHd W' base v l :=
 Kd.R_mono (Kd.R_grown (Kd.R_bound h) hg (fun k hk he => by
  obtain ⟨_, _, _, q, _, cs, hc⟩ := hk
  obtain ⟨o, h1, h2⟩ := hr k he.symm
  rw [hc] at h1; cases h1; cases h2)) (fun _ _ => trivial)
def HdSt (base B : Nat) (W : World) (l : List He) : Prop := ∃ v, Boxed W B 110 v ∧ OwnHd W base v l
theorem HdSt.notcells {base B : Nat} {W W' : World} {row : Option Nat} {l : List He} (h : HdSt base B W l) (hg : W.grownBy W' row) (hr : ∀ r, row = some r → ∃ o : Obj, W.heap[r]? = some o ∧ o.isCells = false) : HdSt base B W' l := by
 obtain ⟨v, h1, h2⟩ := h
 exact ⟨v, Boxed.notcells h1 hg hr, h2.notcells hg hr⟩
theorem HdSt.below {base B : Nat} {W W' : World} {l : List He} (h : HdSt base B W l) (hb : Below W.heap.size W W') : HdSt base B W' l := by
 obtain ⟨v, h1, h2⟩ := h
 exact ⟨v, blk_below h1 hb, Kd.R_below h2 hb⟩
def KH (B : Nat) (W W' : World) : Prop := W.heap.size ≤ W'.heap.size ∧ ∀ k o, k ≠ B → W.heap[k]? = some o → (∀ cs, o ≠ .cells cs 113 (0, 0)) → W'.heap[k]? = some o
theorem KH.refl (B : Nat) (W : World) : KH B W W := ⟨Nat.le_refl _, fun _ _ _ h _ => h⟩
theorem KH.trans {B : Nat} {a b c : World} (h : KH B a b) (k : KH B b c) : KH B a c := ⟨Nat.le_trans h.1 k.1, fun i o hi ho hn => k.2 i o hi (h.2 i o hi ho hn) hn⟩
theorem KH.of_below {B : Nat} {W W' : World} (h : Below W.heap.size W W') : KH B W W' := ⟨h.size, fun k o _ hk _ => (h.block k (blk_lt hk)).trans hk⟩
theorem KH.grownN {B : Nat} {W X Y : World} {row : Option Nat} (h : KH B W X) (hg : X.grownBy Y row) (hr : ∀ r, row = some r → W.heap.size ≤ r) : KH B W Y := ⟨Nat.le_trans h.1 hg.size, fun k o hi ho hn => by
 have h1 := h.2 k o hi ho hn
 exact (hg.block k (blk_lt h1) (fun e => by have := hr k e.symm; have := blk_lt ho; omega)).trans h1⟩
theorem KH.once {B base : Nat} {W X Y : World} {v : Value} {l : List He} (h : KH B W X) (ho : OwnHd X base v l) (hg : X.grownBy Y v.ownBlock) : KH B W Y := ⟨Nat.le_trans h.1 hg.size, fun k o hi h0 hn => by
 have h1 := h.2 k o hi h0 hn
 exact (hg.block k (blk_lt h1) (fun e => by obtain ⟨_, cs, hc⟩ := ho.typed k e.symm; rw [hc] at h1; cases h1; exact hn cs rfl)).trans h1⟩
theorem KH.set {B : Nat} {W X : World} (h : KH B W X) (j : Nat) (u : Value) : KH B W (X.setCell ⟨B, j, none⟩ u) := ⟨by have := h.1; simpa [World.setCell] using this, fun k o hi ho hn => (Below.heap_setCell _ _ _ _ hi).trans (h.2 k o hi ho hn)⟩
theorem KH.blk {B : Nat} {W W' : World} (h : KH B W W') {g t : Nat} {cs : Array Value} (hb : W.heap[g]? = some (.cells cs t (0, 0))) (ht : t ≠ 113) (hg : g ≠ B) : W'.heap[g]? = some (.cells cs t (0, 0)) := h.2 g _ hg hb (fun cs' e => by cases e; exact ht rfl)
theorem KH.marks {B n : Nat} {W W' : World} {Ds : List Nat} (h : KH B W W') (hm : Marks n Ds W) (hB : B < n) : Marks n Ds W' := ⟨hm.1, fun D hD => ⟨(hm.2 D hD).1, h.2 D _ (by have := (hm.2 D hD).1; omega) (hm.2 D hD).2 (fun cs e => by cases e)⟩⟩
theorem KH.keeps {B : Nat} {W W' : World} {v : Value} (h : KH B W W') (hb : Boxed W B 110 v) : KeepsBut none W W' := ⟨h.1, fun k o _ hk ho => h.2 k o (fun e => by
  subst e
  rw [show W.heap[k]? = _ from hb] at hk
  cases hk
  rcases ho with ho | ho
  ·cases ho
  ·simp [exO] at ho) hk (fun cs e => by
  subst e
  rcases ho with ho | ho
  ·cases ho
  ·simp [exO] at ho)⟩
theorem HdSt.put {base B : Nat} {W W1 : World} {v v1 : Value} {l : List He} (hb : Boxed W B 110 v) (ho : OwnHd W base v l) (hg : W.grownBy W1 v.ownBlock) {l1 : List He} (h1 : OwnHd W1 base v1 l1) : Boxed W1 B 110 v ∧ HdSt base B (W1.setCell ⟨B, 0, none⟩ v1) l1 := by
 have hb1 : Boxed W1 B 110 v := (hg.block B (blk_lt hb) (fun e => by
  obtain ⟨_, cs, hc⟩ := ho.typed B e.symm
  rw [show W.heap[B]? = _ from hb] at hc
  cases hc)).trans hb
 refine ⟨hb1, v1, hb1.set v1, ?_⟩
 exact Kd.R_mono (Kd.R_set h1 (show W1.heap[B]? = _ from hb1) (fun q hq => by
  have hq' : q ∈ [113] := hq
  rw [List.mem_singleton.1 hq']; decide) 0 v1) (fun _ _ => trivial)
theorem R_notcells {α : Type} {d : Kd α} {e : Nat} {W W' : World} {row : Option Nat} {base : Nat} {v : Value} {l : List α} (h : d.R e W base (fun _ => True) v l) (hg : W.grownBy W' row) (hr : ∀ r, row = some r → ∃ o : Obj, W.heap[r]? = some o ∧ o.isCells = false) : d.R e W' base (fun _ => True) v l :=
 Kd.R_mono (Kd.R_grown (Kd.R_bound h) hg (fun k hk he => by
  obtain ⟨_, _, _, q, _, cs, hc⟩ := hk
  obtain ⟨o, h1, h2⟩ := hr k he.symm
  rw [hc] at h1; cases h1; cases h2)) (fun _ _ => trivial)
theorem HS.notcells {base : Nat} {W W' : World} {row : Option Nat} {vn vm : Value} {l : List He} (h : HS base W vn vm l) (hg : W.grownBy W' row) (hr : ∀ r, row = some r → ∃ o : Obj, W.heap[r]? = some o ∧ o.isCells = false) : HS base W' vn vm l := ⟨R_notcells h.1 hg hr, R_notcells h.2 hg hr⟩
theorem own_names {base : Nat} {X Y : World} {vn vm : Value} {ns : List ByteArray} {ms : List Int} (h1 : OwnT X base vn ns) (h2 : OwnI X base vm ms) (hg : X.grownBy Y vn.ownBlock) : OwnI Y base vm ms := Kd.R_mono (Kd.R_grown (Kd.R_tight rfl h2) hg (fun k hk he => txt_int h1 h2 k he.symm hk)) (fun _ _ => trivial)
theorem own_many {base : Nat} {X Y : World} {vn vm : Value} {ns : List ByteArray} {ms : List Int} (h1 : OwnT X base vn ns) (h2 : OwnI X base vm ms) (hg : X.grownBy Y vm.ownBlock) : OwnT Y base vn ns := Kd.R_mono (Kd.R_grown (Kd.R_tight rfl h1) hg (fun k hk he => txt_int h1 h2 k hk.symm he)) (fun _ _ => trivial)
theorem one_txt {W : World} {t : Nat} {s : ByteArray} (h : W.heap[t]? = some (.cells #[.string s] 9 (0, 0))) : Kd.C Kd.string W (some ⟨t, 0, none⟩) 1 [s] := ⟨rfl, by decide, fun _ => ⟨_, rfl, fun j p hj => by
 cases j with
 | zero => cases hj; exact ⟨[.string s], rfl, rfl, fun i u hu => by
   cases i with
   | zero => cases hu; exact (blk_cell h 0).trans rfl
   | succ i => simp at hu⟩
 | succ j => simp at hj⟩⟩
theorem one_int {W : World} {t : Nat} {s : Int} (h : W.heap[t]? = some (.cells #[.int .i64 s] 3 (0, 0))) : Kd.C (Kd.int .i64) W (some ⟨t, 0, none⟩) 1 [s] := ⟨rfl, by decide, fun _ => ⟨_, rfl, fun j p hj => by
 cases j with
 | zero => cases hj; exact ⟨[.int .i64 s], rfl, rfl, fun i u hu => by
   cases i with
   | zero => cases hu; exact (blk_cell h 0).trans rfl
   | succ i => simp at hu⟩
 | succ j => simp at hj⟩⟩
theorem getHd {W : World} {A : Option Addr} {l : List He} (h : Kd.C k113 W A l.length l) (i : Nat) (hi : i < l.length) :
  ∃ ad, A = some ad ∧ W.cell? (ad.add (i * 2)) = some (.string l[i].f0) ∧ W.cell? ⟨(ad.add (i * 2)).block, (ad.add (i * 2)).off + 1, none⟩ = some (.int .i64 l[i].f1) := by
 obtain ⟨ad, c, rfl, hl, hK, hc⟩ := cget h i hi
 have he := k113_open hK
 subst he
 have e2 : (k113).sz = 2 := rfl
 rw [e2] at hc
 exact ⟨ad, rfl, hc 0 _ rfl, by rw [← add_field _ _ 1 (by omega)]; exact hc 1 _ rfl⟩
def headsE (defs : List De) : List He := if checkP defs = 0 then headsP defs else []
end Go.Proofs.YtacefdkfbpgedaaGreat.Mine
namespace Go.Proofs.YtacefdkfbpgedaaGreat.Mine
open Go.Proofs.YtacefdkfbpgedaaGreat.PProgSmall
open Go.RowKit Go.Shelf Go.Proofs.YtacefdkfbpgedaaGreatW.PrintWords Go.Proofs.YtacefdkfbpgedaaGreatW.PrintLast Go.Proofs.YtacefdkfbpgedaaGreatW.PrintMore
set_option linter.unusedVariables false
set_option linter.unusedSimpArgs false
attribute [local go_sem] Oper.semAt_some
theorem lit91 (a : Act) (h : a.tmps.size = 91) : ∃ f : Nat → Value, (∀ i, a.tmps.getD i undef = f i) ∧ a = { tmps := #[f 0, f 1, f 2, f 3, f 4, f 5, f 6, f 7, f 8, f 9, f 10, f 11, f 12, f 13, f 14, f 15, f 16, f 17, f 18, f 19, f 20, f 21, f 22, f 23, f 24, f 25, f 26, f 27, f 28, f 29, f 30, f 31, f 32, f 33, f 34, f 35, f 36, f 37, f 38, f 39, f 40, f 41, f 42, f 43, f 44, f 45, f 46, f 47, f 48, f 49, f 50, f 51, f 52, f 53, f 54, f 55, f 56, f 57, f 58, f 59, f 60, f 61, f 62, f 63, f 64, f 65, f 66, f 67, f 68, f 69, f 70, f 71, f 72, f 73, f 74, f 75, f 76, f 77, f 78, f 79, f 80, f 81, f 82, f 83, f 84, f 85, f 86, f 87, f 88, f 89, f 90], defers := a.defers } := by
 refine ⟨fun i => a.tmps.getD i undef, fun i => rfl, ?_⟩
 obtain ⟨tm, df⟩ := a
 have e : tm = ((List.range 91).map fun i => tm.getD i undef).toArray := by
  apply Array.ext
  ·simpa using h
  ·intro i h1 h2
   simp [h1]
 exact congrArg (fun t => ({ tmps := t, defers := df } : Act)) (e.trans rfl)
set_option maxRecDepth 100000 in
set_option maxHeartbeats 8000000 in
theorem c_Heads (defs : List De) (A : Option Addr) (c : Nat) (w : World) (hr : Kd.C k59 w A defs.length defs) (hc : defs.length ≤ c) (hok : OkP defs) (hT : (headsP defs).length < 1000000) (hTb : ∀ d ∈ defs, ∀ b ∈ bodiesD d, (headsP defs).length + szE b < 1000000) :
  Calls Tryz.prog 25 #[.agg #[.slice A defs.length c]] w fun en w' => ∃ v1 v2, en = .returned (.tuple #[v1, v2, .int .i64 (checkP defs)]) ∧ HS w.heap.size w' v1 v2 (headsE defs) ∧ Below w.heap.size w w' := by
 have HT := Lib.hid hT
 have HCk := Lib.hid (fun W (hb : Below w.heap.size w W) => c_Check defs A c W (Kd.C_below hr hb) hc hok)
 have hn := hok.n
 obtain ⟨W1, hW1⟩ : ∃ W1, w.alloc (.cells #[.slice A defs.length c] 24) = W1 := ⟨_, rfl⟩
 have q1 : Below w.heap.size w W1 := by rw [← hW1]; exact below_alloc1 _ _
 have bP : W1.heap[w.heap.size]? = some (.cells #[.slice A defs.length c] 24 (0, 0)) := by rw [← hW1]; exact alloc_at _ _
 have z1 : W1.heap.size = w.heap.size + 1 := by rw [← hW1]; simp
 have hmd := hr.2.1
 have HF := Lib.hid (Kd.C_F k59_heap hr)
 have HR := Lib.hid hr
 have Q := Aside0.mk q1
 have B := Aside0.mk bP
 have HW1 := Lib.hid hW1
 have HZ1 := Lib.hid z1
 clear hr q1 bP hW1 z1
 have hz1b := Nat.le_of_eq HZ1.out.symm
 have kP := (blk_cell B.out 0).trans rfl
 obtain ⟨ce, hce⟩ : ∃ ce, checkP defs = ce := ⟨_, rfl⟩
 have HCe := Lib.hid hce
 have HC1 := Lib.hid (HCk.out _ Q.out)
 rw [hce] at HC1 ⊢
 have HTb := Lib.hid hTb
 clear hT hTb hce HCk
 refine (callsIn_wide (n := 6)).1 (callsIn_of_wp_marks (F := Fence.wide) Tryz.func25 rfl trivial ?_ rfl)
 simp only [Tryz.ntmps25, List.size_toArray, List.length_cons, List.length_nil, Nat.reduceAdd, Nat.reduceSub, Array.replicate_succ, Array.replicate_zero, List.push_toArray, List.append_toArray, List.nil_append, List.cons_append]
 gi_wp2_with fail
 rw [HW1.out]
 gi_wp2_with fail
 refine ⟨trivial, (callsIn_wide.2 HC1.out).mono ?_⟩
 rintro en w2 ⟨rfl, hb⟩
 have Q := Aside0.mk (Q.out.trans (hb.mono Q.out.size))
 have B := Aside0.mk (blk_below B.out hb)
 have hw2 := hb.size
 clear hb kP HC1
 cases he : (ce != 0) with
 | true =>
  have HE := Lib.hid he
  gi_wp2_with fail
  have hne : ¬ checkP defs = 0 := by rw [HCe.out]; simpa using HE.out
  exact ⟨_, results_tmp3 rfl _ _ _, _, _, rfl, by rw [headsE, if_neg hne]; exact HS.nil _ _, Q.out⟩
 | false =>
  have hce0 : ce = 0 := by simpa using he
  subst hce0
  have kP := (blk_cell B.out 0).trans rfl
  obtain ⟨W3, hW3⟩ : ∃ W3, w2.alloc (.cells #[.slice none 0 0] 110) = W3 := ⟨_, rfl⟩
  have q3 : Below w2.heap.size w2 W3 := by rw [← hW3]; exact below_alloc1 _ _
  have b3 : Boxed W3 w2.heap.size 110 (.slice none 0 0) := by rw [← hW3]; exact alloc_at _ _
  have z3 : W3.heap.size = w2.heap.size + 1 := by rw [← hW3]; simp
  have Q3 := Aside0.mk q3
  have B3 := Aside0.mk b3
  have k3 := pw_cell_below q3 kP
  rw [← hW3] at k3
  have HW3 := Lib.hid hW3
  have hz3a := Nat.le_of_eq z3
  have hz3b := Nat.le_of_eq z3.symm
  clear q3 b3 hW3 z3
  gi_wp2_with fail
  rw [HW3.out]
  clear HW3 k3 kP
  refine wpIn_loopT (fun a Wr => ∃ (kk : Nat) (Ds : List Nat), a.tmps.size = 91 ∧ a.defers = Ds.map markD ∧ a.tmps.getD 6 undef = .pointer (some ⟨w2.heap.size, 0, none⟩) ∧ a.tmps.getD 22 undef = .slice A defs.length c ∧ a.tmps.getD 23 undef = .int .i64 defs.length ∧ a.tmps.getD 24 undef = .int .i64 kk ∧
    kk ≤ defs.length ∧ Marks W3.heap.size Ds Wr ∧ HdSt W3.heap.size w2.heap.size Wr ((defs.take kk).foldl headD []) ∧ Below w2.heap.size w2 Wr ∧ W3.heap.size ≤ Wr.heap.size)
   (fun a _ => defs.length - (intOf (a.tmps.getD 24 undef)).toNat) ?_ ?_
  ·exact ⟨0, [], rfl, rfl, rfl, rfl, rfl, rfl, Nat.zero_le _, Marks.nil _ _, ⟨_, B3.out, Kd.R_nil _ _ _ _ _⟩, Q3.out, Nat.le_refl _⟩
  rintro a Wr ⟨kk, Ds, hsl, hdf, s6, s22, s23, s24, hkk, hmk, hhd, hbr, hsz⟩ T hT
  have HM1 := Lib.hid s24
  obtain ⟨f, hf, ha⟩ := lit91 a hsl
  have s6 := (hf 6).symm.trans s6
  have s22 := (hf 22).symm.trans s22
  have s23 := (hf 23).symm.trans s23
  have s24 := (hf 24).symm.trans s24
  rw [hdf] at ha
  rw [ha]
  rw [s6, s22, s23, s24]
  clear ha hf hsl hdf s6 s22 s23 s24
  have HT1 := Lib.hid hT
  have HMk := Aside0.mk hmk
  have HHd := Aside0.mk hhd
  have HBr := Aside0.mk hbr
  have HQ := Aside0.mk (Q.out.trans (hbr.mono Q.out.size))
  clear hT hmk hhd hbr
  obtain ⟨l0, hl0⟩ : ∃ l0, (defs.take kk).foldl headD [] = l0 := ⟨_, rfl⟩
  have HL0 := Lib.hid hl0
  rw [hl0] at HHd
  clear hl0
  by_cases hlt : kk < defs.length
  ·have hltz : (kk : Int) < (defs.length : Int) := by omega
   obtain ⟨ad, g0, g1, g2, g3, g4, g5, rfl, hK, hcells, y0, y1, y2, y3, y4, y5⟩ := gett6 rfl (Kd.C_below HR.out HQ.out) kk hlt
   have hFK := elemF HF.out kk hlt rfl hcells (fun p v hp hv => (HQ.out).cell (World.block_lt_of_cell? _ _ hv) |>.trans hv) (by decide)
   have hmem := List.getElem_mem hlt
   obtain ⟨dd, hdd⟩ : ∃ dd, defs[kk] = dd := ⟨_, rfl⟩
   have HK := Lib.hid (show defs[kk]? = some dd by rw [List.getElem?_eq_getElem hlt, hdd])
   rw [hdd] at hFK hmem
   obtain ⟨Z1, z1, Z2, z2, Z5, z5, he, _⟩ := k59_openF hFK
   obtain ⟨rfl, rfl, rfl, rfl, rfl, rfl⟩ : g0 = _ ∧ g1 = _ ∧ g2 = _ ∧ g3 = _ ∧ g4 = _ ∧ g5 = _ := by simpa using he
   have HDd := Lib.hid hdd
   have HFk := Lib.hid (show Kd.FK k59 Wr (fun k => k < (Wr).heap.size) dd [.string dd.f0, .slice Z1 dd.f1.length z1, .slice Z2 dd.f2.length z2, .int .i64 dd.f3.f0, .string dd.f3.f1, .slice Z5 dd.f3.f2.length z5] from Kd.FK_mono (Kd.FK_below hFK (HQ.out)) (fun k hk => by have := (HQ.out).size; omega))
   clear hK hcells hFK he hdd
   have hFd : Kd.FK k59 w (fun k => k < w.heap.size) dd [.string dd.f0, .slice Z1 dd.f1.length z1, .slice Z2 dd.f2.length z2, .int .i64 dd.f3.f0, .string dd.f3.f1, .slice Z5 dd.f3.f2.length z5] := by
    have h1 := elemF (W := Wr) (cs := [.string dd.f0, .slice Z1 dd.f1.length z1, .slice Z2 dd.f2.length z2, .int .i64 dd.f3.f0, .string dd.f3.f1, .slice Z5 dd.f3.f2.length z5]) HF.out kk hlt rfl (fun j u hj => by
     have e6 : (k59).sz = 6 := rfl
     rw [e6]
     match j, hj with
     | 0, hj => cases hj; exact y0
     | 1, hj => cases hj; rw [add_field _ _ 1 (by omega)]; exact y1
     | 2, hj => cases hj; rw [add_field _ _ 2 (by omega)]; exact y2
     | 3, hj => cases hj; rw [add_field _ _ 3 (by omega)]; exact y3
     | 4, hj => cases hj; rw [add_field _ _ 4 (by omega)]; exact y4
     | 5, hj => cases hj; rw [add_field _ _ 5 (by omega)]; exact y5) (fun p v hp hv => HQ.out.cell (World.block_lt_of_cell? _ _ hv) |>.trans hv) (by decide)
    rwa [show defs[kk] = dd from HDd.out] at h1
   have hod := hok.d _ hmem
   have hcd := hod.c
   have hzd := hod.z
   obtain ⟨W4, hW4⟩ : ∃ W4, Wr.alloc (.cells #[.string dd.f0, .slice Z1 dd.f1.length z1, .slice Z2 dd.f2.length z2, .int .i64 dd.f3.f0, .string dd.f3.f1, .slice Z5 dd.f3.f2.length z5] 59) = W4 := ⟨_, rfl⟩
   have q4 : Below Wr.heap.size Wr W4 := by rw [← hW4]; exact below_alloc1 _ _
   have b4 : W4.heap[Wr.heap.size]? = some (.cells #[.string dd.f0, .slice Z1 dd.f1.length z1, .slice Z2 dd.f2.length z2, .int .i64 dd.f3.f0, .string dd.f3.f1, .slice Z5 dd.f3.f2.length z5] 59 (0, 0)) := by rw [← hW4]; exact alloc_at _ _
   have z4 : W4.heap.size = Wr.heap.size + 1 := by rw [← hW4]; simp
   have hwq := HQ.out.size
   have qw4 : Below w.heap.size w W4 := HQ.out.trans (q4.mono HQ.out.size)
   have HBo := Lib.hid (c_bodies dd _ (fun k => k < w.heap.size) W4 (Kd.FK_below hFd qw4) (by omega))
   have B4 := Aside0.mk b4
   have Q4 := Aside0.mk q4
   have QW4 := Aside0.mk qw4
   have HFd := Lib.hid hFd
   have HW4 := Lib.hid hW4
   have k0 := (blk_cell B4.out 0).trans rfl
   have k1 := (blk_cell B4.out 1).trans rfl
   have k2 := (blk_cell B4.out 2).trans rfl
   have k3 := (blk_cell B4.out 3).trans rfl
   have k4 := (blk_cell B4.out 4).trans rfl
   have k5 := (blk_cell B4.out 5).trans rfl
   rw [← hW4] at k0 k1 k2 k3 k4 k5
   have hz4a := Nat.le_of_eq z4
   have hz4b := Nat.le_of_eq z4.symm
   clear b4 q4 qw4 hW4 hFd hod z4
   gi_wp2_with fail
   rw [HW4.out]
   clear k0 k1 k2 k3 k4 k5 y0 y1 y2 y3 y4 y5 HW4
   refine ⟨trivial, (callsIn_wide.2 HBo.out).mono ?_⟩
   rintro en W5 ⟨v8, rfl, hRow, hb5⟩
   obtain ⟨Av, cv, rfl⟩ := hRow.slice
   obtain ⟨bs, hbs⟩ : ∃ bs, bodiesD dd = bs := ⟨_, rfl⟩
   rw [hbs] at hRow hzd ⊢
   have hbl : bs.length ≤ 100000 := by
    rw [← hbs]; unfold bodiesD; split
    ·simp
    ·simpa using hcd
   have HBs := Lib.hid hbs
   have HRow := Aside0.mk hRow
   have hw5 := hb5.size
   have BX5 := Aside0.mk (blk_below B4.out hb5)
   have q5 : Below Wr.heap.size Wr W5 := Q4.out.trans (hb5.mono Q4.out.size)
   have HHd5 := Aside0.mk (HHd.out.below q5)
   have HMk5 := Aside0.mk (HMk.out.below q5)
   have HBr5 := Aside0.mk (HBr.out.trans (q5.mono HBr.out.size))
   clear hRow hb5 hbs HBo q5 HHd HMk HBr
   gi_wp2_with fail
   refine wpIn_loopT (fun a Wj => ∃ (jj : Nat) (Es : List Nat), a.tmps.size = 91 ∧ a.defers = Es.map markD ∧ a.tmps.getD 6 undef = .pointer (some ⟨w2.heap.size, 0, none⟩) ∧ a.tmps.getD 8 undef = .pointer (some ⟨Wr.heap.size, 0, none⟩) ∧ a.tmps.getD 22 undef = .slice (some ad) defs.length c ∧ a.tmps.getD 23 undef = .int .i64 defs.length ∧ a.tmps.getD 24 undef = .int .i64 kk ∧ a.tmps.getD 29 undef = .slice Av bs.length cv ∧ a.tmps.getD 30 undef = .int .i64 bs.length ∧ a.tmps.getD 31 undef = .int .i64 jj ∧
     jj ≤ bs.length ∧ Marks W3.heap.size Es Wj ∧ HdSt W3.heap.size w2.heap.size Wj (headK dd l0 jj) ∧ Below w2.heap.size w2 Wj ∧ KH w2.heap.size W5 Wj)
    (fun a _ => bs.length - (intOf (a.tmps.getD 31 undef)).toNat) ?_ ?_
   ·exact ⟨0, Ds, rfl, rfl, rfl, rfl, rfl, rfl, rfl, rfl, rfl, rfl, Nat.zero_le _, HMk5.out, HHd5.out, HBr5.out, KH.refl _ _⟩
   rintro a Wj ⟨jj, Es, hsl, hdf, s6, s8, s22, s23, s24, s29, s30, s31, hjj, hmk, hhd, hbr, hkh⟩ T2 hT2
   have HM2 := Lib.hid s31
   obtain ⟨f, hf, ha⟩ := lit91 a hsl
   have s6 := (hf 6).symm.trans s6
   have s8 := (hf 8).symm.trans s8
   have s22 := (hf 22).symm.trans s22
   have s23 := (hf 23).symm.trans s23
   have s24 := (hf 24).symm.trans s24
   have s29 := (hf 29).symm.trans s29
   have s30 := (hf 30).symm.trans s30
   have s31 := (hf 31).symm.trans s31
   rw [hdf] at ha
   rw [ha]
   rw [s6, s8, s22, s23, s24, s29, s30, s31]
   clear ha hf hsl hdf s6 s8 s22 s23 s24 s29 s30 s31
   have HT2 := Lib.hid hT2
   have HMk := Aside0.mk hmk
   have HHd := Aside0.mk hhd
   have HBr := Aside0.mk hbr
   have HKh := Aside0.mk hkh
   have hwj := hkh.1
   have HQj := Aside0.mk (Q.out.trans (hbr.mono Q.out.size))
   clear hT2 hmk hhd hbr hkh
   obtain ⟨lk, hlk⟩ : ∃ lk, headK dd l0 jj = lk := ⟨_, rfl⟩
   have HLk := Lib.hid hlk
   rw [hlk] at HHd
   clear hlk
   have HBX := Aside0.mk (HKh.out.blk BX5.out (by decide) (by omega))
   by_cases hltj : jj < bs.length
   ·have hltjz : (jj : Int) < (bs.length : Int) := by omega
    obtain ⟨b, hbb⟩ : ∃ b, bs[jj] = b := ⟨_, rfl⟩
    have HBb := Lib.hid (show bs[jj]? = some b by rw [List.getElem?_eq_getElem hltj, hbb])
    have hmb : b ∈ bs := by rw [← hbb]; exact List.getElem_mem hltj
    have hszb : szE b < 1000000 := hzd b hmb
    have hcap : (headsP defs).length + szE b < 1000000 := HTb.out dd hmem b (by rw [HBs.out]; exact hmb)
    obtain ⟨lc, hlcd⟩ : ∃ lc, headCa dd jj lk = lc := ⟨_, rfl⟩
    have hlc : lc.length ≤ (headsP defs).length := by
     have h1 := heads_le2 HK.out (j := jj) (b := b) (by rw [HBs.out]; exact HBb.out) 0
     rw [List.take_zero, List.foldl_nil, HL0.out, HLk.out, hlcd] at h1
     exact h1
    have hlk1 : lk.length < 1000000 := by have := headCa_up dd jj lk; rw [hlcd] at this; omega
    have HLc := Lib.hid hlcd
    clear hlcd hmb
    obtain ⟨vq, hvq1, hvq2⟩ := HHd5.out
    have hrow := HRow.out.keeps (HKh.out.keeps hvq1) (fun k h => by cases h)
    clear hvq1 hvq2
    obtain ⟨a8, A3, a3, rfl, x0, x1, x2, hl3, hF3⟩ := hrow.get jj hltj
    rw [hbb] at x0 x1 x2 hl3 hF3
    have HF3 := Aside0.mk hF3
    have HPl := Lib.hid (c_places b A3 a3)
    obtain ⟨W6, hW6⟩ : ∃ W6, Wj.alloc (.cells #[.int .i64 b.f0, .string b.f1, .slice A3 b.f2.length a3] 57) = W6 := ⟨_, rfl⟩
    have q6 : Below Wj.heap.size Wj W6 := by rw [← hW6]; exact below_alloc1 _ _
    have b6 : W6.heap[Wj.heap.size]? = some (.cells #[.int .i64 b.f0, .string b.f1, .slice A3 b.f2.length a3] 57 (0, 0)) := by rw [← hW6]; exact alloc_at _ _
    have z6 : W6.heap.size = Wj.heap.size + 1 := by rw [← hW6]; simp
    have HH6 := Aside0.mk (HHd.out.below q6)
    have HM6 := Aside0.mk (HMk.out.below q6)
    have HB6 := Aside0.mk (HBr.out.trans (q6.mono HBr.out.size))
    have HK6 := Aside0.mk (HKh.out.trans (KH.of_below q6))
    have HQ6 := Aside0.mk (HQj.out.trans (q6.mono HQj.out.size))
    have BX6 := Aside0.mk (blk_below HBX.out q6)
    have B10 := Aside0.mk b6
    have k2 := (blk_cell BX6.out 2).trans rfl
    have e0 := (blk_cell b6 0).trans rfl
    have e1 := (blk_cell b6 1).trans rfl
    have e2 := (blk_cell b6 2).trans rfl
    rw [← hW6] at k2 e0 e1 e2
    have HW6 := Lib.hid hW6
    have hz6a := Nat.le_of_eq z6
    have hz6b := Nat.le_of_eq z6.symm
    clear z6 hrow hF3 hbb q6 b6 hW6 HHd HMk HBr HKh HQj
    by_cases h0 : dd.f2.length = 0
    ·have c0 : decide (0 < dd.f2.length) = false := decide_eq_false (by omega)
     have c0z : decide ((0 : Int) < (dd.f2.length : Int)) = false := decide_eq_false (by omega)
     have HLe := Lib.hid (show lk = lc by rw [← HLc.out, headCa_no h0])
     clear h0
     gi_wp2_with fail
     rw [HW6.out]
     clear HW6 k2 e0 e1 e2 x0 x1 x2
     obtain ⟨Wx, hWx⟩ : ∃ Wx, W6 = Wx := ⟨_, rfl⟩
     have HHx : Aside0 (HdSt W3.heap.size w2.heap.size Wx lc) := ⟨by rw [← hWx, ← HLe.out]; exact HH6.out⟩
     have HMx : Aside0 (Marks W3.heap.size Es Wx) := ⟨by rw [← hWx]; exact HM6.out⟩
     have HBx : Aside0 (Below w2.heap.size w2 Wx) := ⟨by rw [← hWx]; exact HB6.out⟩
     have HKx : Aside0 (KH w2.heap.size W5 Wx) := ⟨by rw [← hWx]; exact HK6.out⟩
     have HQx : Aside0 (Below w.heap.size w Wx) := ⟨by rw [← hWx]; exact HQ6.out⟩
     rw [hWx]
     clear hWx HH6 HM6 HB6 HK6 HQ6 BX6 B10 HLe
     refine ⟨trivial, (callsIn_wide.2 (HPl.out _)).mono ?_⟩
     rintro en w7 ⟨rfl, rfl⟩
     gi_wp2_with fail
     obtain ⟨Wd, hWd⟩ : ∃ Wd, Wx.alloc (.cells #[.int .i64 b.f0, .string b.f1, .slice A3 b.f2.length a3] 57) = Wd := ⟨_, rfl⟩
     have qd : Below Wx.heap.size Wx Wd := by rw [← hWd]; exact below_alloc1 _ _
     have bP : Wd.heap[Wx.heap.size]? = some (.cells (cellsH (b, A3, a3)) 57 (0, 0)) := by rw [← hWd]; have := alloc_at Wx (.cells #[.int .i64 b.f0, .string b.f1, .slice A3 b.f2.length a3] 57); simpa [cellsH] using this
     have hF4 : Kd.F k57 Wd (fun k => k < w.heap.size) A3 b.f2.length b.f2 := Kd.F_step HF3.out (fun k hk hlt => by rw [(HQx.out.trans (qd.mono HQx.out.size)).block k hk, QW4.out.block k hk])
     rw [hWd]
     have hxs := HBx.out.size
     have hkx := HKx.out.1
     have hds := qd.size
     have HHd := Aside0.mk (HHx.out.below qd)
     have HMd := Aside0.mk (HMx.out.below qd)
     have HBd := Aside0.mk (HBx.out.trans (qd.mono HBx.out.size))
     have HKd := Aside0.mk (HKx.out.trans (KH.of_below qd))
     clear hWd qd HHx HMx HBx HKx HQx
     refine wpIn_rangeFunc_ownH rfl (by omega) (gf := 133) (lb := #[.pointer (some ⟨Wx.heap.size, 0, none⟩)]) rfl trivial (enters_of Tryz.func133 (by kernel_rfl) rfl)
      (places_stops Wd NoM w.heap.size (fun k => k < w.heap.size) (fun k hk => hk.elim) (fun k hk => ⟨fun h => h, hk⟩) ⟨(b, A3, a3), hl3, hF4, hszb⟩ Wx.heap.size (fun h => h) Wd ((KC.rel _ _).refl _) (Nat.le_refl _) bP)
      (KC.rel _ _).trans (fun Wy lx o o' hlx ho hcl _ => KC.putObj _ (by omega) ho hcl) (Below.refl _ _) (fun _ => rfl)
      (fun pre Wy => HdSt W3.heap.size w2.heap.size Wy ((exs pre).foldl headB lc) ∧ Marks W3.heap.size Es Wy ∧ KH w2.heap.size Wd Wy ∧ Below w2.heap.size w2 Wy)
      (fun _ _ _ => False)
      (fun pre X Y row ⟨h1, h2, h3, h4⟩ hg hr => ⟨h1.notcells hg (fun r e => (hr r e).2), HMd.out.own (β := Unit) () X Y row h2 hg hr, h3.grownN hg (fun r e => (hr r e).1), h4.grown hg h4.size (fun k hk => by have := (hr k hk).1; omega)⟩)
      (fun _ _ _ _ _ hs _ _ => hs)
      ⟨HHd.out, HMd.out, KH.refl _ _, HBd.out⟩
      (fun x a' Wy => a'.tmps.size = 91 ∧ a'.defers = [] ∧ a'.tmps.getD 6 undef = .pointer (some ⟨w2.heap.size, 0, none⟩) ∧ ∃ Bx, a'.tmps.getD 11 undef = .pointer (some ⟨Bx, 0, none⟩) ∧ Wd.heap.size ≤ Bx ∧ Wy.heap[Bx]? = some (.cells (cellsH x.1) 57 (0, 0)))
      (fun x a' _ X Y row hs hg hr => by obtain ⟨t1, t2, t3, Bx, t4, t5, t6⟩ := hs; exact ⟨t1, t2, t3, Bx, t4, t5, Blk.notcells t6 hg (fun r e => (hr r e).2)⟩)
      ?assign ?body ?done ?stop
     case assign =>
      rintro l' pre ⟨⟨x, A', c'⟩, hx⟩ Wy K ⟨h1, h2, h3, h4⟩ hK
      simp only [encH]
      have H1 := Lib.hid h1
      have H2 := Lib.hid h2
      have H3 := Lib.hid h3
      have H4 := Lib.hid h4
      clear h1 h2 h3 h4
      gi_wp2
      have q := below_alloc1 Wy (.cells #[.int .i64 x.f0, .string x.f1, .slice A' x.f2.length c'] 57)
      exact hK _ _ ((KeepsOthers.alloc _ _).from _) ((KC.rel _ _).below q) ⟨H1.out.below q, H2.out.below q, H3.out.trans (KH.of_below q), H4.out.trans (q.mono H4.out.size)⟩ ⟨rfl, rfl, rfl, Wy.heap.size, rfl, H3.out.1, alloc_at _ _⟩
     case body =>
      rintro l' pre ⟨⟨x, A', c'⟩, hx⟩ a' Wy hl' hr' ⟨h1, h2, h3, h4⟩ ⟨t1, t2, t3, Bx, t4, hBx, bX⟩ hlt'
      obtain ⟨g, hgf, ha⟩ := lit91 a' t1
      have s6 := (hgf 6).symm.trans t3
      have s11 := (hgf 11).symm.trans t4
      rw [t2] at ha
      rw [ha]
      rw [s6, s11]
      clear ha hgf s6 s11 t1 t2 t3 t4 a'
      have e0 : Wy.cell? ⟨Bx, 0, none⟩ = some (.int .i64 x.f0) := (blk_cell bX 0).trans rfl
      have e1 : Wy.cell? ⟨Bx, 1, none⟩ = some (.string x.f1) := (blk_cell bX 1).trans rfl
      have e2 : Wy.cell? ⟨Bx, 2, none⟩ = some (.slice A' x.f2.length c') := (blk_cell bX 2).trans rfl
      obtain ⟨v, g1, g2⟩ := h1
      obtain ⟨Ah, ch, rfl⟩ := Kd.R_slice g2
      have cO := g1.cell
      have hms := h4.size
      have hlen : ((exs pre).foldl headB lc).length < 1000000 := by
       have h := foldl_cap (f := headB) (c := 1) (xs := exs pre) (fun l x _ => headB_cap l x) lc
       rw [exs_length] at h
       simp only at hlt'
       omega
      have HC := Lib.hid (c_onceH W3.heap.size _ ((exs pre).foldl headB lc) ⟨x.f1, (x.f2.length : Int)⟩ Wy g2 (by have := h3.1; omega) hlen)
      have H1 := Lib.hid g1
      have H1b := Lib.hid g2
      have H2 := Lib.hid h2
      have H3 := Lib.hid h3
      have H4 := Lib.hid h4
      clear g1 g2 h2 h3 h4 bX hr'
      by_cases hk : x.f0 = 2
      ·have hk1 : (x.f0 == 2) = true := by rw [beq_iff_eq]; exact hk
       have HKk := Lib.hid hk
       clear hk
       gi_wp2_with fail
       refine ⟨trivial, (CallsIn.inRound l' (callsIn_wide.2 HC.out)).mono ?_⟩
       rintro en w1 ⟨v1, rfl, hown, hg⟩
       obtain ⟨A1', c1', rfl⟩ := Kd.R_slice hown
       obtain ⟨hb1, hst⟩ := HdSt.put H1.out H1b.out hg hown
       have cO1 := hb1.cell
       have fO1 := hb1.frozen
       have H5 := Lib.hid hb1
       have H6 := Lib.hid hg
       have H7 := Lib.hid hst
       clear hown hb1 hg hst
       gi_wp2_with fail
       have hkc : KC NoM w.heap.size Wy w1 := KC.grown _ H6.out (fun k hk => by obtain ⟨hb, cs, hcs⟩ := H1b.out.typed k hk; exact ⟨by omega, cs, _, hcs, by decide, by decide⟩)
       have hko : KeepsOthers Wy w1 := KeepsOthers.of_grownBy H6.out (fun j o hj ho => by obtain ⟨_, cs, hcs⟩ := H1b.out.typed j hj; rw [hcs] at ho; cases ho; rfl)
       refine ⟨(hko.trans (KeepsOthers.setCell _ _ _)).from _, (KC.rel _ _).trans hkc (KC.set _ (by omega) H5.out (by decide) (by decide)), ?_, (((KH.refl _ Wy).once H1b.out H6.out).set 0 _).marks H2.out (by omega), (H3.out.once H1b.out H6.out).set 0 _, (H4.out.grown H6.out H4.out.size (fun k hk => by have := (H1b.out.typed k hk).1; omega)).setCell (Nat.le_refl _) _⟩
       rw [exs_append, List.foldl_append]
       simp only [exs, List.map_cons, List.map_nil, List.foldl_cons, List.foldl_nil]
       rw [headB, if_pos HKk.out]
       exact H7.out
      ·have hk1 : (x.f0 == 2) = false := by rw [beq_eq_false_iff_ne]; exact hk
       have HKk := Lib.hid hk
       clear hk
       gi_wp2_with fail
       refine ⟨KeepsFrom.refl _ _, (KC.rel _ _).refl _, ⟨_, H1.out, ?_⟩, H2.out, H3.out, H4.out⟩
       rw [exs_append, List.foldl_append]
       simp only [exs, List.map_cons, List.map_nil, List.foldl_cons, List.foldl_nil]
       rw [headB, if_neg HKk.out]
       exact H1b.out
     case done =>
      rintro D zs Wy hD hzs ⟨h1, h2, h3, h4⟩ hK
      have hzs' : exs zs = plE b := hzs
      rw [hzs'] at h1
      have H1 := Lib.hid h1
      have H2 := Lib.hid (Marks.cons HMd.out h2 hD (by omega) hK)
      have H3 := Lib.hid (HKd.out.trans h3)
      have H4 := Lib.hid h4
      clear h1 h2 h3 h4 hzs hzs' hK
      gi_wp2
      refine HT2.out _ _ ⟨jj + 1, D :: Es, rfl, rfl, rfl, rfl, rfl, rfl, rfl, rfl, rfl, by simp, by omega, H2.out, by rw [headK_succ, headI_at (b := b) (by rw [HBs.out]; exact HBb.out), HLk.out, HLc.out]; exact H1.out, H4.out, H3.out⟩ ?_
      rw [HM2.out]
      simp [intOf]
      omega
     case stop =>
      rintro D c pre Wy _ _ h _
      exact h.elim
    ·have c0 : decide (0 < dd.f2.length) = true := decide_eq_true (by omega)
     have c0z : decide ((0 : Int) < (dd.f2.length : Int)) = true := decide_eq_true (by omega)
     have hbm : bs = dd.f2.map (·.f2) := by rw [← HBs.out, bodiesD, if_neg h0]
     have hk2 : jj < dd.f2.length := by rw [hbm] at hltj; simpa using hltj
     have hk2z : (jj : Int) < (dd.f2.length : Int) := by omega
     obtain ⟨Y1, y1', Y2, y2', Y5, y5', hcs, m1, G1, m2, G2, m5, G5⟩ := k59_openF HFd.out
     obtain ⟨rfl, rfl, rfl, rfl, rfl, rfl⟩ : Z1 = Y1 ∧ z1 = y1' ∧ Z2 = Y2 ∧ z2 = y2' ∧ Z5 = Y5 ∧ z5 = y5' := by simpa [and_assoc] using hcs
     obtain ⟨kd, f0, f1, f2, f3, f4, rfl, hK, -, y0, y1, y2, y3, y4⟩ := gett5 rfl (Kd.F_now G2) jj hk2
     obtain ⟨X1, x1', X4, x4', he, m1', G1', m4', G4'⟩ := k62_open hK
     obtain ⟨rfl, rfl, rfl, rfl, rfl⟩ : f0 = _ ∧ f1 = _ ∧ f2 = _ ∧ f3 = _ ∧ f4 = _ := by simpa using he
     have hpl : (kd.add (jj * 5)).block < w.heap.size := World.block_lt_of_cell? _ _ y0
     have hm1' := G1'.2.1
     obtain ⟨ca, hca⟩ : ∃ ca, dd.f2[jj] = ca := ⟨_, rfl⟩
     rw [hca] at y0 y1 hm1'
     have y0 := (HQ6.out.cell (p := kd.add (jj * 5)) hpl).trans y0
     have y1 := (HQ6.out.cell (p := ⟨(kd.add (jj * 5)).block, (kd.add (jj * 5)).off + 1, none⟩) hpl).trans y1
     have HCa := Lib.hid (show lc = onceHL lk ⟨ca.f0, (ca.f1.length : Int)⟩ by rw [← HLc.out]; exact headCa_at (by rw [List.getElem?_eq_getElem hk2, hca]))
     clear hK he G1' G4' G1 G2 G5 m1' m4' m1 m2 m5 y2 y3 y4 hcs hca hbm h0
     gi_wp2_with fail
     rw [HW6.out]
     clear HW6 k2 e0 e1 e2 x0 x1 x2
     obtain ⟨v, g1, g2⟩ := HH6.out
     obtain ⟨Ah, ch, rfl⟩ := Kd.R_slice g2
     have hw6 := HB6.out.size
     have g2d := Kd.R_below g2 (below_drew (Below.refl W6.heap.size W6))
     have HC := Lib.hid (c_onceH W3.heap.size _ lk ⟨ca.f0, (ca.f1.length : Int)⟩ W6.drew g2d (by show W3.heap.size ≤ W6.heap.size; omega) hlk1)
     have hSd : (fun W => W.cell? ⟨w2.heap.size, 0, none⟩ = some (.slice Ah lk.length ch) ∧ HcS Wr.heap.size (.slice (some kd) dd.f2.length z2) (kd.add (jj * 5)) (.string ca.f0) (.slice X1 ca.f1.length x1') W) W6.drew := ⟨g1.cell, (blk_cell (show W6.drew.heap[Wr.heap.size]? = _ from BX6.out) 2).trans rfl, y0, y1⟩
     have G1 := Aside0.mk g1
     have G2 := Aside0.mk g2d
     clear g1 g2 g2d
     refine wpIn_wide.2 ?_
     refine wp_region_noPanic ?_
     refine wp_region_K (S := fun W => W.cell? ⟨w2.heap.size, 0, none⟩ = some (.slice Ah lk.length ch) ∧ HcS Wr.heap.size (.slice (some kd) dd.f2.length z2) (kd.add (jj * 5)) (.string ca.f0) (.slice X1 ca.f1.length x1') W) (k := 16) (by kernel_rfl) ?_
     change wpAnyK _ _ _ _ _ _ 17 (Array.replicate 17 false) _ _
     refine wpAnyK_take (i := 0) (v := ?_) rfl (by kernel_rfl) (by kernel_rfl) (by kernel_rfl) (by kernel_rfl) (fun _ _ _ h => h) hSd (Or.inl ⟨by rfl, ?_⟩) ?_
     rotate_left 1
     (intro w hSw; (try dsimp only at hSw); go_simp; try (with_reducible rfl))
     (try simp only [List.getElem_toArray, List.getElem_cons_succ, List.getElem_cons_zero]); (try dsimp only [Act.put]); (try simp only [List.setIfInBounds_toArray, List.set_cons_zero, List.set_cons_succ])
     refine wpAnyK_take (i := 1) (v := ?_) rfl (by kernel_rfl) (by kernel_rfl) (by kernel_rfl) (by kernel_rfl) (fun _ _ _ h => h) hSd (Or.inl ⟨by rfl, ?_⟩) ?_
     rotate_left 1
     (intro w hSw; (try dsimp only at hSw); go_simp; try (with_reducible rfl))
     (try simp only [List.getElem_toArray, List.getElem_cons_succ, List.getElem_cons_zero]); (try dsimp only [Act.put]); (try simp only [List.setIfInBounds_toArray, List.set_cons_zero, List.set_cons_succ])
     refine wpAnyK_take (i := 2) (v := ?_) rfl (by kernel_rfl) (by kernel_rfl) (by kernel_rfl) (by kernel_rfl) (fun _ _ _ h => h) hSd (Or.inl ⟨by rfl, ?_⟩) ?_
     rotate_left 1
     (intro w hSw; (try dsimp only at hSw); go_simp; try (with_reducible rfl))
     (try simp only [List.getElem_toArray, List.getElem_cons_succ, List.getElem_cons_zero]); (try dsimp only [Act.put]); (try simp only [List.setIfInBounds_toArray, List.set_cons_zero, List.set_cons_succ])
     refine wpAnyK_take (i := 3) (v := ?_) rfl (by kernel_rfl) (by kernel_rfl) (by kernel_rfl) (by kernel_rfl) (fun _ _ _ h => h) hSd (Or.inl ⟨by rfl, ?_⟩) ?_
     rotate_left 1
     (intro w hSw; (try dsimp only at hSw); go_simp; try (with_reducible rfl))
     (try simp only [List.getElem_toArray, List.getElem_cons_succ, List.getElem_cons_zero]); (try dsimp only [Act.put]); (try simp only [List.setIfInBounds_toArray, List.set_cons_zero, List.set_cons_succ])
     refine wpAnyK_take (i := 4) (v := ?_) rfl (by kernel_rfl) (by kernel_rfl) (by kernel_rfl) (by kernel_rfl) (fun _ _ _ h => h) hSd (Or.inl ⟨by rfl, ?_⟩) ?_
     rotate_left 1
     (intro w hSw; (try dsimp only at hSw); go_simp; try (with_reducible rfl))
     (try simp only [List.getElem_toArray, List.getElem_cons_succ, List.getElem_cons_zero]); (try dsimp only [Act.put]); (try simp only [List.setIfInBounds_toArray, List.set_cons_zero, List.set_cons_succ])
     refine wpAnyK_take (i := 5) (v := ?_) rfl (by kernel_rfl) (by kernel_rfl) (by kernel_rfl) (by kernel_rfl) (fun _ _ _ h => h) hSd (Or.inl ⟨by rfl, ?_⟩) ?_
     rotate_left 1
     (intro w hSw; (try dsimp only at hSw); go_simp; try (with_reducible rfl))
     (try simp only [List.getElem_toArray, List.getElem_cons_succ, List.getElem_cons_zero]); (try dsimp only [Act.put]); (try simp only [List.setIfInBounds_toArray, List.set_cons_zero, List.set_cons_succ])
     refine wpAnyK_take (i := 6) (v := ?_) rfl (by kernel_rfl) (by kernel_rfl) (by kernel_rfl) (by kernel_rfl) (fun _ _ _ h => h) hSd (Or.inl ⟨by rfl, ?_⟩) ?_
     rotate_left 1
     (intro w hSw; (try dsimp only at hSw); go_simp; try (with_reducible rfl))
     (try simp only [List.getElem_toArray, List.getElem_cons_succ, List.getElem_cons_zero]); (try dsimp only [Act.put]); (try simp only [List.setIfInBounds_toArray, List.set_cons_zero, List.set_cons_succ])
     refine wpAnyK_take (i := 7) (v := ?_) rfl (by kernel_rfl) (by kernel_rfl) (by kernel_rfl) (by kernel_rfl) (fun _ _ _ h => h) hSd (Or.inl ⟨by rfl, ?_⟩) ?_
     rotate_left 1
     (intro w hSw; (try dsimp only at hSw); go_simp; try (with_reducible rfl))
     (try simp only [List.getElem_toArray, List.getElem_cons_succ, List.getElem_cons_zero]); (try dsimp only [Act.put]); (try simp only [List.setIfInBounds_toArray, List.set_cons_zero, List.set_cons_succ])
     refine wpAnyK_take (i := 8) (v := ?_) rfl (by kernel_rfl) (by kernel_rfl) (by kernel_rfl) (by kernel_rfl) (fun _ _ _ h => h) hSd (Or.inl ⟨by rfl, ?_⟩) ?_
     rotate_left 1
     (intro w hSw; (try dsimp only at hSw); go_simp; try (with_reducible rfl))
     (try simp only [List.getElem_toArray, List.getElem_cons_succ, List.getElem_cons_zero]); (try dsimp only [Act.put]); (try simp only [List.setIfInBounds_toArray, List.set_cons_zero, List.set_cons_succ])
     refine wpAnyK_take (i := 9) (v := ?_) rfl (by kernel_rfl) (by kernel_rfl) (by kernel_rfl) (by kernel_rfl) (fun _ _ _ h => h) hSd (Or.inl ⟨by rfl, ?_⟩) ?_
     rotate_left 1
     (intro w hSw; (try dsimp only at hSw); go_simp; try (with_reducible rfl))
     (try simp only [List.getElem_toArray, List.getElem_cons_succ, List.getElem_cons_zero]); (try dsimp only [Act.put]); (try simp only [List.setIfInBounds_toArray, List.set_cons_zero, List.set_cons_succ])
     refine wpAnyK_take (i := 10) (v := ?_) rfl (by kernel_rfl) (by kernel_rfl) (by kernel_rfl) (by kernel_rfl) (fun _ _ _ h => h) hSd (Or.inl ⟨by rfl, ?_⟩) ?_
     rotate_left 1
     (intro w hSw; (try dsimp only at hSw); go_simp; try (with_reducible rfl))
     (try simp only [List.getElem_toArray, List.getElem_cons_succ, List.getElem_cons_zero]); (try dsimp only [Act.put]); (try simp only [List.setIfInBounds_toArray, List.set_cons_zero, List.set_cons_succ])
     refine wpAnyK_take (i := 11) (v := ?_) rfl (by kernel_rfl) (by kernel_rfl) (by kernel_rfl) (by kernel_rfl) (fun _ _ _ h => h) hSd (Or.inl ⟨by rfl, ?_⟩) ?_
     rotate_left 1
     (intro w hSw; (try dsimp only at hSw); go_simp; try (with_reducible rfl))
     (try simp only [List.getElem_toArray, List.getElem_cons_succ, List.getElem_cons_zero]); (try dsimp only [Act.put]); (try simp only [List.setIfInBounds_toArray, List.set_cons_zero, List.set_cons_succ])
     refine wpAnyK_take (i := 12) (v := ?_) rfl (by kernel_rfl) (by kernel_rfl) (by kernel_rfl) (by kernel_rfl) (fun _ _ _ h => h) hSd (Or.inl ⟨by rfl, ?_⟩) ?_
     rotate_left 1
     (intro w hSw; (try dsimp only at hSw); go_simp; try (with_reducible rfl))
     (try simp only [List.getElem_toArray, List.getElem_cons_succ, List.getElem_cons_zero]); (try dsimp only [Act.put]); (try simp only [List.setIfInBounds_toArray, List.set_cons_zero, List.set_cons_succ])
     refine wpAnyK_one (i := 13) (by kernel_rfl) rfl (fun K hK => ?_)
     go_simp
     refine hK.out _ _ (fun _ => hSd) ?_
     clear hK
     refine wpAnyK_take (i := 14) (v := ?_) rfl (by kernel_rfl) (by kernel_rfl) (by kernel_rfl) (by kernel_rfl) (fun _ _ _ h => h) hSd (Or.inl ⟨by rfl, ?_⟩) ?_
     rotate_left 1
     (intro w hSw; (try dsimp only at hSw); go_simp; try (with_reducible rfl))
     (try simp only [List.getElem_toArray, List.getElem_cons_succ, List.getElem_cons_zero]); (try dsimp only [Act.put]); (try simp only [List.setIfInBounds_toArray, List.set_cons_zero, List.set_cons_succ])
     refine wpAnyK_one (i := 15) (by kernel_rfl) rfl (fun K hK => ?_)
     go_simp
     go_at_call 81
     (with_reducible refine HC.out.mono ?_)
     rintro e w1 ⟨v1, rfl, hown, hg⟩
     obtain ⟨A1', c1', rfl⟩ := Kd.R_slice hown
     obtain ⟨hb1, hst⟩ := HdSt.put (show Boxed W6.drew w2.heap.size 110 _ from G1.out) G2.out hg hown
     have hkh := (KH.refl w2.heap.size W6.drew).once G2.out hg
     have hbe : Below w2.heap.size w2 w1 := (HB6.out.trans ((below_drew (Below.refl _ W6)))).grown hg (by show w2.heap.size ≤ W6.heap.size; omega) (fun k hk => by have := (OwnHd.typed G2.out k hk).1; omega)
     have hSd : (fun W => W.cell? ⟨w2.heap.size, 0, none⟩ = some (.slice Ah lk.length ch) ∧ HcS Wr.heap.size (.slice (some kd) dd.f2.length z2) (kd.add (jj * 5)) (.string ca.f0) (.slice X1 ca.f1.length x1') W) w1 := by
      have hq1 : w1.heap[(kd.add (jj * 5)).block]? = W6.drew.heap[(kd.add (jj * 5)).block]? := by rw [hbe.block _ (by omega)]; exact (HB6.out.block _ (by omega)).symm
      exact ⟨hb1.cell, (blk_cell (hkh.blk (show W6.drew.heap[Wr.heap.size]? = _ from BX6.out) (by decide) (by omega)) 2).trans rfl, cell_of_block y0 hq1, cell_of_block y1 hq1⟩
     have f1 := hb1.frozen
     have HBe := Aside0.mk hbe
     have HKe := Aside0.mk hkh
     have HSe := Aside0.mk hst
     clear hb1 hbe hkh hst hown hg
     refine hK.out _ _ (fun _ => hSd) ?_
     clear hK
     refine wpAnyK_one (i := 16) (by kernel_rfl) rfl (fun K hK => ?_)
     go_simp
     refine hK.out _ _ (fun h => absurd rfl h) ?_
     clear hK hSd
     refine wpAnyK_done (by kernel_rfl) ?_ _
     refine NoPanic.normal ?_
     clear y0 y1 f1
     obtain ⟨Wx, hWx⟩ : ∃ Wx, w1.setCell ⟨w2.heap.size, 0, none⟩ (.slice A1' (onceHL lk ⟨ca.f0, (ca.f1.length : Int)⟩).length c1') = Wx := ⟨_, rfl⟩
     have hk6 : KH w2.heap.size W6 Wx := by rw [← hWx]; exact (show KH w2.heap.size W6 w1 from HKe.out).set 0 _
     have HHx : Aside0 (HdSt W3.heap.size w2.heap.size Wx lc) := ⟨by rw [← hWx, HCa.out]; exact HSe.out⟩
     have HMx : Aside0 (Marks W3.heap.size Es Wx) := ⟨hk6.marks HM6.out (by omega)⟩
     have HBx : Aside0 (Below w2.heap.size w2 Wx) := ⟨by rw [← hWx]; exact HBe.out.setCell (Nat.le_refl _) _⟩
     have HKx : Aside0 (KH w2.heap.size W5 Wx) := ⟨HK6.out.trans hk6⟩
     have HQx : Aside0 (Below w.heap.size w Wx) := ⟨Q.out.trans (HBx.out.mono Q.out.size)⟩
     have b10 := hk6.blk B10.out (by decide) (by omega)
     have e0 := (blk_cell b10 0).trans rfl
     have e1 := (blk_cell b10 1).trans rfl
     have e2 := (blk_cell b10 2).trans rfl
     rw [hWx]
     clear hWx HH6 HM6 HB6 HK6 HQ6 BX6 B10 hk6 b10 HBe HKe HSe G1 G2 HC
     gi_wp2_with fail
     clear e0 e1 e2
     refine ⟨trivial, (callsIn_wide.2 (HPl.out _)).mono ?_⟩
     rintro en w7 ⟨rfl, rfl⟩
     gi_wp2_with fail
     obtain ⟨Wd, hWd⟩ : ∃ Wd, Wx.alloc (.cells #[.int .i64 b.f0, .string b.f1, .slice A3 b.f2.length a3] 57) = Wd := ⟨_, rfl⟩
     have qd : Below Wx.heap.size Wx Wd := by rw [← hWd]; exact below_alloc1 _ _
     have bP : Wd.heap[Wx.heap.size]? = some (.cells (cellsH (b, A3, a3)) 57 (0, 0)) := by rw [← hWd]; have := alloc_at Wx (.cells #[.int .i64 b.f0, .string b.f1, .slice A3 b.f2.length a3] 57); simpa [cellsH] using this
     have hF4 : Kd.F k57 Wd (fun k => k < w.heap.size) A3 b.f2.length b.f2 := Kd.F_step HF3.out (fun k hk hlt => by rw [(HQx.out.trans (qd.mono HQx.out.size)).block k hk, QW4.out.block k hk])
     rw [hWd]
     have hxs := HBx.out.size
     have hkx := HKx.out.1
     have hds := qd.size
     have HHd := Aside0.mk (HHx.out.below qd)
     have HMd := Aside0.mk (HMx.out.below qd)
     have HBd := Aside0.mk (HBx.out.trans (qd.mono HBx.out.size))
     have HKd := Aside0.mk (HKx.out.trans (KH.of_below qd))
     clear hWd qd HHx HMx HBx HKx HQx
     refine wpIn_rangeFunc_ownH rfl (by omega) (gf := 133) (lb := #[.pointer (some ⟨Wx.heap.size, 0, none⟩)]) rfl trivial (enters_of Tryz.func133 (by kernel_rfl) rfl)
      (places_stops Wd NoM w.heap.size (fun k => k < w.heap.size) (fun k hk => hk.elim) (fun k hk => ⟨fun h => h, hk⟩) ⟨(b, A3, a3), hl3, hF4, hszb⟩ Wx.heap.size (fun h => h) Wd ((KC.rel _ _).refl _) (Nat.le_refl _) bP)
      (KC.rel _ _).trans (fun Wy lx o o' hlx ho hcl _ => KC.putObj _ (by omega) ho hcl) (Below.refl _ _) (fun _ => rfl)
      (fun pre Wy => HdSt W3.heap.size w2.heap.size Wy ((exs pre).foldl headB lc) ∧ Marks W3.heap.size Es Wy ∧ KH w2.heap.size Wd Wy ∧ Below w2.heap.size w2 Wy)
      (fun _ _ _ => False)
      (fun pre X Y row ⟨h1, h2, h3, h4⟩ hg hr => ⟨h1.notcells hg (fun r e => (hr r e).2), HMd.out.own (β := Unit) () X Y row h2 hg hr, h3.grownN hg (fun r e => (hr r e).1), h4.grown hg h4.size (fun k hk => by have := (hr k hk).1; omega)⟩)
      (fun _ _ _ _ _ hs _ _ => hs)
      ⟨HHd.out, HMd.out, KH.refl _ _, HBd.out⟩
      (fun x a' Wy => a'.tmps.size = 91 ∧ a'.defers = [] ∧ a'.tmps.getD 6 undef = .pointer (some ⟨w2.heap.size, 0, none⟩) ∧ ∃ Bx, a'.tmps.getD 11 undef = .pointer (some ⟨Bx, 0, none⟩) ∧ Wd.heap.size ≤ Bx ∧ Wy.heap[Bx]? = some (.cells (cellsH x.1) 57 (0, 0)))
      (fun x a' _ X Y row hs hg hr => by obtain ⟨t1, t2, t3, Bx, t4, t5, t6⟩ := hs; exact ⟨t1, t2, t3, Bx, t4, t5, Blk.notcells t6 hg (fun r e => (hr r e).2)⟩)
      ?assign ?body ?done ?stop
     case assign =>
      rintro l' pre ⟨⟨x, A', c'⟩, hx⟩ Wy K ⟨h1, h2, h3, h4⟩ hK
      simp only [encH]
      have H1 := Lib.hid h1
      have H2 := Lib.hid h2
      have H3 := Lib.hid h3
      have H4 := Lib.hid h4
      clear h1 h2 h3 h4
      gi_wp2
      have q := below_alloc1 Wy (.cells #[.int .i64 x.f0, .string x.f1, .slice A' x.f2.length c'] 57)
      exact hK _ _ ((KeepsOthers.alloc _ _).from _) ((KC.rel _ _).below q) ⟨H1.out.below q, H2.out.below q, H3.out.trans (KH.of_below q), H4.out.trans (q.mono H4.out.size)⟩ ⟨rfl, rfl, rfl, Wy.heap.size, rfl, H3.out.1, alloc_at _ _⟩
     case body =>
      rintro l' pre ⟨⟨x, A', c'⟩, hx⟩ a' Wy hl' hr' ⟨h1, h2, h3, h4⟩ ⟨t1, t2, t3, Bx, t4, hBx, bX⟩ hlt'
      obtain ⟨g, hgf, ha⟩ := lit91 a' t1
      have s6 := (hgf 6).symm.trans t3
      have s11 := (hgf 11).symm.trans t4
      rw [t2] at ha
      rw [ha]
      rw [s6, s11]
      clear ha hgf s6 s11 t1 t2 t3 t4 a'
      have e0 : Wy.cell? ⟨Bx, 0, none⟩ = some (.int .i64 x.f0) := (blk_cell bX 0).trans rfl
      have e1 : Wy.cell? ⟨Bx, 1, none⟩ = some (.string x.f1) := (blk_cell bX 1).trans rfl
      have e2 : Wy.cell? ⟨Bx, 2, none⟩ = some (.slice A' x.f2.length c') := (blk_cell bX 2).trans rfl
      obtain ⟨v, g1, g2⟩ := h1
      obtain ⟨Ah, ch, rfl⟩ := Kd.R_slice g2
      have cO := g1.cell
      have hms := h4.size
      have hlen : ((exs pre).foldl headB lc).length < 1000000 := by
       have h := foldl_cap (f := headB) (c := 1) (xs := exs pre) (fun l x _ => headB_cap l x) lc
       rw [exs_length] at h
       simp only at hlt'
       omega
      have HC := Lib.hid (c_onceH W3.heap.size _ ((exs pre).foldl headB lc) ⟨x.f1, (x.f2.length : Int)⟩ Wy g2 (by have := h3.1; omega) hlen)
      have H1 := Lib.hid g1
      have H1b := Lib.hid g2
      have H2 := Lib.hid h2
      have H3 := Lib.hid h3
      have H4 := Lib.hid h4
      clear g1 g2 h2 h3 h4 bX hr'
      by_cases hk : x.f0 = 2
      ·have hk1 : (x.f0 == 2) = true := by rw [beq_iff_eq]; exact hk
       have HKk := Lib.hid hk
       clear hk
       gi_wp2_with fail
       refine ⟨trivial, (CallsIn.inRound l' (callsIn_wide.2 HC.out)).mono ?_⟩
       rintro en w1 ⟨v1, rfl, hown, hg⟩
       obtain ⟨A1', c1', rfl⟩ := Kd.R_slice hown
       obtain ⟨hb1, hst⟩ := HdSt.put H1.out H1b.out hg hown
       have cO1 := hb1.cell
       have fO1 := hb1.frozen
       have H5 := Lib.hid hb1
       have H6 := Lib.hid hg
       have H7 := Lib.hid hst
       clear hown hb1 hg hst
       gi_wp2_with fail
       have hkc : KC NoM w.heap.size Wy w1 := KC.grown _ H6.out (fun k hk => by obtain ⟨hb, cs, hcs⟩ := H1b.out.typed k hk; exact ⟨by omega, cs, _, hcs, by decide, by decide⟩)
       have hko : KeepsOthers Wy w1 := KeepsOthers.of_grownBy H6.out (fun j o hj ho => by obtain ⟨_, cs, hcs⟩ := H1b.out.typed j hj; rw [hcs] at ho; cases ho; rfl)
       refine ⟨(hko.trans (KeepsOthers.setCell _ _ _)).from _, (KC.rel _ _).trans hkc (KC.set _ (by omega) H5.out (by decide) (by decide)), ?_, (((KH.refl _ Wy).once H1b.out H6.out).set 0 _).marks H2.out (by omega), (H3.out.once H1b.out H6.out).set 0 _, (H4.out.grown H6.out H4.out.size (fun k hk => by have := (H1b.out.typed k hk).1; omega)).setCell (Nat.le_refl _) _⟩
       rw [exs_append, List.foldl_append]
       simp only [exs, List.map_cons, List.map_nil, List.foldl_cons, List.foldl_nil]
       rw [headB, if_pos HKk.out]
       exact H7.out
      ·have hk1 : (x.f0 == 2) = false := by rw [beq_eq_false_iff_ne]; exact hk
       have HKk := Lib.hid hk
       clear hk
       gi_wp2_with fail
       refine ⟨KeepsFrom.refl _ _, (KC.rel _ _).refl _, ⟨_, H1.out, ?_⟩, H2.out, H3.out, H4.out⟩
       rw [exs_append, List.foldl_append]
       simp only [exs, List.map_cons, List.map_nil, List.foldl_cons, List.foldl_nil]
       rw [headB, if_neg HKk.out]
       exact H1b.out
     case done =>
      rintro D zs Wy hD hzs ⟨h1, h2, h3, h4⟩ hK
      have hzs' : exs zs = plE b := hzs
      rw [hzs'] at h1
      have H1 := Lib.hid h1
      have H2 := Lib.hid (Marks.cons HMd.out h2 hD (by omega) hK)
      have H3 := Lib.hid (HKd.out.trans h3)
      have H4 := Lib.hid h4
      clear h1 h2 h3 h4 hzs hzs' hK
      gi_wp2
      refine HT2.out _ _ ⟨jj + 1, D :: Es, rfl, rfl, rfl, rfl, rfl, rfl, rfl, rfl, rfl, by simp, by omega, H2.out, by rw [headK_succ, headI_at (b := b) (by rw [HBs.out]; exact HBb.out), HLk.out, HLc.out]; exact H1.out, H4.out, H3.out⟩ ?_
      rw [HM2.out]
      simp [intOf]
      omega
     case stop =>
      rintro D c pre Wy _ _ h _
      exact h.elim
   ·have : jj = bs.length := by omega
    subst this
    gi_wp2_with fail
    refine HT1.out _ _ ⟨kk + 1, Es, rfl, rfl, rfl, rfl, rfl, by simp, by omega, HMk.out, by rw [foldl_snoc HK.out, HL0.out, headD, HBs.out, HLk.out]; exact HHd.out, HBr.out, by omega⟩ ?_
    rw [HM1.out]
    simp [intOf]
    omega
  ·have : kk = defs.length := by omega
   subst this
   rw [List.take_length] at HL0
   obtain ⟨v, g1, g2⟩ := HHd.out
   obtain ⟨Ah, ch, rfl, hch, hCh⟩ := Kd.R_reads g2
   have cO := g1.cell
   have hmh := hCh.2.1
   have HCh := Aside0.mk hCh
   have hl0 : headsP defs = l0 := HL0.out
   have hlT : l0.length < 1000000 := by rw [← hl0]; exact HT.out
   have HL := Lib.hid hl0
   clear g1 g2 hCh HHd hl0
   gi_wp2_with fail
   clear cO
   refine wpIn_loopT (fun a Wi => ∃ (ii nn mm : Nat) (An : Option Addr) (cn : Nat) (Am : Option Addr) (cm : Nat), a.tmps.size = 91 ∧ a.defers = Ds.map markD ∧ a.tmps.getD 12 undef = .slice An nn cn ∧ a.tmps.getD 13 undef = .slice Am mm cm ∧ a.tmps.getD 72 undef = .slice Ah l0.length ch ∧ a.tmps.getD 73 undef = .int .i64 l0.length ∧ a.tmps.getD 74 undef = .int .i64 ii ∧
     ii ≤ l0.length ∧ HS Wr.heap.size Wi (.slice An nn cn) (.slice Am mm cm) (l0.take ii) ∧ Below Wr.heap.size Wr Wi)
    (fun a _ => l0.length - (intOf (a.tmps.getD 74 undef)).toNat) ?_ ?_
   ·exact ⟨0, 0, 0, none, 0, none, 0, rfl, rfl, rfl, rfl, rfl, rfl, rfl, Nat.zero_le _, HS.nil _ _, Below.refl _ _⟩
   rintro a Wi ⟨ii, nn, mm, An, cn, Am, cm, hsl, hdf, s12, s13, s72, s73, s74, hii, hhs, hbi⟩ T3 hT3
   have HM3 := Lib.hid s74
   obtain ⟨f, hf, ha⟩ := lit91 a hsl
   have s12 := (hf 12).symm.trans s12
   have s13 := (hf 13).symm.trans s13
   have s72 := (hf 72).symm.trans s72
   have s73 := (hf 73).symm.trans s73
   have s74 := (hf 74).symm.trans s74
   rw [hdf] at ha
   rw [ha]
   rw [s12, s13, s72, s73, s74]
   clear ha hf hsl hdf s12 s13 s72 s73 s74
   have HT3 := Lib.hid hT3
   have HHs := Aside0.mk hhs
   have HBi := Aside0.mk hbi
   have hwi := hbi.size
   have HQi := Aside0.mk (HQ.out.trans (hbi.mono HQ.out.size))
   clear hT3 hhs hbi
   by_cases hlti : ii < l0.length
   ·have hltiz : (ii : Int) < (l0.length : Int) := by omega
    obtain ⟨ah, rfl, k0, k1⟩ := getHd (Kd.C_below HCh.out HBi.out) ii hlti
    obtain ⟨x, hx⟩ : ∃ x, l0[ii] = x := ⟨_, rfl⟩
    rw [hx] at k0 k1
    have HX := Lib.hid hx
    clear hx
    obtain ⟨W15, hW15⟩ : ∃ W15, Wi.alloc (.cells #[.string x.f0, .int .i64 x.f1] 113) = W15 := ⟨_, rfl⟩
    have q15 : Below Wi.heap.size Wi W15 := by rw [← hW15]; exact below_alloc1 _ _
    have b15 : W15.heap[Wi.heap.size]? = some (.cells #[.string x.f0, .int .i64 x.f1] 113 (0, 0)) := by rw [← hW15]; exact alloc_at _ _
    have HW15 := Lib.hid hW15
    have Q15 := Aside0.mk q15
    have B15 := Aside0.mk b15
    clear hW15 q15 b15
    gi_wp2_with fail
    rw [HW15.out]
    clear HW15 k0 k1
    obtain ⟨l1, hl1⟩ : ∃ l1, l0.take ii = l1 := ⟨_, rfl⟩
    have hl1l : l1.length ≤ 1000000 := by rw [← hl1, List.length_take]; omega
    have HL1 := Lib.hid (show l0.take (ii + 1) = l1 ++ [x] by rw [take_snoc hlti, hl1, HX.out])
    rw [hl1] at HHs
    have hs15 := Q15.out.size
    refine wpIn_wide.2 ?_
    refine wp_region_noPanic ?_
    have hSd : (fun W => W.cell? ⟨Wi.heap.size, 0, none⟩ = some (.string x.f0) ∧ W.cell? ⟨Wi.heap.size, 1, none⟩ = some (.int .i64 x.f1)) W15.drew := ⟨(blk_cell (show W15.drew.heap[Wi.heap.size]? = _ from B15.out) 0).trans rfl, (blk_cell (show W15.drew.heap[Wi.heap.size]? = _ from B15.out) 1).trans rfl⟩
    refine wp_region_K (S := fun W => W.cell? ⟨Wi.heap.size, 0, none⟩ = some (.string x.f0) ∧ W.cell? ⟨Wi.heap.size, 1, none⟩ = some (.int .i64 x.f1)) (k := 11) (by kernel_rfl) ?_
    change wpAnyK _ _ _ _ _ _ 12 (Array.replicate 12 false) _ _
    refine wpAnyK_take (i := 0) (v := ?_) rfl (by kernel_rfl) (by kernel_rfl) (by kernel_rfl) (by kernel_rfl) (fun _ _ _ h => h) hSd (Or.inl ⟨by rfl, ?_⟩) ?_
    rotate_left 1
    (intro w hSw; (try dsimp only at hSw); go_simp; try (with_reducible rfl))
    (try simp only [List.getElem_toArray, List.getElem_cons_succ, List.getElem_cons_zero]); (try dsimp only [Act.put]); (try simp only [List.setIfInBounds_toArray, List.set_cons_zero, List.set_cons_succ])
    refine wpAnyK_take (i := 1) (v := ?_) rfl (by kernel_rfl) (by kernel_rfl) (by kernel_rfl) (by kernel_rfl) (fun _ _ _ h => h) hSd (Or.inl ⟨by rfl, ?_⟩) ?_
    rotate_left 1
    (intro w hSw; (try dsimp only at hSw); go_simp; try (with_reducible rfl))
    (try simp only [List.getElem_toArray, List.getElem_cons_succ, List.getElem_cons_zero]); (try dsimp only [Act.put]); (try simp only [List.setIfInBounds_toArray, List.set_cons_zero, List.set_cons_succ])
    refine wpAnyK_take (i := 2) (v := ?_) rfl (by kernel_rfl) (by kernel_rfl) (by kernel_rfl) (by kernel_rfl) (fun _ _ _ h => h) hSd (Or.inl ⟨by rfl, ?_⟩) ?_
    rotate_left 1
    (intro w hSw; (try dsimp only at hSw); go_simp; try (with_reducible rfl))
    (try simp only [List.getElem_toArray, List.getElem_cons_succ, List.getElem_cons_zero]); (try dsimp only [Act.put]); (try simp only [List.setIfInBounds_toArray, List.set_cons_zero, List.set_cons_succ])
    refine wpAnyK_take (i := 5) (v := ?_) rfl (by kernel_rfl) (by kernel_rfl) (by kernel_rfl) (by kernel_rfl) (fun _ _ _ h => h) hSd (Or.inl ⟨by rfl, ?_⟩) ?_
    rotate_left 1
    (intro w hSw; (try dsimp only at hSw); go_simp; try (with_reducible rfl))
    (try simp only [List.getElem_toArray, List.getElem_cons_succ, List.getElem_cons_zero]); (try dsimp only [Act.put]); (try simp only [List.setIfInBounds_toArray, List.set_cons_zero, List.set_cons_succ])
    refine wpAnyK_take (i := 6) (v := ?_) rfl (by kernel_rfl) (by kernel_rfl) (by kernel_rfl) (by kernel_rfl) (fun _ _ _ h => h) hSd (Or.inl ⟨by rfl, ?_⟩) ?_
    rotate_left 1
    (intro w hSw; (try dsimp only at hSw); go_simp; try (with_reducible rfl))
    (try simp only [List.getElem_toArray, List.getElem_cons_succ, List.getElem_cons_zero]); (try dsimp only [Act.put]); (try simp only [List.setIfInBounds_toArray, List.set_cons_zero, List.set_cons_succ])
    refine wpAnyK_take (i := 7) (v := ?_) rfl (by kernel_rfl) (by kernel_rfl) (by kernel_rfl) (by kernel_rfl) (fun _ _ _ h => h) hSd (Or.inl ⟨by rfl, ?_⟩) ?_
    rotate_left 1
    (intro w hSw; (try dsimp only at hSw); go_simp; try (with_reducible rfl))
    (try simp only [List.getElem_toArray, List.getElem_cons_succ, List.getElem_cons_zero]); (try dsimp only [Act.put]); (try simp only [List.setIfInBounds_toArray, List.set_cons_zero, List.set_cons_succ])
    obtain ⟨X0, hX⟩ : ∃ X0, W15.drew = X0 := ⟨_, rfl⟩
    have q0 : Below Wi.heap.size Wi X0 := by rw [← hX]; exact below_drew Q15.out
    have HN := Aside0.mk (Kd.R_below HHs.out.1 q0)
    have HM := Aside0.mk (Kd.R_below HHs.out.2 q0)
    have BX := Aside0.mk (show X0.heap[Wi.heap.size]? = some (.cells #[.string x.f0, .int .i64 x.f1] 113 (0, 0)) by rw [← hX]; exact B15.out)
    have HW := Aside0.mk (HBi.out.trans (q0.mono HBi.out.size))
    have hw0 := q0.size
    rw [hX] at hSd ⊢
    clear hX q0 hl1 Q15 B15
    refine wpAnyK_two (i := 3) (j := 8) (by kernel_rfl) rfl rfl (fun K hK => ?_) (fun K hK => ?_)
    ·skip
     go_simp
     obtain ⟨X1, hY⟩ : ∃ X1, X0.alloc (.cells #[.string x.f0] 9) = X1 := ⟨_, rfl⟩
     have q : Below X0.heap.size X0 X1 := by rw [← hY]; exact below_alloc1 _ _
     have TA := Aside0.mk (show X1.heap[X0.heap.size]? = some (.cells #[.string x.f0] 9 (0, 0)) by rw [← hY]; exact alloc_at _ _)
     rw [hY]
     have HN := Aside0.mk (Kd.R_below HN.out q)
     have HM := Aside0.mk (Kd.R_below HM.out q)
     have BX := Aside0.mk (blk_below BX.out q)
     have HW := Aside0.mk (HW.out.trans (q.mono HW.out.size))
     have hsq := q.size
     clear q hY
     have hSd : (fun W => W.cell? ⟨Wi.heap.size, 0, none⟩ = some (.string x.f0) ∧ W.cell? ⟨Wi.heap.size, 1, none⟩ = some (.int .i64 x.f1)) X1 := ⟨(blk_cell BX.out 0).trans rfl, (blk_cell BX.out 1).trans rfl⟩
     refine hK.out _ _ (fun _ => hSd) ?_
     clear hK
     refine wpAnyK_two (i := 4) (j := 8) (by kernel_rfl) rfl rfl (fun K hK => ?_) (fun K hK => ?_)
     ·skip
      refine Kd.R_append_rows_step Kd.string (w0 := X1) Wr.heap.size (by rfl) (.tmp 78) (.tmp 81) 30 9 (.string ⟨#[]⟩) 16 rfl Tryz.underlying30 infoTx rfl (by decide) (by decide) (.slice An nn cn) (l1.map (·.f0)) [x.f0] (some ⟨X0.heap.size, 0, none⟩) 1 1 (fun _ => True) (fun _ => False) rfl rfl HN.out (one_txt TA.out) (fun _ _ h => h) (fun _ h => h.elim) (fun _ _ => trivial) (Below.refl _ _) (by omega) (by rw [List.length_map]; omega) ?_
      intro v1 X2 hR hB hg hat
      have HM := Aside0.mk (own_names HN.out HM.out hg)
      have BX := Aside0.mk (blk_grown BX.out hg (fun he => Kd.R_ne HN.out BX.out (by decide) he))
      have HN := Aside0.mk hR
      have HW := Aside0.mk (HW.out.trans hB)
      obtain ⟨A1, c1, rfl⟩ := Kd.R_slice hR
      have hsq := hB.size
      clear hR hB hg hat
      have hSd : (fun W => W.cell? ⟨Wi.heap.size, 0, none⟩ = some (.string x.f0) ∧ W.cell? ⟨Wi.heap.size, 1, none⟩ = some (.int .i64 x.f1)) X2 := ⟨(blk_cell BX.out 0).trans rfl, (blk_cell BX.out 1).trans rfl⟩
      refine hK.out _ _ (fun _ => hSd) ?_
      clear hK
      refine wpAnyK_one (i := 8) (by kernel_rfl) rfl (fun K hK => ?_)
      go_simp
      obtain ⟨X3, hY⟩ : ∃ X3, X2.alloc (.cells #[.int .i64 x.f1] 3) = X3 := ⟨_, rfl⟩
      have q : Below X2.heap.size X2 X3 := by rw [← hY]; exact below_alloc1 _ _
      have TB := Aside0.mk (show X3.heap[X2.heap.size]? = some (.cells #[.int .i64 x.f1] 3 (0, 0)) by rw [← hY]; exact alloc_at _ _)
      rw [hY]
      have HN := Aside0.mk (Kd.R_below HN.out q)
      have HM := Aside0.mk (Kd.R_below HM.out q)
      have BX := Aside0.mk (blk_below BX.out q)
      have HW := Aside0.mk (HW.out.trans (q.mono HW.out.size))
      have hsq := q.size
      clear q hY
      have hSd : (fun W => W.cell? ⟨Wi.heap.size, 0, none⟩ = some (.string x.f0) ∧ W.cell? ⟨Wi.heap.size, 1, none⟩ = some (.int .i64 x.f1)) X3 := ⟨(blk_cell BX.out 0).trans rfl, (blk_cell BX.out 1).trans rfl⟩
      refine hK.out _ _ (fun _ => hSd) ?_
      clear hK
      refine wpAnyK_one (i := 9) (by kernel_rfl) rfl (fun K hK => ?_)
      refine Kd.R_append_rows_step (Kd.int .i64) (w0 := X3) Wr.heap.size (by rfl) (.tmp 83) (.tmp 86) 48 3 (.int .i64 0) 8 rfl Tryz.underlying48 infoIn rfl (by decide) (by decide) (.slice Am mm cm) (l1.map (·.f1)) [x.f1] (some ⟨X2.heap.size, 0, none⟩) 1 1 (fun _ => True) (fun _ => False) rfl rfl HM.out (one_int TB.out) (fun _ _ h => h) (fun _ h => h.elim) (fun _ _ => trivial) (Below.refl _ _) (by omega) (by rw [List.length_map]; omega) ?_
      intro v2 X4 hR hB hg hat
      have HN := Aside0.mk (own_many HN.out HM.out hg)
      have BX := Aside0.mk (blk_grown BX.out hg (fun he => Kd.R_ne HM.out BX.out (by decide) he))
      have HM := Aside0.mk hR
      have HW := Aside0.mk (HW.out.trans hB)
      obtain ⟨A2, c2, rfl⟩ := Kd.R_slice hR
      have hsq := hB.size
      clear hR hB hg hat
      have hSd : (fun W => W.cell? ⟨Wi.heap.size, 0, none⟩ = some (.string x.f0) ∧ W.cell? ⟨Wi.heap.size, 1, none⟩ = some (.int .i64 x.f1)) X4 := ⟨(blk_cell BX.out 0).trans rfl, (blk_cell BX.out 1).trans rfl⟩
      refine hK.out _ _ (fun _ => hSd) ?_
      clear hK
      refine wpAnyK_one (i := 10) (by kernel_rfl) rfl (fun K hK => ?_)
      go_simp
      refine hK.out _ _ (fun _ => hSd) ?_
      clear hK
      refine wpAnyK_one (i := 11) (by kernel_rfl) rfl (fun K hK => ?_)
      go_simp
      refine hK.out _ _ (fun h => absurd rfl h) ?_
      clear hK hSd
      refine wpAnyK_done (by kernel_rfl) ?_ _
      refine NoPanic.normal ?_
      gi_wp2_with fail
      refine HT3.out _ _ ⟨ii + 1, _, _, _, _, _, _, rfl, rfl, rfl, rfl, rfl, rfl, by simp, by omega, ⟨by have h := HN.out; rw [List.length_append, List.length_map] at h; rw [HL1.out, List.map_append]; exact h, by have h := HM.out; rw [List.length_append, List.length_map] at h; rw [HL1.out, List.map_append]; exact h⟩, HW.out⟩ ?_
      rw [HM3.out]
      simp [intOf]
      omega
     ·skip
      go_simp
      obtain ⟨X2, hY⟩ : ∃ X2, X1.alloc (.cells #[.int .i64 x.f1] 3) = X2 := ⟨_, rfl⟩
      have q : Below X1.heap.size X1 X2 := by rw [← hY]; exact below_alloc1 _ _
      have TB := Aside0.mk (show X2.heap[X1.heap.size]? = some (.cells #[.int .i64 x.f1] 3 (0, 0)) by rw [← hY]; exact alloc_at _ _)
      rw [hY]
      have HN := Aside0.mk (Kd.R_below HN.out q)
      have HM := Aside0.mk (Kd.R_below HM.out q)
      have BX := Aside0.mk (blk_below BX.out q)
      have HW := Aside0.mk (HW.out.trans (q.mono HW.out.size))
      have TA := Aside0.mk (blk_below TA.out q)
      have hsq := q.size
      clear q hY
      have hSd : (fun W => W.cell? ⟨Wi.heap.size, 0, none⟩ = some (.string x.f0) ∧ W.cell? ⟨Wi.heap.size, 1, none⟩ = some (.int .i64 x.f1)) X2 := ⟨(blk_cell BX.out 0).trans rfl, (blk_cell BX.out 1).trans rfl⟩
      refine hK.out _ _ (fun _ => hSd) ?_
      clear hK
      refine wpAnyK_one (i := 4) (by kernel_rfl) rfl (fun K hK => ?_)
      refine Kd.R_append_rows_step Kd.string (w0 := X2) Wr.heap.size (by rfl) (.tmp 78) (.tmp 81) 30 9 (.string ⟨#[]⟩) 16 rfl Tryz.underlying30 infoTx rfl (by decide) (by decide) (.slice An nn cn) (l1.map (·.f0)) [x.f0] (some ⟨X0.heap.size, 0, none⟩) 1 1 (fun _ => True) (fun _ => False) rfl rfl HN.out (one_txt TA.out) (fun _ _ h => h) (fun _ h => h.elim) (fun _ _ => trivial) (Below.refl _ _) (by omega) (by rw [List.length_map]; omega) ?_
      intro v1 X3 hR hB hg hat
      have HM := Aside0.mk (own_names HN.out HM.out hg)
      have BX := Aside0.mk (blk_grown BX.out hg (fun he => Kd.R_ne HN.out BX.out (by decide) he))
      have TB := Aside0.mk (blk_grown TB.out hg (fun he => Kd.R_ne HN.out TB.out (by decide) he))
      have HN := Aside0.mk hR
      have HW := Aside0.mk (HW.out.trans hB)
      obtain ⟨A1, c1, rfl⟩ := Kd.R_slice hR
      have hsq := hB.size
      clear hR hB hg hat
      have hSd : (fun W => W.cell? ⟨Wi.heap.size, 0, none⟩ = some (.string x.f0) ∧ W.cell? ⟨Wi.heap.size, 1, none⟩ = some (.int .i64 x.f1)) X3 := ⟨(blk_cell BX.out 0).trans rfl, (blk_cell BX.out 1).trans rfl⟩
      refine hK.out _ _ (fun _ => hSd) ?_
      clear hK
      refine wpAnyK_one (i := 9) (by kernel_rfl) rfl (fun K hK => ?_)
      refine Kd.R_append_rows_step (Kd.int .i64) (w0 := X3) Wr.heap.size (by rfl) (.tmp 83) (.tmp 86) 48 3 (.int .i64 0) 8 rfl Tryz.underlying48 infoIn rfl (by decide) (by decide) (.slice Am mm cm) (l1.map (·.f1)) [x.f1] (some ⟨X1.heap.size, 0, none⟩) 1 1 (fun _ => True) (fun _ => False) rfl rfl HM.out (one_int TB.out) (fun _ _ h => h) (fun _ h => h.elim) (fun _ _ => trivial) (Below.refl _ _) (by omega) (by rw [List.length_map]; omega) ?_
      intro v2 X4 hR hB hg hat
      have HN := Aside0.mk (own_many HN.out HM.out hg)
      have BX := Aside0.mk (blk_grown BX.out hg (fun he => Kd.R_ne HM.out BX.out (by decide) he))
      have HM := Aside0.mk hR
      have HW := Aside0.mk (HW.out.trans hB)
      obtain ⟨A2, c2, rfl⟩ := Kd.R_slice hR
      have hsq := hB.size
      clear hR hB hg hat
      have hSd : (fun W => W.cell? ⟨Wi.heap.size, 0, none⟩ = some (.string x.f0) ∧ W.cell? ⟨Wi.heap.size, 1, none⟩ = some (.int .i64 x.f1)) X4 := ⟨(blk_cell BX.out 0).trans rfl, (blk_cell BX.out 1).trans rfl⟩
      refine hK.out _ _ (fun _ => hSd) ?_
      clear hK
      refine wpAnyK_one (i := 10) (by kernel_rfl) rfl (fun K hK => ?_)
      go_simp
      refine hK.out _ _ (fun _ => hSd) ?_
      clear hK
      refine wpAnyK_one (i := 11) (by kernel_rfl) rfl (fun K hK => ?_)
      go_simp
      refine hK.out _ _ (fun h => absurd rfl h) ?_
      clear hK hSd
      refine wpAnyK_done (by kernel_rfl) ?_ _
      refine NoPanic.normal ?_
      gi_wp2_with fail
      refine HT3.out _ _ ⟨ii + 1, _, _, _, _, _, _, rfl, rfl, rfl, rfl, rfl, rfl, by simp, by omega, ⟨by have h := HN.out; rw [List.length_append, List.length_map] at h; rw [HL1.out, List.map_append]; exact h, by have h := HM.out; rw [List.length_append, List.length_map] at h; rw [HL1.out, List.map_append]; exact h⟩, HW.out⟩ ?_
      rw [HM3.out]
      simp [intOf]
      omega
    ·skip
     go_simp
     obtain ⟨X1, hY⟩ : ∃ X1, X0.alloc (.cells #[.int .i64 x.f1] 3) = X1 := ⟨_, rfl⟩
     have q : Below X0.heap.size X0 X1 := by rw [← hY]; exact below_alloc1 _ _
     have TB := Aside0.mk (show X1.heap[X0.heap.size]? = some (.cells #[.int .i64 x.f1] 3 (0, 0)) by rw [← hY]; exact alloc_at _ _)
     rw [hY]
     have HN := Aside0.mk (Kd.R_below HN.out q)
     have HM := Aside0.mk (Kd.R_below HM.out q)
     have BX := Aside0.mk (blk_below BX.out q)
     have HW := Aside0.mk (HW.out.trans (q.mono HW.out.size))
     have hsq := q.size
     clear q hY
     have hSd : (fun W => W.cell? ⟨Wi.heap.size, 0, none⟩ = some (.string x.f0) ∧ W.cell? ⟨Wi.heap.size, 1, none⟩ = some (.int .i64 x.f1)) X1 := ⟨(blk_cell BX.out 0).trans rfl, (blk_cell BX.out 1).trans rfl⟩
     refine hK.out _ _ (fun _ => hSd) ?_
     clear hK
     refine wpAnyK_one (i := 3) (by kernel_rfl) rfl (fun K hK => ?_)
     go_simp
     obtain ⟨X2, hY⟩ : ∃ X2, X1.alloc (.cells #[.string x.f0] 9) = X2 := ⟨_, rfl⟩
     have q : Below X1.heap.size X1 X2 := by rw [← hY]; exact below_alloc1 _ _
     have TA := Aside0.mk (show X2.heap[X1.heap.size]? = some (.cells #[.string x.f0] 9 (0, 0)) by rw [← hY]; exact alloc_at _ _)
     rw [hY]
     have HN := Aside0.mk (Kd.R_below HN.out q)
     have HM := Aside0.mk (Kd.R_below HM.out q)
     have BX := Aside0.mk (blk_below BX.out q)
     have HW := Aside0.mk (HW.out.trans (q.mono HW.out.size))
     have TB := Aside0.mk (blk_below TB.out q)
     have hsq := q.size
     clear q hY
     have hSd : (fun W => W.cell? ⟨Wi.heap.size, 0, none⟩ = some (.string x.f0) ∧ W.cell? ⟨Wi.heap.size, 1, none⟩ = some (.int .i64 x.f1)) X2 := ⟨(blk_cell BX.out 0).trans rfl, (blk_cell BX.out 1).trans rfl⟩
     refine hK.out _ _ (fun _ => hSd) ?_
     clear hK
     refine wpAnyK_one (i := 4) (by kernel_rfl) rfl (fun K hK => ?_)
     refine Kd.R_append_rows_step Kd.string (w0 := X2) Wr.heap.size (by rfl) (.tmp 78) (.tmp 81) 30 9 (.string ⟨#[]⟩) 16 rfl Tryz.underlying30 infoTx rfl (by decide) (by decide) (.slice An nn cn) (l1.map (·.f0)) [x.f0] (some ⟨X1.heap.size, 0, none⟩) 1 1 (fun _ => True) (fun _ => False) rfl rfl HN.out (one_txt TA.out) (fun _ _ h => h) (fun _ h => h.elim) (fun _ _ => trivial) (Below.refl _ _) (by omega) (by rw [List.length_map]; omega) ?_
     intro v1 X3 hR hB hg hat
     have HM := Aside0.mk (own_names HN.out HM.out hg)
     have BX := Aside0.mk (blk_grown BX.out hg (fun he => Kd.R_ne HN.out BX.out (by decide) he))
     have TB := Aside0.mk (blk_grown TB.out hg (fun he => Kd.R_ne HN.out TB.out (by decide) he))
     have HN := Aside0.mk hR
     have HW := Aside0.mk (HW.out.trans hB)
     obtain ⟨A1, c1, rfl⟩ := Kd.R_slice hR
     have hsq := hB.size
     clear hR hB hg hat
     have hSd : (fun W => W.cell? ⟨Wi.heap.size, 0, none⟩ = some (.string x.f0) ∧ W.cell? ⟨Wi.heap.size, 1, none⟩ = some (.int .i64 x.f1)) X3 := ⟨(blk_cell BX.out 0).trans rfl, (blk_cell BX.out 1).trans rfl⟩
     refine hK.out _ _ (fun _ => hSd) ?_
     clear hK
     refine wpAnyK_one (i := 9) (by kernel_rfl) rfl (fun K hK => ?_)
     refine Kd.R_append_rows_step (Kd.int .i64) (w0 := X3) Wr.heap.size (by rfl) (.tmp 83) (.tmp 86) 48 3 (.int .i64 0) 8 rfl Tryz.underlying48 infoIn rfl (by decide) (by decide) (.slice Am mm cm) (l1.map (·.f1)) [x.f1] (some ⟨X0.heap.size, 0, none⟩) 1 1 (fun _ => True) (fun _ => False) rfl rfl HM.out (one_int TB.out) (fun _ _ h => h) (fun _ h => h.elim) (fun _ _ => trivial) (Below.refl _ _) (by omega) (by rw [List.length_map]; omega) ?_
     intro v2 X4 hR hB hg hat
     have HN := Aside0.mk (own_many HN.out HM.out hg)
     have BX := Aside0.mk (blk_grown BX.out hg (fun he => Kd.R_ne HM.out BX.out (by decide) he))
     have HM := Aside0.mk hR
     have HW := Aside0.mk (HW.out.trans hB)
     obtain ⟨A2, c2, rfl⟩ := Kd.R_slice hR
     have hsq := hB.size
     clear hR hB hg hat
     have hSd : (fun W => W.cell? ⟨Wi.heap.size, 0, none⟩ = some (.string x.f0) ∧ W.cell? ⟨Wi.heap.size, 1, none⟩ = some (.int .i64 x.f1)) X4 := ⟨(blk_cell BX.out 0).trans rfl, (blk_cell BX.out 1).trans rfl⟩
     refine hK.out _ _ (fun _ => hSd) ?_
     clear hK
     refine wpAnyK_one (i := 10) (by kernel_rfl) rfl (fun K hK => ?_)
     go_simp
     refine hK.out _ _ (fun _ => hSd) ?_
     clear hK
     refine wpAnyK_one (i := 11) (by kernel_rfl) rfl (fun K hK => ?_)
     go_simp
     refine hK.out _ _ (fun h => absurd rfl h) ?_
     clear hK hSd
     refine wpAnyK_done (by kernel_rfl) ?_ _
     refine NoPanic.normal ?_
     gi_wp2_with fail
     refine HT3.out _ _ ⟨ii + 1, _, _, _, _, _, _, rfl, rfl, rfl, rfl, rfl, rfl, by simp, by omega, ⟨by have h := HN.out; rw [List.length_append, List.length_map] at h; rw [HL1.out, List.map_append]; exact h, by have h := HM.out; rw [List.length_append, List.length_map] at h; rw [HL1.out, List.map_append]; exact h⟩, HW.out⟩ ?_
     rw [HM3.out]
     simp [intOf]
     omega
   ·have : ii = l0.length := by omega
    subst this
    gi_wp2_with fail
    show LeavesInM _ _ _ _ _ _ (Ds.map markD) .returning _
    have hh := HHs.out
    rw [List.take_length] at hh
    refine leaves_marks (B := W3.heap.size) (I := fun X => HS Wr.heap.size X (.slice An nn cn) (.slice Am mm cm) l0 ∧ Below w.heap.size w X) (fun X E hE hX h => ⟨h.1.notcells (grownBy_putObj' X E (.deferred none)) (fun r e => by cases e; exact ⟨_, hX, rfl⟩), h.2.trans (Below.of_putObj (by have := HQ.out.size; have := Q.out.size; omega))⟩)
     (fun X h => ⟨_, results_tmp3 rfl _ _ _, _, _, rfl, ?_, h.2⟩) Ds _ HMk.out.1 (fun D hD => ⟨(HMk.out.2 D hD).1, blk_below (HMk.out.2 D hD).2 HBi.out⟩) ⟨hh, HQi.out⟩
    have hws := HQ.out.size
    rw [headsE, if_pos HCe.out, HL.out]
    exact ⟨Kd.R_lower h.1.1 hws, Kd.R_lower h.1.2 hws⟩
end Go.Proofs.YtacefdkfbpgedaaGreat.Mine
namespace Go.Proofs.YtacefdkfbpgedaaGreat.Mine
open Go.Proofs.YtacefdkfbpgedaaGreat.PProgSmall
open Go.RowKit Go.Shelf Go.Proofs.YtacefdkfbpgedaaGreatW.PrintWords Go.Proofs.YtacefdkfbpgedaaGreatW.PrintLast Go.Proofs.YtacefdkfbpgedaaGreatW.PrintMore
set_option linter.unusedVariables false
set_option linter.unusedSimpArgs false
abbrev OwnC (W : World) (base : Nat) (v : Value) (l : List Ca) : Prop := Kd.R k62 62 W base (fun _ => True) v l
abbrev OdS (W0 : World) (B : Nat) (g0 g1 g3 g4 g5 : Value) (W : World) : Prop := Below W0.heap.size W0 W ∧ W.cell? ⟨B, 0, none⟩ = some g0 ∧ W.cell? ⟨B, 1, none⟩ = some g1 ∧ W.cell? ⟨B, 3, none⟩ = some g3 ∧ W.cell? ⟨B, 4, none⟩ = some g4 ∧ W.cell? ⟨B, 5, none⟩ = some g5
theorem OdS.step {W0 : World} {B : Nat} {g0 g1 g3 g4 g5 : Value} {W W' : World} (h : OdS W0 B g0 g1 g3 g4 g5 W) (hB : B < W0.heap.size) (hb : Below W0.heap.size W W') : OdS W0 B g0 g1 g3 g4 g5 W' := by
 obtain ⟨h0, h1, h2, h3, h4, h5⟩ := h
 exact ⟨h0.trans hb, cell_keep hb hB h1, cell_keep hb hB h2, cell_keep hb hB h3, cell_keep hb hB h4, cell_keep hb hB h5⟩
theorem OdS.alloc {W0 : World} {B : Nat} {g0 g1 g3 g4 g5 : Value} {W : World} {o : Obj} (h : OdS W0 B g0 g1 g3 g4 g5 W) (hB : B < W0.heap.size) : OdS W0 B g0 g1 g3 g4 g5 (W.alloc o) := h.step hB ((below_alloc1 _ _).mono h.1.size)
theorem OdS.put {W0 : World} {B : Nat} {g0 g1 g3 g4 g5 : Value} {W : World} {p : Addr} {u : Value} (h : OdS W0 B g0 g1 g3 g4 g5 W) (hB : B < W0.heap.size) (hp : W0.heap.size ≤ p.block) : OdS W0 B g0 g1 g3 g4 g5 (W.setCell p u) := h.step hB ((Below.refl _ _).setCell hp _)
theorem OdS.b {W0 : World} {B : Nat} {g0 g1 g3 g4 g5 : Value} {W : World} (h : OdS W0 B g0 g1 g3 g4 g5 W) : Below W0.heap.size W0 W := h.1
abbrev OcS (n : Nat) (W0 : World) (B : Nat) (u0 u1 u2 u3 u4 : Value) (W : World) : Prop := Below n W0 W ∧ W0.heap.size ≤ W.heap.size ∧ W.cell? ⟨B, 0, none⟩ = some u0 ∧ W.cell? ⟨B, 1, none⟩ = some u1 ∧ W.cell? ⟨B, 2, none⟩ = some u2 ∧ W.cell? ⟨B, 3, none⟩ = some u3 ∧ W.cell? ⟨B, 4, none⟩ = some u4
section
variable {n : Nat} {W0 : World} {B : Nat} {u0 u1 u2 u3 u4 : Value} {W W' : World}
theorem OcS.step (h : OcS n W0 B u0 u1 u2 u3 u4 W) (hn : n ≤ W0.heap.size) (hb : Below W.heap.size W W') : OcS n W0 B u0 u1 u2 u3 u4 W' := by
 obtain ⟨h0, h1, h2, h3, h4, h5, h6⟩ := h
 exact ⟨h0.trans (hb.mono (by omega)), Nat.le_trans h1 hb.size, pw_cell_below hb h2, pw_cell_below hb h3, pw_cell_below hb h4, pw_cell_below hb h5, pw_cell_below hb h6⟩
theorem OcS.alloc {o : Obj} (h : OcS n W0 B u0 u1 u2 u3 u4 W) (hn : n ≤ W0.heap.size) : OcS n W0 B u0 u1 u2 u3 u4 (W.alloc o) := h.step hn (below_alloc1 _ _)
theorem OcS.put {b j : Nat} {u : Value} (h : OcS n W0 B u0 u1 u2 u3 u4 W) (hn : n ≤ b) (hne : b ≠ B) : OcS n W0 B u0 u1 u2 u3 u4 (W.setCell ⟨b, j, none⟩ u) := by
 obtain ⟨h0, h1, h2, h3, h4, h5, h6⟩ := h
 have key : ∀ i v, W.cell? ⟨B, i, none⟩ = some v → (W.setCell ⟨b, j, none⟩ u).cell? ⟨B, i, none⟩ = some v := fun i v hv => (World.cell?_of_block (Below.heap_setCell _ _ _ _ (by simp only; omega))).trans hv
 exact ⟨h0.setCell (by simp only; omega) _, by simpa [World.setCell] using h1, key _ _ h2, key _ _ h3, key _ _ h4, key _ _ h5, key _ _ h6⟩
theorem OcS.of {t : Nat} (hb : Below n W0 W) (hs : W0.heap.size ≤ W.heap.size) (h : W.heap[B]? = some (.cells #[u0, u1, u2, u3, u4] t (0, 0))) : OcS n W0 B u0 u1 u2 u3 u4 W := ⟨hb, hs, (blk_cell h 0).trans rfl, (blk_cell h 1).trans rfl, (blk_cell h 2).trans rfl, (blk_cell h 3).trans rfl, (blk_cell h 4).trans rfl⟩
end
end Go.Proofs.YtacefdkfbpgedaaGreat.Mine
namespace Go.Proofs.YtacefdkfbpgedaaGreat.Mine
open Go.Proofs.YtacefdkfbpgedaaGreat.PProgSmall
open Go.RowKit Go.Shelf Go.Proofs.YtacefdkfbpgedaaGreatW.PrintWords Go.Proofs.YtacefdkfbpgedaaGreatW.PrintLast Go.Proofs.YtacefdkfbpgedaaGreatW.PrintMore
set_option linter.unusedVariables false
set_option linter.unusedSimpArgs false
def PartC (w0 W : World) (base : Nat) (xs : List Ca) (kk : Nat) (cur : Array Value) : Prop :=
 cur.size = xs.length * 5 ∧ ∀ j (h : j < xs.length), ∃ v1 v4, cur[j * 5]? = some (.string xs[j].f0) ∧ cur[j * 5 + 1]? = some v1 ∧ cur[j * 5 + 2]? = some (.int .i64 xs[j].f2.f0) ∧ cur[j * 5 + 3]? = some (.string xs[j].f2.f1) ∧ cur[j * 5 + 4]? = some v4 ∧
  if j < kk then OwnT W base v1 xs[j].f1 ∧ OwnE W base v4 xs[j].f2.f2 else ∃ A1 c1 A4 c4, v1 = .slice A1 xs[j].f1.length c1 ∧ v4 = .slice A4 xs[j].f2.f2.length c4 ∧ xs[j].f1.length ≤ c1 ∧ Kd.C Kd.string w0 A1 xs[j].f1.length xs[j].f1 ∧ xs[j].f2.f2.length ≤ c4 ∧ Kd.C k57 w0 A4 xs[j].f2.f2.length xs[j].f2.f2
theorem PartC.below {w0 W W' : World} {base : Nat} {xs : List Ca} {kk : Nat} {cur : Array Value} (h : PartC w0 W base xs kk cur) (hb : Below W.heap.size W W') : PartC w0 W' base xs kk cur := by
 refine ⟨h.1, fun j hj => ?_⟩
 obtain ⟨v1, v4, h0, h1, h2, h3, h4, h5⟩ := h.2 j hj
 refine ⟨v1, v4, h0, h1, h2, h3, h4, ?_⟩
 split
 ·next hl => rw [if_pos hl] at h5; exact ⟨Kd.R_below h5.1 hb, Kd.R_below h5.2 hb⟩
 ·next hl => rw [if_neg hl] at h5; exact h5
theorem PartC.get {w0 W : World} {base : Nat} {xs : List Ca} {kk : Nat} {cur : Array Value} (h : PartC w0 W base xs kk cur) (hb : Below w0.heap.size w0 W) (j : Nat) (hj : j < xs.length) : ∃ A1 c1 A4 c4, cur[j * 5]? = some (.string xs[j].f0) ∧ cur[j * 5 + 1]? = some (.slice A1 xs[j].f1.length c1) ∧ cur[j * 5 + 2]? = some (.int .i64 xs[j].f2.f0) ∧ cur[j * 5 + 3]? = some (.string xs[j].f2.f1) ∧ cur[j * 5 + 4]? = some (.slice A4 xs[j].f2.f2.length c4) ∧ xs[j].f1.length ≤ c1 ∧ Kd.C Kd.string W A1 xs[j].f1.length xs[j].f1 ∧ xs[j].f2.f2.length ≤ c4 ∧ Kd.C k57 W A4 xs[j].f2.f2.length xs[j].f2.f2 := by
 obtain ⟨v1, v4, h0, h1, h2, h3, h4, h5⟩ := h.2 j hj
 split at h5
 ·obtain ⟨A, c, rfl, hc, hr⟩ := Kd.R_reads h5.1
  obtain ⟨A4, c4, rfl, hc4, hr4⟩ := Kd.R_reads h5.2
  exact ⟨A, c, A4, c4, h0, h1, h2, h3, h4, hc, hr, hc4, hr4⟩
 ·obtain ⟨A, c, A4, c4, rfl, rfl, hc, hr, hc4, hr4⟩ := h5
  exact ⟨A, c, A4, c4, h0, h1, h2, h3, h4, hc, Kd.C_below hr hb, hc4, Kd.C_below hr4 hb⟩
def putC (cur : Array Value) (i : Nat) (u0 u1 u2 u3 u4 : Value) : Array Value := ((((cur.setIfInBounds i u0).setIfInBounds (i + 1) u1).setIfInBounds (i + 2) u2).setIfInBounds (i + 3) u3).setIfInBounds (i + 4) u4
theorem putC_get {cur : Array Value} {i : Nat} {u0 u1 u2 u3 u4 : Value} (h : i + 4 < cur.size) : (putC cur i u0 u1 u2 u3 u4)[i]? = some u0 ∧ (putC cur i u0 u1 u2 u3 u4)[i + 1]? = some u1 ∧ (putC cur i u0 u1 u2 u3 u4)[i + 2]? = some u2 ∧ (putC cur i u0 u1 u2 u3 u4)[i + 3]? = some u3 ∧ (putC cur i u0 u1 u2 u3 u4)[i + 4]? = some u4 := by
 have h0 : i < cur.size := by omega
 have h1 : i + 1 < cur.size := by omega
 have h2 : i + 2 < cur.size := by omega
 have h3 : i + 3 < cur.size := by omega
 refine ⟨?_, ?_, ?_, ?_, ?_⟩ <;> simp [putC, Array.getElem?_setIfInBounds, h, h0, h1, h2, h3]
theorem putC_other {cur : Array Value} {i j : Nat} {u0 u1 u2 u3 u4 : Value} (h : j < i ∨ i + 4 < j) : (putC cur i u0 u1 u2 u3 u4)[j]? = cur[j]? := by
 unfold putC
 rw [Array.getElem?_setIfInBounds, if_neg (by omega), Array.getElem?_setIfInBounds, if_neg (by omega), Array.getElem?_setIfInBounds, if_neg (by omega), Array.getElem?_setIfInBounds, if_neg (by omega), Array.getElem?_setIfInBounds, if_neg (by omega)]
theorem PartC.step {w0 W : World} {base : Nat} {xs : List Ca} {kk : Nat} {cur : Array Value} (h : PartC w0 W base xs kk cur) (hk : kk < xs.length) {v1 v4 : Value} (hv1 : OwnT W base v1 xs[kk].f1) (hv4 : OwnE W base v4 xs[kk].f2.f2) : PartC w0 W base xs (kk + 1) (putC cur (kk * 5) (.string xs[kk].f0) v1 (.int .i64 xs[kk].f2.f0) (.string xs[kk].f2.f1) v4) := by
 have hsz := h.1
 refine ⟨by simp [putC, h.1], fun j hj => ?_⟩
 by_cases hjk : j = kk
 ·subst hjk
  obtain ⟨g0, g1, g2, g3, g4⟩ := putC_get (cur := cur) (i := j * 5) (u0 := .string xs[j].f0) (u1 := v1) (u2 := .int .i64 xs[j].f2.f0) (u3 := .string xs[j].f2.f1) (u4 := v4) (by omega)
  exact ⟨v1, v4, g0, g1, g2, g3, g4, by rw [if_pos (by omega)]; exact ⟨hv1, hv4⟩⟩
 ·obtain ⟨u1, u4, h0, h1, h2, h3, h4, h5⟩ := h.2 j hj
  refine ⟨u1, u4, (putC_other (by omega)).trans h0, (putC_other (by omega)).trans h1, (putC_other (by omega)).trans h2, (putC_other (by omega)).trans h3, (putC_other (by omega)).trans h4, ?_⟩
  by_cases hl : j < kk
  ·rw [if_pos hl] at h5; rw [if_pos (by omega)]; exact h5
  ·rw [if_neg hl] at h5; rw [if_neg (by omega)]; exact h5
theorem PartC.done {w0 W : World} {base g : Nat} {xs : List Ca} {cur : Array Value} (h : PartC w0 W (g + 1) xs xs.length cur) (hg : W.heap[g]? = some (.cells cur 62 (0, 0))) (hb : base ≤ g) (hm : xs.length ≤ 1000000) : OwnC W base (.slice (some ⟨g, 0, none⟩) xs.length xs.length) xs := by
 have hsz : cur.size = xs.length * k62.sz := h.1
 refine ⟨fun _ _ => trivial, cur.toList, ⟨by simpa using hsz, .inr ⟨g, xs.length, cur, rfl, hb, hg, Nat.le_refl _, by simp [maxLen]; omega, hsz, ?_⟩⟩, ⟨by simpa using hsz, fun j p hj => ?_⟩⟩
 ·rw [← hsz]; exact List.take_of_length_le (by simp)
 ·obtain ⟨hjl, rfl⟩ := List.getElem?_eq_some_iff.1 hj
  obtain ⟨v1, v4, h0, h1, h2, h3, h4, h5⟩ := h.2 j hjl
  rw [if_pos hjl] at h5
  have hM := k62_mkM W base (fun k => True ∧ some k ≠ (Value.slice (some ⟨g, 0, none⟩) xs.length xs.length).ownBlock) xs[j] (Kd.R_lower (Kd.R_mono (Kd.R_bound h5.1) (fun k hk => ⟨trivial, fun he => by have h5 := hk.2.1; simp only [Value.ownBlock, Option.some.injEq] at he; omega⟩)) (by omega)) (Kd.R_lower (Kd.R_mono (Kd.R_bound h5.2) (fun k hk => ⟨trivial, fun he => by have h5 := hk.2.1; simp only [Value.ownBlock, Option.some.injEq] at he; omega⟩)) (by omega))
  have : (cur.toList.drop (j * 5)).take 5 = [.string xs[j].f0, v1, .int .i64 xs[j].f2.f0, .string xs[j].f2.f1, v4] := by
   apply List.ext_getElem?
   intro i
   match i with
   | 0 => simpa [List.getElem?_take, List.getElem?_drop] using h0
   | 1 => simpa [List.getElem?_take, List.getElem?_drop] using h1
   | 2 => simpa [List.getElem?_take, List.getElem?_drop] using h2
   | 3 => simpa [List.getElem?_take, List.getElem?_drop] using h3
   | 4 => simpa [List.getElem?_take, List.getElem?_drop] using h4
   | i + 5 => simp [List.getElem?_take]; omega
  rw [show k62.sz = 5 from rfl, this]
  exact hM
theorem PartC.set {w0 W : World} {base g j : Nat} {u : Value} {xs : List Ca} {kk : Nat} {cur : Array Value} (h : PartC w0 W base xs kk cur) (hg : g < base) : PartC w0 (W.setCell ⟨g, j, none⟩ u) base xs kk cur := by
 refine ⟨h.1, fun i hi => ?_⟩
 obtain ⟨v1, v4, h0, h1, h2, h3, h4, h5⟩ := h.2 i hi
 refine ⟨v1, v4, h0, h1, h2, h3, h4, ?_⟩
 split
 ·next hl => rw [if_pos hl] at h5; exact ⟨Kd.R_mono (Kd.R_far (Kd.R_mono (Kd.R_bound h5.1) (ok' := fun k => base ≤ k) (fun k hk => hk.2.1)) (p := ⟨g, j, none⟩) (fun k hk => by show k ≠ g; omega) _) (fun _ _ => trivial), OwnE.set h5.2 hg _ _⟩
 ·next hl => rw [if_neg hl] at h5; exact h5
theorem PartC.world {w0 W W' : World} {base : Nat} {xs : List Ca} {cur : Array Value} (h : PartC w0 W base xs 0 cur) : PartC w0 W' base xs 0 cur :=
 ⟨h.1, fun i hi => by obtain ⟨v1, v4, h0, h1, h2, h3, h4, h5⟩ := h.2 i hi; exact ⟨v1, v4, h0, h1, h2, h3, h4, by rw [if_neg (Nat.not_lt_zero _)] at h5 ⊢; exact h5⟩⟩
end Go.Proofs.YtacefdkfbpgedaaGreat.Mine
namespace Go.Proofs.YtacefdkfbpgedaaGreat.Mine
open Go.Proofs.YtacefdkfbpgedaaGreat.PProgSmall
open Go.RowKit Go.Shelf Go.Proofs.YtacefdkfbpgedaaGreatW.PrintWords Go.Proofs.YtacefdkfbpgedaaGreatW.PrintLast Go.Proofs.YtacefdkfbpgedaaGreatW.PrintMore
set_option linter.unusedVariables false
set_option linter.unusedSimpArgs false
end Go.Proofs.YtacefdkfbpgedaaGreat.Mine
namespace Go.Proofs.YtacefdkfbpgedaaGreat.Mine
open Go.Proofs.YtacefdkfbpgedaaGreat.PProgSmall
open Go.RowKit Go.Shelf Go.Proofs.YtacefdkfbpgedaaGreatW.PrintWords Go.Proofs.YtacefdkfbpgedaaGreatW.PrintLast Go.Proofs.YtacefdkfbpgedaaGreatW.PrintMore
set_option linter.unusedVariables false
set_option linter.unusedSimpArgs false
abbrev OeS (n : Nat) (W0 : World) (B : Nat) (u0 u1 u2 u3 u4 u5 : Value) (W : World) : Prop := Below n W0 W ∧ W0.heap.size ≤ W.heap.size ∧ W.cell? ⟨B, 0, none⟩ = some u0 ∧ W.cell? ⟨B, 1, none⟩ = some u1 ∧ W.cell? ⟨B, 2, none⟩ = some u2 ∧ W.cell? ⟨B, 3, none⟩ = some u3 ∧ W.cell? ⟨B, 4, none⟩ = some u4 ∧ W.cell? ⟨B, 5, none⟩ = some u5
theorem OeS.of {n : Nat} {W0 : World} {B : Nat} {u0 u1 u2 u3 u4 u5 : Value} {W : World} {t : Nat} (hb : Below n W0 W) (hs : W0.heap.size ≤ W.heap.size) (h : W.heap[B]? = some (.cells #[u0, u1, u2, u3, u4, u5] t (0, 0))) : OeS n W0 B u0 u1 u2 u3 u4 u5 W := ⟨hb, hs, (blk_cell h 0).trans rfl, (blk_cell h 1).trans rfl, (blk_cell h 2).trans rfl, (blk_cell h 3).trans rfl, (blk_cell h 4).trans rfl, (blk_cell h 5).trans rfl⟩
end Go.Proofs.YtacefdkfbpgedaaGreat.Mine
namespace Go.Proofs.YtacefdkfbpgedaaGreat.Mine
open Go.Proofs.YtacefdkfbpgedaaGreat.PProgSmall
open Go.RowKit Go.Shelf Go.Proofs.YtacefdkfbpgedaaGreatW.PrintWords Go.Proofs.YtacefdkfbpgedaaGreatW.PrintLast Go.Proofs.YtacefdkfbpgedaaGreatW.PrintMore
set_option linter.unusedVariables false
set_option linter.unusedSimpArgs false
end Go.Proofs.YtacefdkfbpgedaaGreat.Mine
namespace Go.Proofs.YtacefdkfbpgedaaGreat.Mine
open Go.Proofs.YtacefdkfbpgedaaGreat.PProgSmall
open Go.RowKit Go.Shelf Go.Proofs.YtacefdkfbpgedaaGreatW.PrintWords Go.Proofs.YtacefdkfbpgedaaGreatW.PrintLast Go.Proofs.YtacefdkfbpgedaaGreatW.PrintMore
set_option linter.unusedVariables false
set_option linter.unusedSimpArgs false
theorem isHead_eq (s : ByteArray) (k : Int) (c : Ca) : (c.f0.toList == s.toList && ((c.f1.length : Int) == k)) = isHead s k c := by
 rw [sEq, isHead]
set_option maxRecDepth 100000 in
set_option maxHeartbeats 2000000 in
theorem c_Pick1 (x : Ca) (cs : List Value) (s : ByteArray) (k : Int) (B1 B2 : Nat) (w : World) (hK : k62.K w x cs) (h1 : w.heap[B1]? = some (.cells #[.string s] 9 (0, 0))) (h2 : w.heap[B2]? = some (.cells #[.int .i64 k] 3 (0, 0))) :
  Calls Tryz.prog 93 #[.agg cs.toArray, .pointer (some ⟨B1, 0, none⟩), .pointer (some ⟨B2, 0, none⟩)] w fun en w' => en = .returned (.bool (isHead s k x)) ∧ Below w.heap.size w w' := by
 obtain ⟨X1, x1, X4, x4, rfl, m1, G1, m4, G4⟩ := k62_open hK
 have hm1 := G1.2.1
 have e1 := cell_of_one h1
 have e2 := cell_of_one h2
 have hl1 := lt_of_block h1
 have hl2 := lt_of_block h2
 have hn1 : ¬ (B1 = w.heap.size) := by omega
 have hn2 : ¬ (B2 = w.heap.size) := by omega
 have hq := fun d (w : World) => eqHd d w x.f0 s (x.f1.length : Int) k
 simp only [isHead_eq] at hq
 clear hK h1 h2 G1 G4 m1 m4
 go_enter Tryz.func93, Tryz.ntmps93
 go_wp2
 go_ret
 exact ⟨rfl, below_alloc1 _ _⟩
set_option maxRecDepth 100000 in
set_option maxHeartbeats 2000000 in
theorem c_Pick (d : De) (cs : List Value) (s : ByteArray) (k : Int) (w : World) (hd : Kd.FK k59 w (fun k => k < w.heap.size) d cs) :
  Calls Tryz.prog 37 #[.agg cs.toArray, .string s, .int .i64 k] w fun en w' => en = .returned (.tuple #[.int .i64 (pickP d s k).1, .int .i64 (pickP d s k).2]) ∧ Below w.heap.size w w' := by
 obtain ⟨A1, c1, A2, c2, A5, c5, rfl, l1, F1, l2, F2, l5, F5⟩ := k59_openF hd
 obtain ⟨W3, hW3⟩ : ∃ W3, ((w.alloc (.cells #[.string d.f0, .slice A1 d.f1.length c1, .slice A2 d.f2.length c2, .int .i64 d.f3.f0, .string d.f3.f1, .slice A5 d.f3.f2.length c5] 59)).alloc (.cells #[.string s] 9)).alloc (.cells #[.int .i64 k] 3) = W3 := ⟨_, rfl⟩
 have q3 : Below w.heap.size w W3 := by rw [← hW3]; exact (below_alloc2 _ _ _).trans ((below_alloc1 _ _).mono (by simp; omega))
 have bD : W3.heap[w.heap.size]? = some (.cells #[.string d.f0, .slice A1 d.f1.length c1, .slice A2 d.f2.length c2, .int .i64 d.f3.f0, .string d.f3.f1, .slice A5 d.f3.f2.length c5] 59 (0, 0)) := by rw [← hW3]; exact blk_alloc (blk_alloc (alloc_at _ _) _) _
 have bS : W3.heap[w.heap.size + 1]? = some (.cells #[.string s] 9 (0, 0)) := by rw [← hW3]; have := alloc_at (w.alloc (.cells #[.string d.f0, .slice A1 d.f1.length c1, .slice A2 d.f2.length c2, .int .i64 d.f3.f0, .string d.f3.f1, .slice A5 d.f3.f2.length c5] 59)) (.cells #[.string s] 9); rw [World.size_alloc] at this; exact blk_alloc this _
 have bK : W3.heap[w.heap.size + 1 + 1]? = some (.cells #[.int .i64 k] 3 (0, 0)) := by rw [← hW3]; have := alloc_at ((w.alloc (.cells #[.string d.f0, .slice A1 d.f1.length c1, .slice A2 d.f2.length c2, .int .i64 d.f3.f0, .string d.f3.f1, .slice A5 d.f3.f2.length c5] 59)).alloc (.cells #[.string s] 9)) (.cells #[.int .i64 k] 3); simpa only [World.size_alloc] using this
 have k2 := (blk_cell bD 2).trans rfl
 have HC := Lib.hid (idxC_p A2 c2 d.f2 W3 l2 (Kd.C_below (Kd.F_now F2) q3) 93 #[.pointer (some ⟨w.heap.size + 1, 0, none⟩), .pointer (some ⟨w.heap.size + 1 + 1, 0, none⟩)] (enters_of Tryz.func93 (by kernel_rfl) rfl) (isHead s k) (fun x cs W _ hK hb => c_Pick1 x cs s k _ _ W hK (blk_below bS hb) (blk_below bK hb)))
 have HW3 := Lib.hid hW3
 have Q := Aside0.mk q3
 obtain ⟨n, hn⟩ : ∃ n, idxB (isHead s k) d.f2 = n := ⟨_, rfl⟩
 have HP := Lib.hid (show pickP d s k = if n < 0 then (0, 6) else (n, 0) by rw [pickP, hn])
 rw [hn] at HC
 clear hd F1 F2 F5 q3 bD bS bK hW3 hn l1 l2 l5
 go_enter Tryz.func37, Tryz.ntmps37
 go_wp2_with fail
 rw [HW3.out]
 go_wp2_with fail
 refine HC.out.mono ?_
 rintro en w' ⟨rfl, hb⟩
 have Q := Aside0.mk (Q.out.trans (hb.mono Q.out.size))
 clear hb k2
 cases hn : decide (n < 0) with
 | true =>
  have hn' : n < 0 := of_decide_eq_true hn
  have HX := Lib.hid (show pickP d s k = (0, 6) by rw [HP.out, if_pos hn'])
  clear hn'
  go_wp2
  go_ret2
  exact ⟨by rw [HX.out]; rfl, Q.out⟩
 | false =>
  have hn' : ¬ n < 0 := of_decide_eq_false hn
  have HX := Lib.hid (show pickP d s k = (n, 0) by rw [HP.out, if_neg hn'])
  clear hn'
  go_wp2
  go_ret2
  exact ⟨by rw [HX.out]; rfl, Q.out⟩
end Go.Proofs.YtacefdkfbpgedaaGreat.Mine
namespace Go.Proofs.YtacefdkfbpgedaaGreat.Mine
open Go.Proofs.YtacefdkfbpgedaaGreat.PProgSmall
open Go.RowKit Go.Shelf Go.Proofs.YtacefdkfbpgedaaGreatW.PrintWords Go.Proofs.YtacefdkfbpgedaaGreatW.PrintLast Go.Proofs.YtacefdkfbpgedaaGreatW.PrintMore
set_option linter.unusedVariables false
set_option linter.unusedSimpArgs false
def bigC (c : Ca) : Bool := decide ((40 : Int) < (c.f0.size : Int)) || (longS c.f1 || bigE c.f2)
def bigD (d : De) : Bool := decide ((40 : Int) < (d.f0.size : Int)) || (longS d.f1 || (bigE d.f3 || (decide ((10 : Int) < (d.f2.length : Int)) || d.f2.any bigC)))
end Go.Proofs.YtacefdkfbpgedaaGreat.Mine
namespace Go.Proofs.YtacefdkfbpgedaaGreat.Mine
open Go.Proofs.YtacefdkfbpgedaaGreat.PProgSmall
open Go.RowKit Go.Shelf Go.Proofs.YtacefdkfbpgedaaGreatW.PrintWords Go.Proofs.YtacefdkfbpgedaaGreatW.PrintLast Go.Proofs.YtacefdkfbpgedaaGreatW.PrintMore
set_option linter.unusedVariables false
set_option linter.unusedSimpArgs false
theorem longS_len {l : List ByteArray} (h : longS l = false) : l.length ≤ 12 ∧ ∀ s ∈ l, s.size ≤ 40 := by
 rw [longS, Bool.or_eq_false_iff, decide_eq_false_iff_not, List.any_eq_false] at h
 exact ⟨by omega, fun s hs => by have := h.2 s hs; simp at this; omega⟩
theorem bigC_ok {c : Ca} (h : bigC c = false) : c.f0.size ≤ 40 ∧ c.f1.length ≤ 12 ∧ (∀ s ∈ c.f1, s.size ≤ 40) ∧ szE c.f2 ≤ 60 := by
 rw [bigC, Bool.or_eq_false_iff, Bool.or_eq_false_iff, decide_eq_false_iff_not] at h
 obtain ⟨h1, h2, h3⟩ := h
 exact ⟨by omega, (longS_len h2).1, (longS_len h2).2, bigE_sz h3⟩
theorem bigD_ok {d : De} (h : bigD d = false) : d.f0.size ≤ 40 ∧ d.f1.length ≤ 12 ∧ (∀ s ∈ d.f1, s.size ≤ 40) ∧ szE d.f3 ≤ 60 ∧ d.f2.length ≤ 10 ∧ ∀ c ∈ d.f2, bigC c = false := by
 rw [bigD, Bool.or_eq_false_iff, Bool.or_eq_false_iff, Bool.or_eq_false_iff, Bool.or_eq_false_iff, decide_eq_false_iff_not, decide_eq_false_iff_not, List.any_eq_false] at h
 obtain ⟨h1, h2, h3, h4, h5⟩ := h
 exact ⟨by omega, (longS_len h2).1, (longS_len h2).2, bigE_sz h3, by omega, fun c hc => by have := h5 c hc; simpa using this⟩
theorem szL_le {l : List Ex} {k : Nat} (h : ∀ x ∈ l, szE x ≤ k) : szL l ≤ l.length * k := by
 induction l with
 | nil => simp [szL]
 | cons x xs ih =>
  rw [szL, List.length_cons, Nat.add_mul, Nat.one_mul]
  have h1 := h x (by simp)
  have h2 := ih (fun y hy => h y (by simp [hy]))
  omega
theorem bodies_ok {d : De} (h : bigD d = false) : (bodiesD d).length ≤ 10 ∧ ∀ b ∈ bodiesD d, szE b ≤ 60 := by
 obtain ⟨_, _, _, h3, h4, h5⟩ := bigD_ok h
 unfold bodiesD
 split
 ·exact ⟨by simp, fun b hb => by simp at hb; subst hb; exact h3⟩
 ·refine ⟨by simpa using h4, fun b hb => ?_⟩
  obtain ⟨c, hc, rfl⟩ := List.mem_map.1 hb
  exact (bigC_ok (h5 c hc)).2.2.2
theorem bigD_okD {d : De} (h : bigD d = false) : OkD d := by
 have hb := bodies_ok h
 obtain ⟨h0, h1, h2, h3, h4, h5⟩ := bigD_ok h
 have hn : 40 ≤ nmLim := by decide
 refine ⟨by omega, by omega, fun c hc => ?_, fun b hb' => ?_, fun s hs => ?_, fun c hc => ?_, fun c hc s hs => ?_⟩
 ·have := (bigC_ok (h5 c hc)).2.1; omega
 ·have := hb.2 b hb'; omega
 ·have := h2 s hs; omega
 ·have := (bigC_ok (h5 c hc)).1; omega
 ·have := (bigC_ok (h5 c hc)).2.2.1 s hs; omega
end Go.Proofs.YtacefdkfbpgedaaGreat.Mine
