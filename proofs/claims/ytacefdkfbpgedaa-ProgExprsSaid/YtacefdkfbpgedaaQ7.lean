/- prog's Subst. -/
import Derived.Test.YtacefdkfbpgedaaQ6
import Derived.Test.YtacefdkfbpgedaaQ2
import Derived.Lib.OthersKept
import Derived.WalkSpells
namespace Go.Proofs.Ytacefdkfbpgedaa.Mine
open Go.Proofs.Ytacefdkfbpgedaa.PProgExprs
open Go.RowKit Go.Shelf Go.Proofs.YtacefdkfbpgedaaW.PrintWords Go.Proofs.YtacefdkfbpgedaaW.PrintLast Go.Proofs.YtacefdkfbpgedaaW.PrintMore
set_option linter.unusedVariables false
set_option linter.unusedSimpArgs false

/-- No expression. -/
abbrev noE : Ex := ⟨0, ⟨#[]⟩, []⟩
/-- What Subst comes to: the expression, and the error. -/
def subP (vars : List ByteArray) (bys : List Ex) (e : Ex) : Ex × Int :=
  if vars.length = bys.length then (if twB vars then (noE, 5) else (if (subE vars bys e 0).2 ≤ 24 then ((subE vars bys e 0).1, 0) else (noE, 2))) else (noE, 7)

set_option maxRecDepth 100000 in
set_option maxHeartbeats 4000000 in
theorem c_Subst (e : Ex) (A : Option Addr) (c : Nat) (vars : List ByteArray) (Av : Option Addr) (cv : Nat) (bys : List Ex) (Ab : Option Addr) (cb : Nat) (w : World)
    (hr : Kd.C k24 w A e.f2.length e.f2) (hc : e.f2.length ≤ c) (hv : Kd.C Kd.string w Av vars.length vars) (hcv : vars.length ≤ cv) (hb : Kd.C k24 w Ab bys.length bys) (hcb : bys.length ≤ cb)
    (hs : szE e ≤ 1000000) (hbz : ∀ x ∈ bys, szE x ≤ 1000000) (hvs : ∀ s ∈ vars, s.size ≤ nmLim) (hvl : vars.length < 1000000) :
    Calls Try.prog 15 #[.agg #[.int .i64 e.f0, .string e.f1, .slice A e.f2.length c], .slice Av vars.length cv, .slice Ab bys.length cb] w fun en w' =>
      ∃ v, en = .returned (.tuple #[.agg #[.int .i64 (subP vars bys e).1.f0, .string (subP vars bys e).1.f1, v], .int .i64 (subP vars bys e).2]) ∧ OwnE w' w.heap.size v (subP vars bys e).1.f2 ∧ Below w.heap.size w w' := by
  have hm1 := hv.2.1
  have hm2 := hb.2.1
  obtain ⟨W4, hW4⟩ : ∃ W4, (((w.alloc (.cells #[.int .i64 e.f0, .string e.f1, .slice A e.f2.length c] 24)).alloc (.cells #[.slice Av vars.length cv] 25)).alloc (.cells #[.slice Ab bys.length cb] 22)).alloc (.cells #[.int .i64 0, .string ⟨#[]⟩, .slice none 0 0] 24) = W4 := ⟨_, rfl⟩
  have z4 : W4.heap.size = w.heap.size + 1 + 1 + 1 + 1 := by rw [← hW4]; simp
  have q4 : Below w.heap.size w W4 := by rw [← hW4]; exact (below_alloc2 _ _ _).trans ((below_alloc2 _ _ _).mono (by simp; omega))
  have b0 : W4.heap[w.heap.size]? = some (.cells #[.int .i64 e.f0, .string e.f1, .slice A e.f2.length c] 24 (0, 0)) := by rw [← hW4]; exact blk_alloc (blk_alloc (blk_alloc (alloc_at _ _) _) _) _
  have b1 : W4.heap[w.heap.size + 1]? = some (.cells #[.slice Av vars.length cv] 25 (0, 0)) := by rw [← hW4]; have := alloc_at (w.alloc (.cells #[.int .i64 e.f0, .string e.f1, .slice A e.f2.length c] 24)) (.cells #[.slice Av vars.length cv] 25); rw [World.size_alloc] at this; exact blk_alloc (blk_alloc this _) _
  have b2 : W4.heap[w.heap.size + 1 + 1]? = some (.cells #[.slice Ab bys.length cb] 22 (0, 0)) := by rw [← hW4]; have := alloc_at ((w.alloc (.cells #[.int .i64 e.f0, .string e.f1, .slice A e.f2.length c] 24)).alloc (.cells #[.slice Av vars.length cv] 25)) (.cells #[.slice Ab bys.length cb] 22); rw [World.size_alloc, World.size_alloc] at this; exact blk_alloc this _
  have b3 : W4.heap[w.heap.size + 1 + 1 + 1]? = some (.cells #[.int .i64 0, .string ⟨#[]⟩, .slice none 0 0] 24 (0, 0)) := by rw [← hW4]; have := alloc_at (((w.alloc (.cells #[.int .i64 e.f0, .string e.f1, .slice A e.f2.length c] 24)).alloc (.cells #[.slice Av vars.length cv] 25)).alloc (.cells #[.slice Ab bys.length cb] 22)) (.cells #[.int .i64 0, .string ⟨#[]⟩, .slice none 0 0] 24); simpa only [World.size_alloc] using this
  have k1 := (blk_cell b1 0).trans rfl
  have k2 := (blk_cell b2 0).trans rfl
  have d0 := (blk_cell b3 0).trans rfl
  have d1 := (blk_cell b3 1).trans rfl
  have d2 := (blk_cell b3 2).trans rfl
  have fd := fun i => blk_frozen b3 i
  have HT := Lib.hid (c_twice Av cv vars W4 (Kd.C_below hv q4) hcv hvs hvl)
  have HR := Aside0.mk hr
  have HV := Aside0.mk hv
  have HBy := Aside0.mk hb
  have B0 := Aside0.mk b0
  have B1 := Aside0.mk b1
  have B2 := Aside0.mk b2
  have B3 := Aside0.mk b3
  have Q4 := Aside0.mk q4
  have Z4 := Lib.hid z4
  clear hr hv hb b0 b1 b2 b3 q4 z4
  by_cases hl : vars.length = bys.length
  · have hl1 : ((vars.length : Int) != (bys.length : Int)) = false := by simp only [bne_eq_false_iff_eq]; omega
    have HL := Lib.hid hl
    clear hl
    cases ht : twB vars with
    | true =>
      rw [ht] at HT
      have HTt := Lib.hid ht
      clear ht
      go_enter Try.func15, Try.ntmps15
      go_wp2_with fail
      refine HT.out.mono ?_
      rintro en w5 ⟨rfl, hb5⟩
      have B3' := Aside0.mk (blk_below B3.out hb5)
      have d0' := (blk_cell B3'.out 0).trans rfl
      have d1' := (blk_cell B3'.out 1).trans rfl
      have d2' := (blk_cell B3'.out 2).trans rfl
      have fd' := fun i => blk_frozen B3'.out i
      have Q5 := Aside0.mk (Q4.out.trans (hb5.mono Q4.out.size))
      clear hb5
      go_wp2_with fail
      have b6 := blk_put (blk_put (blk_put B3'.out 0 (.int .i64 0) rfl) 1 (.string ⟨#[]⟩) rfl) 2 (.slice none 0 0) rfl
      refine bodyPost_ret (results_ct rfl _ _ _ _ _ _ _ rfl b6 Try.underlying24 rfl (by kernel_rfl)) rfl ?_
      have hsub : subP vars bys e = (noE, 5) := by rw [subP, if_pos HL.out, if_pos HTt.out]
      rw [hsub]
      exact ⟨_, rfl, Kd.R_nil _ _ _ _ _, ((Q5.out.setCell (by simp only; omega) _).setCell (by simp only; omega) _).setCell (by simp only; omega) _⟩
    | false =>
      rw [ht] at HT
      have HTt := Lib.hid ht
      clear ht
      go_enter Try.func15, Try.ntmps15
      go_wp2_with fail
      refine HT.out.mono ?_
      rintro en w5 ⟨rfl, hb5⟩
      have q5 := Q4.out.trans (hb5.mono Q4.out.size)
      have B0' := Aside0.mk (blk_below B0.out hb5)
      have B1' := Aside0.mk (blk_below B1.out hb5)
      have B2' := Aside0.mk (blk_below B2.out hb5)
      have B3' := Aside0.mk (blk_below B3.out hb5)
      have e0 := fun o o' => (blk_cell (blk_alloc (blk_alloc B0'.out o) o') 0).trans rfl
      have e1 := fun o o' => (blk_cell (blk_alloc (blk_alloc B0'.out o) o') 1).trans rfl
      have e2 := fun o o' => (blk_cell (blk_alloc (blk_alloc B0'.out o) o') 2).trans rfl
      have hs5 := hb5.size
      have Q5 := Aside0.mk q5
      clear hb5 q5
      obtain ⟨W7, hW7⟩ : ∃ W7, (w5.alloc (.cells #[.int .i64 0] 3)).alloc (.cells #[.func (.func 62) #[] #[.pointer (some ⟨w.heap.size + 1, 0, none⟩), .pointer (some ⟨w5.heap.size, 0, none⟩), .pointer (some ⟨w.heap.size + 1 + 1, 0, none⟩), .pointer (some ⟨w5.heap.size + 1, 0, none⟩)]] 30) = W7 := ⟨_, rfl⟩
      have z7 : W7.heap.size = w5.heap.size + 1 + 1 := by rw [← hW7]; simp
      have q57 : Below w5.heap.size w5 W7 := by rw [← hW7]; exact below_alloc2 _ _ _
      have q7 : Below w.heap.size w W7 := Q5.out.trans (q57.mono Q5.out.size)
      have p7 : PutBox (w.heap.size + 1) w5.heap.size (w.heap.size + 1 + 1) (w5.heap.size + 1) Av vars.length cv Ab bys.length cb 0 W7 := by
        refine ⟨blk_below B1'.out q57, ?_, blk_below B2'.out q57, ?_⟩
        · rw [← hW7]; exact blk_alloc (alloc_at _ _) _
        · rw [← hW7]; have := alloc_at (w5.alloc (.cells #[.int .i64 0] 3)) (.cells #[.func (.func 62) #[] #[.pointer (some ⟨w.heap.size + 1, 0, none⟩), .pointer (some ⟨w5.heap.size, 0, none⟩), .pointer (some ⟨w.heap.size + 1 + 1, 0, none⟩), .pointer (some ⟨w5.heap.size + 1, 0, none⟩)]] 30); simpa only [World.size_alloc] using this
      have hsw := Q5.out.size
      have hz4 := Z4.out
      have HC := Lib.hid (c_put vars bys Av Ab cv cb w.heap.size (w.heap.size + 1) w5.heap.size (w.heap.size + 1 + 1) (w5.heap.size + 1) w5 hsw hcv hcb HL.out.symm (by omega) (by omega) (by omega) (by omega) (Kd.F_below (Kd.C_F Kd.heap_string HV.out) Q5.out) (Kd.F_below (Kd.C_F k24_heap HBy.out) Q5.out) hbz _ e A c 0 W7 (Nat.le_refl _) hs (by omega) (q57.mono hsw) p7 (Kd.F_below (Kd.C_F k24_heap HR.out) q7) hc)
      have B37 := Aside0.mk (blk_below B3'.out q57)
      have Q7 := Aside0.mk q7
      have Z7 := Lib.hid z7
      have h57 := q57.size
      have HW7 := Lib.hid hW7
      clear p7 q7 q57 z7 hz4 hW7
      go_wp2_with fail
      rw [HW7.out]
      clear HW7 e0 e1 e2
      refine HC.out.mono ?_
      rintro en w8 ⟨v, rfl, hO8, hP8, hF8, hl8⟩
      obtain ⟨A8, c8, rfl⟩ := Kd.R_slice hO8
      obtain ⟨r, hr⟩ : ∃ r, subE vars bys e 0 = r := ⟨_, rfl⟩
      rw [hr] at hO8 hP8 hl8 ⊢
      have HRr := Lib.hid hr
      have B38 := Aside0.mk (hF8.blk B37.out (by have := Z4.out; omega))
      have r0 := fun o => (blk_cell (blk_alloc B38.out o) 0).trans rfl
      have r1 := fun o => (blk_cell (blk_alloc B38.out o) 1).trans rfl
      have r2 := fun o => (blk_cell (blk_alloc B38.out o) 2).trans rfl
      have rf := fun o i => blk_frozen (blk_alloc B38.out o) i
      have s8 := fun o => (blk_cell (blk_alloc hP8.s o) 0).trans rfl
      have hs8 := hF8.size
      have hz4 := Z4.out
      have hz7 := Z7.out
      have hn1 : ¬ (w8.heap.size = w.heap.size + 1 + 1 + 1) := by omega
      have Q8 := Aside0.mk (hF8.below Q7.out.size (fun k hk => by omega) |> Q7.out.trans)
      have HO8 := Aside0.mk hO8
      have HZ7 := Lib.hid hz7
      clear hr hO8 hP8 hF8 hz7 hz4
      by_cases hle : r.2 ≤ 24
      · have hle2 : decide ((24 : Int) < (r.2 : Int)) = false := decide_eq_false (by omega)
        go_wp2
        have b6 := blk_put (blk_put (blk_put (blk_alloc B38.out (.cells #[.int .i64 r.1.f0, .string r.1.f1, .slice A8 r.1.f2.length c8] 24)) 0 (.int .i64 r.1.f0) rfl) 1 (.string r.1.f1) rfl) 2 (.slice A8 r.1.f2.length c8) rfl
        refine bodyPost_ret (results_ct rfl _ _ _ _ _ _ _ rfl b6 Try.underlying24 rfl (by kernel_rfl)) rfl ?_
        have hsub : subP vars bys e = (r.1, 0) := by rw [subP, if_pos HL.out, HTt.out, HRr.out, if_pos hle]; rfl
        rw [hsub]
        have hlow : w.heap.size + 1 + 1 + 1 < W7.heap.size := by have := Z4.out; have := HZ7.out; omega
        have hO := Kd.R_below HO8.out (below_alloc1 w8 (.cells #[.int .i64 r.1.f0, .string r.1.f1, .slice A8 r.1.f2.length c8] 24))
        exact ⟨_, rfl, Kd.R_lower (OwnE.set (OwnE.set (OwnE.set hO hlow _ _) hlow _ _) hlow _ _) (by omega), (((Q8.out.alloc (by omega) _).setCell (by simp only; omega) _).setCell (by simp only; omega) _).setCell (by simp only; omega) _⟩
      · have hle2 : decide ((24 : Int) < (r.2 : Int)) = true := decide_eq_true (by omega)
        go_wp2
        have b6 := blk_put (blk_put (blk_put (blk_alloc B38.out (.cells #[.int .i64 r.1.f0, .string r.1.f1, .slice A8 r.1.f2.length c8] 24)) 0 (.int .i64 0) rfl) 1 (.string ⟨#[]⟩) rfl) 2 (.slice none 0 0) rfl
        refine bodyPost_ret (results_ct rfl _ _ _ _ _ _ _ rfl b6 Try.underlying24 rfl (by kernel_rfl)) rfl ?_
        have hsub : subP vars bys e = (noE, 2) := by rw [subP, if_pos HL.out, HTt.out, HRr.out, if_neg hle]; rfl
        rw [hsub]
        have hlow : w.heap.size ≤ w8.heap.size := Q8.out.size
        exact ⟨_, rfl, Kd.R_nil _ _ _ _ _, (((Q8.out.alloc hlow _).setCell (by simp only; omega) _).setCell (by simp only; omega) _).setCell (by simp only; omega) _⟩
  · have hl1 : ((vars.length : Int) != (bys.length : Int)) = true := by simp only [bne_iff_ne, ne_eq]; omega
    have HL := Lib.hid hl
    clear hl
    go_enter Try.func15, Try.ntmps15
    go_wp2_with fail
    have b6 := blk_put (blk_put (blk_put B3.out 0 (.int .i64 0) rfl) 1 (.string ⟨#[]⟩) rfl) 2 (.slice none 0 0) rfl
    refine bodyPost_ret (results_ct rfl _ _ _ _ _ _ _ rfl b6 Try.underlying24 rfl (by kernel_rfl)) rfl ?_
    have hsub : subP vars bys e = (noE, 7) := by rw [subP, if_neg HL.out]
    rw [hsub]
    exact ⟨_, rfl, Kd.R_nil _ _ _ _ _, ((Q4.out.setCell (by simp only; omega) _).setCell (by simp only; omega) _).setCell (by simp only; omega) _⟩
end Go.Proofs.Ytacefdkfbpgedaa.Mine
/- prog's named. -/
namespace Go.Proofs.Ytacefdkfbpgedaa.Mine
open Go.Proofs.Ytacefdkfbpgedaa.PProgExprs
open Go.RowKit Go.Shelf Go.Lib Go.Proofs.YtacefdkfbpgedaaW.PrintWords Go.Proofs.YtacefdkfbpgedaaW.PrintLast Go.Proofs.YtacefdkfbpgedaaW.PrintMore
set_option linter.unusedVariables false
set_option linter.unusedSimpArgs false

def letB (b : UInt8) : Bool := decide (97 ≤ b.toNat) && decide (b.toNat ≤ 122)
/-- A text is a name. -/
def nameB (s : ByteArray) : Bool := decide (0 < s.size) && decide (s.size ≤ 8) && s.data.toList.all letB
theorem nameB_no {s : ByteArray} {k : Nat} (h : k < s.size) (hb : letB s[k] = false) : nameB s = false := by
  have : s.data.toList.all letB = false := by
    rw [List.all_eq_false]
    exact ⟨s[k], by rw [show s[k] = s.data.toList[k]'(by simpa using h) from rfl]; exact List.getElem_mem _, by rw [hb]; simp⟩
  rw [nameB, this, Bool.and_false]
theorem nameB_yes {s : ByteArray} (h : ∀ (k : Nat) (h : k < s.size), letB (s[k]'h) = true) : nameB s = (decide (0 < s.size) && decide (s.size ≤ 8)) := by
  have : s.data.toList.all letB = true := by
    rw [List.all_eq_true]
    intro x hx
    obtain ⟨i, hi, rfl⟩ := List.getElem_of_mem hx
    exact h i (by simpa using hi)
  rw [nameB, this, Bool.and_true]

set_option maxRecDepth 100000 in
set_option maxHeartbeats 2000000 in
theorem c_named (s : ByteArray) (w : World) :
    Calls Try.prog 89 #[.string s] w fun en w' => en = .returned (.bool (nameB s)) ∧ Below w.heap.size w w' := by
  obtain ⟨W0, hW0⟩ : ∃ W0, w.iter s 0 = W0 := ⟨_, rfl⟩
  have b0 : W0.heap[w.heap.size]? = some (.stringIter s 0) := by rw [← hW0]; exact alloc_at w (.stringIter s 0)
  have q0 : Below w.heap.size w W0 := by rw [← hW0]; exact below_alloc1 w (.stringIter s 0)
  have B0 := Aside0.mk b0
  have Q0 := Aside0.mk q0
  clear b0 q0
  by_cases hp : 0 < s.size
  · have hp1 : decide ((0 : Int) < (s.size : Int)) = true := decide_eq_true (by omega)
    by_cases h8 : s.size ≤ 8
    · have h81 : decide ((s.size : Int) ≤ 8) = true := decide_eq_true (by omega)
      have HN := Lib.hid (show (decide (0 < s.size) && decide (s.size ≤ 8)) = true by simp [hp, h8])
      go_enter Try.func89, Try.ntmps89
      go_wp2
      go_step3
      go_wp2
      go_step3
      go_wp2
      try rw [hW0]
      go_loopg [3] s.size (fun gg s3 wr => ∃ pos : Nat, pos ≤ s.size ∧ s.size - pos ≤ gg ∧ s3 = .bool true ∧ Aside0 (wr.heap[w.heap.size]? = some (.stringIter s pos)) ∧ Aside0 (∀ (k : Nat) (h : k < s.size), k < pos → letB (s[k]'h) = true) ∧ Aside0 (Below w.heap.size w wr))
      case atStart => exact ⟨0, Nat.zero_le _, by omega, rfl, B0, ⟨fun k h hk => absurd hk (Nat.not_lt_zero _)⟩, Q0⟩
      case round =>
        obtain ⟨pos, hle, hg, rfl, HI, HA, HB⟩ := hrel
        by_cases hlt : pos < s.size
        · by_cases hlet : letB (s[pos]'hlt) = true
          · have h2 := hlet
            simp only [letB, Bool.and_eq_true, decide_eq_true_iff] at h2
            have hn1 : decide (((s[pos]'hlt).toNat : Int) < 97) = false := decide_eq_false (by omega)
            have hn2 : decide ((122 : Int) < ((s[pos]'hlt).toNat : Int)) = false := decide_eq_false (by omega)
            have hnx : ∀ ty, (Instr.next (.pointer (some ⟨w.heap.size, 0, none⟩)) true ty).run Try.prog wr = _ := fun ty => run_next_ascii_at wr w.heap.size s pos ty HI.out hlt (by omega)
            have HL := Lib.hid hlet
            clear hlet h2
            go_wp2
            go_roundg (s.size - (pos + 1))
            case measure => omega
            case rel => exact ⟨pos + 1, by omega, by omega, rfl, ⟨iterAt_heap _ _ _ _ _ HI.out⟩, ⟨fun k h hk => by
              rcases Nat.lt_or_ge k pos with h3 | h3
              · exact HA.out k h h3
              · obtain rfl : k = pos := by omega
                exact HL.out⟩, ⟨below_iterAt HB.out (Nat.le_refl _) _ _⟩⟩
          · have hb : letB (s[pos]'hlt) = false := by simpa using hlet
            have HL := Lib.hid hb
            have hr : (decide (((Utf8.decode s pos).1 : Int) < 97) || decide ((122 : Int) < ((Utf8.decode s pos).1 : Int))) = true := by
              by_cases ha : (s[pos]'hlt).toNat < 128
              · rw [decode_ascii s pos hlt ha]
                simp only [letB, Bool.and_eq_true, decide_eq_true_iff] at hlet
                simp only [Bool.or_eq_true, decide_eq_true_iff]
                omega
              · have := (decode_high s pos hlt (by omega)).1
                simp only [Bool.or_eq_true, decide_eq_true_iff]
                omega
            obtain ⟨rn, hrn⟩ : ∃ rn, Utf8.decode s pos = rn := ⟨_, rfl⟩
            have hnx : ∀ ty, (Instr.next (.pointer (some ⟨w.heap.size, 0, none⟩)) true ty).run Try.prog wr = _ := fun ty => run_next_any_at wr w.heap.size s pos ty HI.out hlt
            rw [hrn] at hr hnx
            cases h1 : decide ((rn.1 : Int) < 97) with
            | true =>
              clear hrn hr hb hlet
              go_wp2
              rw [Exit.noGoto_ret]; go_ret
              exact ⟨retb (nameB_no hlt HL.out).symm, below_iterAt HB.out (Nat.le_refl _) _ _⟩
            | false =>
              rw [h1, Bool.false_or] at hr
              clear hrn hb hlet
              go_wp2
              rw [Exit.noGoto_ret]; go_ret
              exact ⟨retb (nameB_no hlt HL.out).symm, below_iterAt HB.out (Nat.le_refl _) _ _⟩
        · have hnx : ∀ ty, (Instr.next (.pointer (some ⟨w.heap.size, 0, none⟩)) true ty).run Try.prog wr = _ := fun ty => run_next_end_at wr w.heap.size s pos ty HI.out hlt
          go_wp2
          rw [Exit.noGoto_ret]; go_ret
          exact ⟨retb (by rw [nameB_yes (fun k h => HA.out k h (by omega)), HN.out]), HB.out⟩
    · have h81 : decide ((s.size : Int) ≤ 8) = false := decide_eq_false (by omega)
      have HN := Lib.hid (show (decide (0 < s.size) && decide (s.size ≤ 8)) = false by simp [h8])
      go_enter Try.func89, Try.ntmps89
      go_wp2
      go_step3
      go_wp2
      go_step3
      go_wp2
      try rw [hW0]
      go_loopg [3] s.size (fun gg s3 wr => ∃ pos : Nat, pos ≤ s.size ∧ s.size - pos ≤ gg ∧ s3 = .bool false ∧ Aside0 (wr.heap[w.heap.size]? = some (.stringIter s pos)) ∧ Aside0 (∀ (k : Nat) (h : k < s.size), k < pos → letB (s[k]'h) = true) ∧ Aside0 (Below w.heap.size w wr))
      case atStart => exact ⟨0, Nat.zero_le _, by omega, rfl, B0, ⟨fun k h hk => absurd hk (Nat.not_lt_zero _)⟩, Q0⟩
      case round =>
        obtain ⟨pos, hle, hg, rfl, HI, HA, HB⟩ := hrel
        by_cases hlt : pos < s.size
        · by_cases hlet : letB (s[pos]'hlt) = true
          · have h2 := hlet
            simp only [letB, Bool.and_eq_true, decide_eq_true_iff] at h2
            have hn1 : decide (((s[pos]'hlt).toNat : Int) < 97) = false := decide_eq_false (by omega)
            have hn2 : decide ((122 : Int) < ((s[pos]'hlt).toNat : Int)) = false := decide_eq_false (by omega)
            have hnx : ∀ ty, (Instr.next (.pointer (some ⟨w.heap.size, 0, none⟩)) true ty).run Try.prog wr = _ := fun ty => run_next_ascii_at wr w.heap.size s pos ty HI.out hlt (by omega)
            have HL := Lib.hid hlet
            clear hlet h2
            go_wp2
            go_roundg (s.size - (pos + 1))
            case measure => omega
            case rel => exact ⟨pos + 1, by omega, by omega, rfl, ⟨iterAt_heap _ _ _ _ _ HI.out⟩, ⟨fun k h hk => by
              rcases Nat.lt_or_ge k pos with h3 | h3
              · exact HA.out k h h3
              · obtain rfl : k = pos := by omega
                exact HL.out⟩, ⟨below_iterAt HB.out (Nat.le_refl _) _ _⟩⟩
          · have hb : letB (s[pos]'hlt) = false := by simpa using hlet
            have HL := Lib.hid hb
            have hr : (decide (((Utf8.decode s pos).1 : Int) < 97) || decide ((122 : Int) < ((Utf8.decode s pos).1 : Int))) = true := by
              by_cases ha : (s[pos]'hlt).toNat < 128
              · rw [decode_ascii s pos hlt ha]
                simp only [letB, Bool.and_eq_true, decide_eq_true_iff] at hlet
                simp only [Bool.or_eq_true, decide_eq_true_iff]
                omega
              · have := (decode_high s pos hlt (by omega)).1
                simp only [Bool.or_eq_true, decide_eq_true_iff]
                omega
            obtain ⟨rn, hrn⟩ : ∃ rn, Utf8.decode s pos = rn := ⟨_, rfl⟩
            have hnx : ∀ ty, (Instr.next (.pointer (some ⟨w.heap.size, 0, none⟩)) true ty).run Try.prog wr = _ := fun ty => run_next_any_at wr w.heap.size s pos ty HI.out hlt
            rw [hrn] at hr hnx
            cases h1 : decide ((rn.1 : Int) < 97) with
            | true =>
              clear hrn hr hb hlet
              go_wp2
              rw [Exit.noGoto_ret]; go_ret
              exact ⟨retb (nameB_no hlt HL.out).symm, below_iterAt HB.out (Nat.le_refl _) _ _⟩
            | false =>
              rw [h1, Bool.false_or] at hr
              clear hrn hb hlet
              go_wp2
              rw [Exit.noGoto_ret]; go_ret
              exact ⟨retb (nameB_no hlt HL.out).symm, below_iterAt HB.out (Nat.le_refl _) _ _⟩
        · have hnx : ∀ ty, (Instr.next (.pointer (some ⟨w.heap.size, 0, none⟩)) true ty).run Try.prog wr = _ := fun ty => run_next_end_at wr w.heap.size s pos ty HI.out hlt
          go_wp2
          rw [Exit.noGoto_ret]; go_ret
          exact ⟨retb (by rw [nameB_yes (fun k h => HA.out k h (by omega)), HN.out]), HB.out⟩
  · have hp1 : decide ((0 : Int) < (s.size : Int)) = false := decide_eq_false (by omega)
    have HN := Lib.hid (show (decide (0 < s.size) && decide (s.size ≤ 8)) = false by simp [hp])
    go_enter Try.func89, Try.ntmps89
    go_wp2
    go_step3
    go_wp2
    go_step3
    go_wp2
    try rw [hW0]
    go_loopg [3] s.size (fun gg s3 wr => ∃ pos : Nat, pos ≤ s.size ∧ s.size - pos ≤ gg ∧ s3 = .bool false ∧ Aside0 (wr.heap[w.heap.size]? = some (.stringIter s pos)) ∧ Aside0 (∀ (k : Nat) (h : k < s.size), k < pos → letB (s[k]'h) = true) ∧ Aside0 (Below w.heap.size w wr))
    case atStart => exact ⟨0, Nat.zero_le _, by omega, rfl, B0, ⟨fun k h hk => absurd hk (Nat.not_lt_zero _)⟩, Q0⟩
    case round =>
      obtain ⟨pos, hle, hg, rfl, HI, HA, HB⟩ := hrel
      by_cases hlt : pos < s.size
      · by_cases hlet : letB (s[pos]'hlt) = true
        · have h2 := hlet
          simp only [letB, Bool.and_eq_true, decide_eq_true_iff] at h2
          have hn1 : decide (((s[pos]'hlt).toNat : Int) < 97) = false := decide_eq_false (by omega)
          have hn2 : decide ((122 : Int) < ((s[pos]'hlt).toNat : Int)) = false := decide_eq_false (by omega)
          have hnx : ∀ ty, (Instr.next (.pointer (some ⟨w.heap.size, 0, none⟩)) true ty).run Try.prog wr = _ := fun ty => run_next_ascii_at wr w.heap.size s pos ty HI.out hlt (by omega)
          have HL := Lib.hid hlet
          clear hlet h2
          go_wp2
          go_roundg (s.size - (pos + 1))
          case measure => omega
          case rel => exact ⟨pos + 1, by omega, by omega, rfl, ⟨iterAt_heap _ _ _ _ _ HI.out⟩, ⟨fun k h hk => by
            rcases Nat.lt_or_ge k pos with h3 | h3
            · exact HA.out k h h3
            · obtain rfl : k = pos := by omega
              exact HL.out⟩, ⟨below_iterAt HB.out (Nat.le_refl _) _ _⟩⟩
        · have hb : letB (s[pos]'hlt) = false := by simpa using hlet
          have HL := Lib.hid hb
          have hr : (decide (((Utf8.decode s pos).1 : Int) < 97) || decide ((122 : Int) < ((Utf8.decode s pos).1 : Int))) = true := by
            by_cases ha : (s[pos]'hlt).toNat < 128
            · rw [decode_ascii s pos hlt ha]
              simp only [letB, Bool.and_eq_true, decide_eq_true_iff] at hlet
              simp only [Bool.or_eq_true, decide_eq_true_iff]
              omega
            · have := (decode_high s pos hlt (by omega)).1
              simp only [Bool.or_eq_true, decide_eq_true_iff]
              omega
          obtain ⟨rn, hrn⟩ : ∃ rn, Utf8.decode s pos = rn := ⟨_, rfl⟩
          have hnx : ∀ ty, (Instr.next (.pointer (some ⟨w.heap.size, 0, none⟩)) true ty).run Try.prog wr = _ := fun ty => run_next_any_at wr w.heap.size s pos ty HI.out hlt
          rw [hrn] at hr hnx
          cases h1 : decide ((rn.1 : Int) < 97) with
          | true =>
            clear hrn hr hb hlet
            go_wp2
            rw [Exit.noGoto_ret]; go_ret
            exact ⟨retb (nameB_no hlt HL.out).symm, below_iterAt HB.out (Nat.le_refl _) _ _⟩
          | false =>
            rw [h1, Bool.false_or] at hr
            clear hrn hb hlet
            go_wp2
            rw [Exit.noGoto_ret]; go_ret
            exact ⟨retb (nameB_no hlt HL.out).symm, below_iterAt HB.out (Nat.le_refl _) _ _⟩
      · have hnx : ∀ ty, (Instr.next (.pointer (some ⟨w.heap.size, 0, none⟩)) true ty).run Try.prog wr = _ := fun ty => run_next_end_at wr w.heap.size s pos ty HI.out hlt
        go_wp2
        rw [Exit.noGoto_ret]; go_ret
        exact ⟨retb (by rw [nameB_yes (fun k h => HA.out k h (by omega)), HN.out]), HB.out⟩
end Go.Proofs.Ytacefdkfbpgedaa.Mine
/- Lists of texts: Dup, slices.Clone, slices.Grow, slices.Concat. -/
namespace Go.Proofs.Ytacefdkfbpgedaa.Mine
open Go.Proofs.Ytacefdkfbpgedaa.PProgExprs
open Go.RowKit Go.Shelf Go.Proofs.YtacefdkfbpgedaaW.PrintWords Go.Proofs.YtacefdkfbpgedaaW.PrintLast Go.Proofs.YtacefdkfbpgedaaW.PrintMore
set_option linter.unusedVariables false
set_option linter.unusedSimpArgs false

theorem infoTx : (Try.prog.info? 9).map (fun i => (i.zero, i.size, i.bytes)) = some (some (.string ⟨#[]⟩), 1, 16) := by kernel_rfl
/-- A row of texts of the call's own. -/
abbrev OwnT (W : World) (base : Nat) (v : Value) (l : List ByteArray) : Prop := Kd.R Kd.string 9 W base (fun _ => True) v l
theorem OwnT.new (w : World) : OwnT (w.alloc (.cells #[] 9)) w.heap.size (.slice (some ⟨w.heap.size, 0, none⟩) 0 0) [] :=
  ⟨fun _ _ => trivial, [], World.ownsRow_lit (base := w.heap.size) (e := 9) (size := 1) w #[] 0 (Nat.le_refl _) (by simp [maxLen]) (by simp), Reps.none _ _⟩

set_option maxRecDepth 100000 in
set_option maxHeartbeats 2000000 in
theorem c_Dup (A : Option Addr) (c : Nat) (l : List ByteArray) (w : World) (hr : Kd.C Kd.string w A l.length l) (hc : l.length ≤ c) (hl : l.length ≤ 1000000) :
    Calls Try.prog 13 #[.slice A l.length c] w fun en w' => ∃ v, en = .returned v ∧ OwnT w' w.heap.size v l ∧ Below w.heap.size w w' := by
  have HR := Aside0.mk hr
  clear hr
  go_enter Try.func13, Try.ntmps13
  go_wp2_with (at_builtin; refine Kd.R_append_rows Kd.string (w0 := w) w.heap.size rfl (.tmp 3) (.tmp 4) 25 9 (.string ⟨#[]⟩) 16 rfl Try.underlying25 infoTx rfl (by decide) (by decide) _ [] l A l.length c (fun _ => True) (fun _ => False) rfl rfl (OwnT.new w) (Kd.C_below HR.out (below_alloc1 _ _)) (fun _ _ h => h) (fun _ h => h.elim) (fun _ _ => trivial) (below_alloc1 _ _) (by simp) (by simp; omega) ?_; intro v1 w1 ho hb _ _; have HO := Aside0.mk ho; clear ho)
  go_ret
  exact ⟨_, rfl, by simpa using HO.out, hb⟩

set_option maxRecDepth 100000 in
set_option maxHeartbeats 2000000 in
theorem c_CloneS (A : Option Addr) (c : Nat) (l : List ByteArray) (w : World) (hr : Kd.C Kd.string w A l.length l) (hc : l.length ≤ c) (hl : l.length ≤ 1000000) :
    Calls Try.prog 118 #[.slice A l.length c] w fun en w' => ∃ v, en = .returned v ∧ OwnT w' w.heap.size v l ∧ Below w.heap.size w w' := by
  have HR := Aside0.mk hr
  cases A with
  | none =>
    have h0 : l = [] := by
      cases l with
      | nil => rfl
      | cons x xs => obtain ⟨ad, _, h, _⟩ := cget hr 0 (by simp); cases h
    subst h0
    clear hr
    have he := @Go.Lib.run_eql_slice_nil Try.prog
    go_enter Try.func118, Try.ntmps118
    go_wp2
    go_ret
    exact ⟨_, rfl, Kd.R_nil _ _ _ _ _, Below.refl _ _⟩
  | some ad =>
    clear hr
    have he := @Go.Lib.run_eql_slice_nil Try.prog
    go_enter Try.func118, Try.ntmps118
    go_wp2_with (at_builtin; refine Kd.R_append_rows Kd.string (w0 := w) w.heap.size rfl (.tmp 5) (.tmp 6) 25 9 (.string ⟨#[]⟩) 16 rfl Try.underlying25 infoTx rfl (by decide) (by decide) _ [] l (some ad) l.length c (fun _ => True) (fun _ => False) rfl rfl (OwnT.new w) (Kd.C_below HR.out (below_alloc1 _ _)) (fun _ _ h => h) (fun _ h => h.elim) (fun _ _ => trivial) (below_alloc1 _ _) (by simp) (by simp; omega) ?_; intro v1 w1 ho hb _ _; have HO := Aside0.mk ho; clear ho)
    go_ret
    exact ⟨_, rfl, by simpa using HO.out, hb⟩

set_option maxRecDepth 100000 in
set_option maxHeartbeats 2000000 in
/-- slices.Grow of no list. -/
theorem c_GrowS (n : Nat) (w : World) (hn : n ≤ 2000000) :
    Calls Try.prog 127 #[.slice none 0 0, .int .i64 n] w fun en w' => ∃ v, en = .returned v ∧ OwnT w' w.heap.size v [] ∧ Below w.heap.size w w' := by
  by_cases h0 : n = 0
  · subst h0
    go_enter Try.func127, Try.ntmps127
    go_wp2
    go_ret
    exact ⟨_, rfl, Kd.R_nil _ _ _ _ _, Below.refl _ _⟩
  · have hp : decide ((0 : Int) < (n : Int)) = true := decide_eq_true (by omega)
    have hlt : decide ((n : Int) < 0) = false := decide_eq_false (by omega)
    have hpn : 0 < n := by omega
    clear h0
    go_enter Try.func127, Try.ntmps127
    go_wp2_with (at_builtin; refine Kd.R_append_zeros Kd.string (w0 := w) w.heap.size rfl (.tmp 20) (.tmp 21) 25 3 9 (.string ⟨#[]⟩) 16 rfl Try.underlying25 Try.underlying3 infoTx rfl (by decide) (by decide) (.slice none 0 0) [] ⟨#[]⟩ n (fun _ => True) rfl rfl rfl (fun _ _ => trivial) (Kd.R_nil _ _ _ _ _) (by omega) (Below.refl _ _) (Nat.le_refl _) (by simp; omega) ?_; intro v1 w1 ho hb _ _; obtain ⟨ad, c1, hv⟩ := Kd.R_slice1 ho (by simpa using hpn); subst hv; have hc1 := own_cap ho.2.choose_spec.1; have HO := Aside0.mk ho; clear ho)
    go_ret
    exact ⟨_, rfl, by simpa using Kd.R_take HO.out (Nat.zero_le _), hb⟩

/-- How many texts the first k lists have. -/
def lensN (rows : List (List ByteArray)) (k : Nat) : Nat := ((rows.take k).map List.length).sum
theorem lensN_zero (rows : List (List ByteArray)) : lensN rows 0 = 0 := by simp [lensN]
theorem lensN_le {rows : List (List ByteArray)} (k : Nat) : lensN rows k ≤ (rows.map List.length).sum := by
  unfold lensN
  conv => rhs; rw [← List.take_append_drop k rows, List.map_append, List.sum_append]
  omega
theorem lensN_succ {rows : List (List ByteArray)} {k : Nat} (h : k < rows.length) : lensN rows (k + 1) = lensN rows k + rows[k].length := by
  unfold lensN
  rw [take_snoc h, List.map_append, List.sum_append]; simp
theorem lensN_flat (rows : List (List ByteArray)) (k : Nat) : (rows.take k).flatten.length = lensN rows k := by simp [lensN, List.length_flatten]
theorem flat_succ {rows : List (List ByteArray)} {k : Nat} (h : k < rows.length) : (rows.take (k + 1)).flatten = (rows.take k).flatten ++ rows[k] := by
  rw [take_snoc h, List.flatten_append]; simp
theorem flat_len (rows : List (List ByteArray)) : rows.flatten.length = (rows.map List.length).sum := by simp [List.length_flatten]

set_option maxRecDepth 100000 in
set_option maxHeartbeats 2000000 in
/-- slices.Concat. -/
theorem c_ConcatS (A : Option Addr) (c : Nat) (rows : List (List ByteArray)) (w : World) (hr : Kd.C (Kd.slice 9 Kd.string) w A rows.length rows) (hc : rows.length ≤ c) (hl : (rows.map List.length).sum ≤ 1000000) :
    Calls Try.prog 114 #[.slice A rows.length c] w fun en w' => ∃ v, en = .returned v ∧ OwnT w' w.heap.size v rows.flatten ∧ Below w.heap.size w w' := by
  have hm := hr.2.1
  have HR := Aside0.mk hr
  clear hr
  go_enter Try.func114, Try.ntmps114
  go_wp2
  go_loopg [3, 11] rows.length (fun gg s3 s11 wr => ∃ kk : Nat, kk ≤ rows.length ∧ rows.length - kk ≤ gg ∧ s11 = .int .i64 kk ∧ s3 = .int .i64 (lensN rows kk : Nat) ∧ wr = w)
  case atStart => exact ⟨0, Nat.zero_le _, by omega, rfl, by rw [lensN_zero]; rfl, rfl⟩
  case round =>
    obtain ⟨kk, hkk, hg, rfl, rfl, rfl⟩ := hrel
    have m1 := lensN_le (rows := rows) kk
    by_cases hlt : kk < rows.length
    · have hltz : (kk : Int) < (rows.length : Int) := by omega
      obtain ⟨ad, c0, rfl, hK, k0⟩ := get1 rfl HR.out kk hlt
      obtain ⟨A2, a2, he, hl2, hr2⟩ := hK
      obtain rfl : c0 = _ := by simpa using he
      have m2 := lensN_le (rows := rows) (kk + 1)
      have hs := lensN_succ hlt
      rw [hs] at m2
      have HS := Lib.hid hs
      have hn0 : decide (((lensN rows kk : Nat) : Int) + (rows[kk].length : Int) < 0) = false := decide_eq_false (by omega)
      clear hs he
      go_wp2
      go_roundg (rows.length - (kk + 1))
      case measure => omega
      case rel => exact ⟨kk + 1, by omega, by omega, by go_num, by rw [HS.out]; go_num, rfl⟩
    · have : kk = rows.length := by omega
      subst this
      obtain ⟨wo, rfl⟩ : ∃ wo : World, wo = wr := ⟨_, rfl⟩
      have HG := Lib.hid (fun W => c_GrowS (lensN rows rows.length) W (by omega))
      go_wp2_with fail
      refine (HG.out _).mono ?_
      rintro en w0 ⟨v0, rfl, ho, hb⟩
      have HO0 := Aside0.mk ho
      have HB0 := Aside0.mk hb
      have hsz := hb.size
      clear ho hb
      go_wp2
      go_loopg [6, 27] rows.length (fun gg s6 s27 wx => ∃ kk : Nat, kk ≤ rows.length ∧ rows.length - kk ≤ gg ∧ s27 = .int .i64 kk ∧ Aside0 (OwnT wx wo.heap.size s6 (rows.take kk).flatten) ∧ Aside0 (Below wo.heap.size wo wx))
      case atStart => exact ⟨0, Nat.zero_le _, by omega, rfl, HO0, HB0⟩
      case round =>
        obtain ⟨kk, hkk, hg, rfl, HO, HB⟩ := hrel
        by_cases hlt : kk < rows.length
        · have hltz : (kk : Int) < (rows.length : Int) := by omega
          obtain ⟨ad, c0, rfl, hK, k0⟩ := get1 rfl (Kd.C_below HR.out HB.out) kk hlt
          obtain ⟨A2, a2, he, hl2, hr2⟩ := hK
          obtain rfl : c0 = _ := by simpa using he
          have m2 := lensN_le (rows := rows) (kk + 1)
          have hs := lensN_succ hlt
          have hf := lensN_flat rows kk
          rw [hs] at m2
          have HR2 := Aside0.mk hr2
          have hsz := HB.out.size
          obtain ⟨acc, hacc⟩ : ∃ acc, (rows.take kk).flatten = acc := ⟨_, rfl⟩
          rw [hacc] at HO hf
          have HA := Lib.hid hacc
          have HF := Lib.hid hf
          obtain ⟨Av, cv, rfl⟩ := Kd.R_slice HO.out
          clear hs hf he hr2 hacc
          go_wp2_with (at_builtin; refine Kd.R_append_rows Kd.string (w0 := wo) wo.heap.size rfl (.tmp 31) (.tmp 32) 25 9 (.string ⟨#[]⟩) 16 rfl Try.underlying25 infoTx rfl (by decide) (by decide) _ acc rows[kk] A2 rows[kk].length a2 (fun _ => True) (fun _ => False) rfl rfl HO.out HR2.out (fun _ _ h => h) (fun _ h => h.elim) (fun _ _ => trivial) HB.out hsz (by rw [HF.out]; omega) ?_; intro v1 w1 ho hb _ _; have HO1 := Aside0.mk ho; clear ho)
          go_roundg (rows.length - (kk + 1))
          case measure => omega
          case rel => exact ⟨kk + 1, by omega, by omega, by go_num, ⟨by rw [flat_succ hlt, HA.out]; exact HO1.out⟩, ⟨hb⟩⟩
        · have : kk = rows.length := by omega
          subst this
          go_wp2
          go_ret
          exact ⟨_, rfl, by simpa using HO.out, HB.out⟩
end Go.Proofs.Ytacefdkfbpgedaa.Mine
