/- prog's heads. -/
import Derived.Test.YtacefdkfbpgedaaQ2
import Derived.DeepKeys4
import Derived.Test.YtacefdkfbpgedaaQ8
import Derived.Test.YtacefdkfbpgedaaQ7
namespace Go.Proofs.Ytacefdkfbpgedaa.Mine
open Go.Proofs.Ytacefdkfbpgedaa.PProgExprs
open Go.RowKit Go.Shelf Go.Proofs.YtacefdkfbpgedaaW.PrintWords Go.Proofs.YtacefdkfbpgedaaW.PrintLast Go.Proofs.YtacefdkfbpgedaaW.PrintMore
set_option linter.unusedVariables false
set_option linter.unusedSimpArgs false

abbrev Hk := ByteArray × Int
def hkV (h : Hk) : Value := .agg #[.string h.1, .int .i64 h.2]
def hkOk (h : Hk) : Prop := h.1.size ≤ nmLim ∧ 0 ≤ h.2 ∧ h.2 ≤ 9223372036854775807
theorem head_type : Try.prog.keyType 132 = true := by kernel_rfl
theorem head_laid : laidOutB Try.prog = true := by kernel_rfl
theorem law_head : Go.Maps.Keyed Try.prog 132 := Go.Maps.Keyed.of_law (deep_law_laid head_laid (m := 4) (by omega) (of_decide_eq_true (p := 132 < Try.prog.types.size) (by kernel_rfl)) (by kernel_rfl) (by kernel_rfl))
theorem key_head {h : Hk} (hh : hkOk h) : ∃ l, keyOf Try.prog 132 (hkV h) = some l := by
  obtain ⟨s, n⟩ := h
  obtain ⟨h1, h2, h3⟩ := hh
  simp only at h1 h2 h3
  unfold nmLim at h1
  have hm : s.size ≤ maxLen := by unfold maxLen; omega
  have hw : (Lit.int .i64 n).wf = true := by simp [Lit.wf, IntKind.min, IntKind.max, IntKind.bits, IntKind.signed]; omega
  have hc : Try.prog.cellsOf 132 = 2 := by kernel_rfl
  have hcs : Try.prog.cellsOf 9 = 1 := by kernel_rfl
  have hci : Try.prog.cellsOf 3 = 1 := by kernel_rfl
  have e1 : (hkV (s, n)).formed Try.prog 132 = true := by
    unfold Value.formed hkV
    simp [Try.underlying132, hc]
  obtain ⟨m, hm2⟩ : ∃ m, Try.prog.types.size = m + 1 := ⟨Try.prog.types.size - 1, by
    have : decide (0 < Try.prog.types.size) = true := by kernel_rfl
    have := of_decide_eq_true this
    omega⟩
  have e2 : Try.prog.keyLits (Try.prog.types.size + 1) 132 (hkV (s, n)).cells.toList = some [.string s.data.toList, .int .i64 n] := by
    rw [hm2]
    simp [Program.keyLits, Try.underlying132, Try.underlying9, Try.underlying3, hkV, Value.cells, hc, hcs, hci, hm, hw]
  unfold keyOf
  rw [Try.underlying132]
  simp only [head_type, e1, Bool.and_self, if_true, e2]
  exact ⟨_, rfl⟩
noncomputable def hkL (h : Hk) : Lit := (keyOf Try.prog 132 (hkV h)).getD (.bool false)
theorem hkL_spec {h : Hk} (hh : hkOk h) : keyOf Try.prog 132 (hkV h) = some (hkL h) := by
  obtain ⟨l, hl⟩ := key_head hh
  rw [hkL, hl]; rfl
theorem hkL_inj {a b : Hk} (ha : hkOk a) (hb : hkOk b) (h : hkL a = hkL b) : a = b := by
  have h3 := hkL_spec hb
  rw [← h] at h3
  have := law_head.inj (hkL_spec ha) h3
  simp only [hkV, Value.agg.injEq, List.toArray_eq_toArray_eq] at this
  have h2 : Value.string a.1 = .string b.1 ∧ Value.int .i64 a.2 = .int .i64 b.2 := by simpa using this
  obtain ⟨h3, h4⟩ := h2
  cases a; cases b
  simp_all
/-- Block b is a map that has the heads of l. -/
def MHead (W : World) (b : Nat) (l : List Hk) : Prop :=
  ∃ (D : DataW Unit), W.ownsMap Try.prog 132 (plainElem Try.prog 4) b l.length D ∧ Maps.IsMap D ∧ ∀ h : Hk, hkOk h → D.atKey (hkL h) (.lit (.bool false)) = .lit (.bool (memB h l))
theorem MHead.made (w : World) : MHead (w.alloc (.map #[] 0)) w.heap.size [] := ⟨.map [], World.ownsMap_made _ _ _ _, Maps.isMap_empty, fun s _ => by simp [DataW.atKey, memB]⟩
theorem MHead.lt {W : World} {b : Nat} {l : List Hk} (h : MHead W b l) : b < W.heap.size := by obtain ⟨D, h, _⟩ := h; exact h.lt
theorem MHead.below {W W' : World} {b : Nat} {l : List Hk} (h : MHead W b l) (hb : Below W.heap.size W W') : MHead W' b l := by
  obtain ⟨D, h1, h2⟩ := h
  exact ⟨D, h1.kept (row := none) (grown_of_below hb none) (by simp), h2⟩
/-- The head of a case. -/
def headC (c : Ca) : Hk := (c.f0, (c.f1.length : Int))

set_option maxRecDepth 100000 in
set_option maxHeartbeats 2000000 in
theorem c_heads1 (x : Ca) (cs : List Value) (B b : Nat) (l : List Hk) (w : World) (hK : k99.K w x cs) (hs : x.f0.size ≤ nmLim) (hB : w.heap[B]? = some (.cells #[.map (some b)] 130 (0, 0))) (hm : MHead w b l) (hl : l.length < 1000000) :
    Calls Try.prog 128 #[.agg cs.toArray, .pointer (some ⟨B, 0, none⟩)] w fun e w' => e = .returned (.bool (!memB (headC x) l)) ∧ MHead w' b (l ++ [headC x]) ∧ Fr (fun k => k = b) w w' := by
  obtain ⟨A1, c1, A4, c4, rfl, l1, g1, l4, g4⟩ := k99_open hK
  have hok : hkOk (headC x) := ⟨hs, by simp [headC], by have := g1.2.1; simp only [headC]; omega⟩
  have hkey := hkL_spec hok
  have hml := g1.2.1
  obtain ⟨W2, hW2⟩ : ∃ W2, (w.alloc (.cells #[.string x.f0, .slice A1 x.f1.length c1, .int .i64 x.f2.f0, .string x.f2.f1, .slice A4 x.f2.f2.length c4] 99)).alloc (.cells #[.string x.f0, .int .i64 x.f1.length] 132) = W2 := ⟨_, rfl⟩
  have q2 : Below w.heap.size w W2 := by rw [← hW2]; exact below_alloc2 _ _ _
  obtain ⟨D, hown, hD, hat⟩ := hm.below q2
  have hB2 := blk_below hB q2
  have k0 := cell_of_one hB2
  obtain ⟨cc, hrun, hcc⟩ := lookup_bool hown law_head Try.underlying130 Try.underlying4 (zero_bool W2) hkey
  have hcc2 : cc = memB (headC x) l := (Lit.bool.inj (DataW.lit.inj ((hat _ hok).symm.trans hcc))).symm
  subst hcc2
  simp only [hkV, headC] at hrun
  rw [← hW2] at hrun k0
  have hlt := lt_of_block hB
  have hn1 : ¬ (B = w.heap.size) := by omega
  have hn2 : ¬ (B = w.heap.size + 1) := by omega
  have HO := Aside0.mk hown
  have HA := Lib.hid hat
  have HK := Lib.hid hkey
  have HD := Lib.hid hD
  have HQ := Lib.hid q2
  have HOk := Lib.hid hok
  have HW2 := Lib.hid hW2
  clear hown hat hkey hcc hB hB2 hD hm q2 hok hW2 g1 g4 hK
  go_enter Try.func128, Try.ntmps128
  go_wp2_with (at_mapUpdate; rw [HW2.out]; refine wpList_mapUpdate_own _ rfl _ _ _ 130 rfl 132 4 law_head Try.underlying130 (plainElem Try.prog 4) b l.length D rfl HO.out (by unfold maxLen; omega) _ _ (hkL (headC x)) rfl rfl HK.out (.lit (.bool true)) [] (plainElem_bool Try.underlying4 true) ?_; intro w1 hown1 hgrow1)
  go_ret
  refine ⟨retb rfl, ⟨D.put (hkL (headC x)) (.lit (.bool true)), by simpa using hown1, HD.out.put _ _, fun t ht => ?_⟩, (Fr.of_below _ HQ.out).grown hgrow1 (fun k hk => .inl (by cases hk; rfl))⟩
  by_cases he : t = headC x
  · subst he
    rw [Maps.atKey_put_same HD.out (law_head.key HK.out), memB_iff.2 (by simp)]
  · rw [Maps.atKey_put_other (fun h => he (hkL_inj ht HOk.out h)), HA.out t ht]
    have : memB t (l ++ [headC x]) = memB t l := by simp [memB]; intro h; exact absurd h.symm he
    rw [this]

set_option maxHeartbeats 2000000 in
theorem c_heads (A : Option Addr) (c : Nat) (l : List Ca) (w : World) (hr : Kd.C k99 w A l.length l) (hc : l.length ≤ c) (hs : ∀ x ∈ l, x.f0.size ≤ nmLim) (hl : l.length < 1000000) :
    Calls Try.prog 115 #[.slice A l.length c] w fun e w' => e = .returned (.bool (twB (l.map headC))) ∧ Below w.heap.size w w' := by
  have hmm := @run_makeMap Try.prog
  obtain ⟨W1, hW1⟩ : ∃ W1, (w.alloc (.map #[] 0)).alloc (.cells #[.map (some w.heap.size)] 130) = W1 := ⟨_, rfl⟩
  have b1 : Below w.heap.size w W1 := by rw [← hW1]; exact (below_alloc1 _ _).trans ((below_alloc1 _ _).mono (by simp))
  have s1 : W1.heap.size = w.heap.size + 2 := by rw [← hW1]; simp
  have m1 : MHead W1 w.heap.size [] := by rw [← hW1]; exact (MHead.made w).below (below_alloc1 _ _)
  have x1 : W1.heap[w.heap.size + 1]? = some (.cells #[.map (some w.heap.size)] 130 (0, 0)) := by rw [← hW1]; have := alloc_at (w.alloc (.map #[] 0)) (.cells #[.map (some w.heap.size)] 130); simpa using this
  have hml : ∀ i, i < l.length → ∀ (h : i < (l.map headC).length), (l.map headC)[i] = headC (l[i]'(by simpa using h)) := fun i _ h => by simp
  have HC := Lib.hid (evC A c l W1 hc (Fr (fun k => k = w.heap.size)) (Fr.rel _) (fun W W' k cs hk h ho => h.blk ho (by omega)) (fun W hW => Kd.C_below hr (((Fr.of_below _ b1).trans hW).below (Nat.le_refl _) (fun k hk he => by omega)))
    128 #[.pointer (some ⟨w.heap.size + 1, 0, none⟩)] (enters_of Try.func128 (by kernel_rfl) rfl)
    (fun i W => MHead W w.heap.size ((l.map headC).take i) ∧ W.heap[w.heap.size + 1]? = some (.cells #[.map (some w.heap.size)] 130 (0, 0)) ∧ ((l.map headC).take i).Nodup)
    (fun i W => Below w.heap.size w W ∧ ∃ h : i < (l.map headC).length, (l.map headC)[i] ∈ (l.map headC).take i)
    (fun i W W' h hb => ⟨h.1.below hb, blk_below h.2.1 hb, h.2.2⟩)
    (fun i x cs W hx hK _ hW hi => by
      obtain ⟨hil, rfl⟩ := List.getElem?_eq_some_iff.1 hx
      have hil2 : i < (l.map headC).length := by simpa using hil
      refine (c_heads1 l[i] cs (w.heap.size + 1) w.heap.size ((l.map headC).take i) W hK (hs _ (List.getElem_mem hil)) hi.2.1 hi.1 (by rw [List.length_take]; omega)).mono ?_
      rintro e W' ⟨rfl, hm, hfr⟩
      refine ⟨_, rfl, ?_⟩
      rw [← hml i hil hil2] at hm ⊢
      cases hmb : memB (l.map headC)[i] ((l.map headC).take i) with
      | true => exact ⟨((Fr.of_below _ b1).trans (hW.trans hfr)).below (Nat.le_refl _) (fun k hk he => by omega), hil2, memB_iff.1 hmb⟩
      | false => exact ⟨hfr, by rw [take_snoc hil2]; exact hm, hfr.blk hi.2.1 (by omega), nodup_take_succ hil2 hi.2.2 (memB_false.1 hmb)⟩)
    ⟨by simpa using m1, x1, by simp⟩)
  rw [← hW1] at HC
  have B1 := Aside0.mk b1
  have HW := Aside0.mk hW1
  clear m1 x1 hr hs b1 hW1 s1 hml
  go_enter Try.func115, Try.ntmps115
  go_wp2_with fail
  refine HC.out.mono ?_
  rintro e w' ⟨b, rfl, hb⟩
  cases b with
  | true =>
    have hfr := hb.1
    rw [HW.out] at hfr
    have HB := Aside0.mk (((Fr.of_below _ B1.out).trans hfr).below (n := w.heap.size) (Nat.le_refl _) (fun k hk he => by omega))
    have HI := Aside0.mk hb.2.2.2
    clear hb hfr
    go_wp2
    go_ret
    exact ⟨retb (by have := HI.out; rw [List.take_of_length_le (by simp)] at this; simp only [twB, this]; rfl), HB.out⟩
  | false =>
    obtain ⟨i, hi, hbel, hi2, hmem⟩ := hb
    have HB := Aside0.mk hbel
    have HM := Aside0.mk hmem
    clear hbel
    go_wp2
    go_ret
    exact ⟨retb (twB_of hi2 HM.out).symm, HB.out⟩
end Go.Proofs.Ytacefdkfbpgedaa.Mine
/- The closures of prog's right. -/
namespace Go.Proofs.Ytacefdkfbpgedaa.Mine
open Go.Proofs.Ytacefdkfbpgedaa.PProgExprs
open Go.RowKit Go.Shelf Go.Proofs.YtacefdkfbpgedaaW.PrintWords Go.Proofs.YtacefdkfbpgedaaW.PrintLast Go.Proofs.YtacefdkfbpgedaaW.PrintMore
set_option linter.unusedVariables false
set_option linter.unusedSimpArgs false

def fewB (e : Ex) : Bool := ((e.f0 != 2) || decide ((e.f2.length : Int) ≤ 4)) && ((e.f0 != 3) || decide ((e.f2.length : Int) ≤ 4))
def kindB (e : Ex) : Bool := (decide (1 ≤ e.f0) && decide (e.f0 ≤ 3)) && ((e.f0 != 1) || ((e.f2.length : Int) == 0))

set_option maxHeartbeats 2000000 in
theorem c_right1 (e : Ex) (A : Option Addr) (c : Nat) (w : World) (hm : e.f2.length ≤ 9223372036854775807) :
    Calls Try.prog 102 #[.agg #[.int .i64 e.f0, .string e.f1, .slice A e.f2.length c]] w fun en w' => en = .returned (.bool (fewB e)) ∧ Below w.heap.size w w' := by
  cases h1 : (e.f0 != 2) <;> cases h2 : decide ((e.f2.length : Int) ≤ 4) <;> cases h3 : (e.f0 != 3)
  all_goals
    have HF := Lib.hid (show fewB e = _ by rw [fewB, h1, h2, h3])
    go_enter Try.func102, Try.ntmps102
    go_wp2
    go_ret
    exact ⟨retb HF.out.symm, below_alloc1 _ _⟩
set_option maxHeartbeats 2000000 in
theorem c_right2 (e : Ex) (A : Option Addr) (c : Nat) (w : World) (hm : e.f2.length ≤ 9223372036854775807) :
    Calls Try.prog 103 #[.agg #[.int .i64 e.f0, .string e.f1, .slice A e.f2.length c]] w fun en w' => en = .returned (.bool (kindB e)) ∧ Below w.heap.size w w' := by
  cases h1 : decide (1 ≤ e.f0) <;> cases h2 : decide (e.f0 ≤ 3) <;> cases h3 : (e.f0 != 1) <;> cases h4 : ((e.f2.length : Int) == 0)
  all_goals
    have HF := Lib.hid (show kindB e = _ by rw [kindB, h1, h2, h3, h4])
    go_enter Try.func103, Try.ntmps103
    go_wp2
    go_ret
    exact ⟨retb HF.out.symm, below_alloc1 _ _⟩
set_option maxHeartbeats 1000000 in
theorem c_right4 (l : List ByteArray) (A : Option Addr) (c : Nat) (w : World) :
    Calls Try.prog 107 #[.slice A l.length c] w fun en w' => en = .returned (.bool (decide (l.length ≤ 4))) ∧ Below w.heap.size w w' := by
  go_enter Try.func107, Try.ntmps107
  go_wp2
  go_ret
  exact ⟨retb (by congr 1; exact propext (by omega)), Below.refl _ _⟩
set_option maxHeartbeats 1000000 in
theorem c_right5 (e : Ex) (A : Option Addr) (c : Nat) (w : World) (hz : szE e ≤ 1000000) (hr : Kd.C k24 w A e.f2.length e.f2) (hc : e.f2.length ≤ c) :
    Calls Try.prog 109 #[.agg #[.int .i64 e.f0, .string e.f1, .slice A e.f2.length c]] w fun en w' => en = .returned (.bool (decide (szE e ≤ 24))) ∧ Below w.heap.size w w' := by
  have q := below_alloc1 w (.cells #[.int .i64 e.f0, .string e.f1, .slice A e.f2.length c] 24)
  have HC := Lib.hid (c_Size _ e A c _ (Nat.le_refl _) hz (Kd.C_below hr q) hc)
  have HQ := Lib.hid q
  clear hr q
  go_enter Try.func109, Try.ntmps109
  go_wp2_with fail
  refine HC.out.mono ?_
  rintro en w' ⟨rfl, hb⟩
  go_wp2
  go_ret
  exact ⟨retb (by congr 1; exact propext (by omega)), HQ.out.trans (hb.mono HQ.out.size)⟩
set_option maxHeartbeats 1000000 in
theorem c_right6 (x : Ca) (cs : List Value) (w : World) (hK : k99.K w x cs) :
    Calls Try.prog 110 #[.agg cs.toArray] w fun en w' => en = .returned (.bool (nameB x.f0)) ∧ Below w.heap.size w w' := by
  obtain ⟨A1, c1, A4, c4, rfl, l1, g1, l4, g4⟩ := k99_open hK
  have HC := Lib.hid (fun W => c_named x.f0 W)
  have HQ := Lib.hid (below_alloc1 w (.cells #[.string x.f0, .slice A1 x.f1.length c1, .int .i64 x.f2.f0, .string x.f2.f1, .slice A4 x.f2.f2.length c4] 99))
  clear g1 g4 hK
  go_enter Try.func110, Try.ntmps110
  go_wp2_with fail
  refine (HC.out _).mono ?_
  rintro en w' ⟨rfl, hb⟩
  go_wp2
  go_ret
  exact ⟨rfl, HQ.out.trans (hb.mono HQ.out.size)⟩
set_option maxHeartbeats 1000000 in
theorem c_right7 (l : List ByteArray) (A : Option Addr) (c : Nat) (w : World) (hr : Kd.C Kd.string w A l.length l) (hc : l.length ≤ c) :
    Calls Try.prog 111 #[.slice A l.length c] w fun en w' => en = .returned (.bool (l.all nameB)) ∧ Below w.heap.size w w' := by
  have HC := Lib.hid (evS_p A c l w hc hr 89 #[] (enters_of Try.func89 (by kernel_rfl) rfl) nameB (fun x cs W _ _ _ => c_named x W))
  clear hr
  go_enter Try.func111, Try.ntmps111
  go_wp2_with fail
  refine HC.out.mono ?_
  rintro en w' ⟨rfl, hb⟩
  go_wp2
  go_ret
  exact ⟨rfl, hb⟩
set_option maxHeartbeats 1000000 in
theorem c_right8 (e : Ex) (A : Option Addr) (c : Nat) (w : World) :
    Calls Try.prog 112 #[.agg #[.int .i64 e.f0, .string e.f1, .slice A e.f2.length c]] w fun en w' => en = .returned (.bool (nameB e.f1)) ∧ Below w.heap.size w w' := by
  have q := below_alloc1 w (.cells #[.int .i64 e.f0, .string e.f1, .slice A e.f2.length c] 24)
  have HC := Lib.hid (fun W => c_named e.f1 W)
  have HQ := Lib.hid q
  clear q
  go_enter Try.func112, Try.ntmps112
  go_wp2_with fail
  refine (HC.out _).mono ?_
  rintro en w' ⟨rfl, hb⟩
  go_wp2
  go_ret
  exact ⟨rfl, HQ.out.trans (hb.mono HQ.out.size)⟩
/-- A list of two lists. -/
theorem C_two (W : World) (A1 A2 : Option Addr) (l1 l2 : List ByteArray) (c1 c2 : Nat) (h1 : l1.length ≤ c1) (h2 : l2.length ≤ c2) (r1 : Kd.C Kd.string W A1 l1.length l1) (r2 : Kd.C Kd.string W A2 l2.length l2) :
    Kd.C (Kd.slice 9 Kd.string) (W.alloc (.cells #[.slice A1 l1.length c1, .slice A2 l2.length c2] 25)) (some ⟨W.heap.size, 0, none⟩) [l1, l2].length [l1, l2] := by
  have hb := below_alloc1 W (.cells #[.slice A1 l1.length c1, .slice A2 l2.length c2] 25)
  have ha := alloc_at W (.cells #[.slice A1 l1.length c1, .slice A2 l2.length c2] 25)
  refine ⟨rfl, by simp, fun _ => ⟨_, rfl, fun j p hj => ?_⟩⟩
  match j, hj with
  | 0, hj =>
    simp at hj; subst hj
    exact ⟨[.slice A1 l1.length c1], rfl, ⟨A1, c1, rfl, h1, Kd.C_below r1 hb⟩, fun i u hu => by
      match i, hu with
      | 0, hu => simp at hu; subst hu; exact (blk_cell ha 0).trans rfl⟩
  | 1, hj =>
    simp at hj; subst hj
    exact ⟨[.slice A2 l2.length c2], rfl, ⟨A2, c2, rfl, h2, Kd.C_below r2 hb⟩, fun i u hu => by
      match i, hu with
      | 0, hu => simp at hu; subst hu; exact (blk_cell ha 1).trans rfl⟩
  | j + 2, hj => simp at hj
set_option maxRecDepth 100000 in
set_option maxHeartbeats 2000000 in
theorem c_right9 (d : De) (cs : List Value) (Bd : Nat) (l : List ByteArray) (A : Option Addr) (c : Nat) (w : World) (hK : k58.K w d cs) (hbox : w.heap[Bd]? = some (.cells cs.toArray 58 (0, 0))) (hr : Kd.C Kd.string w A l.length l) (hc : l.length ≤ c)
    (hl : d.f1.length + l.length < 1000000) (hs1 : ∀ s ∈ d.f1, s.size ≤ nmLim) (hs2 : ∀ s ∈ l, s.size ≤ nmLim) :
    Calls Try.prog 113 #[.slice A l.length c, .pointer (some ⟨Bd, 0, none⟩)] w fun en w' => en = .returned (.bool (!twB (d.f1 ++ l))) ∧ Below w.heap.size w w' := by
  obtain ⟨A1, c1, A2, c2, A5, c5, rfl, l1, F1, _⟩ := k58_open hK
  have k1 := (blk_cell hbox 1).trans rfl
  have hT := C_two w A1 A d.f1 l c1 c l1 hc F1 hr
  have q := below_alloc1 w (.cells #[.slice A1 d.f1.length c1, .slice A l.length c] 25)
  have HC := Lib.hid (c_ConcatS (some ⟨w.heap.size, 0, none⟩) 2 [d.f1, l] _ hT (by simp) (by simp; omega))
  have HQ := Lib.hid q
  clear hT q hbox hr F1 hK
  go_enter Try.func113, Try.ntmps113
  go_wp2_with fail
  refine HC.out.mono ?_
  rintro en w' ⟨v, rfl, ho, hb⟩
  obtain ⟨Av, cv, rfl, hcv, hCv⟩ := Kd.R_reads ho
  obtain ⟨m, hm⟩ : ∃ m, [d.f1, l].flatten = m := ⟨_, rfl⟩
  have hfl : m = d.f1 ++ l := by rw [← hm]; simp
  rw [hm] at hCv hcv ⊢
  have HT := Lib.hid (c_twice Av cv m w' hCv hcv (fun s hs => by rw [hfl] at hs; rcases List.mem_append.1 hs with h | h; exact hs1 s h; exact hs2 s h) (by rw [hfl]; simp; omega))
  have HFl := Lib.hid hfl
  clear hfl hm
  have HB := Lib.hid hb
  clear ho hCv hb
  go_wp2_with fail
  refine HT.out.mono ?_
  rintro en w2 ⟨rfl, hb2⟩
  go_wp2
  go_ret
  exact ⟨by rw [← HFl.out]; simp [HFl.out], (HQ.out.trans (HB.out.mono HQ.out.size)).trans (hb2.mono (HQ.out.trans (HB.out.mono HQ.out.size)).size)⟩
set_option maxRecDepth 100000 in
set_option maxHeartbeats 2000000 in
theorem c_right31 (x : Ca) (cs : List Value) (Bf : Nat) (w : World) (hK : k99.K w x cs) (g : Nat) (lb : Array Value) (eg : ∀ args w, (callFunc g args).run Try.prog w = .ok (.enter g args) w) (hbox : w.heap[Bf]? = some (.cells #[.func (.func g) #[] lb] 27 (0, 0))) (p : List ByteArray → Bool)
    (hf : ∀ (A : Option Addr) (c : Nat) (W : World), Below w.heap.size w W → x.f1.length ≤ c → Kd.C Kd.string W A x.f1.length x.f1 → Calls Try.prog g (#[.slice A x.f1.length c] ++ lb) W fun en w' => en = .returned (.bool (p x.f1)) ∧ Below W.heap.size W w') :
    Calls Try.prog 106 #[.agg cs.toArray, .pointer (some ⟨Bf, 0, none⟩)] w fun en w' => en = .returned (.bool (p x.f1)) ∧ Below w.heap.size w w' := by
  obtain ⟨A1, c1, A4, c4, rfl, l1, g1, l4, g4⟩ := k99_open hK
  have q := below_alloc1 w (.cells #[.string x.f0, .slice A1 x.f1.length c1, .int .i64 x.f2.f0, .string x.f2.f1, .slice A4 x.f2.f2.length c4] 99)
  have k0 := cell_of_one hbox
  have hlt := lt_of_block hbox
  have hn : ¬ (Bf = w.heap.size) := by omega
  have HC := Lib.hid (hf A1 c1 _ q l1 (Kd.C_below g1 q))
  have HQ := Lib.hid q
  clear q hbox g1 g4 hK hf
  go_enter Try.func106, Try.ntmps106
  go_wp2_with (go_at_fn g; refine HC.out.mono ?_; rintro en w' ⟨rfl, hb⟩)
  go_ret
  exact ⟨rfl, HQ.out.trans (hb.mono HQ.out.size)⟩
set_option maxRecDepth 100000 in
set_option maxHeartbeats 2000000 in
/-- right's vars: whether the variables of each case have something. -/
theorem c_right3 (d : De) (cs : List Value) (Bd : Nat) (w : World) (hK : k58.K w d cs) (hbox : w.heap[Bd]? = some (.cells cs.toArray 58 (0, 0))) (g : Nat) (lb : Array Value) (eg : ∀ args w, (callFunc g args).run Try.prog w = .ok (.enter g args) w) (p : List ByteArray → Bool)
    (hf : ∀ (x : Ca) (A : Option Addr) (c : Nat) (W : World), x ∈ d.f2 → Below w.heap.size w W → x.f1.length ≤ c → Kd.C Kd.string W A x.f1.length x.f1 → Calls Try.prog g (#[.slice A x.f1.length c] ++ lb) W fun en w' => en = .returned (.bool (p x.f1)) ∧ Below W.heap.size W w') :
    Calls Try.prog 104 #[.func (.func g) #[] lb, .pointer (some ⟨Bd, 0, none⟩)] w fun en w' => en = .returned (.bool (d.f2.all fun c => p c.f1)) ∧ Below w.heap.size w w' := by
  obtain ⟨A1, c1, A2, c2, A5, c5, rfl, l1, F1, l2, F2, l5, F5⟩ := k58_open hK
  have q := below_alloc1 w (.cells #[.func (.func g) #[] lb] 27)
  have bF := alloc_at w (.cells #[.func (.func g) #[] lb] 27)
  have k2 := (blk_cell hbox 2).trans rfl
  have hlt := blk_lt hbox
  have hn : ¬ (Bd = w.heap.size) := by omega
  have HC := Lib.hid (evC_p A2 c2 d.f2 _ l2 (Kd.C_below F2 q) 106 #[.pointer (some ⟨w.heap.size, 0, none⟩)] (enters_of Try.func106 (by kernel_rfl) rfl) (fun c => p c.f1)
    (fun x cs W hx hKx hb => c_right31 x cs w.heap.size W hKx g lb eg (blk_below bF hb) p (fun A c W2 hb2 hc2 hr2 => hf x A c W2 hx (q.trans ((hb.trans (hb2.mono hb.size)).mono q.size)) hc2 hr2)))
  have HQ := Lib.hid q
  clear q hbox F1 F2 F5 hK hf bF
  go_enter Try.func104, Try.ntmps104
  go_wp2_with fail
  refine HC.out.mono ?_
  rintro en w' ⟨rfl, hb⟩
  go_wp2
  go_ret
  exact ⟨rfl, HQ.out.trans (hb.mono HQ.out.size)⟩
end Go.Proofs.Ytacefdkfbpgedaa.Mine
