/- prog's bodies. -/
import Derived.Test.YtacefdkfbpgedaaQ4
import Derived.Deep.DeepMust
import Derived.Test.YtacefdkfbpgedaaQ3
import Derived.RangeFuncNested
namespace Go.Proofs.Ytacefdkfbpgedaa.Mine
open Go.Proofs.Ytacefdkfbpgedaa.PProgExprs
open Go.RowKit Go.Shelf Go.Proofs.YtacefdkfbpgedaaW.PrintWords Go.Proofs.YtacefdkfbpgedaaW.PrintLast Go.Proofs.YtacefdkfbpgedaaW.PrintMore
set_option linter.unusedVariables false
set_option linter.unusedSimpArgs false

/-- The bodies of a definition. -/
def bodiesD (d : De) : List Ex := if d.f2.length = 0 then [d.f3] else d.f2.map (·.f2)
/-- A row of expressions of the call's own, in blocks from base on; what they lead to is read, in w0, and lies in ok. -/
def RowN (w0 W : World) (base : Nat) (ok : Nat → Prop) (v : Value) (xs : List Ex) : Prop :=
  ∃ rows : List (List Value), rows.length = xs.length ∧ Kd.R (Kd.raw 3) 24 W base (fun _ => True) v rows ∧ ∀ (j : Nat) (x : Ex) (c : List Value), xs[j]? = some x → rows[j]? = some c → Kd.FK k24 w0 ok x c
theorem RowN.nil (w0 W : World) (base : Nat) (ok : Nat → Prop) : RowN w0 W base ok (.slice none 0 0) [] := ⟨[], rfl, Kd.R_nil _ _ _ _ _, fun j x c h => by simp at h⟩
theorem RowN.slice {w0 W : World} {base : Nat} {ok : Nat → Prop} {v : Value} {xs : List Ex} (h : RowN w0 W base ok v xs) : ∃ A c, v = .slice A xs.length c := by
  obtain ⟨rows, hl, hR, _⟩ := h
  obtain ⟨A, c, rfl⟩ := Kd.R_slice hR
  exact ⟨A, c, by rw [hl]⟩
theorem RowN.lower {w0 W : World} {base base' : Nat} {ok : Nat → Prop} {v : Value} {xs : List Ex} (h : RowN w0 W base ok v xs) (hb : base' ≤ base) : RowN w0 W base' ok v xs := by
  obtain ⟨rows, hl, hR, hf⟩ := h
  exact ⟨rows, hl, Kd.R_lower hR hb, hf⟩
/-- An element of such a row. -/
theorem RowN.get {w0 W : World} {base : Nat} {ok : Nat → Prop} {A : Option Addr} {n c : Nat} {xs : List Ex} (h : RowN w0 W base ok (.slice A n c) xs) (i : Nat) (hi : i < xs.length) :
    ∃ ad A2 a2, A = some ad ∧ W.cell? (ad.add (i * 3)) = some (.int .i64 xs[i].f0) ∧ W.cell? ⟨(ad.add (i * 3)).block, (ad.add (i * 3)).off + 1, none⟩ = some (.string xs[i].f1) ∧ W.cell? ⟨(ad.add (i * 3)).block, (ad.add (i * 3)).off + 2, none⟩ = some (.slice A2 xs[i].f2.length a2) ∧ xs[i].f2.length ≤ a2 ∧ Kd.F k24 w0 ok A2 xs[i].f2.length xs[i].f2 := by
  obtain ⟨rows, hl, hR, hf⟩ := h
  obtain ⟨A', c', he, hc', hC⟩ := Kd.R_reads hR
  cases he
  obtain ⟨ad, c0, c1, c2, rfl, hK, k0, k1, k2⟩ := get3 rfl hC i (by omega)
  have hFK := hf i xs[i] rows[i] (List.getElem?_eq_getElem hi) (List.getElem?_eq_getElem (by omega))
  obtain ⟨A2, a2, he, hl2, hF2⟩ := k24_openF hFK
  have hK1 := hK.1
  rw [he] at hK1
  obtain ⟨rfl, rfl, rfl⟩ : c0 = _ ∧ c1 = _ ∧ c2 = _ := by simpa using hK1
  exact ⟨ad, A2, a2, rfl, k0, k1, k2, hl2, hF2⟩

theorem RowN.box {w0 W : World} {ok : Nat → Prop} {x : Ex} {cs : List Value} (h : Kd.FK k24 w0 ok x cs) : RowN w0 (W.alloc (.cells cs.toArray 24)) W.heap.size ok (.slice (some ⟨W.heap.size, 0, none⟩) 1 1) [x] := by
  have hr := Kd.FK_raw h
  have hl3 : cs.length = 3 := hr.2.1
  have ho := World.ownsRow_lit (base := W.heap.size) (e := 24) (size := 3) W cs.toArray 1 (Nat.le_refl _) (by simp [maxLen]) (by simpa using hl3)
  refine ⟨[cs], rfl, ⟨fun _ _ => trivial, cs, by simpa [Kd.raw] using ho, ⟨by simp [hl3, Kd.raw], fun j p hj => ?_⟩⟩, fun j y c hy hc => ?_⟩
  · rcases j with _ | j
    · simp at hj
      subst hj
      have h2 := hr.2.2
      simpa [Kd.raw, ← hl3] using h2
    · simp at hj
  · rcases j with _ | j
    · simp at hy hc
      subst hy; subst hc; exact h
    · simp at hy

set_option maxRecDepth 100000 in
set_option maxHeartbeats 2000000 in
theorem c_bodies (d : De) (cs : List Value) (ok : Nat → Prop) (w : World) (hd : Kd.FK k58 w ok d cs) (hl : d.f2.length ≤ 1000000) :
    Calls Try.prog 108 #[.agg cs.toArray] w fun en w' => ∃ v, en = .returned v ∧ RowN w w' w.heap.size ok v (bodiesD d) ∧ Below w.heap.size w w' := by
  obtain ⟨A1, c1, A2, c2, A5, c5, rfl, l1, F1, l2, F2, l5, F5⟩ := k58_openF hd
  have HF2 := Aside0.mk F2
  have HF5 := Aside0.mk F5
  obtain ⟨W1, hW1⟩ : ∃ W1, w.alloc (.cells #[.string d.f0, .slice A1 d.f1.length c1, .slice A2 d.f2.length c2, .int .i64 d.f3.f0, .string d.f3.f1, .slice A5 d.f3.f2.length c5] 58) = W1 := ⟨_, rfl⟩
  have b0 : W1.heap[w.heap.size]? = some (.cells #[.string d.f0, .slice A1 d.f1.length c1, .slice A2 d.f2.length c2, .int .i64 d.f3.f0, .string d.f3.f1, .slice A5 d.f3.f2.length c5] 58 (0, 0)) := by rw [← hW1]; exact alloc_at _ _
  have q0 : Below w.heap.size w W1 := by rw [← hW1]; exact below_alloc1 _ _
  have k2 := (blk_cell b0 2).trans rfl
  have k3 := (blk_cell b0 3).trans rfl
  have k4 := (blk_cell b0 4).trans rfl
  have k5 := (blk_cell b0 5).trans rfl
  have B0 := Aside0.mk b0
  have Q0 := Aside0.mk q0
  have Z0 := Lib.hid (show W1.heap.size = w.heap.size + 1 by rw [← hW1]; simp)
  clear hd F1 F2 F5 b0 q0
  have HW1 := Lib.hid hW1
  clear hW1
  by_cases h0 : d.f2.length = 0
  · have h01 : ((d.f2.length : Int) == 0) = true := by rw [beq_iff_eq]; omega
    have HB := Lib.hid (show bodiesD d = [d.f3] by rw [bodiesD, if_pos h0])
    clear h0
    go_enter Try.func108, Try.ntmps108
    go_wp2
    rw [HW1.out]
    go_wp2
    go_ret
    have hz := Z0.out
    rw [HB.out]
    exact ⟨_, rfl, by rw [← hz]; exact (RowN.box (k24_mkF _ _ d.f3 l5 HF5.out)).lower (by omega), Q0.out.trans ((below_alloc1 _ _).mono Q0.out.size)⟩
  · have h01 : ((d.f2.length : Int) == 0) = false := by rw [beq_eq_false_iff_ne]; omega
    have HB := Lib.hid (show bodiesD d = d.f2.map (·.f2) by rw [bodiesD, if_neg h0])
    clear h0
    go_enter Try.func108, Try.ntmps108
    go_wp2
    rw [HW1.out]
    go_loopg [3, 16] d.f2.length (fun gg s3 s16 wr => ∃ kk : Nat, kk ≤ d.f2.length ∧ d.f2.length - kk ≤ gg ∧ s16 = .int .i64 kk ∧ Aside0 (RowN w wr w.heap.size ok s3 ((d.f2.take kk).map (·.f2))) ∧ Aside0 (Below w.heap.size w wr))
    case atStart => exact ⟨0, Nat.zero_le _, by omega, rfl, ⟨RowN.nil _ _ _ _⟩, Q0⟩
    case round =>
      obtain ⟨kk, hkk, hg, rfl, HO, HBe⟩ := hrel
      by_cases hlt : kk < d.f2.length
      · have hltz : (kk : Int) < (d.f2.length : Int) := by omega
        obtain ⟨ad, c0, c1', c2', c3, c4, rfl, hK, hcells, k0, k1, k2, k3, k4⟩ := gett5 rfl (Kd.C_below (Kd.F_now HF2.out) HBe.out) kk hlt
        have hFK := elemF HF2.out kk hlt rfl hcells (fun p v _ hv => HBe.out.cell (World.block_lt_of_cell? _ _ hv) |>.trans hv) (by decide)
        obtain ⟨X1, x1, X4, x4, he, m1, G1, m4, G4⟩ := k99_openF hFK
        obtain ⟨rfl, rfl, rfl, rfl, rfl⟩ : c0 = _ ∧ c1' = _ ∧ c2' = _ ∧ c3 = _ ∧ c4 = _ := by simpa using he
        have HM := Aside0.mk (k24_mkF _ _ d.f2[kk].f2 m4 G4)
        obtain ⟨rows, hrl, hR, hfR⟩ := HO.out
        obtain ⟨Ar, cr, rfl⟩ := Kd.R_slice hR
        have hrl2 : rows.length = kk := by rw [hrl]; simp; omega
        have HRL := Lib.hid hrl2
        have HRr := Aside0.mk (Kd.R_below hR (below_alloc2 wr (.cells #[.string d.f2[kk].f0, .slice X1 d.f2[kk].f1.length x1, .int .i64 d.f2[kk].f2.f0, .string d.f2[kk].f2.f1, .slice X4 d.f2[kk].f2.f2.length x4] 99) (.cells #[.int .i64 d.f2[kk].f2.f0, .string d.f2[kk].f2.f1, .slice X4 d.f2[kk].f2.f2.length x4] 24)))
        have HRw := Aside0.mk (Kd.R_below hR (below_alloc1 wr (.cells #[.string d.f2[kk].f0, .slice X1 d.f2[kk].f1.length x1, .int .i64 d.f2[kk].f2.f0, .string d.f2[kk].f2.f1, .slice X4 d.f2[kk].f2.f2.length x4] 99)))
        have HfR := Aside0.mk hfR
        have HrL := Lib.hid hrl
        have hszb := HBe.out.size
        clear hK hcells hFK he G1 G4 hrl hrl2 hR hfR
        have hq1 := below_alloc1 wr (.cells #[.string d.f2[kk].f0, .slice X1 d.f2[kk].f1.length x1, .int .i64 d.f2[kk].f2.f0, .string d.f2[kk].f2.f1, .slice X4 d.f2[kk].f2.f2.length x4] 99)
        have HQ1 := Aside0.mk (HBe.out.trans (hq1.mono hszb))
        clear hq1 HRr
        go_wp2_with (at_builtin; go_must (refine Kd.R_append (Kd.raw 3) (w0 := w) (W := wr.alloc (.cells #[.string d.f2[kk].f0, .slice X1 d.f2[kk].f1.length x1, .int .i64 d.f2[kk].f2.f0, .string d.f2[kk].f2.f1, .slice X4 d.f2[kk].f2.f2.length x4] 99)) w.heap.size rfl (.tmp 20) (.tmp 23) 22 24 _ 48 rfl Try.underlying22 infoEx rfl (by decide) (by decide) (.slice Ar rows.length cr) rows [.int .i64 d.f2[kk].f2.f0, .string d.f2[kk].f2.f1, .slice X4 d.f2[kk].f2.f2.length x4] [.int .i64 d.f2[kk].f2.f0, .string d.f2[kk].f2.f1, .slice X4 d.f2[kk].f2.f2.length x4] (fun _ => True) (fun _ => False) rfl (by rw [World.size_alloc]; rfl) (Kd.FK_raw HM.out) (fun _ h => h.elim) (fun _ _ => trivial) HRw.out HQ1.out (by simp; omega) (by rw [HRL.out]; omega) ?_; intro v1 w1 hR1 hb1 _ _))
        go_roundg (d.f2.length - (kk + 1))
        case measure => omega
        case rel => exact ⟨kk + 1, by omega, by omega, by go_num, ⟨⟨_, by rw [List.length_append, HRL.out]; simp; omega, hR1, fun j x c hx hc => by
          have hts : ((d.f2.take (kk + 1)).map (·.f2)) = (d.f2.take kk).map (·.f2) ++ [d.f2[kk].f2] := by rw [take_snoc hlt, List.map_append]; rfl
          rw [hts] at hx
          rcases Nat.lt_or_ge j kk with h | h
          · rw [List.getElem?_append_left (by rw [HRL.out]; exact h)] at hc
            rw [List.getElem?_append_left (by simp; omega)] at hx
            exact HfR.out j x c hx hc
          · rw [List.getElem?_append_right (by rw [HRL.out]; exact h), HRL.out] at hc
            rw [List.getElem?_append_right (by simp; omega)] at hx
            have hl4 : ((d.f2.take kk).map (·.f2)).length = kk := by simp; omega
            rw [hl4] at hx
            rcases hjk : j - kk with _ | i
            · rw [hjk] at hx hc; simp at hx hc; subst hx; subst hc; exact HM.out
            · rw [hjk] at hx; simp at hx⟩⟩, ⟨hb1⟩⟩
      · have : kk = d.f2.length := by omega
        subst this
        obtain ⟨Ar, cr, hr⟩ := HO.out.slice
        subst hr
        go_wp2
        go_ret
        have ho := HO.out
        rw [HB.out]
        exact ⟨_, rfl, by simpa using ho, HBe.out⟩
end Go.Proofs.Ytacefdkfbpgedaa.Mine
/- Ranging over an iterator that itself ranges over one: what a round keeps is told of all blocks but the loop's own record. -/
namespace Go.Proofs.Ytacefdkfbpgedaa.Mine
open Go.Proofs.Ytacefdkfbpgedaa.PProgExprs
open Go.RowKit Go.Shelf Go.Proofs.YtacefdkfbpgedaaW.PrintWords Go.Proofs.YtacefdkfbpgedaaW.PrintLast Go.Proofs.YtacefdkfbpgedaaW.PrintMore
set_option linter.unusedVariables false
set_option linter.unusedSimpArgs false

/-- A block of expressions. -/
def exO : Obj → Bool
  | .cells _ t _ => t == 24
  | _ => false
/-- What is no cells, and what holds expressions, lies as it lay, but for block l. -/
def KeepsBut (l : Option Nat) (W W' : World) : Prop := W.heap.size ≤ W'.heap.size ∧ ∀ k o, some k ≠ l → W.heap[k]? = some o → (o.isCells = false ∨ exO o = true) → W'.heap[k]? = some o
theorem KeepsBut.refl (l : Option Nat) (W : World) : KeepsBut l W W := ⟨Nat.le_refl _, fun _ _ _ h _ => h⟩
theorem KeepsBut.trans {l : Option Nat} {a b c : World} (h : KeepsBut l a b) (k : KeepsBut l b c) : KeepsBut l a c := ⟨Nat.le_trans h.1 k.1, fun i o hi h0 ho => k.2 i o hi (h.2 i o hi h0 ho) ho⟩
theorem KeepsBut.below {l : Option Nat} {W W' : World} (h : Below W.heap.size W W') : KeepsBut l W W' := ⟨h.size, fun k o _ hk _ => (h.block k (blk_lt hk)).trans hk⟩
theorem KeepsBut.any {W W' : World} (h : KeepsBut none W W') (l : Option Nat) : KeepsBut l W W' := ⟨h.1, fun k o _ hk ho => h.2 k o (by simp) hk ho⟩
theorem KeepsBut.putObj {W : World} {l : Nat} {o : Obj} (o' : Obj) : KeepsBut (some l) W (W.putObj l o') := ⟨by simp, fun k x hk h _ => (World.putObj_heap_other (fun e => hk (by rw [e]))).trans h⟩
theorem KeepsBut.others {W W' : World} (h : KeepsBut none W W') : KeepsOthers W W' := ⟨h.1, fun k o hk ho => h.2 k o (by simp) hk (.inl ho)⟩
theorem KeepsBut.set {l : Option Nat} {W : World} {g : Nat} {cs : Array Value} {t : Nat} {p : Nat × Nat} (h : W.heap[g]? = some (.cells cs t p)) (ht : t ≠ 24) (j : Nat) (u : Value) : KeepsBut l W (W.setCell ⟨g, j, none⟩ u) :=
  ⟨by simp [World.setCell], fun k o _ hk ho => (Below.heap_setCell _ _ _ _ (fun e => by
    subst e; try simp only at hk
    rw [h] at hk; cases hk
    rcases ho with ho | ho
    · cases ho
    · simp [exO] at ho; exact ht ho)).trans hk⟩
theorem KeepsBut.grown {l : Option Nat} {W W' : World} {row : Option Nat} (hg : W.grownBy W' row) (hr : ∀ k, row = some k → ∃ cs t p, W.heap[k]? = some (.cells cs t p) ∧ t ≠ 24) : KeepsBut l W W' :=
  ⟨hg.size, fun k o _ hk ho => (hg.block k (blk_lt hk) (fun e => by
    obtain ⟨cs, t, p, h, ht⟩ := hr k e.symm
    rw [h] at hk; cases hk
    rcases ho with ho | ho
    · cases ho
    · simp [exO] at ho; exact ht ho)).trans hk⟩
/-- What a round of a loop with record l keeps. -/
def KX (M : Nat → Prop) (n l : Nat) (W W' : World) : Prop := KC M n W W' ∧ KeepsBut (some l) W W'
theorem KX.trans {M : Nat → Prop} {n l : Nat} {a b c : World} (h : KX M n l a b) (k : KX M n l b c) : KX M n l a c := ⟨(KC.rel M n).trans h.1 k.1, h.2.trans k.2⟩

/-- An iterator's contract: it yields what S tells, or a beginning (Sp). -/
def SeqX {α : Type} (m g : Nat) (lb : Array Value) (enc : α → Value) (M : Nat → Prop) (n₀ : Nat) (S Sp : List α → Prop) (N : Nat) (w : World) : Prop :=
  ∀ (l : Nat) (J Jx : List α → World → Prop) (W : World), Below w.heap.size w W → l < W.heap.size → OwnFrom W.heap.size J → OwnFrom W.heap.size Jx →
    (∀ pre x W1, J pre W1 → pre.length < N → YieldAt Fence.wide 0 Try.prog l #[enc x] W1 fun e W' => (e = .returned (.bool true) ∧ J (pre ++ [x]) W' ∧ KX M n₀ l W1 W') ∨ (e = .returned (.bool false) ∧ Jx (pre ++ [x]) W' ∧ KeepsBut (some l) W1 W')) →
    J [] W → CallsIn Fence.wide m Try.prog g (#[.func (.yield l) #[] #[]] ++ lb) W fun e W' => (∃ v, e = .returned v) ∧ ((∃ xs, S xs ∧ J xs W') ∨ (∃ pre, Sp pre ∧ Jx pre W'))

/-- How a round's body may be left. -/
def postX {α : Type} (M : Nat → Prop) (n₀ : Nat) (I : List α → World → Prop) (Ix : Code → List α → World → Prop) (xs : List α) (W : World) : Exit → Act → World → Prop
  | .normal, _, W' => KC M n₀ W W' ∧ KeepsBut none W W' ∧ I xs W'
  | .ret, _, W' => KeepsBut none W W' ∧ Ix .ret xs W'
  | .exit id, _, W' => KeepsBut none W W' ∧ Ix (.exit id) xs W'
  | .goto t, _, W' => KeepsBut none W W' ∧ Ix (.goto t) xs W'
  | .panic _, _, _ => False
  | .outgrown, _, _ => False

set_option maxHeartbeats 1000000 in
theorem rangeX {α : Type} {n : Nat} {g : Operand} {p : Tmp} {assign body : Code} {Q : Exit → Act → World → Prop} {a : Act} {w : World} (h1 : 1 ≤ n) {gf : Nat} {lb : Array Value} (hg : a.eval g = .func (.func gf) #[] lb)
    (eg : ∀ args w, (callFunc gf args).run Try.prog w = .ok (.enter gf args) w) {enc : α → Value} {M : Nat → Prop} {n₀ N : Nat} {S Sp : List α → Prop} {w0 : World} (hseq : SeqX (n - 1) gf lb enc M n₀ S Sp N w0) (hn₀ : n₀ ≤ w.heap.size) (hb0 : Below w0.heap.size w0 w)
    (I : List α → World → Prop) (Ix : Code → List α → World → Prop) (hI : OwnFrom w.heap.size I) (hIx : ∀ c, OwnFrom w.heap.size (Ix c)) (h0 : I [] w) (Ax : α → Act → World → Prop) (hAx : ∀ x a', OwnFrom w.heap.size (fun (_ : Unit) W => Ax x a' W))
    (hassign : ∀ (l : Nat) (pre : List α) (x : α) (W : World) (K : Act → World → Prop), w.heap.size ≤ l → I pre W → (∀ a' W', KeepsBut none W W' → KC M n₀ W W' → I pre W' → Ax x a' W' → K a' W') →
      assign.wpIn (Fence.wide.inRound l) (n - 1 - 1) Try.prog (Exit.then K (fun _ _ _ => False)) { tmps := (#[p].zip #[enc x]).foldl (fun t (p, v) => t.setIfInBounds p v) a.tmps, defers := [] } W)
    (hbody : ∀ (l : Nat) (pre : List α) (x : α) (a' : Act) (W : World), w.heap.size ≤ l → I pre W → Ax x a' W → pre.length < N → body.wpIn (Fence.wide.inRound l) (n - 1 - 1) Try.prog (postX M n₀ I Ix (pre ++ [x]) W) a' W)
    (hdone : ∀ (D : Nat) (xs : List α) (W : World), w.heap.size ≤ D → S xs → I xs W → W.heap[D]? = some (.deferred (some [])) → Q .normal { a with defers := { target := .collected D, args := #[] } :: a.defers } W)
    (hstop : ∀ (D : Nat) (c : Code) (pre : List α) (W : World), w.heap.size ≤ D → Sp pre → Ix c pre W → W.heap[D]? = some (.deferred (some [])) → c.wpIn Fence.wide n Try.prog Q { a with defers := { target := .collected D, args := #[] } :: a.defers } W) :
    (Code.rangeFunc g #[p] assign body).wpIn Fence.wide n Try.prog Q a w := by
  refine wpIn_rangeFunc fun fn hfn => ?_
  -- the two blocks of the loop's book-keeping
  obtain ⟨rec, hrec⟩ : ∃ rec : LoopState → Option Code → Loop, rec = fun st pe => { state := st, pending := pe, fn, tmps := a.tmps, params := #[p], assign, body, defers := w.heap.size } := ⟨_, rfl⟩
  obtain ⟨l, hl⟩ : ∃ l, l = w.heap.size + 1 := ⟨_, rfl⟩
  obtain ⟨W1, hW1⟩ : ∃ W1, (w.alloc (.deferred (some []))).alloc (.loop (rec .ready none)) = W1 := ⟨_, rfl⟩
  have z1 : W1.heap.size = w.heap.size + 2 := by rw [← hW1]; simp
  have hL : W1.heap[l]? = some (.loop (rec .ready none)) := by rw [← hW1, hl]; have := World.alloc_heap_new (w.alloc (.deferred (some []))) (.loop (rec .ready none)); rwa [World.size_alloc] at this
  have hD : W1.heap[w.heap.size]? = some (.deferred (some [])) := by rw [← hW1]; exact blk_alloc (World.alloc_heap_new w _) _
  have hI1 : I [] W1 := by rw [← hW1]; exact hI.alloc _ (hI.alloc _ h0)
  have hb1 : Below w0.heap.size w0 W1 := by rw [← hW1]; exact hb0.trans ((below_alloc2 w _ _).mono hb0.size)
  have hkc : ∀ (W : World) (r r' : Loop), W.heap[l]? = some (.loop r) → KX M n₀ l W (W.putObj l (.loop r')) := fun W r r' h => ⟨KC.putObj M (by omega) h rfl, KeepsBut.putObj (o := .loop r) _⟩
  -- what the loop's two blocks hold, beside what is the caller's
  let Jt : List α → World → Prop := fun pre W => I pre W ∧ W.heap[l]? = some (.loop (rec .ready none)) ∧ W.heap[w.heap.size]? = some (.deferred (some []))
  let Js : List α → World → Prop := fun pre W => ∃ c, Ix c pre W ∧ W.heap[l]? = some (.loop (rec .done (some c))) ∧ W.heap[w.heap.size]? = some (.deferred (some []))
  have up : ∀ {A : World} {row : Option Nat}, (∀ r, row = some r → W1.heap.size ≤ r ∧ ∃ o : Obj, A.heap[r]? = some o ∧ o.isCells = false) → (∀ r, row = some r → w.heap.size ≤ r ∧ ∃ o : Obj, A.heap[r]? = some o ∧ o.isCells = false) := fun hr r e => ⟨by have := (hr r e).1; omega, (hr r e).2⟩
  have keep : ∀ {A B : World} {row : Option Nat} {k : Nat} {o : Obj}, A.grownBy B row → (∀ r, row = some r → W1.heap.size ≤ r ∧ ∃ o : Obj, A.heap[r]? = some o ∧ o.isCells = false) → k < W1.heap.size → A.heap[k]? = some o → B.heap[k]? = some o :=
    fun hg' hr hk ho => (hg'.block _ (blk_lt ho) (fun e => by have := (hr _ e.symm).1; omega)).trans ho
  have hJt : OwnFrom W1.heap.size Jt := fun s A B row hs hg' hr => ⟨hI s A B row hs.1 hg' (up hr), keep hg' hr (by omega) hs.2.1, keep hg' hr (by omega) hs.2.2⟩
  have hJs : OwnFrom W1.heap.size Js := fun s A B row hs hg' hr => by
    obtain ⟨c, hc, h2, h3⟩ := hs
    exact ⟨c, hIx c s A B row hc hg' (up hr), keep hg' hr (by omega) h2, keep hg' hr (by omega) h3⟩
  refine ⟨l, [{ target := .collected w.heap.size, args := #[] }], W1, { target := .fn (.func gf) lb, args := #[.func (.yield l) #[] #[]] }, W1, gf, #[.func (.yield l) #[] #[]] ++ lb, W1, ?_, ?_, ?_, ?_, fun _ => h1, ?_⟩
  · rw [← hW1, hrec, hl]; exact run_enterLoop_outer _ _ _ _ _
  · simp only [resolve, hg]; simp [go_sem]
  · intro f' hf'; trivial
  · simp [invoke, go_sem, eg]
  · refine (hseq l Jt Js W1 hb1 (by omega) hJt hJs ?_ ⟨hI1, hL, hD⟩).mono ?_
    · -- a round
      rintro pre x W ⟨hi, h2, h3⟩ hlen
      have hy := run_yield (P := Try.prog) (args := #[enc x]) h2 (by rw [hrec]; rfl)
      rw [hrec] at hy
      refine YieldAt.any 0 (m := n - 1 - 1) ⟨fn, _, assign, body, hy, roundIn_of_wpIn hfn (hassign l pre x W _ (by omega) hi ?_)⟩
      clear hy
      intro a' Wa hka hca hia hax
      have g2 := hka.2 _ _ (by simp) h2 (.inl rfl)
      have g3 := hka.2 _ _ (by simp) h3 (.inl rfl)
      have hlt := blk_lt g2
      refine ⟨_, run_beginRound g2 (by rw [hrec]), ?_⟩
      obtain ⟨Wb, hWb⟩ : ∃ Wb, Wa.putObj l (.loop { rec .ready none with state := .busy }) = Wb := ⟨_, rfl⟩
      have b2 : Wb.heap[l]? = some (.loop { rec .ready none with state := .busy }) := by rw [← hWb]; exact World.putObj_heap_same hlt
      have b3 : Wb.heap[w.heap.size]? = some (.deferred (some [])) := by rw [← hWb]; exact (World.putObj_heap_other (by omega)).trans g3
      have bk : KX M n₀ l Wa Wb := by rw [← hWb]; exact hkc _ _ _ g2
      have bi : I pre Wb := by rw [← hWb]; exact hI.putObj _ hia (by omega) g2 rfl
      have ba : Ax x a' Wb := by rw [← hWb]; exact (hAx x a').putObj (s := ()) _ hax (by omega) g2 rfl
      rw [hWb]
      refine wpIn_mono (hbody l pre x a' Wb (by omega) bi ba hlen) ?_
      have fin : ∀ (jump : Option Code) (W3 : World), KeepsBut none Wb W3 →
          (Instr.endRound l jump).run Try.prog W3 = .ok (.bool jump.isNone) (W3.putObj l (.loop (rec (if jump.isNone then .ready else .done) jump))) ∧ W3.heap[l]? = some (.loop { rec .ready none with state := .busy }) ∧
          (W3.putObj l (.loop (rec (if jump.isNone then .ready else .done) jump))).heap[l]? = some (.loop (rec (if jump.isNone then .ready else .done) jump)) ∧
          (W3.putObj l (.loop (rec (if jump.isNone then .ready else .done) jump))).heap[w.heap.size]? = some (.deferred (some [])) := fun jump W3 hk3 => by
        have c2 := hk3.2 _ _ (by simp) b2 (.inl rfl)
        have hr := run_endRound (P := Try.prog) jump c2
        rw [hrec] at hr c2 ⊢
        exact ⟨hr, c2, World.putObj_heap_same (blk_lt c2), (World.putObj_heap_other (by omega)).trans (hk3.2 _ _ (by simp) b3 (.inl rfl))⟩
      rintro e a3 W3 hp
      cases e with
      | normal =>
        obtain ⟨hc3, hk3, hi3⟩ := hp
        obtain ⟨hr, h4, h5, h6⟩ := fin none W3 hk3
        exact ⟨_, _, hr, .inl ⟨rfl, ⟨hI.putObj _ hi3 (by omega) h4 rfl, h5, h6⟩, (KX.trans ⟨hca, hka.any _⟩ (bk.trans ⟨hc3, hk3.any _⟩)).trans (hkc _ _ _ h4)⟩⟩
      | ret =>
        obtain ⟨hk3, hi3⟩ := hp
        obtain ⟨hr, h4, h5, h6⟩ := fin (some .ret) W3 hk3
        exact ⟨_, _, hr, .inr ⟨rfl, ⟨.ret, (hIx _).putObj _ hi3 (by omega) h4 rfl, h5, h6⟩, ((hka.any _).trans (bk.2.trans (hk3.any _))).trans (hkc _ _ _ h4).2⟩⟩
      | exit id =>
        obtain ⟨hk3, hi3⟩ := hp
        obtain ⟨hr, h4, h5, h6⟩ := fin (some (.exit id)) W3 hk3
        exact ⟨_, _, hr, .inr ⟨rfl, ⟨.exit id, (hIx _).putObj _ hi3 (by omega) h4 rfl, h5, h6⟩, ((hka.any _).trans (bk.2.trans (hk3.any _))).trans (hkc _ _ _ h4).2⟩⟩
      | goto t =>
        obtain ⟨hk3, hi3⟩ := hp
        obtain ⟨hr, h4, h5, h6⟩ := fin (some (.goto t)) W3 hk3
        exact ⟨_, _, hr, .inr ⟨rfl, ⟨.goto t, (hIx _).putObj _ hi3 (by omega) h4 rfl, h5, h6⟩, ((hka.any _).trans (bk.2.trans (hk3.any _))).trans (hkc _ _ _ h4).2⟩⟩
      | panic ch => exact hp.elim
      | outgrown => exact hp.elim
    · -- behind the iterator
      rintro e W2 ⟨⟨v, rfl⟩, (⟨xs, hS, hi, h2, h3⟩ | ⟨pre, hSp, c, hi, h2, h3⟩)⟩
      · refine ⟨none, _, by have := run_endLoop (P := Try.prog) h2 (by rw [hrec]; simp); rw [hrec] at this; exact this, hdone w.heap.size xs _ (Nat.le_refl _) hS (hI.putObj _ hi (by omega) h2 rfl) ((World.putObj_heap_other (by omega)).trans h3)⟩
      · exact ⟨some c, _, by have := run_endLoop (P := Try.prog) h2 (by rw [hrec]; simp); rw [hrec] at this; exact this, hstop w.heap.size c pre _ (Nat.le_refl _) hSp ((hIx c).putObj _ hi (by omega) h2 rfl) ((World.putObj_heap_other (by omega)).trans h3)⟩

/-! ### A loop whose rounds leave marks among the deferred calls -/
abbrev markD (D : Nat) : Deferred := { target := .collected D, args := #[] }
theorem leaves_marks {F : Fence} {n : Nat} {fn : Func} {tmps : Array Value} {R : Ending → World → Prop} {B : Nat} {I : World → Prop} (hI : ∀ (W : World) (D : Nat), B ≤ D → W.heap[D]? = some (.deferred (some [])) → I W → I (W.putObj D (.deferred none)))
    (hres : ∀ W, I W → ∃ v, (results fn tmps).run Try.prog W = .ok v W ∧ R (.returned v) W) :
    ∀ (Ds : List Nat) (W : World), Ds.Nodup → (∀ D ∈ Ds, B ≤ D ∧ W.heap[D]? = some (.deferred (some []))) → I W → LeavesInM F n Try.prog fn tmps R (Ds.map markD) .returning W
  | [], W, _, _, h => hres W h
  | D :: Ds, W, hn, hD, h => by
    rw [List.nodup_cons] at hn
    have h1 := hD D List.mem_cons_self
    refine ⟨by simp, .inl ⟨D, _, rfl, run_takeDeferred h1.2, ?_⟩⟩
    refine leaves_marks hI hres Ds _ hn.2 (fun E hE => ⟨(hD E (List.mem_cons_of_mem _ hE)).1, ?_⟩) (hI W D h1.1 h1.2 h)
    exact (World.putObj_heap_other (fun e => hn.1 (by rw [← e]; exact hE))).trans (hD E (List.mem_cons_of_mem _ hE)).2
theorem wpIn_loopT {F : Fence} {n : Nat} {P : Program} {Q : Exit → Act → World → Prop} {a : Act} {w : World} {c : Code} (I : Act → World → Prop) (μ : Act → World → Nat) (h₀ : I a w)
    (round : ∀ a w, I a w → ∀ T : Act → World → Prop, (∀ a' w', I a' w' → μ a' w' < μ a w → T a' w') → c.wpIn F n P (Exit.then T Q) a w) : (Code.loop c).wpIn F n P Q a w :=
  wpIn_loop I μ h₀ fun a w h => round a w h _ (fun _ _ h1 h2 => ⟨h1, h2⟩)
/-- The marks of earlier loops. -/
def Marks (B : Nat) (Ds : List Nat) (W : World) : Prop := Ds.Nodup ∧ ∀ D ∈ Ds, B ≤ D ∧ W.heap[D]? = some (.deferred (some []))
theorem Marks.nil (B : Nat) (W : World) : Marks B [] W := ⟨List.nodup_nil, fun D h => by cases h⟩
theorem Marks.keeps {B : Nat} {Ds : List Nat} {W W' : World} {l : Option Nat} (h : Marks B Ds W) (hk : KeepsBut l W W') (hl : ∀ k, l = some k → k < B) : Marks B Ds W' :=
  ⟨h.1, fun D hD => ⟨(h.2 D hD).1, hk.2 D _ (fun e => by have := hl D e.symm; have := (h.2 D hD).1; omega) (h.2 D hD).2 (.inl rfl)⟩⟩
theorem Marks.below {B : Nat} {Ds : List Nat} {W W' : World} (h : Marks B Ds W) (hb : Below W.heap.size W W') : Marks B Ds W' := ⟨h.1, fun D hD => ⟨(h.2 D hD).1, blk_below (h.2 D hD).2 hb⟩⟩
theorem Marks.own {β : Type} {B : Nat} {Ds : List Nat} {W0 : World} (h0 : Marks B Ds W0) : OwnFrom W0.heap.size (fun (_ : β) W => Marks B Ds W) := fun _ W W' row hs hg hr => ⟨hs.1, fun D hD => ⟨(hs.2 D hD).1, (hg.block D (blk_lt (hs.2 D hD).2) (fun e => by have := (hr D e.symm).1; have := blk_lt (h0.2 D hD).2; omega)).trans (hs.2 D hD).2⟩⟩
theorem Marks.cons {B D : Nat} {Ds : List Nat} {W0 W : World} (h0 : Marks B Ds W0) (h : Marks B Ds W) (hD : W0.heap.size ≤ D) (hB : B ≤ D) (hW : W.heap[D]? = some (.deferred (some []))) : Marks B (D :: Ds) W :=
  ⟨List.nodup_cons.2 ⟨fun hm => by have := blk_lt (h0.2 D hm).2; omega, h.1⟩, fun E hE => by
    rcases List.mem_cons.1 hE with rfl | hE
    · exact ⟨hB, hW⟩
    · exact h.2 E hE⟩
end Go.Proofs.Ytacefdkfbpgedaa.Mine
/- prog's each: it yields all expressions of a definition, in the order of places. -/
namespace Go.Proofs.Ytacefdkfbpgedaa.Mine
open Go.Proofs.Ytacefdkfbpgedaa.PProgExprs
open Go.RowKit Go.Shelf Go.Proofs.YtacefdkfbpgedaaW.PrintWords Go.Proofs.YtacefdkfbpgedaaW.PrintLast Go.Proofs.YtacefdkfbpgedaaW.PrintMore
set_option linter.unusedVariables false
set_option linter.unusedSimpArgs false
attribute [local go_sem] Oper.semAt_some

theorem RowN.keeps {w0 W W' : World} {base : Nat} {ok : Nat → Prop} {v : Value} {xs : List Ex} {l : Option Nat} (h : RowN w0 W base ok v xs) (hk : KeepsBut l W W') (hl : ∀ k, l = some k → k < base) : RowN w0 W' base ok v xs := by
  obtain ⟨rows, h1, hR, hf⟩ := h
  refine ⟨rows, h1, Kd.R_mono (Kd.R_step (Kd.R_tight rfl hR) (fun k hk2 hlt => ?_)) (fun _ _ => trivial), hf⟩
  obtain ⟨cells, hc⟩ := Kd.R_typed hR k hk2.symm
  have hb := Kd.R_base hR k hk2.symm
  exact (hk.2 k _ (fun e => by have := hl k e.symm; omega) hc (.inr (by simp [exO]))).trans hc.symm
theorem RowN.own {β : Type} {w0 W0 : World} {base : Nat} {ok : Nat → Prop} {v : Value} {xs : List Ex} : Own (fun (_ : β) W => RowN w0 W base ok v xs) := fun _ W W' row hs hg hr => by
  obtain ⟨rows, h1, hR, hf⟩ := hs
  refine ⟨rows, h1, Kd.R_mono (Kd.R_step (Kd.R_tight rfl hR) (fun k hk2 hlt => hg.block k hlt (fun e => ?_))) (fun _ _ => trivial), hf⟩
  obtain ⟨cells, hc⟩ := Kd.R_typed hR k hk2.symm
  obtain ⟨o, h2, h3⟩ := hr k e.symm
  rw [hc] at h2; cases h2; cases h3

theorem KC.grownN {M : Nat → Prop} {n : Nat} {W W' : World} {row : Option Nat} (hg : W.grownBy W' row) (hr : ∀ r, row = some r → n ≤ r ∧ ∃ o : Obj, W.heap[r]? = some o ∧ o.isCells = false) : KC M n W W' := by
  cases row with
  | none => exact (KC.rel M n).below ⟨hg.os, hg.tape, hg.output, hg.size, fun k hk => hg.block k hk (by simp)⟩
  | some g =>
    obtain ⟨h1, o, h2, h3⟩ := hr g rfl
    refine ⟨hg.size, fun k x _ hk => ?_⟩
    by_cases e : k = g
    · subst e
      rw [h2] at hk; cases hk
      refine ⟨fun hx => ?_, fun cs ec => by subst ec; cases h3⟩
      rcases hx with hx | hx
      · omega
      · cases o <;> simp_all [kpO, Obj.isCells]
    · have hk2 := (hg.block k (blk_lt hk) (fun e2 => e (Option.some.inj e2))).trans hk
      exact ⟨fun _ => hk2, fun cs ec => ⟨cs, by rw [← ec]; exact hk2, rfl⟩⟩
/-- each: the function value holds the definition's box. -/
theorem c_each (cs : List Value) (h6 : cs.length = 6) (w : World) :
    Calls Try.prog 117 #[.agg cs.toArray] w fun en w' => en = .returned (.func (.func 130) #[] #[.pointer (some ⟨w.heap.size, 0, none⟩)]) ∧ w' = w.alloc (.cells cs.toArray 58) := by
  obtain ⟨c0, c1, c2, c3, c4, c5, rfl⟩ := len6 h6
  go_enter Try.func117, Try.ntmps117
  go_wp2
  go_ret
  exact ⟨rfl, rfl⟩

theorem plL_take' {l : List Ex} {k : Nat} (h : k < l.length) : plL (l.take (k + 1)) = plL (l.take k) ++ plE l[k] := plL_take h
set_option maxRecDepth 100000 in
set_option maxHeartbeats 4000000 in
theorem each_stops (w0 : World) (M : Nat → Prop) (n₀ : Nat) (ok : Nat → Prop) (hM : ∀ k, M k → k < w0.heap.size) (hok : ∀ k, ok k → ¬ M k ∧ k < n₀) (hn0 : n₀ ≤ w0.heap.size) (d : De) (cs : List Value) (hd : Kd.FK k58 w0 ok d cs) (hl2 : d.f2.length ≤ 1000000) (hz : ∀ b ∈ bodiesD d, szE b < 1000000)
    (Bd : Nat) (w : World) (hkw : KC M n₀ w0 w) (hbox : w.heap[Bd]? = some (.cells cs.toArray 58 (0, 0))) :
    SeqX 6 130 #[.pointer (some ⟨Bd, 0, none⟩)] (fun x : Hd w0 ok => encH x.1) M n₀ (fun hs => exs hs = plL (bodiesD d)) (fun hs => exs hs <+: plL (bodiesD d)) (szL (bodiesD d)) w := by
  intro l J Jx W hW hlW hJ hJx hY h0
  have hWs := hW.size
  have hnM : ∀ k, w0.heap.size ≤ k → ¬ M k := fun k hk h => by have := hM k h; omega
  have hw0 := hkw.1
  -- the box of yield
  obtain ⟨W1, hW1⟩ : ∃ W1, W.alloc (.cells #[fvY l] 26) = W1 := ⟨_, rfl⟩
  have q1 : Below W.heap.size W W1 := by rw [← hW1]; exact below_alloc1 _ _
  have z1 : W1.heap.size = W.heap.size + 1 := by rw [← hW1]; simp
  have y1 : W1.heap[W.heap.size]? = some (.cells #[fvY l] 26 (0, 0)) := by rw [← hW1]; exact alloc_at _ _
  have k1 : KC M n₀ w0 W1 := (KC.rel M n₀).trans hkw ((KC.rel M n₀).below (hW.trans (q1.mono hWs)))
  have hd1 : Kd.FK k58 W1 ok d cs := Kd.FK_step hd (fun k hk hlt => by
    obtain ⟨o, ho⟩ : ∃ o, w0.heap[k]? = some o := ⟨_, Array.getElem?_eq_getElem hlt⟩
    rw [ho]; exact k1.blkN (hok k hk).1 ho (hok k hk).2)
  have back : ∀ (x : Ex) (c : List Value), Kd.FK k24 W1 ok x c → Kd.FK k24 w0 ok x c := fun x c h => Kd.FK_step h (fun k hk hlt => by
    have hk0 : k < w0.heap.size := by have := (hok k hk).2; omega
    exact (k1.blkN (hok k hk).1 (Array.getElem?_eq_getElem hk0) (hok k hk).2 ▸ (Array.getElem?_eq_getElem hk0)))
  have hb := c_bodies d cs ok W1 hd1 hl2
  obtain ⟨A1, c1, A2, c2, A5, c5, rfl, _⟩ := k58_openF hd
  have bd := blk_below (blk_below hbox hW) q1
  have g0 := (blk_cell bd 0).trans rfl
  have g1 := (blk_cell bd 1).trans rfl
  have g2 := (blk_cell bd 2).trans rfl
  have g3 := (blk_cell bd 3).trans rfl
  have g4 := (blk_cell bd 4).trans rfl
  have g5 := (blk_cell bd 5).trans rfl
  rw [← hW1] at g0 g1 g2 g3 g4 g5
  unfold fvY at g0 g1 g2 g3 g4 g5
  have hneB : ¬ (Bd = W.heap.size) := by have := blk_lt (blk_below hbox hW); omega
  have HB := Lib.hid hb
  have HW1 := Lib.hid hW1
  have HJ0 := Lib.hid (hJ.alloc (.cells #[fvY l] 26) h0)
  rw [hW1] at HJ0
  have HY := Lib.hid hY
  have HK1 := Lib.hid k1
  have HY1 := Lib.hid y1
  have HZ1 := Lib.hid z1
  have HBk := Lib.hid back
  have HnM := Lib.hid hnM
  clear hb hW1 hY k1 y1 back hd1 hd hkw hbox bd h0
  refine callsIn_of_wp_marks (F := Fence.wide) Try.func130 rfl trivial ?_ rfl
  simp only [Try.ntmps130, List.size_toArray, List.length_cons, List.length_nil, Nat.reduceAdd, Nat.reduceSub, Array.replicate_succ, Array.replicate_zero, List.push_toArray, List.append_toArray, List.nil_append, List.cons_append]
  gi_wp2_with fail
  have hW1' := HW1.out
  unfold fvY at hW1'
  rw [hW1']
  clear hW1' g0 g1 g2 g3 g4 g5
  refine ⟨trivial, (callsIn_wide.2 HB.out).mono ?_⟩
  rintro en W2 ⟨v, rfl, hRow, hb2⟩
  obtain ⟨Av, cv, rfl⟩ := hRow.slice
  have hRow' : RowN w0 W2 W1.heap.size ok (.slice Av (bodiesD d).length cv) (bodiesD d) := by
    obtain ⟨rows, r1, r2, r3⟩ := hRow
    exact ⟨rows, r1, r2, fun j x c hx hc => HBk.out x c (r3 j x c hx hc)⟩
  have hlen : (bodiesD d).length ≤ 1000001 := by
    unfold bodiesD; split
    · simp
    · simp; omega
  have K2 := Lib.hid ((KC.rel M n₀).trans HK1.out ((KC.rel M n₀).below hb2))
  have Y2 := Lib.hid (blk_below HY1.out hb2)
  have J2 := Lib.hid (hJ [] W1 W2 none HJ0.out (grown_of_below hb2 none) (fun r e => by cases e))
  have R2 := Lib.hid hRow'
  have hs2 := hb2.size
  obtain ⟨bs, hbs⟩ : ∃ bs, bodiesD d = bs := ⟨_, rfl⟩
  rw [hbs] at R2 hlen HY hz ⊢
  clear hRow hRow' hb2
  gi_wp2_with fail
  have hHnM := HnM.out
  obtain ⟨cv7, hcv7⟩ : ∃ x : Value, x = .agg #[.string d.f0, .slice A1 d.f1.length c1, .slice A2 d.f2.length c2, .int .i64 d.f3.f0, .string d.f3.f1, .slice A5 d.f3.f2.length c5] := ⟨_, rfl⟩
  rw [← hcv7]
  have HCv := Lib.hid hcv7
  clear hcv7
  have hz1 := HZ1.out
  have hj2 := J2.out
  refine wpIn_loopT (fun a Wr => ∃ (kk : Nat) (Ds : List Nat) (hs : List (Hd w0 ok)) (u4 u5 u10 u11 u12 u13 u14 u15 u16 u17 u18 u19 u20 : Value),
      a = { tmps := #[.func (Fn.yield l) #[] #[], .pointer (some ⟨Bd, 0, none⟩), .pointer (some ⟨W.heap.size, 0, none⟩), undef, u4, u5, cv7, .slice Av bs.length cv, .int .i64 bs.length, .int .i64 kk, u10, u11, u12, u13, u14, u15, u16, u17, u18, u19, u20], defers := Ds.map markD } ∧
      kk ≤ bs.length ∧ exs hs = plL (bs.take kk) ∧ J hs Wr ∧ KC M n₀ w0 Wr ∧ Marks W.heap.size Ds Wr ∧ Wr.heap[W.heap.size]? = some (.cells #[fvY l] 26 (0, 0)) ∧ RowN w0 Wr W1.heap.size ok (.slice Av bs.length cv) bs ∧ W2.heap.size ≤ Wr.heap.size)
    (fun a _ => bs.length - (intOf (a.tmps.getD 9 undef)).toNat) ?_ ?_
  · exact ⟨0, [], [], _, _, _, _, _, _, _, _, _, _, _, _, _, rfl, Nat.zero_le _, by simp [exs, plL], hj2, K2.out, Marks.nil _ _, Y2.out, R2.out, Nat.le_refl _⟩
  rintro a Wr ⟨kk, Ds, hs, u4, u5, u10, u11, u12, u13, u14, u15, u16, u17, u18, u19, u20, rfl, hkk, hex, hj, hkc, hmk, hyb, hrow, hsz⟩ T hT
  have HT := Lib.hid hT
  have HJx := Lib.hid hJx
  have HJJ := Lib.hid hJ
  clear hT hJ hJx HJ0 K2 Y2 J2 R2 hj2 HB
  by_cases hlt : kk < bs.length
  · have hltz : (kk : Int) < (bs.length : Int) := by omega
    obtain ⟨ad, A3, a3, rfl, x0, x1, x2, hl3, hF3⟩ := hrow.get kk hlt
    have HF3 := Lib.hid hF3
    have HC := Lib.hid (c_places bs[kk] A3 a3)
    have HE := Lib.hid hex
    have HJ := Lib.hid hj
    have HK := Lib.hid hkc
    have HM := Lib.hid hmk
    have HYb := Lib.hid hyb
    have HR := Lib.hid hrow
    clear hex hj hkc hmk hyb hrow hF3
    gi_wp2_with fail
    refine ⟨trivial, (callsIn_wide.2 (HC.out _)).mono ?_⟩
    rintro en w3 ⟨rfl, rfl⟩
    gi_wp2_with fail
    obtain ⟨W4, hW4⟩ : ∃ W4, (Wr.alloc (.cells #[.int .i64 bs[kk].f0, .string bs[kk].f1, .slice A3 bs[kk].f2.length a3] 24)).alloc (.cells #[.int .i64 bs[kk].f0, .string bs[kk].f1, .slice A3 bs[kk].f2.length a3] 24) = W4 := ⟨_, rfl⟩
    have q4 : Below Wr.heap.size Wr W4 := by rw [← hW4]; exact below_alloc2 _ _ _
    have z4 : W4.heap.size = Wr.heap.size + 1 + 1 := by rw [← hW4]; simp
    have bP : W4.heap[Wr.heap.size + 1]? = some (.cells (cellsH (bs[kk], A3, a3)) 24 (0, 0)) := by rw [← hW4]; have := alloc_at (Wr.alloc (.cells #[.int .i64 bs[kk].f0, .string bs[kk].f1, .slice A3 bs[kk].f2.length a3] 24)) (.cells #[.int .i64 bs[kk].f0, .string bs[kk].f1, .slice A3 bs[kk].f2.length a3] 24); rw [World.size_alloc] at this; simpa [cellsH] using this
    rw [hW4]
    have j4 := HJJ.out hs _ W4 none HJ.out (grown_of_below q4 none) (fun r e => by cases e)
    have k4 := (KC.rel M n₀).trans HK.out ((KC.rel M n₀).below q4)
    have m4 := HM.out.below q4
    have y4 := blk_below HYb.out q4
    have r4 := HR.out.keeps (KeepsBut.below (l := none) q4) (fun k h => by cases h)
    have hk0 := HK.out.1
    have hne : exs hs ++ plE bs[kk] = plL (bs.take (kk + 1)) := by rw [HE.out, plL_take hlt]
    have hlen2 : hs.length = szL (bs.take kk) := by rw [← exs_length, HE.out, length_plL]
    have hle2 := szL_take_le bs (kk + 1)
    rw [szL_take hlt] at hle2
    have M4 := Lib.hid m4
    have HNe := Lib.hid hne
    have HW4 := Lib.hid hW4
    have HPf := Lib.hid (show plL (bs.take kk) ++ plE bs[kk] <+: plL bs by rw [← plL_take hlt]; conv => rhs; rw [← List.take_append_drop (kk + 1) bs, plL_append]
                                                                           exact List.prefix_append _ _)
    clear hne hW4
    refine wpIn_rangeFunc_ownH rfl (by omega) (gf := 98) (lb := #[.pointer (some ⟨Wr.heap.size + 1, 0, none⟩)]) rfl trivial (enters_of Try.func98 (by kernel_rfl) rfl)
      (places_stops w0 M n₀ ok hM hok ⟨(bs[kk], A3, a3), hl3, HF3.out, hz _ (List.getElem_mem hlt)⟩ (Wr.heap.size + 1) (HnM.out _ (by omega)) W4 k4 (by omega) bP)
      (KC.rel _ _).trans (fun Wx lx o o' hlx ho hcl _ => KC.putObj _ (by omega) ho hcl) (Below.refl _ _) (fun _ => rfl)
      (fun pre Wx => J (hs ++ pre) Wx ∧ Marks W.heap.size Ds Wx ∧ Wx.heap[W.heap.size]? = some (.cells #[fvY l] 26 (0, 0)) ∧ RowN w0 Wx W1.heap.size ok (.slice (some ad) bs.length cv) bs ∧ KC M n₀ w0 Wx ∧ W4.heap.size ≤ Wx.heap.size)
      (fun c pre Wx => c = .ret ∧ Jx (hs ++ pre) Wx ∧ Marks W.heap.size Ds Wx)
      (fun pre X Y row ⟨h1, h2, h3, h4, h5, h6⟩ hg hr => ⟨HJJ.out _ X Y row h1 hg (fun r e => ⟨by have := (hr r e).1; omega, (hr r e).2⟩), M4.out.own () X Y row h2 hg hr, Blk.notcells h3 hg (fun r e => (hr r e).2), RowN.own (W0 := W4) () X Y row h4 hg (fun r e => (hr r e).2), (KC.rel M n₀).trans h5 (KC.grownN hg (fun r e => ⟨by have := (hr r e).1; omega, (hr r e).2⟩)), Nat.le_trans h6 hg.size⟩)
      (fun c pre X Y row ⟨h1, h2, h3⟩ hg hr => ⟨h1, HJx.out _ X Y row h2 hg (fun r e => ⟨by have := (hr r e).1; omega, (hr r e).2⟩), M4.out.own () X Y row h3 hg hr⟩)
      ⟨by simpa using j4, m4, y4, r4, k4, Nat.le_refl _⟩
      (fun x a' Wx => ∃ Bx, W4.heap.size ≤ Bx ∧ Wx.heap[Bx]? = some (.cells (cellsH x.1) 24 (0, 0)) ∧ a' = { tmps := #[.func (Fn.yield l) #[] #[], .pointer (some ⟨Bd, 0, none⟩), .pointer (some ⟨W.heap.size, 0, none⟩), undef, .pointer (some ⟨Wr.heap.size, 0, none⟩), .pointer (some ⟨Bx, 0, none⟩), cv7, .slice (some ad) bs.length cv, .int .i64 bs.length, .int .i64 kk, .bool true, .pointer (some (ad.add (kk * 3))), .agg #[.int .i64 bs[kk].f0, .string bs[kk].f1, .slice A3 bs[kk].f2.length a3], .agg #[.int .i64 bs[kk].f0, .string bs[kk].f1, .slice A3 bs[kk].f2.length a3], .func (.func 98) #[] #[.pointer (some ⟨Wr.heap.size + 1, 0, none⟩)], encH x.1, u16, u17, u18, u19, u20], defers := [] })
      (fun x a' _ X Y row hs hg hr => by obtain ⟨Bx, h1, h2, h3⟩ := hs; exact ⟨Bx, h1, Blk.notcells h2 hg (fun r e => (hr r e).2), h3⟩)
      ?assign ?body ?done ?stop
    case assign =>
      rintro l' pre ⟨⟨x, A', c'⟩, hx⟩ Wx K ⟨h1, h2, h3, h4, h5, h6⟩ hK
      simp only [encH]
      have H1 := Lib.hid h1
      have H2 := Lib.hid h2
      have H3 := Lib.hid h3
      have H4 := Lib.hid h4
      have H5 := Lib.hid h5
      clear h1 h2 h3 h4 h5
      gi_wp2
      have q := below_alloc1 Wx (.cells #[.int .i64 x.f0, .string x.f1, .slice A' x.f2.length c'] 24)
      exact hK _ _ ((KeepsOthers.alloc _ _).from _) ((KC.rel _ _).below q) ⟨HJJ.out _ Wx _ none H1.out (grown_of_below q none) (fun r e => by cases e), H2.out.below q, blk_below H3.out q, H4.out.keeps (KeepsBut.below (l := none) q) (fun k h => by cases h), (KC.rel M n₀).trans H5.out ((KC.rel M n₀).below q), by have := q.size; omega⟩ ⟨Wx.heap.size, h6, alloc_at _ _, rfl⟩
    case body =>
      rintro l' pre ⟨⟨x, A', c'⟩, hx⟩ a' Wx hl' hr' ⟨h1, h2, h3, h4, h5, h6⟩ ⟨Bx, hBx, bX, rfl⟩ hlt'
      have hlt2 : pre.length < szE bs[kk] := hlt'
      have e0 : Wx.cell? ⟨Bx, 0, none⟩ = some (.int .i64 x.f0) := (blk_cell bX 0).trans rfl
      have e1 : Wx.cell? ⟨Bx, 1, none⟩ = some (.string x.f1) := (blk_cell bX 1).trans rfl
      have e2 : Wx.cell? ⟨Bx, 2, none⟩ = some (.slice A' x.f2.length c') := (blk_cell bX 2).trans rfl
      have ey := cell_of_one h3
      unfold fvY at ey
      have hyld := HY.out (hs ++ pre) ⟨(x, A', c'), hx⟩ Wx h1 (by rw [List.length_append, hlen2]; omega)
      obtain ⟨fn, tmps, asg, bdy, hy, hR⟩ := YieldAt.any 0 hyld
      unfold encH at hy
      simp only at hy
      have HRd := Lib.hid hR
      have H2 := Lib.hid h2
      have H3 := Lib.hid h3
      have H4 := Lib.hid h4
      have H5 := Lib.hid h5
      clear h1 h2 h3 h4 h5 hR hyld bX hr'
      gi_wp2_with fail
      refine (RoundIn.any HRd.out).mono ?_
      clear HRd
      rintro en W5 (⟨rfl, hj5, hx5⟩ | ⟨rfl, hx5, hk5⟩)
      · have J5 := Lib.hid hj5
        have X5 := Lib.hid hx5
        clear hj5 hx5
        gi_wp2_with fail
        have hkb := X5.out.2
        have hll : ∀ k, some l = some k → k < W.heap.size := fun k h => by cases h; exact hlW
        refine ⟨⟨hkb.1, fun k o hk ho hc => hkb.2 k o (fun e => by cases e; omega) ho (.inl hc)⟩, X5.out.1, by rw [← List.append_assoc]; exact J5.out, H2.out.keeps hkb hll, ?_, H4.out.keeps hkb (fun k h => by cases h; omega), (KC.rel M n₀).trans H5.out X5.out.1, Nat.le_trans h6 hkb.1⟩
        exact X5.out.1.blkF (HnM.out _ (by omega)) H3.out
      · have X5 := Lib.hid hx5
        have K5 := Lib.hid hk5
        clear hx5 hk5
        gi_wp2_with fail
        have hkb := K5.out
        have hll : ∀ k, some l = some k → k < W.heap.size := fun k h => by cases h; exact hlW
        exact ⟨⟨hkb.1, fun k o hk ho hc => hkb.2 k o (fun e => by cases e; omega) ho (.inl hc)⟩, rfl, by rw [← List.append_assoc]; exact X5.out, H2.out.keeps hkb hll⟩
    case done =>
      rintro D zs Wx hD hzs ⟨h1, h2, h3, h4, h5, h6⟩ hK
      have hzs' : exs zs = plE bs[kk] := hzs
      have H1 := Lib.hid h1
      have H2 := Lib.hid (Marks.cons M4.out h2 hD (by omega) hK)
      have H3 := Lib.hid h3
      have H4 := Lib.hid h4
      have H5 := Lib.hid h5
      have HZ := Lib.hid hzs'
      clear h1 h2 h3 h4 h5 hzs hzs' hK
      gi_wp2
      refine HT.out _ _ ⟨kk + 1, D :: Ds, hs ++ zs, _, _, _, _, _, _, _, _, _, _, _, _, _, rfl, by omega, by rw [exs_append, HZ.out, HNe.out], H1.out, H5.out, H2.out, H3.out, H4.out, by omega⟩ ?_
      simp [intOf]
      omega
    case stop =>
      rintro D c pre Wx hD hSp ⟨rfl, h2, h3⟩ hK
      have H2 := Lib.hid h2
      have H3 := Lib.hid (Marks.cons M4.out h3 hD (by omega) hK)
      have HSp := Lib.hid hSp
      clear h2 h3 hK hSp
      gi_wp2
      show LeavesInM _ _ _ _ _ _ ((D :: Ds).map markD) .returning Wx
      exact leaves_marks (B := W.heap.size) (I := Jx (hs ++ pre)) (fun X E hE hX h => HJx.out.putObj _ h hE hX rfl) (fun X h => ⟨_, results_none rfl _ _ _, ⟨_, rfl⟩, .inr ⟨_, by
        have hp : exs pre <+: plE bs[kk] := HSp.out
        rw [exs_append, HE.out]; exact ((List.prefix_append_right_inj _).2 hp).trans HPf.out, h⟩⟩) (D :: Ds) Wx H3.out.1 H3.out.2 H2.out
  · have : kk = bs.length := by omega
    subst this
    have HE := Lib.hid hex
    have HJ := Lib.hid hj
    have HM := Lib.hid hmk
    clear hex hj hmk
    gi_wp2_with fail
    show LeavesInM _ _ _ _ _ _ (Ds.map markD) .returning Wr
    exact leaves_marks (B := W.heap.size) (I := J hs) (fun X E hE hX h => HJJ.out.putObj _ h hE hX rfl) (fun X h => ⟨_, results_none rfl _ _ _, ⟨_, rfl⟩, .inl ⟨_, by rw [HE.out, List.take_length], h⟩⟩) Ds Wr HM.out.1 HM.out.2 HJ.out
end Go.Proofs.Ytacefdkfbpgedaa.Mine
/- prog's asker: whether each expression of a definition has what is asked. -/
namespace Go.Proofs.Ytacefdkfbpgedaa.Mine
open Go.Proofs.Ytacefdkfbpgedaa.PProgExprs
open Go.RowKit Go.Shelf Go.Proofs.YtacefdkfbpgedaaW.PrintWords Go.Proofs.YtacefdkfbpgedaaW.PrintLast Go.Proofs.YtacefdkfbpgedaaW.PrintMore
set_option linter.unusedVariables false
set_option linter.unusedSimpArgs false
attribute [local go_sem] Oper.semAt_some

/-- All expressions of a definition. -/
def eachD (d : De) : List Ex := plL (bodiesD d)
theorem results_bool {fn : Func} {p : Tmp} (h : fn.results = #[.cell p 4]) (tmps : Array Value) (w : World) (g : Nat) (b : Bool) (hp : tmps.getD p undef = .pointer (some ⟨g, 0, none⟩)) (hg : w.heap[g]? = some (.cells #[.bool b] 4 (0, 0))) :
    (results fn tmps).run Try.prog w = .ok (.bool b) w := by
  have hc := cell_of_one hg
  have hp' : tmps[p]?.getD undef = .pointer (some ⟨g, 0, none⟩) := by simpa using hp
  have hl : (loadVar 4 ⟨g, 0, none⟩).run Try.prog w = .ok (.bool b) w := by
    simp [loadVar, go_sem, hc, run_underlying Try.underlying4]
  simp [results, h, hp', asAddr, hl]
theorem evens_any {p : Ex → Bool} {l pre : List Ex} (h : pre <+: l) {x : Ex} (hx : x ∈ pre) (hp : p x = false) : l.all p = false := by
  rw [List.all_eq_false]
  exact ⟨x, h.subset hx, by simp [hp]⟩

set_option maxRecDepth 100000 in
set_option maxHeartbeats 4000000 in
theorem c_all (d : De) (cs : List Value) (w : World) (hd : Kd.FK k58 w (fun k => k < w.heap.size) d cs) (hl : d.f2.length ≤ 1000000) (hz : ∀ b ∈ bodiesD d, szE b < 1000000) (g : Nat) (lb : Array Value) (eg : ∀ args w, (callFunc g args).run Try.prog w = .ok (.enter g args) w) (p : Ex → Bool)
    (hf : ∀ (x : Ex) (A : Option Addr) (c : Nat) (W : World), Below w.heap.size w W → x.f2.length ≤ c → Kd.C k24 W A x.f2.length x.f2 → szE x < 1000000 → Calls Try.prog g (#[encH (x, A, c)] ++ lb) W fun e W' => e = .returned (.bool (p x)) ∧ Below W.heap.size W W') :
    Calls Try.prog 95 #[.agg (cs ++ [Value.func (.func g) #[] lb]).toArray] w fun en w' => en = .returned (.bool ((eachD d).all p)) ∧ Below w.heap.size w w' := by
  have h6 : cs.length = 6 := k58.K_len (Kd.FK_now hd)
  have HE := Lib.hid (c_each cs h6)
  obtain ⟨A1, c1, A2, c2, A5, c5, hcs, _⟩ := k58_openF hd
  have HD := Lib.hid hd
  have HF := Lib.hid hf
  clear hd hf
  subst hcs
  simp only [List.cons_append, List.nil_append]
  refine (callsIn_wide (n := 7)).1 (callsIn_of_wp_marks (F := Fence.wide) Try.func95 rfl trivial ?_ rfl)
  simp only [Try.ntmps95, List.size_toArray, List.length_cons, List.length_nil, Nat.reduceAdd, Nat.reduceSub, Array.replicate_succ, Array.replicate_zero, List.push_toArray, List.append_toArray, List.nil_append, List.cons_append]
  gi_wp2_with fail
  refine ⟨trivial, (callsIn_wide.2 (HE.out _)).mono ?_⟩
  rintro en w1 ⟨rfl, rfl⟩
  gi_wp2_with fail
  obtain ⟨cv, hcv⟩ : ∃ cv : List Value, cv = [.string d.f0, .slice A1 d.f1.length c1, .slice A2 d.f2.length c2, .int .i64 d.f3.f0, .string d.f3.f1, .slice A5 d.f3.f2.length c5] := ⟨_, rfl⟩
  obtain ⟨W0, hW0⟩ : ∃ W0, ((w.alloc (.cells #[.string d.f0, .slice A1 d.f1.length c1, .slice A2 d.f2.length c2, .int .i64 d.f3.f0, .string d.f3.f1, .slice A5 d.f3.f2.length c5, Value.func (.func g) #[] lb] 116)).alloc (.cells #[.bool false] 4)).alloc (.cells #[.string d.f0, .slice A1 d.f1.length c1, .slice A2 d.f2.length c2, .int .i64 d.f3.f0, .string d.f3.f1, .slice A5 d.f3.f2.length c5] 58) = W0 := ⟨_, rfl⟩
  have hsz : W0.heap.size = w.heap.size + 3 := by rw [← hW0]; simp
  have q0 : Below w.heap.size w W0 := by rw [← hW0]; exact ((below_alloc1 _ _).trans ((below_alloc1 _ _).mono (by simp))).trans ((below_alloc1 _ _).mono (by simp; omega))
  have bA : W0.heap[w.heap.size]? = some (.cells #[.string d.f0, .slice A1 d.f1.length c1, .slice A2 d.f2.length c2, .int .i64 d.f3.f0, .string d.f3.f1, .slice A5 d.f3.f2.length c5, Value.func (.func g) #[] lb] 116 (0, 0)) := by rw [← hW0]; exact blk_alloc (blk_alloc (alloc_at _ _) _) _
  have bR : W0.heap[w.heap.size + 1]? = some (.cells #[.bool false] 4 (0, 0)) := by rw [← hW0]; have := alloc_at (w.alloc (.cells #[.string d.f0, .slice A1 d.f1.length c1, .slice A2 d.f2.length c2, .int .i64 d.f3.f0, .string d.f3.f1, .slice A5 d.f3.f2.length c5, Value.func (.func g) #[] lb] 116)) (.cells #[.bool false] 4); rw [World.size_alloc] at this; exact blk_alloc this _
  have bD : W0.heap[w.heap.size + 1 + 1]? = some (.cells cv.toArray 58 (0, 0)) := by rw [← hW0, hcv]; have := alloc_at ((w.alloc (.cells #[.string d.f0, .slice A1 d.f1.length c1, .slice A2 d.f2.length c2, .int .i64 d.f3.f0, .string d.f3.f1, .slice A5 d.f3.f2.length c5, Value.func (.func g) #[] lb] 116)).alloc (.cells #[.bool false] 4)) (.cells #[.string d.f0, .slice A1 d.f1.length c1, .slice A2 d.f2.length c2, .int .i64 d.f3.f0, .string d.f3.f1, .slice A5 d.f3.f2.length c5] 58); simpa only [World.size_alloc] using this
  rw [hW0]
  have hD0 : Kd.FK k58 W0 (fun k => k < w.heap.size) d cv := by rw [hcv]; exact Kd.FK_below HD.out q0
  have HCv := Lib.hid hcv
  have HQ := Lib.hid q0
  clear hW0 hcv HE HD q0
  refine rangeX (by omega) (gf := 130) (lb := #[.pointer (some ⟨w.heap.size + 1 + 1, 0, none⟩)]) rfl (enters_of Try.func130 (by kernel_rfl) rfl)
    (each_stops W0 NoM w.heap.size (fun k => k < w.heap.size) (fun k h => h.elim) (fun k hk => ⟨fun h => h, hk⟩) (by omega) d cv hD0 hl hz (w.heap.size + 1 + 1) W0 ((KC.rel _ _).refl _) bD) (by omega) (Below.refl _ _)
    (fun pre Wx => (exs pre).all p = true ∧ Wx.heap[w.heap.size]? = some (.cells #[.string d.f0, .slice A1 d.f1.length c1, .slice A2 d.f2.length c2, .int .i64 d.f3.f0, .string d.f3.f1, .slice A5 d.f3.f2.length c5, Value.func (.func g) #[] lb] 116 (0, 0)) ∧ Wx.heap[w.heap.size + 1]? = some (.cells #[.bool false] 4 (0, 0)) ∧ Bel w W0.heap.size Wx)
    (fun c pre Wx => c = .ret ∧ (∃ x ∈ exs pre, p x = false) ∧ Wx.heap[w.heap.size + 1]? = some (.cells #[.bool false] 4 (0, 0)) ∧ Bel w W0.heap.size Wx)
    (fun pre X Y row ⟨h1, h2, h3, h4⟩ hg hr => ⟨h1, Blk.notcells h2 hg (fun r e => (hr r e).2), Blk.notcells h3 hg (fun r e => (hr r e).2), (Bel.own (β := Unit) (by omega)) () X Y row h4 hg hr⟩)
    (fun c pre X Y row ⟨h1, h2, h3, h4⟩ hg hr => ⟨h1, h2, Blk.notcells h3 hg (fun r e => (hr r e).2), (Bel.own (β := Unit) (by omega)) () X Y row h4 hg hr⟩)
    ⟨rfl, bA, bR, HQ.out, Nat.le_refl _⟩
    (fun x a' Wx => ∃ Bx, W0.heap.size ≤ Bx ∧ Wx.heap[Bx]? = some (.cells (cellsH x.1) 24 (0, 0)) ∧ a' = { tmps := #[.agg #[.string d.f0, .slice A1 d.f1.length c1, .slice A2 d.f2.length c2, .int .i64 d.f3.f0, .string d.f3.f1, .slice A5 d.f3.f2.length c5, Value.func (.func g) #[] lb], .pointer (some ⟨w.heap.size, 0, none⟩), .pointer (some ⟨w.heap.size + 1, 0, none⟩), .pointer (some ⟨Bx, 0, none⟩), .pointer (some ⟨w.heap.size, 0, none⟩), .agg #[.string d.f0, .slice A1 d.f1.length c1, .slice A2 d.f2.length c2, .int .i64 d.f3.f0, .string d.f3.f1, .slice A5 d.f3.f2.length c5], .func (.func 130) #[] #[.pointer (some ⟨w.heap.size + 1 + 1, 0, none⟩)], encH x.1, undef, undef, undef, undef, undef], defers := [] })
    (fun x a' _ X Y row hs hg hr => by obtain ⟨Bx, h1, h2, h3⟩ := hs; exact ⟨Bx, h1, Blk.notcells h2 hg (fun r e => (hr r e).2), h3⟩)
    ?assign ?body ?done ?stop
  case assign =>
    rintro l' pre ⟨⟨x, A', c'⟩, hx⟩ Wx K hl' ⟨h1, h2, h3, h4⟩ hK
    simp only [encH]
    have H1 := Lib.hid h1
    have H2 := Lib.hid h2
    have H3 := Lib.hid h3
    clear h1 h2 h3
    gi_wp2
    have q := below_alloc1 Wx (.cells #[.int .i64 x.f0, .string x.f1, .slice A' x.f2.length c'] 24)
    exact hK _ _ (KeepsBut.below q) ((KC.rel _ _).below q) ⟨H1.out, blk_below H2.out q, blk_below H3.out q, h4.after q⟩ ⟨Wx.heap.size, h4.2, alloc_at _ _, rfl⟩
  case body =>
    rintro l' pre ⟨⟨x, A', c'⟩, hx⟩ a' Wx hl' ⟨h1, h2, h3, h4⟩ ⟨Bx, hBx, bX, rfl⟩ hlt'
    have e0 : Wx.cell? ⟨Bx, 0, none⟩ = some (.int .i64 x.f0) := (blk_cell bX 0).trans rfl
    have e1 : Wx.cell? ⟨Bx, 1, none⟩ = some (.string x.f1) := (blk_cell bX 1).trans rfl
    have e2 : Wx.cell? ⟨Bx, 2, none⟩ = some (.slice A' x.f2.length c') := (blk_cell bX 2).trans rfl
    have ea : Wx.cell? ⟨w.heap.size, 6, none⟩ = some (Value.func (.func g) #[] lb) := (blk_cell h2 6).trans rfl
    have hFx := hx.2.1
    have hCx : Kd.C k24 Wx A' x.f2.length x.f2 := Kd.F_now (Kd.F_step hFx (fun k hk hlt => by rw [h4.1.block k hk, HQ.out.block k hk]))
    have HC := Lib.hid (HF.out x A' c' Wx h4.1 hx.1 hCx hx.2.2)
    simp only [encH] at HC ⊢
    have H1 := Lib.hid h1
    have H2 := Lib.hid h2
    have H3 := Lib.hid h3
    clear h1 h2 h3 bX hCx
    cases hp : p x with
    | true =>
      rw [hp] at HC
      have HP := Lib.hid hp
      clear hp
      gi_wp2_with fail
      refine ⟨trivial, (CallsIn.inRound l' (callsIn_wide.2 HC.out)).mono ?_⟩
      rintro en W5 ⟨rfl, hb5⟩
      have H5 := Lib.hid hb5
      clear hb5
      gi_wp2_with fail
      exact ⟨(KC.rel _ _).below H5.out, KeepsBut.below H5.out, by rw [exs_append, List.all_append, H1.out]; simp [exs, HP.out], blk_below H2.out H5.out, blk_below H3.out H5.out, h4.after H5.out⟩
    | false =>
      rw [hp] at HC
      have HP := Lib.hid hp
      clear hp
      gi_wp2_with fail
      refine ⟨trivial, (CallsIn.inRound l' (callsIn_wide.2 HC.out)).mono ?_⟩
      rintro en W5 ⟨rfl, hb5⟩
      have h5 := blk_below H3.out hb5
      have f5 := blk_frozen h5 0
      have c5' := cell_of_one h5
      have H5 := Lib.hid hb5
      have H35 := Lib.hid h5
      clear hb5 h5
      gi_wp2_with fail
      exact ⟨(KeepsBut.below H5.out).trans (KeepsBut.set H35.out (by decide) _ _), rfl, ⟨x, by simp [exs], HP.out⟩, by have := blk_put H35.out 0 (.bool false) rfl; simpa using this, (h4.after H5.out).set (by simp) _⟩
  case done =>
    rintro D zs Wx hD hzs ⟨h1, h2, h3, h4⟩ hK
    have hzs' : exs zs = eachD d := hzs
    rw [hzs'] at h1
    have f3 := blk_frozen h3 0
    have c3 := cell_of_one h3
    have H1 := Lib.hid h1
    have H3 := Lib.hid h3
    have HK := Lib.hid hK
    clear h1 h2 h3 hK hzs hzs'
    gi_wp2
    have b1 := blk_put H3.out 0 (.bool true) rfl
    have hKne : ¬ D = w.heap.size + 1 := by omega
    have k1 : (Wx.setCell ⟨w.heap.size + 1, 0, none⟩ (.bool true)).heap[D]? = some (.deferred (some [])) := (Below.heap_setCell _ _ _ _ hKne).trans HK.out
    refine ⟨by simp, .inl ⟨_, _, rfl, run_takeDeferred k1, ?_⟩⟩
    have b2 : ((Wx.setCell ⟨w.heap.size + 1, 0, none⟩ (.bool true)).putObj D (.deferred none)).heap[w.heap.size + 1]? = some (.cells #[.bool true] 4 (0, 0)) := by rw [World.putObj_heap_other (by omega)]; simpa using b1
    have hg := grownBy_putObj' (Wx.setCell ⟨w.heap.size + 1, 0, none⟩ (.bool true)) D (.deferred none)
    exact ⟨_, results_bool rfl _ _ _ _ rfl b2, by rw [H1.out], ((h4.set (by simp) _).grown hg (fun k hk => by cases hk; omega)).1⟩
  case stop =>
    rintro D c pre Wx hD hSp ⟨rfl, ⟨x, hx1, hx2⟩, h3, h4⟩ hK
    have H3 := Lib.hid h3
    have HK := Lib.hid hK
    clear h3 hK
    gi_wp2
    refine ⟨by simp, .inl ⟨_, _, rfl, run_takeDeferred HK.out, ?_⟩⟩
    have b2 : (Wx.putObj D (.deferred none)).heap[w.heap.size + 1]? = some (.cells #[.bool false] 4 (0, 0)) := by rw [World.putObj_heap_other (by omega)]; exact H3.out
    have hg := grownBy_putObj' Wx D (.deferred none)
    exact ⟨_, results_bool rfl _ _ _ _ rfl b2, by rw [show (eachD d).all p = false from evens_any hSp hx1 hx2], (h4.grown hg (fun k hk => by cases hk; omega)).1⟩
end Go.Proofs.Ytacefdkfbpgedaa.Mine
