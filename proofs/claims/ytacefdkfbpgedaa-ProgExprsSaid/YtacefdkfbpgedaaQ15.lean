/- The reference's put: what the printed function comes to. -/
import Derived.Test.YtacefdkfbpgedaaQ7
import Derived.Test.YtacefdkfbpgedaaPProgExprsx4
import Derived.Test.YtacefdkfbpgedaaQ5
namespace Go.Proofs.Ytacefdkfbpgedaa.Mine
open Go.Proofs.Ytacefdkfbpgedaa.PProgExprs
open Go.RowKit Go.Shelf Go.Proofs.YtacefdkfbpgedaaW.PrintWords Go.Proofs.YtacefdkfbpgedaaW.PrintLast Go.Proofs.YtacefdkfbpgedaaW.PrintMore
set_option linter.unusedVariables false
set_option linter.unusedSimpArgs false

/-- From some fuel on it is r. -/
def EvF {β : Type} (g : Nat → Option β) (r : β) : Prop := ∃ k0, ∀ k, k0 ≤ k → g k = some r
theorem EvF.succ {β : Type} {g h : Nat → Option β} {r : β} (hg : EvF g r) (he : ∀ k, g k = some r → h (k + 1) = some r) : EvF h r := by
  obtain ⟨k0, hk⟩ := hg
  refine ⟨k0 + 1, fun k hk1 => ?_⟩
  obtain ⟨j, rfl⟩ : ∃ j, k = j + 1 := ⟨k - 1, by omega⟩
  exact he j (hk j (by omega))
theorem EvF.now {β : Type} {h : Nat → Option β} {r : β} (he : ∀ k, h (k + 1) = some r) : EvF h r := ⟨1, fun k hk => by obtain ⟨j, rfl⟩ : ∃ j, k = j + 1 := ⟨k - 1, by omega⟩; exact he j⟩
theorem EvF.both {β γ : Type} {g : Nat → Option β} {h : Nat → Option γ} {r : β} {s : γ} (hg : EvF g r) (hh : EvF h s) : ∃ k0, ∀ k, k0 ≤ k → g k = some r ∧ h k = some s := by
  obtain ⟨a, ha⟩ := hg
  obtain ⟨b, hb⟩ := hh
  exact ⟨max a b, fun k hk => ⟨ha k (by omega), hb k (by omega)⟩⟩
theorem wrap_small {n : Nat} (h : n < 9000000000000000000) : wrap64 ((n : Int) + 1) = ((n + 1 : Nat) : Int) := by
  unfold wrap64; omega
theorem putL_take {vars : List ByteArray} {bys l : List Ex} {i : Nat} (hi : i < l.length) : putL vars bys (l.take (i + 1)) = putL vars bys (l.take i) ++ [putE vars bys l[i]] := by
  have key : ∀ (a b : List Ex), putL vars bys (a ++ b) = putL vars bys a ++ putL vars bys b := by
    intro a b
    induction a with
    | nil => simp [putL]
    | cons x xs ih => rw [List.cons_append, putL, putL, ih, List.cons_append]
  rw [take_snoc hi, key]; simp [putL]
theorem putL_len {vars : List ByteArray} {bys : List Ex} : ∀ l : List Ex, (putL vars bys l).length = l.length
  | [] => by simp [putL]
  | x :: xs => by rw [putL, List.length_cons, List.length_cons, putL_len xs]

theorem ev_l1 (vars : List ByteArray) (bys : List Ex) (a0 : Int) (a1 : ByteArray) (l : List Ex) (hl : l.length ≤ 1000000)
    (ih : ∀ x ∈ l, EvF (fun k => roundelayref07_put.f k x.f0 x.f1 x.f2 vars bys) ((putE vars bys x).f0, (putE vars bys x).f1, (putE vars bys x).f2)) :
    ∀ m i, l.length - i ≤ m → i ≤ l.length → EvF (fun k => roundelayref07_put.l1 k vars bys (i : Int) a0 a1 l a0 a1 (putL vars bys (l.take i))) (a0, a1, putL vars bys l) := by
  intro m
  induction m with
  | zero =>
    intro i hm hi
    have : i = l.length := by omega
    subst this
    refine EvF.now (fun k => ?_)
    simp only [roundelayref07_put.l1]
    rw [if_neg (by omega), List.take_length]
  | succ m ihm =>
    intro i hm hi
    by_cases hlt : i < l.length
    · have hx := ih l[i] (List.getElem_mem hlt)
      obtain ⟨k0, hk⟩ := EvF.both hx (ihm (i + 1) (by omega) (by omega))
      refine ⟨k0 + 1, fun k hk1 => ?_⟩
      obtain ⟨j, rfl⟩ : ∃ j, k = j + 1 := ⟨k - 1, by omega⟩
      obtain ⟨h1, h2⟩ := hk j (by omega)
      have hrd : rd_T24 l (i : Int) = l[i] := by simp [rd_T24, hlt]
      simp only [roundelayref07_put.l1]
      rw [if_pos (by omega), if_pos (by omega), hrd]
      rw [h1, Option.bind_some]
      dsimp only
      rw [if_pos (by rw [putL_len, List.length_take]; omega), wrap_small (by omega)]
      rw [putL_take hlt] at h2
      rw [show (⟨(putE vars bys l[i]).f0, (putE vars bys l[i]).f1, (putE vars bys l[i]).f2⟩ : Ex) = putE vars bys l[i] by cases putE vars bys l[i]; rfl]
      exact h2
    · have : i = l.length := by omega
      subst this
      refine EvF.now (fun k => ?_)
      simp only [roundelayref07_put.l1]
      rw [if_neg (by omega), List.take_length]
theorem ev_l0 (vars : List ByteArray) (bys : List Ex) (hb : vars.length ≤ bys.length) (hv : vars.length ≤ 1000000) (e : Ex) (hl : e.f2.length ≤ 1000000)
    (ih : ∀ x ∈ e.f2, EvF (fun k => roundelayref07_put.f k x.f0 x.f1 x.f2 vars bys) ((putE vars bys x).f0, (putE vars bys x).f1, (putE vars bys x).f2)) :
    ∀ m i, vars.length - i ≤ m → i ≤ vars.length → (∀ j y, j < i → vars[j]? = some y → ¬ (e.f0 = 1 ∧ y = e.f1)) → EvF (fun k => roundelayref07_put.l0 k vars bys (i : Int) e.f0 e.f1 e.f2) ((putE vars bys e).f0, (putE vars bys e).f1, (putE vars bys e).f2) := by
  have hend : (∀ j y, j < vars.length → vars[j]? = some y → ¬ (e.f0 = 1 ∧ y = e.f1)) → EvF (fun k => roundelayref07_put.l0 k vars bys (vars.length : Int) e.f0 e.f1 e.f2) ((putE vars bys e).f0, (putE vars bys e).f1, (putE vars bys e).f2) := by
    intro hno
    have hisv : isV vars e.f0 e.f1 = false := by
      cases h : isV vars e.f0 e.f1 with
      | false => rfl
      | true =>
        rw [isV, Bool.and_eq_true, decide_eq_true_eq, List.any_eq_true] at h
        obtain ⟨h1, y, hy, h2⟩ := h
        obtain ⟨j, hj, rfl⟩ := List.getElem_of_mem hy
        exact absurd ⟨h1, of_decide_eq_true h2⟩ (hno j _ hj (List.getElem?_eq_getElem hj))
    rw [putE_eq, hisv, if_neg (by simp)]
    refine EvF.succ (ev_l1 vars bys e.f0 e.f1 e.f2 hl ih _ 0 (Nat.le_refl _) (Nat.zero_le _)) (fun k hk => ?_)
    simp only [roundelayref07_put.l0]
    rw [if_neg (by omega)]
    simpa [putL] using hk
  intro m
  induction m with
  | zero =>
    intro i hm hi hno
    have : i = vars.length := by omega
    subst this
    exact hend hno
  | succ m ihm =>
    intro i hm hi hno
    by_cases hlt : i < vars.length
    · have hrd : rdOf ByteArray.empty vars (i : Int) = vars[i] := by simp [rdOf, hlt]
      have hrb : rd_T24 bys (i : Int) = bys[i] := by simp [rd_T24, show i < bys.length by omega]
      by_cases hk1 : e.f0 = 1
      · by_cases hs : e.f1 = vars[i]
        · have hisv : isV vars e.f0 e.f1 = true := by
            rw [isV, Bool.and_eq_true, decide_eq_true_eq, List.any_eq_true]
            exact ⟨hk1, vars[i], List.getElem_mem hlt, by simp [hs]⟩
          have hfi : vars.findIdx (fun x => decide (x = e.f1)) = i := by
            rw [List.findIdx_eq hlt]
            exact ⟨by simp [hs], fun j hj => by
              have := hno j _ hj (List.getElem?_eq_getElem (by omega))
              simp only [decide_eq_false_iff_not]
              exact fun h => this ⟨hk1, h⟩⟩
          rw [putE_eq, hisv, if_pos rfl, pickE, hfi]
          have hget : bys.getD i z24 = bys[i] := by simp [List.getD_eq_getElem?_getD, show i < bys.length by omega]
          rw [hget]
          refine EvF.now (fun k => ?_)
          simp only [roundelayref07_put.l0]
          rw [if_pos (by omega), if_pos hk1, if_pos (by omega), hrd, if_pos (by rw [hs]), if_pos (by omega), hrb]
        · refine EvF.succ (ihm (i + 1) (by omega) (by omega) (fun j y hj hy => ?_)) (fun k hk => ?_)
          · rcases Nat.lt_or_ge j i with h | h
            · exact hno j y h hy
            · obtain rfl : j = i := by omega
              rw [List.getElem?_eq_getElem hlt] at hy
              cases hy
              exact fun h => hs h.2.symm
          · simp only [roundelayref07_put.l0]
            rw [if_pos (by omega), if_pos hk1, if_pos (by omega), hrd, if_neg (fun h => hs (ByteArray.ext (Array.toList_inj.1 (by rw [ByteArray.toList_eq, ByteArray.toList_eq] at h; exact h)))), wrap_small (by omega)]
            exact hk
      · refine EvF.succ (ihm (i + 1) (by omega) (by omega) (fun j y hj hy => fun h => hk1 h.1)) (fun k hk => ?_)
        simp only [roundelayref07_put.l0]
        rw [if_pos (by omega), if_neg hk1, wrap_small (by omega)]
        exact hk
    · have : i = vars.length := by omega
      subst this
      exact hend hno
theorem ev_f (vars : List ByteArray) (bys : List Ex) (hb : vars.length ≤ bys.length) (hv : vars.length ≤ 1000000) : ∀ m (e : Ex), szE e ≤ m → szE e ≤ 1000000 → EvF (fun k => roundelayref07_put.f k e.f0 e.f1 e.f2 vars bys) ((putE vars bys e).f0, (putE vars bys e).f1, (putE vars bys e).f2) := by
  intro m
  induction m with
  | zero => intro e h; exact absurd h (by have := szE_pos e; omega)
  | succ m ih =>
    intro e hm h2
    have hsz := szE_eq e
    have hlen := szL_len e.f2
    refine EvF.succ (ev_l0 vars bys hb hv e (by omega) (fun x hx => ih x (by have := szL_mem hx; omega) (by have := szL_mem hx; omega)) _ 0 (Nat.le_refl _) (Nat.zero_le _) (fun j y hj => absurd hj (Nat.not_lt_zero _))) (fun k hk => ?_)
    simp only [roundelayref07_put.f]
    exact hk
end Go.Proofs.Ytacefdkfbpgedaa.Mine
/- The reference's put and Subst. -/
namespace Go.Proofs.Ytacefdkfbpgedaa.Mine
open Go.Proofs.Ytacefdkfbpgedaa.PProgExprs
open Go.RowKit Go.Shelf Go.Proofs.YtacefdkfbpgedaaW.PrintWords Go.Proofs.YtacefdkfbpgedaaW.PrintLast Go.Proofs.YtacefdkfbpgedaaW.PrintMore
set_option linter.unusedVariables false
set_option linter.unusedSimpArgs false

theorem c_rput (e : Ex) (A : Option Addr) (c : Nat) (vars : List ByteArray) (Av : Option Addr) (cv : Nat) (bys : List Ex) (Ab : Option Addr) (cb : Nat) (w : World) (ok : Nat → Prop)
    (hr : Kd.C k24 w A e.f2.length e.f2) (hc : e.f2.length ≤ c) (hv : Kd.C Kd.string w Av vars.length vars) (hcv : vars.length ≤ cv) (hb : Kd.F k24 w ok Ab bys.length bys) (hcb : bys.length ≤ cb) (hl : vars.length ≤ bys.length) (hvl : vars.length ≤ 1000000) (hs : szE e ≤ 1000000) :
    Calls Try.prog 60 #[.agg #[.int .i64 e.f0, .string e.f1, .slice A e.f2.length c], .slice Av vars.length cv, .slice Ab bys.length cb] w fun en w' =>
      ∃ v, en = .returned (.agg #[.int .i64 (putE vars bys e).f0, .string (putE vars bys e).f1, v]) ∧ Kd.V k24 24 w' w.heap.size (fun k => ok k ∨ w.heap.size ≤ k) v (putE vars bys e).f2 ∧ Below w.heap.size w w' := by
  obtain ⟨k0, hk⟩ := ev_f vars bys hl hvl _ e (Nat.le_refl _) hs
  exact roundelayref07_put.calls k0 e.f0 e.f1 A c e.f2 Av cv vars ok Ab cb bys _ _ _ w hr hc hv hcv ⟨Ab, cb, rfl, hcb, hb⟩ (hk k0 (Nat.le_refl _))

theorem subP_eq (vars : List ByteArray) (bys : List Ex) (e : Ex) : subP vars bys e = if vars.length = bys.length then (if twB vars then (noE, 5) else (if szE (putE vars bys e) ≤ 24 then (putE vars bys e, 0) else (noE, 2))) else (noE, 7) := by
  unfold subP
  by_cases h1 : vars.length = bys.length
  · rw [if_pos h1, if_pos h1]
    by_cases h2 : twB vars = true
    · rw [if_pos h2, if_pos h2]
    · rw [if_neg h2, if_neg h2]
      obtain ⟨g1, g2, _⟩ := (subE_sz (vars := vars) (bys := bys) (szE e)).1 e 0 (Nat.le_refl _)
      rw [Nat.zero_add] at g1 g2
      by_cases h3 : szE (putE vars bys e) ≤ 24
      · rw [if_pos h3, g1 h3, if_pos h3]
      · rw [if_neg h3, if_neg (by have := g2 (by omega); omega)]
  · rw [if_neg h1, if_neg h1]

set_option maxRecDepth 100000 in
set_option maxHeartbeats 4000000 in
theorem c_rSubst (e : Ex) (A : Option Addr) (c : Nat) (vars : List ByteArray) (Av : Option Addr) (cv : Nat) (bys : List Ex) (Ab : Option Addr) (cb : Nat) (w : World) (ok : Nat → Prop) (hok : ∀ k, ok k → k < w.heap.size)
    (hr : Kd.C k24 w A e.f2.length e.f2) (hc : e.f2.length ≤ c) (hv : Kd.C Kd.string w Av vars.length vars) (hcv : vars.length ≤ cv) (hb : Kd.F k24 w ok Ab bys.length bys) (hcb : bys.length ≤ cb)
    (hs : szE e ≤ 1000000) (hvl : vars.length ≤ 1000000) (hps : szE (putE vars bys e) ≤ 1000000) :
    Calls Try.prog 14 #[.agg #[.int .i64 e.f0, .string e.f1, .slice A e.f2.length c], .slice Av vars.length cv, .slice Ab bys.length cb] w fun en w' =>
      ∃ v, en = .returned (.tuple #[.agg #[.int .i64 (subP vars bys e).1.f0, .string (subP vars bys e).1.f1, v], .int .i64 (subP vars bys e).2]) ∧ Kd.V k24 24 w' w.heap.size (fun k => ok k ∨ w.heap.size ≤ k) v (subP vars bys e).1.f2 ∧ Below w.heap.size w w' := by
  have hm1 := hv.2.1
  have hm2 := (Kd.F_now hb).2.1
  obtain ⟨W2, hW2⟩ : ∃ W2, (w.alloc (.cells #[.int .i64 e.f0, .string e.f1, .slice A e.f2.length c] 24)).alloc (.cells #[.int .i64 0, .string ⟨#[]⟩, .slice none 0 0] 24) = W2 := ⟨_, rfl⟩
  have z2 : W2.heap.size = w.heap.size + 1 + 1 := by rw [← hW2]; simp
  have q2 : Below w.heap.size w W2 := by rw [← hW2]; exact below_alloc2 _ _ _
  have b0 : W2.heap[w.heap.size]? = some (.cells #[.int .i64 e.f0, .string e.f1, .slice A e.f2.length c] 24 (0, 0)) := by rw [← hW2]; exact blk_alloc (alloc_at _ _) _
  have b1 : W2.heap[w.heap.size + 1]? = some (.cells #[.int .i64 0, .string ⟨#[]⟩, .slice none 0 0] 24 (0, 0)) := by rw [← hW2]; have := alloc_at (w.alloc (.cells #[.int .i64 e.f0, .string e.f1, .slice A e.f2.length c] 24)) (.cells #[.int .i64 0, .string ⟨#[]⟩, .slice none 0 0] 24); rw [World.size_alloc] at this; exact this
  have d0 := (blk_cell b1 0).trans rfl
  have d1 := (blk_cell b1 1).trans rfl
  have d2 := (blk_cell b1 2).trans rfl
  have fd := fun i => blk_frozen b1 i
  have HS := Lib.hid (subP_eq vars bys e)
  have HT := Lib.hid (c_rtwice Av cv vars W2 (Kd.C_below hv q2) hcv)
  have HP := Lib.hid (fun W (h : Below w.heap.size w W) (hl : vars.length ≤ bys.length) => c_rput e A c vars Av cv bys Ab cb W ok (Kd.C_below hr h) hc (Kd.C_below hv h) hcv (Kd.F_below hb h) hcb hl hvl hs)
  have B0 := Aside0.mk b0
  have B1 := Aside0.mk b1
  have Q2 := Aside0.mk q2
  have HZ := Lib.hid z2
  have HOk := Lib.hid hok
  have HW2 := Lib.hid hW2
  clear hr hv hb b0 b1 q2 z2 hok
  by_cases hl : vars.length = bys.length
  · have hl1 : ((vars.length : Int) != (bys.length : Int)) = false := by simp only [bne_eq_false_iff_eq]; omega
    have HL := Lib.hid hl
    clear hl
    cases ht : twB vars with
    | true =>
      rw [ht] at HT
      have HTt := Lib.hid ht
      clear ht d0 d1 d2 fd hW2
      go_enter Try.func14, Try.ntmps14
      go_wp2_with fail
      rw [HW2.out]
      refine HT.out.mono ?_
      rintro en w5 ⟨rfl, hb5⟩
      have B1' := Aside0.mk (blk_below B1.out hb5)
      have d0' := (blk_cell B1'.out 0).trans rfl
      have d1' := (blk_cell B1'.out 1).trans rfl
      have d2' := (blk_cell B1'.out 2).trans rfl
      have fd' := fun i => blk_frozen B1'.out i
      have Q5 := Aside0.mk (Q2.out.trans (hb5.mono Q2.out.size))
      clear hb5
      go_wp2_with fail
      have b6 := blk_put (blk_put (blk_put B1'.out 0 (.int .i64 0) rfl) 1 (.string ⟨#[]⟩) rfl) 2 (.slice none 0 0) rfl
      refine bodyPost_ret (results_ct rfl _ _ _ _ _ _ _ rfl b6 Try.underlying24 rfl (by kernel_rfl)) rfl ?_
      rw [HS.out, if_pos HL.out, if_pos HTt.out]
      exact ⟨_, rfl, Kd.V_nil _ _ _ _ _, ((Q5.out.setCell (by simp only; omega) _).setCell (by simp only; omega) _).setCell (by simp only; omega) _⟩
    | false =>
      rw [ht] at HT
      have HTt := Lib.hid ht
      clear ht d0 d1 d2 fd hW2
      go_enter Try.func14, Try.ntmps14
      go_wp2_with fail
      rw [HW2.out]
      refine HT.out.mono ?_
      rintro en w5 ⟨rfl, hb5⟩
      have B0' := Aside0.mk (blk_below B0.out hb5)
      have B1' := Aside0.mk (blk_below B1.out hb5)
      have Q5 := Aside0.mk (Q2.out.trans (hb5.mono Q2.out.size))
      have e0 := (blk_cell B0'.out 0).trans rfl
      have e1 := (blk_cell B0'.out 1).trans rfl
      have e2 := (blk_cell B0'.out 2).trans rfl
      have hs5 := hb5.size
      clear hb5
      go_wp2_with fail
      clear e0 e1 e2
      refine (HP.out _ Q5.out (Nat.le_of_eq HL.out)).mono ?_
      rintro en w6 ⟨v, rfl, hV, hb6⟩
      obtain ⟨A6, c6, rfl, hc6, hF6⟩ := hV
      obtain ⟨p, hp⟩ : ∃ p, putE vars bys e = p := ⟨_, rfl⟩
      rw [hp] at hF6 hc6 HS hps ⊢
      have hs6 := hb6.size
      have B1'' := Aside0.mk (blk_below B1'.out hb6)
      have Q6 := Aside0.mk (Q5.out.trans (hb6.mono Q5.out.size))
      obtain ⟨W7, hW7⟩ : ∃ W7, w6.alloc (.cells #[.int .i64 p.f0, .string p.f1, .slice A6 p.f2.length c6] 24) = W7 := ⟨_, rfl⟩
      have q67 : Below w6.heap.size w6 W7 := by rw [← hW7]; exact below_alloc1 _ _
      have b7 : W7.heap[w6.heap.size]? = some (.cells #[.int .i64 p.f0, .string p.f1, .slice A6 p.f2.length c6] 24 (0, 0)) := by rw [← hW7]; exact alloc_at _ _
      have HSz := Lib.hid (c_rSize p A6 c6 W7 hps (Kd.C_below (Kd.F_now hF6) q67) hc6)
      have hz := HZ.out
      have hF7 := Kd.F_mono (Kd.F_bound (Kd.F_below hF6 q67)) (ok' := fun k => k ≠ w.heap.size + 1 ∧ (ok k ∨ w.heap.size ≤ k)) (fun k hk => by
        rcases hk.1 with h | h
        · have := HOk.out k h; exact ⟨by omega, .inl h⟩
        · exact ⟨by omega, .inr (by omega)⟩)
      have F7 := Aside0.mk hF7
      have B7 := Aside0.mk b7
      have B1''' := Aside0.mk (blk_below B1''.out q67)
      have Q7 := Aside0.mk (Q6.out.trans (q67.mono Q6.out.size))
      have HW7 := Lib.hid hW7
      have hlt := lt_of_block b7
      clear hb6 hF6 hF7 q67 hW7 hp hlt b7 hz
      go_wp2_with fail
      rw [HW7.out]
      refine HSz.out.mono ?_
      rintro en w8 ⟨rfl, hb8⟩
      have B8 := Aside0.mk (blk_below B7.out hb8)
      have D8 := Aside0.mk (blk_below B1'''.out hb8)
      have F8 := Aside0.mk (Kd.F_below F7.out hb8)
      have Q8 := Aside0.mk (Q7.out.trans (hb8.mono Q7.out.size))
      have c0 := (blk_cell B8.out 0).trans rfl
      have c1 := (blk_cell B8.out 1).trans rfl
      have c2 := (blk_cell B8.out 2).trans rfl
      have d0' := (blk_cell D8.out 0).trans rfl
      have d1' := (blk_cell D8.out 1).trans rfl
      have d2' := (blk_cell D8.out 2).trans rfl
      have fd' := fun i => blk_frozen D8.out i
      have hz := HZ.out
      have hne : ¬ (w6.heap.size = w.heap.size + 1) := by omega
      clear hb8 hz
      by_cases hle : szE p ≤ 24
      · have hle2 : decide ((24 : Int) < (szE p : Int)) = false := decide_eq_false (by omega)
        go_wp2_with fail
        have b6 := blk_put (blk_put (blk_put D8.out 0 (.int .i64 p.f0) rfl) 1 (.string p.f1) rfl) 2 (.slice A6 p.f2.length c6) rfl
        refine bodyPost_ret (results_ct rfl _ _ _ _ _ _ _ rfl b6 Try.underlying24 rfl (by kernel_rfl)) rfl ?_
        rw [HS.out, if_pos HL.out, HTt.out, if_pos hle]
        exact ⟨_, rfl, ⟨A6, c6, rfl, hc6, Kd.F_mono (Kd.F_far (Kd.F_far (Kd.F_far F8.out (p := ⟨w.heap.size + 1, 0, none⟩) (fun k hk => hk.1) _) (p := ⟨w.heap.size + 1, 1, none⟩) (fun k hk => hk.1) _) (p := ⟨w.heap.size + 1, 2, none⟩) (fun k hk => hk.1) _) (fun k hk => hk.2)⟩, ((Q8.out.setCell (by simp only; omega) _).setCell (by simp only; omega) _).setCell (by simp only; omega) _⟩
      · have hle2 : decide ((24 : Int) < (szE p : Int)) = true := decide_eq_true (by omega)
        go_wp2_with fail
        have b6 := blk_put (blk_put (blk_put D8.out 0 (.int .i64 0) rfl) 1 (.string ⟨#[]⟩) rfl) 2 (.slice none 0 0) rfl
        refine bodyPost_ret (results_ct rfl _ _ _ _ _ _ _ rfl b6 Try.underlying24 rfl (by kernel_rfl)) rfl ?_
        rw [HS.out, if_pos HL.out, HTt.out, if_neg hle]
        exact ⟨_, rfl, Kd.V_nil _ _ _ _ _, ((Q8.out.setCell (by simp only; omega) _).setCell (by simp only; omega) _).setCell (by simp only; omega) _⟩
  · have hl1 : ((vars.length : Int) != (bys.length : Int)) = true := by simp only [bne_iff_ne, ne_eq]; omega
    have HL := Lib.hid hl
    clear hl
    go_enter Try.func14, Try.ntmps14
    go_wp2_with fail
    have b6 := blk_put (blk_put (blk_put B1.out 0 (.int .i64 0) rfl) 1 (.string ⟨#[]⟩) rfl) 2 (.slice none 0 0) rfl
    refine bodyPost_ret (results_ct rfl _ _ _ _ _ _ _ rfl b6 Try.underlying24 rfl (by kernel_rfl)) rfl ?_
    rw [HS.out, if_neg HL.out]
    exact ⟨_, rfl, Kd.V_nil _ _ _ _ _, ((Q2.out.setCell (by simp only; omega) _).setCell (by simp only; omega) _).setCell (by simp only; omega) _⟩
end Go.Proofs.Ytacefdkfbpgedaa.Mine
/- What is not too much to be looked at: how large it may be. No program here. -/
namespace Go.Proofs.Ytacefdkfbpgedaa.Mine
open Go.Proofs.Ytacefdkfbpgedaa.PProgExprs
open Go.RowKit Go.Shelf Go.Proofs.YtacefdkfbpgedaaW.PrintWords Go.Proofs.YtacefdkfbpgedaaW.PrintLast Go.Proofs.YtacefdkfbpgedaaW.PrintMore
set_option linter.unusedVariables false
set_option linter.unusedSimpArgs false

theorem leftE_sz (m : Nat) : ∀ (e : Ex) (n : Int), szE e ≤ m → 0 ≤ leftE e n → leftE e n + (szE e : Int) ≤ n := by
  induction m with
  | zero => intro e n h; exact absurd h (by have := szE_pos e; omega)
  | succ m ih =>
    intro e n h h0
    rw [szE_eq] at h ⊢
    rw [leftE_eq] at h0 ⊢
    have key : ∀ (l : List Ex) (n : Int), szL l ≤ m → 0 ≤ leftL l n → leftL l n + (szL l : Int) ≤ n := by
      intro l
      induction l with
      | nil => intro n _ h; simp only [leftL, szL] at h ⊢; omega
      | cons x xs ihx =>
        intro n hs h0
        rw [szL] at hs ⊢
        rw [leftL] at h0 ⊢
        by_cases hn : n ≥ 0
        · rw [if_pos hn] at h0 ⊢
          have h2 := ihx (leftE x n) (by omega) h0
          have h1 := ih x n (by omega) (by omega)
          omega
        · rw [if_neg hn] at h0; omega
    have := key e.f2 (n - (1 + (e.f1.size : Int) / 40)) (by omega) h0
    have h3 : (0 : Int) ≤ (e.f1.size : Int) / 40 := Int.ediv_nonneg (by omega) (by omega)
    omega
theorem bigE_sz {e : Ex} (h : bigE e = false) : szE e ≤ 60 := by
  rw [bigE, decide_eq_false_iff_not] at h
  have := leftE_sz _ e 60 (Nat.le_refl _) (by omega)
  omega
theorem htE_sz (m : Nat) : ∀ (e : Ex), szE e ≤ m → htE e ≤ szE e := by
  induction m with
  | zero => intro e h; exact absurd h (by have := szE_pos e; omega)
  | succ m ih =>
    intro e h
    rw [szE_eq] at h
    rw [htE_eq, szE_eq]
    have key : ∀ l : List Ex, szL l ≤ m → htL l ≤ 1 + szL l := by
      intro l
      induction l with
      | nil => intro _; simp [htL, szL]
      | cons x xs ihx =>
        intro hs
        rw [szL] at hs ⊢
        rw [htL]
        have := ih x (by omega)
        have := ihx (by omega)
        omega
    exact key _ (by omega)
theorem putE_sz (vars : List ByteArray) (bys : List Ex) (M : Nat) (hM : 1 ≤ M) (hb : ∀ x ∈ bys, szE x ≤ M) (m : Nat) : ∀ (e : Ex), szE e ≤ m → szE (putE vars bys e) ≤ szE e * M := by
  induction m with
  | zero => intro e h; exact absurd h (by have := szE_pos e; omega)
  | succ m ih =>
    intro e h
    have hp := szE_pos e
    rw [szE_eq] at h
    rw [putE_eq]
    split
    · have : szE (pickE vars bys e.f1) ≤ M := by
        unfold pickE
        rw [List.getD_eq_getElem?_getD]
        cases hg : bys[vars.findIdx fun x => decide (x = e.f1)]? with
        | none => simpa [z24, szE, szL] using hM
        | some y => exact hb y (List.mem_of_getElem? hg)
      calc szE (pickE vars bys e.f1) ≤ 1 * M := by omega
        _ ≤ szE e * M := Nat.mul_le_mul_right _ hp
    · have key : ∀ l : List Ex, szL l ≤ m → szL (putL vars bys l) ≤ szL l * M := by
        intro l
        induction l with
        | nil => intro _; simp [putL, szL]
        | cons x xs ihx =>
          intro hs
          rw [szL] at hs
          rw [putL, szL, szL, Nat.add_mul]
          have := ih x (by omega)
          have := ihx (by omega)
          omega
      have h2 := key e.f2 (by omega)
      rw [szE_eq, szE_eq, Nat.add_mul]
      simp only
      omega
end Go.Proofs.Ytacefdkfbpgedaa.Mine
/- The law's Spoil. -/
namespace Go.Proofs.Ytacefdkfbpgedaa.Mine
open Go.Proofs.Ytacefdkfbpgedaa.PProgExprs
open Go.RowKit Go.Shelf Go.Proofs.YtacefdkfbpgedaaW.PrintWords Go.Proofs.YtacefdkfbpgedaaW.PrintLast Go.Proofs.YtacefdkfbpgedaaW.PrintMore
set_option linter.unusedVariables false
set_option linter.unusedSimpArgs false

/-- A list of expressions in blocks from base on, m deep at most; some may share. -/
def Val (W : World) (base top : Nat) : Nat → Value → Prop
  | 0, v => v = .slice none 0 0
  | m + 1, v => v = .slice none 0 0 ∨ ∃ g n cap cur, v = .slice (some ⟨g, 0, none⟩) n cap ∧ n ≤ 9223372036854775807 ∧ (base ≤ g ∧ g < top) ∧ W.heap[g]? = some (.cells cur 24 (0, 0)) ∧
      ∀ j, j < n → ∃ (k : Int) (s : ByteArray) (u : Value), cur[j * 3]? = some (.int .i64 k) ∧ cur[j * 3 + 1]? = some (.string s) ∧ cur[j * 3 + 2]? = some u ∧ Val W base top m u
theorem Val.nil {W : World} {base top : Nat} : ∀ {m : Nat}, Val W base top m (.slice none 0 0)
  | 0 => by simp [Val]
  | m + 1 => by simp [Val]
theorem Val.slice {W : World} {base top : Nat} {m : Nat} {v : Value} (h : Val W base top m v) : ∃ A n c, v = .slice A n c := by
  cases m with
  | zero => rw [Val] at h; exact ⟨_, _, _, h⟩
  | succ m =>
    rw [Val] at h
    rcases h with h | ⟨g, n, cap, cur, h, _⟩
    · exact ⟨_, _, _, h⟩
    · exact ⟨_, _, _, h⟩
theorem Val.succ {W : World} {base top : Nat} : ∀ {m : Nat} {v : Value}, Val W base top m v → Val W base top (m + 1) v
  | 0, v, h => by rw [Val] at h; subst h; exact Val.nil
  | m + 1, v, h => by
    rw [Val] at h ⊢
    rcases h with h | ⟨g, n, cap, cur, h1, h2, h3, h4, h5⟩
    · exact .inl h
    · refine .inr ⟨g, n, cap, cur, h1, h2, h3, h4, fun j hj => ?_⟩
      obtain ⟨k, s, u, a, b, c, d⟩ := h5 j hj
      exact ⟨k, s, u, a, b, c, Val.succ d⟩
theorem Val.mono {W : World} {base top m k : Nat} {v : Value} (h : Val W base top m v) (hk : m ≤ k) : Val W base top k v := by
  obtain ⟨d, rfl⟩ : ∃ d, k = m + d := ⟨k - m, by omega⟩
  clear hk
  induction d with
  | zero => exact h
  | succ d ih => exact ih.succ
/-- What Spoil may do. -/
def Sp (base top : Nat) (W W' : World) : Prop := Below base W W' ∧ (∀ k, top ≤ k → k < W.heap.size → W'.heap[k]? = W.heap[k]?) ∧ ∀ m v, Val W base top m v → Val W' base top m v
theorem Sp.refl (base top : Nat) (W : World) : Sp base top W W := ⟨Below.refl _ _, fun _ _ _ => rfl, fun _ _ h => h⟩
theorem Sp.trans {base top : Nat} {W W' W2 : World} (h : Sp base top W W') (k : Sp base top W' W2) : Sp base top W W2 := ⟨h.1.trans k.1, fun i hi hl => (k.2.1 i hi (Nat.lt_of_lt_of_le hl h.1.size)).trans (h.2.1 i hi hl), fun m v hv => k.2.2 m v (h.2.2 m v hv)⟩
theorem Sp.below {base top : Nat} {W W' : World} (hb : Below W.heap.size W W') (hbase : base ≤ W.heap.size) : Sp base top W W' := by
  refine ⟨hb.mono hbase, fun k _ hk => hb.block k hk, fun m => ?_⟩
  induction m with
  | zero => intro v h; rw [Val] at h ⊢; exact h
  | succ m ih =>
    intro v h
    rw [Val] at h ⊢
    rcases h with h | ⟨g, n, cap, cur, h1, h2, h3, h4, h5⟩
    · exact .inl h
    · refine .inr ⟨g, n, cap, cur, h1, h2, h3, blk_below h4 hb, fun j hj => ?_⟩
      obtain ⟨k, s, u, a, b, c, d⟩ := h5 j hj
      exact ⟨k, s, u, a, b, c, ih u d⟩
/-- An element is cleared. -/
def clr (W : World) (g i : Nat) : World := ((W.setCell ⟨g, i, none⟩ (.int .i64 0)).setCell ⟨g, i + 1, none⟩ (.string ⟨#[]⟩)).setCell ⟨g, i + 2, none⟩ (.slice none 0 0)
theorem clr_heap {W : World} {g i : Nat} {cur : Array Value} {t : Nat} (h : W.heap[g]? = some (.cells cur t (0, 0))) : (clr W g i).heap[g]? = some (.cells (((cur.setIfInBounds i (.int .i64 0)).setIfInBounds (i + 1) (.string ⟨#[]⟩)).setIfInBounds (i + 2) (.slice none 0 0)) t (0, 0)) :=
  blk_put (blk_put (blk_put h i _ rfl) (i + 1) _ rfl) (i + 2) _ rfl
theorem clr_far {W : World} {g g' i : Nat} {cur : Array Value} {t : Nat} (h : W.heap[g']? = some (.cells cur t (0, 0))) (hne : g' ≠ g) : (clr W g i).heap[g']? = some (.cells cur t (0, 0)) := blk_far (blk_far (blk_far h hne _) hne _) hne _
theorem Sp.clr {base top : Nat} {W : World} {g j0 : Nat} {cur0 : Array Value} (h0 : W.heap[g]? = some (.cells cur0 24 (0, 0))) (hg : base ≤ g ∧ g < top) : Sp base top W (clr W g (j0 * 3)) := by
  refine ⟨(((Below.refl base W).setCell hg.1 _).setCell hg.1 _).setCell hg.1 _, fun k hk _ => ?_, fun m => ?_⟩
  · unfold Mine.clr
    rw [Below.heap_setCell _ _ _ _ (by simp only; omega), Below.heap_setCell _ _ _ _ (by simp only; omega), Below.heap_setCell _ _ _ _ (by simp only; omega)]
  induction m with
  | zero => intro v h; rw [Val] at h ⊢; exact h
  | succ m ih =>
    intro v h
    rw [Val] at h ⊢
    rcases h with h | ⟨g1, n, cap, cur, h1, h2, h3, h4, h5⟩
    · exact .inl h
    · by_cases hgg : g1 = g
      · subst hgg
        rw [h0] at h4
        cases h4
        refine .inr ⟨g1, n, cap, _, h1, h2, h3, clr_heap h0, fun j hj => ?_⟩
        obtain ⟨k, s, u, a, b, c, d⟩ := h5 j hj
        by_cases hjj : j = j0
        · subst hjj
          have la := (Array.getElem?_eq_some_iff.1 a).1
          have lb := (Array.getElem?_eq_some_iff.1 b).1
          have lc := (Array.getElem?_eq_some_iff.1 c).1
          exact ⟨0, ⟨#[]⟩, .slice none 0 0, by simp [Array.getElem?_setIfInBounds, la], by simp [Array.getElem?_setIfInBounds, lb], by simp [Array.getElem?_setIfInBounds, lc], Val.nil⟩
        · refine ⟨k, s, u, ?_, ?_, ?_, ih u d⟩
          · rw [Array.getElem?_setIfInBounds_ne (by omega), Array.getElem?_setIfInBounds_ne (by omega), Array.getElem?_setIfInBounds_ne (by omega)]; exact a
          · rw [Array.getElem?_setIfInBounds_ne (by omega), Array.getElem?_setIfInBounds_ne (by omega), Array.getElem?_setIfInBounds_ne (by omega)]; exact b
          · rw [Array.getElem?_setIfInBounds_ne (by omega), Array.getElem?_setIfInBounds_ne (by omega), Array.getElem?_setIfInBounds_ne (by omega)]; exact c
      · refine .inr ⟨g1, n, cap, cur, h1, h2, h3, clr_far h4 hgg, fun j hj => ?_⟩
        obtain ⟨k, s, u, a, b, c, d⟩ := h5 j hj
        exact ⟨k, s, u, a, b, c, ih u d⟩

/-- What is the call's own is such a list. -/
theorem OwnE.val {W : World} {base : Nat} : ∀ (m : Nat) {ok : Nat → Prop} {v : Value} {l : List Ex}, szL l ≤ m → Kd.R k24 24 W base ok v l → Val W base W.heap.size (m + 1) v := by
  intro m
  induction m with
  | zero =>
    intro ok v l h hR
    cases l with
    | nil =>
      obtain ⟨_, inner, ho, _⟩ := hR
      rw [Val]
      rcases ho.2 with ⟨h1, h2⟩ | ⟨g, cap, cur, h1, hb, hg, hcap, hmax, hsz, htake⟩
      · exact .inl h1
      · exact .inr ⟨g, 0, cap, cur, h1, by omega, ⟨hb, blk_lt hg⟩, hg, fun j hj => absurd hj (Nat.not_lt_zero _)⟩
    | cons x xs => rw [szL] at h; have := szE_pos x; omega
  | succ m ih =>
    intro ok v l h hR
    obtain ⟨_, inner, ho, hr⟩ := hR
    rw [Val]
    rcases ho.2 with ⟨h1, h2⟩ | ⟨g, cap, cur, h1, hb, hg, hcap, hmax, hsz, htake⟩
    · exact .inl h1
    · refine .inr ⟨g, l.length, cap, cur, h1, by have : maxLen ≤ 9223372036854775807 := (by decide); omega, ⟨hb, blk_lt hg⟩, hg, fun j hj => ?_⟩
      have hM := hr.2 j _ (List.getElem?_eq_getElem hj)
      obtain ⟨u, hc, hRu⟩ := k24_openM hM
      have hx := szL_mem (List.getElem_mem hj)
      have hs := szE_eq l[j]
      have key : ∀ i z, [Value.int .i64 l[j].f0, .string l[j].f1, u][i]? = some z → cur[j * 3 + i]? = some z := by
        intro i z hz
        rw [← hc, ← htake, List.getElem?_take] at hz
        split at hz
        · rw [List.getElem?_drop, List.getElem?_take] at hz
          split at hz
          · rw [Array.getElem?_toList] at hz; exact hz
          · cases hz
        · cases hz
      exact ⟨_, _, u, key 0 _ rfl, key 1 _ rfl, key 2 _ rfl, ih (by omega) hRu⟩

set_option maxRecDepth 100000 in
set_option maxHeartbeats 4000000 in
theorem c_Spoil (base top : Nat) : ∀ (m : Nat) (k : Int) (s : ByteArray) (v : Value) (w : World), Val w base top m v → base ≤ w.heap.size → top ≤ w.heap.size →
    Calls Try.prog 25 #[.agg #[.int .i64 k, .string s, v]] w fun en w' => en = .returned (.tuple #[]) ∧ Sp base top w w' := by
  intro m
  induction m with
  | zero =>
    intro k s v w hv hb ht
    rw [Val] at hv
    subst hv
    have q := Sp.below (top := top) (below_alloc1 w (.cells #[.int .i64 k, .string s, .slice none 0 0] 24)) hb
    go_enter Try.func25, Try.ntmps25
    go_wp2
    go_loopg [6, 2] 0 (fun gg s6 _ wr => s6 = .int .i64 0 ∧ Aside0 (Sp base top w wr))
    case atStart => exact ⟨rfl, ⟨q⟩⟩
    case round =>
      obtain ⟨rfl, HQ⟩ := hrel
      go_wp2
      (try simp only [Exit.inBlock, Exit.then]); first | refine bodyPost_ret (results_none rfl _ _ _) rfl ?_ | refine bodyPost_end (results_none rfl _ _ _) rfl ?_
      exact ⟨rfl, HQ.out⟩
  | succ m ih =>
    intro k s v w hv hb ht
    have hv' := hv
    rw [Val] at hv'
    rcases hv' with rfl | ⟨g, n, cap, cur, rfl, hn, hg, hbl, hel⟩
    · exact ih k s _ w Val.nil hb ht
    · have Q0 := Aside0.mk (Sp.below (top := top) (below_alloc1 w (.cells #[.int .i64 k, .string s, .slice (some ⟨g, 0, none⟩) n cap] 24)) hb)
      have B0 := Aside0.mk (alloc_at w (.cells #[.int .i64 k, .string s, .slice (some ⟨g, 0, none⟩) n cap] 24))
      have hgl := blk_lt hbl
      have HV := Aside0.mk hv
      clear hv hbl hel
      go_enter Try.func25, Try.ntmps25
      go_wp2
      go_loopg [6, 2] n (fun gg s6 _ wr => ∃ kk : Nat, kk ≤ n ∧ n - kk ≤ gg ∧ s6 = .int .i64 kk ∧ Aside0 (Sp base top w wr) ∧ Aside0 (wr.heap[w.heap.size]? = some (.cells #[.int .i64 k, .string s, .slice (some ⟨g, 0, none⟩) n cap] 24 (0, 0))))
      case atStart => exact ⟨0, Nat.zero_le _, by omega, rfl, Q0, B0⟩
      case round =>
        obtain ⟨kk, hkk, hgg, rfl, HQ, HB⟩ := hrel
        have b2 := (blk_cell HB.out 2).trans rfl
        by_cases hlt : kk < n
        · have hltz : (kk : Int) < (n : Int) := by omega
          have hvr := HQ.out.2.2 _ _ HV.out
          rw [Val] at hvr
          rcases hvr with h | ⟨g1, n1, cap1, cur1, he, hn1, hg1, hbl1, hel1⟩
          · cases h
          cases he
          obtain ⟨k1, s1, u1, x0, x1, x2, hu⟩ := hel1 kk hlt
          obtain ⟨Au, nu, cu, rfl⟩ := hu.slice
          have k0 := (blk_cell hbl1 (kk * 3)).trans x0
          have k1' := (blk_cell hbl1 (kk * 3 + 1)).trans x1
          have k2 := (blk_cell hbl1 (kk * 3 + 2)).trans x2
          have hsz := HQ.out.1.size
          have HC := Lib.hid (ih k1 s1 _ wr hu (by omega) (by omega))
          clear hel1 hu x0 x1 x2
          go_wp2_with fail
          refine HC.out.mono ?_
          rintro en w5 ⟨rfl, hS⟩
          have hb5 := hS.1.size
          have Q5 := Aside0.mk (HQ.out.trans hS)
          have hvr := Q5.out.2.2 _ _ HV.out
          rw [Val] at hvr
          rcases hvr with h | ⟨g2, n2, cap2, cur2, he, hn2, hg2, hbl2, hel2⟩
          · cases h
          cases he
          obtain ⟨k3, s3, u3, y0, y1, y2, _⟩ := hel2 kk hlt
          have z0 := (blk_cell hbl2 (kk * 3)).trans y0
          have z1 := (blk_cell hbl2 (kk * 3 + 1)).trans y1
          have z2 := (blk_cell hbl2 (kk * 3 + 2)).trans y2
          have fz := fun i => blk_frozen hbl2 i
          have HB5 := Aside0.mk ((hS.2.1 w.heap.size ht (blk_lt HB.out)).trans HB.out)
          have b5 := (blk_cell HB5.out 2).trans rfl
          have Q6 := Aside0.mk (Q5.out.trans (Sp.clr (j0 := kk) hbl2 hg))
          have HB6 := Aside0.mk (clr_far (g := g) (i := kk * 3) HB5.out (by omega))
          clear hel2 y0 y1 y2 hbl2 hS b2
          go_wp2_with fail
          go_roundg (n - (kk + 1))
          case measure => omega
          case rel => exact ⟨kk + 1, by omega, by omega, by go_num, Q6, HB6⟩
        · have : kk = n := by omega
          subst this
          go_wp2
          (try simp only [Exit.inBlock, Exit.then]); first | refine bodyPost_ret (results_none rfl _ _ _) rfl ?_ | refine bodyPost_end (results_none rfl _ _ _) rfl ?_
          exact ⟨rfl, HQ.out⟩
end Go.Proofs.Ytacefdkfbpgedaa.Mine
