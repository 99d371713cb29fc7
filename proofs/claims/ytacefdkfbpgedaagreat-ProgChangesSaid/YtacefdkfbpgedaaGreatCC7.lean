/- The reference's Bodies and all. -/
import Derived.Test.YtacefdkfbpgedaaGreatCC3
import Derived.Deep.QuietTactic
import Derived.BigQuiet
import Derived.Test.YtacefdkfbpgedaaGreatCC4
namespace Go.Proofs.YtacefdkfbpgedaaGreat.Mine
open Go.Proofs.YtacefdkfbpgedaaGreat.PProgSmall
open Go.RowKit Go.Shelf Go.Proofs.YtacefdkfbpgedaaGreatW.PrintWords Go.Proofs.YtacefdkfbpgedaaGreatW.PrintLast Go.Proofs.YtacefdkfbpgedaaGreatW.PrintMore
set_option linter.unusedVariables false
set_option linter.unusedSimpArgs false
set_option maxRecDepth 100000 in
set_option maxHeartbeats 2000000 in
theorem c_rBodies (d : De) (cs : List Value) (ok : Nat → Prop) (w : World) (hd : Kd.FK k59 w ok d cs) (hok : ∀ k, ok k → k < w.heap.size) (hl : d.f2.length ≤ 1000000) :
    Calls Tryz.prog 96 #[.agg cs.toArray] w fun en w' => ∃ v, en = .returned v ∧ Kd.N k57 57 w' w.heap.size (fun k => ok k ∨ w.heap.size ≤ k) v (bodiesD d) ∧ Below w.heap.size w w' := by
  obtain ⟨A1, c1, A2, c2, A5, c5, rfl, l1, F1, l2, F2, l5, F5⟩ := k59_openF hd
  have HF2 := Aside0.mk F2
  have HF5 := Aside0.mk F5
  have HOk := Aside0.mk hok
  obtain ⟨W1, hW1⟩ : ∃ W1, w.alloc (.cells #[.string d.f0, .slice A1 d.f1.length c1, .slice A2 d.f2.length c2, .int .i64 d.f3.f0, .string d.f3.f1, .slice A5 d.f3.f2.length c5] 59) = W1 := ⟨_, rfl⟩
  have b0 : W1.heap[w.heap.size]? = some (.cells #[.string d.f0, .slice A1 d.f1.length c1, .slice A2 d.f2.length c2, .int .i64 d.f3.f0, .string d.f3.f1, .slice A5 d.f3.f2.length c5] 59 (0, 0)) := by rw [← hW1]; exact alloc_at _ _
  have q0 : Below w.heap.size w W1 := by rw [← hW1]; exact below_alloc1 _ _
  have k2 := (blk_cell b0 2).trans rfl
  have k3 := (blk_cell b0 3).trans rfl
  have k4 := (blk_cell b0 4).trans rfl
  have k5 := (blk_cell b0 5).trans rfl
  have B0 := Aside0.mk b0
  have Q0 := Aside0.mk q0
  have Z0 := Lib.hid (show W1.heap.size = w.heap.size + 1 by rw [← hW1]; simp)
  clear hd F1 F2 F5 b0 q0 hok
  have HW1 := Lib.hid hW1
  clear hW1
  by_cases h0 : d.f2.length = 0
  · have h01 : ((d.f2.length : Int) == 0) = true := by rw [beq_iff_eq]; omega
    have HB := Lib.hid (show bodiesD d = [d.f3] by rw [bodiesD, if_pos h0])
    clear h0
    go_enter Tryz.func96, Tryz.ntmps96
    go_wp2
    rw [HW1.out]
    go_wp2
    go_ret
    have hz := Z0.out
    rw [HB.out]
    have hN := N_box1 (e := 57) (base := w.heap.size) (ok := fun k => ok k ∨ w.heap.size ≤ k) (k57_mkF W1 ok d.f3 l5 (Kd.F_below HF5.out Q0.out)) (fun k hk => .inl hk) (.inr (by omega)) (by omega)
    rw [hz] at hN
    exact ⟨_, rfl, hN, Q0.out.trans ((below_alloc1 _ _).mono Q0.out.size)⟩
  · have h01 : ((d.f2.length : Int) == 0) = false := by rw [beq_eq_false_iff_ne]; omega
    have HB := Lib.hid (show bodiesD d = d.f2.map (·.f2) by rw [bodiesD, if_neg h0])
    clear h0
    go_enter Tryz.func96, Tryz.ntmps96
    go_wp2
    rw [HW1.out]
    go_loopg [3, 4] d.f2.length (fun gg s3 s4 wr => ∃ kk : Nat, kk ≤ d.f2.length ∧ d.f2.length - kk ≤ gg ∧ s4 = .int .i64 kk ∧ Aside0 (Kd.N k57 57 wr (w.heap.size + 1) (fun k => ok k ∨ w.heap.size + 1 ≤ k) s3 ((d.f2.take kk).map (·.f2))) ∧ Aside0 (Below w.heap.size w wr) ∧ Aside0 (wr.heap[w.heap.size]? = some (.cells #[.string d.f0, .slice A1 d.f1.length c1, .slice A2 d.f2.length c2, .int .i64 d.f3.f0, .string d.f3.f1, .slice A5 d.f3.f2.length c5] 59 (0, 0))))
    case atStart => exact ⟨0, Nat.zero_le _, by omega, rfl, ⟨Kd.N_nil _ _ _ _ _⟩, Q0, B0⟩
    case round =>
      obtain ⟨kk, hkk, hg, rfl, HO, HBe, BK⟩ := hrel
      have k2 := (blk_cell BK.out 2).trans rfl
      by_cases hlt : kk < d.f2.length
      · have hltz : (kk : Int) < (d.f2.length : Int) := by omega
        obtain ⟨ad, c0, c1', c2', c3, c4, rfl, hK, hcells, k0, k1, k2', k3', k4'⟩ := gett5 rfl (Kd.C_below (Kd.F_now HF2.out) HBe.out) kk hlt
        have hFK := elemF HF2.out kk hlt rfl hcells (fun p v _ hv => HBe.out.cell (World.block_lt_of_cell? _ _ hv) |>.trans hv) (by decide)
        obtain ⟨X1, x1, X4, x4, he, m1, G1, m4, G4⟩ := k62_openF hFK
        obtain ⟨rfl, rfl, rfl, rfl, rfl⟩ : c0 = _ ∧ c1' = _ ∧ c2' = _ ∧ c3 = _ ∧ c4 = _ := by simpa using he
        have HM := Aside0.mk (k57_mkF wr ok d.f2[kk].f2 m4 (Kd.F_below G4 HBe.out))
        obtain ⟨Ar, cr, hv⟩ := Kd.N_slice HO.out
        have hTl : ((d.f2.take kk).map (·.f2)).length = kk := by simp; omega
        have hts : (d.f2.take (kk + 1)).map (·.f2) = (d.f2.take kk).map (·.f2) ++ [d.f2[kk].f2] := by rw [take_snoc hlt, List.map_append]; rfl
        have HTs := Lib.hid hts
        rw [hTl] at hv
        subst hv
        have hszb := HBe.out.size
        have hbl := blk_lt BK.out
        have hbs := Kd.N_base HO.out
        have hnlt := HOk.out
        have HTl := Lib.hid hTl
        have hne : ∀ k, ok k → (ok k ∨ w.heap.size + 1 ≤ k) ∧ some k ≠ (Value.slice Ar kk cr).ownBlock := fun k hk => ⟨.inl hk, fun he => by have := hbs k he.symm; have := hnlt k hk; omega⟩
        have HNe := Lib.hid hne
        have HBs := Lib.hid hbs
        clear hK hcells hFK he G1 G4 hTl hts hnlt hne hbs
        go_wp2_with (at_builtin; go_must (refine Kd.N_append k57 (w0 := wr) (W := wr) (w.heap.size + 1) rfl (.tmp 19) (.tmp 26) 55 57 _ 48 rfl Tryz.underlying55 infoEx rfl (by decide) (by decide) (.slice Ar kk cr) ((d.f2.take kk).map (·.f2)) d.f2[kk].f2 [.int .i64 d.f2[kk].f2.f0, .string d.f2[kk].f2.f1, .slice X4 d.f2[kk].f2.f2.length x4] (fun k => ok k ∨ w.heap.size + 1 ≤ k) ok rfl rfl HM.out HNe.out (fun k hk => .inr (by omega)) HO.out (Below.refl _ _) (by omega) (by rw [HTl.out]; omega) ?_; intro v1 w1 hN1 hb1 hg1 _; have HN1 := Aside0.mk hN1; have BK1 := Aside0.mk (blk_grown BK.out hg1 (fun he => by have := HBs.out _ he.symm; omega)); have HB1 := Aside0.mk (HBe.out.trans (hb1.mono (by omega))); clear hN1 hb1 hg1))
        go_roundg (d.f2.length - (kk + 1))
        case measure => omega
        case rel => exact ⟨kk + 1, by omega, by omega, by go_num, ⟨by rw [HTs.out]; exact HN1.out⟩, HB1, BK1⟩
      · have : kk = d.f2.length := by omega
        subst this
        obtain ⟨Ar, cr, hr⟩ := Kd.N_slice HO.out
        have ho := HO.out
        rw [List.take_length] at ho hr
        subst hr
        have HO2 := Aside0.mk ho
        clear ho HO
        go_wp2
        go_ret
        rw [HB.out]
        exact ⟨_, rfl, Kd.N_lower (Kd.N_mono HO2.out (fun k hk => hk.imp id (fun h => by omega))) (by omega), HBe.out⟩
set_option maxRecDepth 100000 in
set_option maxHeartbeats 4000000 in
theorem c_rall (d : De) (cs : List Value) (ok : Nat → Prop) (w : World) (hd : Kd.FK k59 w ok d cs) (hok : ∀ k, ok k → k < w.heap.size) (hl : d.f2.length ≤ 1000000) (hz : szL (bodiesD d) ≤ 1000000) :
    Calls Tryz.prog 64 #[.agg cs.toArray] w fun en w' => ∃ v, en = .returned v ∧ Kd.N k57 57 w' w.heap.size (fun k => ok k ∨ w.heap.size ≤ k) v (eachD d) ∧ Below w.heap.size w w' := by
  have q0 := below_alloc1 w (.cells cs.toArray 59)
  have HC := Lib.hid (c_rBodies d cs ok _ (Kd.FK_below hd q0) (fun k hk => by have := q0.size; have := hok k hk; omega) hl)
  obtain ⟨A1, c1, A2, c2, A5, c5, rfl, _⟩ := k59_openF hd
  have Q0 := Aside0.mk q0
  have HOk := Aside0.mk hok
  have HEa := Lib.hid (show eachD d = plL (bodiesD d) from rfl)
  obtain ⟨bs, hbs⟩ : ∃ bs, bodiesD d = bs := ⟨_, rfl⟩
  rw [hbs] at HC hz HEa
  clear hd q0 hok hbs
  go_enter Tryz.func64, Tryz.ntmps64
  go_wp2_with fail
  refine HC.out.mono ?_
  rintro en w1 ⟨v, rfl, hN, hb⟩
  obtain ⟨A3, c3, rfl⟩ := Kd.N_slice hN
  have hF := Kd.N_F (Kd.N_bound hN)
  have hB1 := Q0.out.trans (hb.mono Q0.out.size)
  have hs1 := hB1.size
  have hm := (Kd.F_now hF).2.1
  obtain ⟨_, _, he1, hc3, _⟩ := Kd.N_reads hN
  cases he1
  have hsz0 : (w.alloc (.cells #[.string d.f0, .slice A1 d.f1.length c1, .slice A2 d.f2.length c2, .int .i64 d.f3.f0, .string d.f3.f1, .slice A5 d.f3.f2.length c5] 59)).heap.size = w.heap.size + 1 := by simp
  obtain ⟨ok1, hok1⟩ : ∃ ok1 : Nat → Prop, (fun k => (ok k ∨ (w.alloc (.cells #[.string d.f0, .slice A1 d.f1.length c1, .slice A2 d.f2.length c2, .int .i64 d.f3.f0, .string d.f3.f1, .slice A5 d.f3.f2.length c5] 59)).heap.size ≤ k) ∧ k < w1.heap.size) = ok1 := ⟨_, rfl⟩
  have hk1 : ∀ k, ok1 k → (ok k ∨ w.heap.size ≤ k) ∧ k < w1.heap.size := fun k hk => by
    rw [← hok1] at hk
    exact ⟨hk.1.imp id (fun h => by omega), hk.2⟩
  rw [hok1] at hF
  have HB := Aside0.mk hB1
  have HF := Aside0.mk hF
  have HK := Aside0.mk hk1
  clear hN hF hb hB1 hsz0 hok1 hk1 HC
  go_wp2
  go_loopg [3, 5] bs.length (fun gg s3 s5 wr => ∃ kk : Nat, kk ≤ bs.length ∧ bs.length - kk ≤ gg ∧ s5 = .int .i64 kk ∧ Aside0 (Kd.N k57 57 wr w1.heap.size (fun k => ok k ∨ w.heap.size ≤ k) s3 (plL (bs.take kk))) ∧ Aside0 (Below w1.heap.size w1 wr))
  case atStart => exact ⟨0, Nat.zero_le _, by omega, rfl, ⟨by rw [List.take_zero, plL]; exact Kd.N_nil _ _ _ _ _⟩, ⟨Below.refl _ _⟩⟩
  case round =>
    obtain ⟨kk, hkk, hg, rfl, HN, HW⟩ := hrel
    by_cases hlt : kk < bs.length
    · have hltz : (kk : Int) < (bs.length : Int) := by omega
      have hFr := Kd.F_below (Kd.F_step HF.out (fun k hk hkl => rfl)) HW.out
      obtain ⟨ad, e0, e1, e2, rfl, hK, hcells, k0, k1, k2⟩ := gett3 rfl (Kd.F_now hFr) kk hlt
      obtain ⟨X2, x2, he, hl2, hF2⟩ := k57_openF (elemF hFr kk hlt rfl hcells (fun _ _ _ h => h) (by decide))
      obtain ⟨rfl, rfl, rfl⟩ : e0 = _ ∧ e1 = _ ∧ e2 = _ := by simpa using he
      have hmem : bs[kk] ∈ bs := List.getElem_mem hlt
      have hle := szL_mem hmem
      have hws := HW.out.size
      have hcall := c_rPlaces _ bs[kk] X2 x2 wr ok1 (Nat.le_refl _) (by omega) hF2 (fun k hk => by have := (HK.out k hk).2; omega) hl2
      have hlen : (plL (bs.take kk)).length + (plE bs[kk]).length ≤ 1000000 := by
        have h3 := szL_take_le bs (kk + 1)
        rw [szL_take hlt] at h3
        rw [length_plL, length_plE]; omega
      have HC := Lib.hid hcall
      clear hK hcells he hl2 hF2 hmem hle hcall hFr
      go_wp2_with fail
      refine HC.out.mono ?_
      rintro en w' ⟨v2, rfl, hN2, hb⟩
      have HN3 := Kd.N_below HN.out hb
      obtain ⟨A4, c4, rfl⟩ := Kd.N_slice hN2
      have hF3 := Kd.N_F hN2
      have hs1 := hb.size
      have hlt3 := Kd.N_lt HN.out
      have hbs3 := Kd.N_base HN.out
      have HB2 := Aside0.mk (HW.out.trans (hb.mono HW.out.size))
      have H3 := Aside0.mk HN3
      have H4 := Aside0.mk hF3
      clear hb hN2 HN3 hF3
      go_wp2_with (at_builtin; go_must (refine Kd.N_append_rows k57 (w0 := w') w1.heap.size rfl _ _ 55 57 _ _ rfl Tryz.underlying55 infoEx rfl (by decide) (by decide) _ _ (plE bs[kk]) A4 _ c4 (fun k => ok k ∨ w.heap.size ≤ k) (fun k => ok1 k ∨ wr.heap.size ≤ k) rfl rfl H3.out H4.out (fun k hk => ?_) (fun k hk => .inr (by omega)) (Below.refl _ _) (by omega) (by omega) ?_))
      · rcases hk with hk | hk
        · have := HK.out k hk
          exact ⟨this.1, fun he => by have := hbs3 k he.symm; omega⟩
        · exact ⟨.inr (by omega), fun he => by have := hlt3 k he.symm; omega⟩
      · intro v1 w1 hN1 hB1 hg1 hat1
        have H5 := Aside0.mk hN1
        have H6 := Aside0.mk (HB2.out.trans (hB1.mono (by omega)))
        clear hN1 hB1 hg1 hat1
        go_wp2
        go_roundg (bs.length - (kk + 1))
        case measure => omega
        case rel => exact ⟨kk + 1, by omega, by omega, by go_num, ⟨by rw [plL_take hlt]; exact H5.out⟩, H6⟩
    · have : kk = bs.length := by omega
      subst this
      go_wp2
      go_ret
      have h := HN.out
      rw [List.take_of_length_le (Nat.le_refl _), ← HEa.out] at h
      exact ⟨_, rfl, Kd.N_lower h (by omega), HB.out.trans (HW.out.mono HB.out.size)⟩
end Go.Proofs.YtacefdkfbpgedaaGreat.Mine
namespace Go.Proofs.YtacefdkfbpgedaaGreat.Mine
open Go.Proofs.YtacefdkfbpgedaaGreat.PProgSmall
open Go.RowKit Go.Shelf Go.Proofs.YtacefdkfbpgedaaGreatW.PrintWords Go.Proofs.YtacefdkfbpgedaaGreatW.PrintLast Go.Proofs.YtacefdkfbpgedaaGreatW.PrintMore
set_option linter.unusedVariables false
set_option linter.unusedSimpArgs false
def manyD (d : De) : Bool := decide ((4 : Int) < (d.f1.length : Int)) || (decide ((6 : Int) < (d.f2.length : Int)) || (!(d.f2.all fun c => decide (c.f1.length ≤ 4)) || (!((bodiesD d).all fun b => decide (szE b ≤ 24)) || !((eachD d).all fewB))))
theorem not_all_at {α : Type} {p : α → Bool} {l : List α} {k : Nat} {x : α} (h : l[k]? = some x) (hp : p x = false) : (!(l.all p)) = true := by
  have : l.all p = false := by rw [List.all_eq_false]; exact ⟨x, List.mem_of_getElem? h, by simp [hp]⟩
  rw [this]; rfl
theorem all_to {α : Type} {p : α → Bool} {l : List α} (h : ∀ j x, j < l.length → l[j]? = some x → p x = true) : (!(l.all p)) = false := by
  have : l.all p = true := by
    rw [List.all_eq_true]
    intro x hx
    obtain ⟨i, hi, rfl⟩ := List.getElem_of_mem hx
    exact h i _ hi (List.getElem?_eq_getElem hi)
  rw [this]; rfl
theorem all_snoc {α : Type} {p : α → Bool} {l : List α} {i : Nat} {x : α} (h : ∀ j y, j < i → l[j]? = some y → p y = true) (hx : l[i]? = some x) (hp : p x = true) : ∀ j y, j < i + 1 → l[j]? = some y → p y = true := by
  intro j y hj hy
  rcases Nat.lt_or_ge j i with hl | hl
  · exact h j y hl hy
  · obtain rfl : j = i := by omega
    rw [hx] at hy; cases hy; exact hp
set_option maxRecDepth 100000 in
set_option maxHeartbeats 8000000 in
theorem c_rmany (d : De) (cs : List Value) (w : World) (hd : Kd.FK k59 w (fun k => k < w.heap.size) d cs) (hl : d.f2.length ≤ 1000000) (hz : szL (bodiesD d) ≤ 1000000) :
    Calls Tryz.prog 137 #[.agg cs.toArray] w fun en w' => en = .returned (.bool (manyD d)) ∧ Below w.heap.size w w' := by
  have HBo := Lib.hid (fun W (hb : Below w.heap.size w W) => c_rBodies d cs (fun k => k < w.heap.size) W (Kd.FK_below hd hb) (fun k hk => by have := hb.size; omega) hl)
  have HAl := Lib.hid (fun W (hb : Below w.heap.size w W) => c_rall d cs (fun k => k < w.heap.size) W (Kd.FK_below hd hb) (fun k hk => by have := hb.size; omega) hl hz)
  obtain ⟨A1, c1, A2, c2, A5, c5, rfl, l1, F1, l2, F2, l5, F5⟩ := k59_openF hd
  have hm1 := (Kd.F_now F1).2.1
  have hm2 := (Kd.F_now F2).2.1
  have hm5 := (Kd.F_now F5).2.1
  have HF1 := Aside0.mk F1
  have HF2 := Aside0.mk F2
  have HF5 := Aside0.mk F5
  have HL := Lib.hid (And.intro l1 (And.intro l2 l5))
  obtain ⟨W1, hW1⟩ : ∃ W1, w.alloc (.cells #[.string d.f0, .slice A1 d.f1.length c1, .slice A2 d.f2.length c2, .int .i64 d.f3.f0, .string d.f3.f1, .slice A5 d.f3.f2.length c5] 59) = W1 := ⟨_, rfl⟩
  have b0 : W1.heap[w.heap.size]? = some (.cells #[.string d.f0, .slice A1 d.f1.length c1, .slice A2 d.f2.length c2, .int .i64 d.f3.f0, .string d.f3.f1, .slice A5 d.f3.f2.length c5] 59 (0, 0)) := by rw [← hW1]; exact alloc_at _ _
  have q0 : Below w.heap.size w W1 := by rw [← hW1]; exact below_alloc1 _ _
  have zW1 : W1.heap.size = w.heap.size + 1 := by rw [← hW1]; simp
  have B0 := Aside0.mk b0
  have Q0 := Aside0.mk q0
  have Z0 := Lib.hid zW1
  have HW1 := Lib.hid hW1
  have HD := Aside0.mk hd
  clear hd F1 F2 F5 b0 q0 zW1 hW1 l1 l2 l5
  cases t1 : decide ((4 : Int) < (d.f1.length : Int)) with
  | true =>
    have HX := Lib.hid (show manyD d = true by rw [manyD, t1]; rfl)
    have k0 := (blk_cell B0.out 0).trans rfl
    have k1 := (blk_cell B0.out 1).trans rfl
    have k2 := (blk_cell B0.out 2).trans rfl
    have k3 := (blk_cell B0.out 3).trans rfl
    have k4 := (blk_cell B0.out 4).trans rfl
    have k5 := (blk_cell B0.out 5).trans rfl
    go_enter Tryz.func137, Tryz.ntmps137
    go_wp2_with fail
    rw [HW1.out]
    go_wp2
    go_ret
    exact ⟨retb HX.out.symm, Q0.out⟩
  | false =>
  cases t2 : decide ((6 : Int) < (d.f2.length : Int)) with
  | true =>
    have HX := Lib.hid (show manyD d = true by rw [manyD, t1, t2]; rfl)
    have k0 := (blk_cell B0.out 0).trans rfl
    have k1 := (blk_cell B0.out 1).trans rfl
    have k2 := (blk_cell B0.out 2).trans rfl
    have k3 := (blk_cell B0.out 3).trans rfl
    have k4 := (blk_cell B0.out 4).trans rfl
    have k5 := (blk_cell B0.out 5).trans rfl
    go_enter Tryz.func137, Tryz.ntmps137
    go_wp2_with fail
    rw [HW1.out]
    go_wp2
    go_ret
    exact ⟨retb HX.out.symm, Q0.out⟩
  | false =>
  have HX := Lib.hid (show manyD d = _ by rw [manyD, t1, t2, Bool.false_or, Bool.false_or])
  have k0 := (blk_cell B0.out 0).trans rfl
  have k1 := (blk_cell B0.out 1).trans rfl
  have k2 := (blk_cell B0.out 2).trans rfl
  have k3 := (blk_cell B0.out 3).trans rfl
  have k4 := (blk_cell B0.out 4).trans rfl
  have k5 := (blk_cell B0.out 5).trans rfl
  go_enter Tryz.func137, Tryz.ntmps137
  go_wp2_with fail
  rw [HW1.out]
  go_wp2
  clear k0 k1 k2 k3 k4 k5
  go_loopg [3] d.f2.length (fun gg s3 wr => ∃ kk : Nat, kk ≤ d.f2.length ∧ d.f2.length - kk ≤ gg ∧ s3 = .int .i64 kk ∧ Aside0 (∀ j x, j < kk → d.f2[j]? = some x → decide (x.f1.length ≤ 4) = true) ∧ wr = W1)
  case atStart => exact ⟨0, Nat.zero_le _, by omega, rfl, ⟨fun j x h => absurd h (Nat.not_lt_zero _)⟩, rfl⟩
  case round =>
    obtain ⟨kk, hkk, hg, rfl, HA, rfl⟩ := hrel
    have k0 := (blk_cell B0.out 0).trans rfl
    have k1 := (blk_cell B0.out 1).trans rfl
    have k2 := (blk_cell B0.out 2).trans rfl
    have k3 := (blk_cell B0.out 3).trans rfl
    have k4 := (blk_cell B0.out 4).trans rfl
    have k5 := (blk_cell B0.out 5).trans rfl
    by_cases hlt : kk < d.f2.length
    · have hltz : (kk : Int) < (d.f2.length : Int) := by omega
      obtain ⟨ad, y0, y1, y2, y3, y4, rfl, hK, e0, e1, e2, e3, e4⟩ := get5 rfl (Kd.C_below (Kd.F_now HF2.out) Q0.out) kk hlt
      obtain ⟨X1, x1, X4, x4, he, m1, G1, m4, G4⟩ := k62_open hK
      obtain ⟨rfl, rfl, rfl, rfl, rfl⟩ : y0 = _ ∧ y1 = _ ∧ y2 = _ ∧ y3 = _ ∧ y4 = _ := by simpa using he
      have hmx := G1.2.1
      have HX1 := Lib.hid (show d.f2[kk]? = some d.f2[kk] from List.getElem?_eq_getElem hlt)
      clear hK he G1 G4 m1 m4
      cases h4 : decide ((4 : Int) < (d.f2[kk].f1.length : Int)) with
      | true =>
        have H4 := Lib.hid h4
        go_wp2
        go_ret
        have hf : decide (d.f2[kk].f1.length ≤ 4) = false := by have := H4.out; simp at this ⊢; omega
        exact ⟨retb (by rw [HX.out, not_all_at (p := fun c => decide (c.f1.length ≤ 4)) HX1.out hf]; rfl), Q0.out⟩
      | false =>
        have H4 := Lib.hid h4
        go_wp2
        have hf : decide (d.f2[kk].f1.length ≤ 4) = true := by have := H4.out; simp at this ⊢; omega
        go_roundg (d.f2.length - (kk + 1))
        case measure => omega
        case rel => exact ⟨kk + 1, by omega, by omega, by go_num, ⟨all_snoc (p := fun c => decide (c.f1.length ≤ 4)) HA.out HX1.out hf⟩, rfl⟩
    · have : kk = d.f2.length := by omega
      subst this
      have HX2 := Lib.hid (HX.out.trans (by rw [all_to HA.out, Bool.false_or]))
      have HB1 := Lib.hid (HBo.out _ Q0.out)
      clear HX HA
      go_wp2_with fail
      refine HB1.out.mono ?_
      rintro en w2 ⟨v, rfl, hN, hb⟩
      obtain ⟨bs, hbs⟩ : ∃ bs, bodiesD d = bs := ⟨_, rfl⟩
      rw [hbs] at hN hz HX2
      obtain ⟨Ab, cb, rfl, hcb, hCb⟩ := Kd.N_reads hN
      have hmb := hCb.2.1
      have HCb := Aside0.mk hCb
      have B2 := Aside0.mk (blk_below B0.out hb)
      have Q2 := Aside0.mk (Q0.out.trans (hb.mono Q0.out.size))
      clear hN hCb hb HB1 k0 k1 k2 k3 k4 k5 hbs
      go_wp2
      go_loopg [5] bs.length (fun gg s5 wr => ∃ kk : Nat, kk ≤ bs.length ∧ bs.length - kk ≤ gg ∧ s5 = .int .i64 kk ∧ Aside0 (∀ j x, j < kk → bs[j]? = some x → decide (szE x ≤ 24) = true) ∧ Aside0 (Below w2.heap.size w2 wr))
      case atStart => exact ⟨0, Nat.zero_le _, by omega, rfl, ⟨fun j x h => absurd h (Nat.not_lt_zero _)⟩, ⟨Below.refl _ _⟩⟩
      case round =>
        obtain ⟨kk, hkk, hg, rfl, HA, HB⟩ := hrel
        by_cases hlt : kk < bs.length
        · have hltz : (kk : Int) < (bs.length : Int) := by omega
          obtain ⟨ad, y0, y1, y2, rfl, hK, e0, e1, e2⟩ := get3 rfl (Kd.C_below HCb.out HB.out) kk hlt
          obtain ⟨X2, x2, rfl, rfl, rfl, hl2, hi2⟩ := kE_cells hK
          have HX1 := Lib.hid (show bs[kk]? = some bs[kk] from List.getElem?_eq_getElem hlt)
          have hle := szL_mem (List.getElem_mem hlt)
          have HC := Lib.hid (c_rSize bs[kk] X2 x2 wr (by omega) hi2 hl2)
          clear hK hi2 hl2
          cases h4 : decide ((24 : Int) < (szE bs[kk] : Int)) with
          | true =>
            have H4 := Lib.hid h4
            go_wp2_with fail
            refine HC.out.mono ?_
            rintro en w5 ⟨rfl, hb5⟩
            have HB5 := Lib.hid (HB.out.trans (hb5.mono HB.out.size))
            clear hb5
            go_wp2
            go_ret
            have hf : decide (szE bs[kk] ≤ 24) = false := by have := H4.out; simp at this ⊢; omega
            exact ⟨retb (by rw [HX2.out, not_all_at (p := fun b => decide (szE b ≤ 24)) HX1.out hf]; rfl), Q2.out.trans (HB5.out.mono Q2.out.size)⟩
          | false =>
            have H4 := Lib.hid h4
            go_wp2_with fail
            refine HC.out.mono ?_
            rintro en w5 ⟨rfl, hb5⟩
            have HB5 := Lib.hid (HB.out.trans (hb5.mono HB.out.size))
            clear hb5
            go_wp2
            have hf : decide (szE bs[kk] ≤ 24) = true := by have := H4.out; simp at this ⊢; omega
            go_roundg (bs.length - (kk + 1))
            case measure => omega
            case rel => exact ⟨kk + 1, by omega, by omega, by go_num, ⟨all_snoc (p := fun b => decide (szE b ≤ 24)) HA.out HX1.out hf⟩, ⟨HB5.out⟩⟩
        · have : kk = bs.length := by omega
          subst this
          have HX3 := Lib.hid (HX2.out.trans (by rw [all_to HA.out, Bool.false_or]))
          have B3 := Aside0.mk (blk_below B2.out HB.out)
          have Q3 := Aside0.mk (Q2.out.trans (HB.out.mono Q2.out.size))
          have k0 := (blk_cell B3.out 0).trans rfl
          have k1 := (blk_cell B3.out 1).trans rfl
          have k2 := (blk_cell B3.out 2).trans rfl
          have k3 := (blk_cell B3.out 3).trans rfl
          have k4 := (blk_cell B3.out 4).trans rfl
          have k5 := (blk_cell B3.out 5).trans rfl
          have HB1 := Lib.hid (HAl.out _ Q3.out)
          clear HX2 HA
          go_wp2_with fail
          refine HB1.out.mono ?_
          rintro en w6 ⟨v, rfl, hN, hb⟩
          obtain ⟨es, hes⟩ : ∃ es, eachD d = es := ⟨_, rfl⟩
          rw [hes] at hN HX3
          obtain ⟨Ae, ce, rfl, hce, hCe⟩ := Kd.N_reads hN
          have hme := hCe.2.1
          have HCe := Aside0.mk hCe
          have Q4 := Aside0.mk (Q3.out.trans (hb.mono Q3.out.size))
          clear hN hCe hb HB1 k0 k1 k2 k3 k4 k5 hes
          go_wp2
          go_loopg [6] es.length (fun gg s6 wr => ∃ kk : Nat, kk ≤ es.length ∧ es.length - kk ≤ gg ∧ s6 = .int .i64 kk ∧ Aside0 (∀ j x, j < kk → es[j]? = some x → fewB x = true) ∧ wr = w6)
          case atStart => exact ⟨0, Nat.zero_le _, by omega, rfl, ⟨fun j x h => absurd h (Nat.not_lt_zero _)⟩, rfl⟩
          case round =>
            obtain ⟨kk, hkk, hg, rfl, HA, rfl⟩ := hrel
            by_cases hlt : kk < es.length
            · have hltz : (kk : Int) < (es.length : Int) := by omega
              obtain ⟨ad, y0, y1, y2, rfl, hK, e0, e1, e2⟩ := get3 rfl HCe.out kk hlt
              obtain ⟨X2, x2, rfl, rfl, rfl, hl2, hi2⟩ := kE_cells hK
              have HX1 := Lib.hid (show es[kk]? = some es[kk] from List.getElem?_eq_getElem hlt)
              have hmx := hi2.2.1
              clear hK hi2 hl2
              cases g1 : (es[kk].f0 == 2) <;> cases g2 : (es[kk].f0 == 3) <;> cases g3 : decide ((4 : Int) < (es[kk].f2.length : Int))
              all_goals
                have HG := Lib.hid (And.intro g1 (And.intro g2 g3))
                go_wp2
                first
                | (go_ret
                   have hf : fewB es[kk] = false := by
                     obtain ⟨h1, h2, h3⟩ := HG.out
                     simp at h1 h2 h3
                     simp [fewB, h1, h2]
                     omega
                   exact ⟨retb (by rw [HX3.out, not_all_at HX1.out hf]), Q4.out⟩)
                | (have hf : fewB es[kk] = true := by
                     obtain ⟨h1, h2, h3⟩ := HG.out
                     simp at h1 h2 h3
                     simp [fewB, h1, h2]
                     try omega
                   go_roundg (es.length - (kk + 1))
                   case measure => omega
                   case rel => exact ⟨kk + 1, by omega, by omega, by go_num, ⟨all_snoc HA.out HX1.out hf⟩, rfl⟩)
            · have : kk = es.length := by omega
              subst this
              go_wp2
              go_ret
              exact ⟨retb (by rw [HX3.out, all_to HA.out]), Q4.out⟩
end Go.Proofs.YtacefdkfbpgedaaGreat.Mine
namespace Go.Proofs.YtacefdkfbpgedaaGreat.Mine
open Go.Proofs.YtacefdkfbpgedaaGreat.PProgSmall
open Go.RowKit Go.Shelf Go.Proofs.YtacefdkfbpgedaaGreatW.PrintWords Go.Proofs.YtacefdkfbpgedaaGreatW.PrintLast Go.Proofs.YtacefdkfbpgedaaGreatW.PrintMore
set_option linter.unusedVariables false
set_option linter.unusedSimpArgs false
set_option maxHeartbeats 1000000 in
theorem c_r1off (n : Nat) (w : World) :
    Calls Tryz.prog 160 #[.int .i64 (n : Int), .int .i64 1, .int .i64 8] w fun en w' => en = .returned (.bool (!(decide (0 < n) && decide (n ≤ 8)))) ∧ w' = w := by
  cases t1 : decide ((n : Int) < 1) <;> cases t2 : decide ((8 : Int) < (n : Int))
  all_goals
    have HT := Lib.hid (And.intro t1 t2)
    go_enter Tryz.func160, Tryz.ntmps160
    go_wp2
    go_ret
    refine ⟨retb ?_, rfl⟩
    obtain ⟨h1, h2⟩ := HT.out
    simp at h1 h2
    simp
    try omega
set_option maxRecDepth 100000 in
set_option maxHeartbeats 2000000 in
theorem c_r1Named (s : ByteArray) (w : World) :
    Calls Tryz.prog 109 #[.string s] w fun en w' => en = .returned (.bool (nameB s)) ∧ w' = w := by
  have HC := Lib.hid (c_r1off s.size w)
  cases hb : (decide (0 < s.size) && decide (s.size ≤ 8)) with
  | false =>
    rw [hb] at HC
    have HX := Lib.hid (show nameB s = false by rw [nameB, hb]; rfl)
    go_enter Tryz.func109, Tryz.ntmps109
    go_wp2_with fail
    refine HC.out.mono ?_
    rintro en w' ⟨rfl, rfl⟩
    go_wp2
    go_ret
    exact ⟨retb HX.out.symm, rfl⟩
  | true =>
    rw [hb] at HC
    have HX := Lib.hid hb
    have h8 : s.size ≤ 8 := by simp at hb; omega
    clear hb
    go_enter Tryz.func109, Tryz.ntmps109
    go_wp2_with fail
    refine HC.out.mono ?_
    rintro en w' ⟨rfl, rfl⟩
    go_wp2
    go_loopg [3] s.size (fun gg s3 wr => ∃ kk : Nat, kk ≤ s.size ∧ s.size - kk ≤ gg ∧ s3 = .int .i64 kk ∧ Aside0 (∀ (j : Nat) (h : j < s.size), j < kk → letB (s[j]'h) = true) ∧ wr = w')
    case atStart => exact ⟨0, Nat.zero_le _, by omega, rfl, ⟨fun j _ h => absurd h (Nat.not_lt_zero _)⟩, rfl⟩
    case round =>
      obtain ⟨kk, hkk, hg, rfl, HA, rfl⟩ := hrel
      by_cases hlt : kk < s.size
      · have hltz : (kk : Int) < (s.size : Int) := by omega
        cases t1 : decide ((s[kk].toNat : Int) < 97) <;> cases t2 : decide ((122 : Int) < (s[kk].toNat : Int))
        all_goals
          have HT := Lib.hid (And.intro t1 t2)
          go_wp2
          first
          | (go_ret
             have hf : letB s[kk] = false := by
               obtain ⟨h1, h2⟩ := HT.out
               simp at h1 h2
               simp [letB]
               omega
             exact ⟨retb (nameB_no hlt hf).symm, rfl⟩)
          | (have hf : letB s[kk] = true := by
               obtain ⟨h1, h2⟩ := HT.out
               simp at h1 h2
               simp [letB]
               omega
             go_roundg (s.size - (kk + 1))
             case measure => omega
             case rel => exact ⟨kk + 1, by omega, by omega, by go_num, ⟨fun j h hj => by
               rcases Nat.lt_or_ge j kk with hl | hl
               · exact HA.out j h hl
               · obtain rfl : j = kk := by omega
                 exact hf⟩, rfl⟩)
      · have : kk = s.size := by omega
        subst this
        go_wp2
        go_ret
        exact ⟨retb (by rw [nameB_yes (fun j h => HA.out j h h), HX.out]), rfl⟩
def namedD (d : De) : Bool := nameB d.f0 && (d.f1.all nameB && ((d.f2.all fun c => nameB c.f0 && c.f1.all nameB) && (eachD d).all fun e => nameB e.f1))
theorem all_take_snoc {α : Type} {p : α → Bool} {l : List α} {k : Nat} (h : k < l.length) : (l.take (k + 1)).all p = ((l.take k).all p && p l[k]) := by
  rw [take_snoc h, List.all_append]; simp
set_option maxRecDepth 100000 in
set_option maxHeartbeats 8000000 in
theorem c_rnamed (d : De) (cs : List Value) (w : World) (hd : Kd.FK k59 w (fun k => k < w.heap.size) d cs) (hl : d.f2.length ≤ 1000000) (hz : szL (bodiesD d) ≤ 1000000) :
    Calls Tryz.prog 138 #[.agg cs.toArray] w fun en w' => en = .returned (.bool (namedD d)) ∧ Below w.heap.size w w' := by
  have HAl := Lib.hid (fun W (hb : Below w.heap.size w W) => c_rall d cs (fun k => k < w.heap.size) W (Kd.FK_below hd hb) (fun k hk => by have := hb.size; omega) hl hz)
  obtain ⟨A1, c1, A2, c2, A5, c5, rfl, l1, F1, l2, F2, l5, F5⟩ := k59_openF hd
  have hm1 := (Kd.F_now F1).2.1
  have hm2 := (Kd.F_now F2).2.1
  have hm5 := (Kd.F_now F5).2.1
  have HF1 := Aside0.mk F1
  have HF2 := Aside0.mk F2
  have HF5 := Aside0.mk F5
  have HL := Lib.hid (And.intro l1 (And.intro l2 l5))
  obtain ⟨W1, hW1⟩ : ∃ W1, w.alloc (.cells #[.string d.f0, .slice A1 d.f1.length c1, .slice A2 d.f2.length c2, .int .i64 d.f3.f0, .string d.f3.f1, .slice A5 d.f3.f2.length c5] 59) = W1 := ⟨_, rfl⟩
  have b0 : W1.heap[w.heap.size]? = some (.cells #[.string d.f0, .slice A1 d.f1.length c1, .slice A2 d.f2.length c2, .int .i64 d.f3.f0, .string d.f3.f1, .slice A5 d.f3.f2.length c5] 59 (0, 0)) := by rw [← hW1]; exact alloc_at _ _
  have q0 : Below w.heap.size w W1 := by rw [← hW1]; exact below_alloc1 _ _
  have zW1 : W1.heap.size = w.heap.size + 1 := by rw [← hW1]; simp
  have B0 := Aside0.mk b0
  have Q0 := Aside0.mk q0
  have Z0 := Lib.hid zW1
  have HW1 := Lib.hid hW1
  have HD := Aside0.mk hd
  clear hd F1 F2 F5 b0 q0 zW1 hW1 l1 l2 l5
  have HNm := fun s W => c_r1Named s W
  have HX := Lib.hid (show namedD d = _ by rw [namedD])
  have k0 := (blk_cell B0.out 0).trans rfl
  have k1 := (blk_cell B0.out 1).trans rfl
  have k2 := (blk_cell B0.out 2).trans rfl
  have k3 := (blk_cell B0.out 3).trans rfl
  have k4 := (blk_cell B0.out 4).trans rfl
  have k5 := (blk_cell B0.out 5).trans rfl
  go_enter Tryz.func138, Tryz.ntmps138
  go_wp2_with fail
  rw [HW1.out]
  go_wp2_with fail
  refine (HNm _ _).mono ?_
  rintro en w' ⟨rfl, hw'⟩
  have hw' := hw'.symm
  subst hw'
  go_wp2
  clear k0 k1 k2 k3 k4 k5
  obtain ⟨b0, hb0⟩ : ∃ b0, nameB d.f0 = b0 := ⟨_, rfl⟩
  rw [hb0] at HX ⊢
  clear hb0
  go_loopg [3, 4] d.f1.length (fun gg s3 s4 wr => ∃ (kk : Nat) (b : Bool), kk ≤ d.f1.length ∧ d.f1.length - kk ≤ gg ∧ s4 = .int .i64 kk ∧ s3 = .bool b ∧ Aside0 (b = (b0 && (d.f1.take kk).all nameB)) ∧ W1 = wr)
  case atStart => exact ⟨0, b0, Nat.zero_le _, by omega, rfl, rfl, ⟨by simp⟩, rfl⟩
  case round =>
    obtain ⟨kk, b, hkk, hg, rfl, rfl, HA, rfl⟩ := hrel
    have k0 := (blk_cell B0.out 0).trans rfl
    have k1 := (blk_cell B0.out 1).trans rfl
    have k2 := (blk_cell B0.out 2).trans rfl
    have k3 := (blk_cell B0.out 3).trans rfl
    have k4 := (blk_cell B0.out 4).trans rfl
    have k5 := (blk_cell B0.out 5).trans rfl
    by_cases hlt : kk < d.f1.length
    · have hltz : (kk : Int) < (d.f1.length : Int) := by omega
      obtain ⟨ad, c0, rfl, hK, e0⟩ := get1 rfl (Kd.C_below (Kd.F_now HF1.out) Q0.out) kk hlt
      obtain rfl : c0 = .string d.f1[kk] := by simpa [Kd.string, Kd.scalar] using hK
      clear hK
      have HA2 := Lib.hid (fun (b' : Bool) (h : b' = (b && nameB d.f1[kk])) => show b' = (b0 && (d.f1.take (kk + 1)).all nameB) by rw [all_take_snoc hlt, ← Bool.and_assoc, ← HA.out, h])
      cases b with
      | false =>
        go_wp2_with fail
        go_roundg (d.f1.length - (kk + 1))
        case measure => omega
        case rel => exact ⟨kk + 1, false, by omega, by omega, by go_num, rfl, ⟨HA2.out _ rfl⟩, rfl⟩
      | true =>
        go_wp2_with fail
        refine (HNm _ _).mono ?_
        rintro en w' ⟨rfl, hw'⟩
        have hw' := hw'.symm
        subst hw'
        go_wp2
        go_roundg (d.f1.length - (kk + 1))
        case measure => omega
        case rel => exact ⟨kk + 1, _, by omega, by omega, by go_num, rfl, ⟨HA2.out _ (by simp)⟩, rfl⟩
    · have : kk = d.f1.length := by omega
      subst this
      have HX2 := Lib.hid (show namedD d = (b && ((d.f2.all fun c => nameB c.f0 && c.f1.all nameB) && (eachD d).all fun e => nameB e.f1)) by rw [HX.out, HA.out, List.take_length, Bool.and_assoc])
      go_wp2
      clear k0 k1 k2 k3 k4 k5 HX HA
      obtain ⟨b1, rfl⟩ : ∃ b1 : Bool, b1 = b := ⟨_, rfl⟩
      go_loopg [3, 5, 6] d.f2.length (fun gg s3 s5 _ wr => ∃ (kk : Nat) (b : Bool), kk ≤ d.f2.length ∧ d.f2.length - kk ≤ gg ∧ s5 = .int .i64 kk ∧ s3 = .bool b ∧ Aside0 (b = (b1 && (d.f2.take kk).all fun c => nameB c.f0 && c.f1.all nameB)) ∧ W1 = wr)
      case atStart => exact ⟨0, b1, Nat.zero_le _, by omega, rfl, rfl, ⟨by simp⟩, rfl⟩
      case round =>
        obtain ⟨kk, b, hkk, hg, rfl, rfl, HA, rfl⟩ := hrel
        have k0 := (blk_cell B0.out 0).trans rfl
        have k1 := (blk_cell B0.out 1).trans rfl
        have k2 := (blk_cell B0.out 2).trans rfl
        have k3 := (blk_cell B0.out 3).trans rfl
        have k4 := (blk_cell B0.out 4).trans rfl
        have k5 := (blk_cell B0.out 5).trans rfl
        by_cases hlt : kk < d.f2.length
        · have hltz : (kk : Int) < (d.f2.length : Int) := by omega
          obtain ⟨ad, y0, y1, y2, y3, y4, rfl, hK, e0, e1, e2, e3, e4⟩ := get5 rfl (Kd.C_below (Kd.F_now HF2.out) Q0.out) kk hlt
          obtain ⟨X1, x1, X4, x4, he, m1, G1, m4, G4⟩ := k62_open hK
          obtain ⟨rfl, rfl, rfl, rfl, rfl⟩ : y0 = _ ∧ y1 = _ ∧ y2 = _ ∧ y3 = _ ∧ y4 = _ := by simpa using he
          have hmx := G1.2.1
          have HG1 := Aside0.mk G1
          obtain ⟨ca, hca⟩ : ∃ ca, d.f2[kk] = ca := ⟨_, rfl⟩
          have HA2 := Lib.hid (fun (b' : Bool) (h : b' = (b && (nameB ca.f0 && ca.f1.all nameB))) => show b' = (b1 && (d.f2.take (kk + 1)).all fun c => nameB c.f0 && c.f1.all nameB) by rw [all_take_snoc hlt, ← Bool.and_assoc, ← HA.out, h, hca])
          rw [hca] at HG1 hmx e0 e1 e2 e3 e4
          clear hK he G1 G4 m1 m4 hca
          have HB2 : ∃ b2, Hid (b2 = (b && nameB ca.f0)) := ⟨_, Lib.hid rfl⟩
          cases b with
          | false =>
            go_wp2_with fail
            go_loopg [3, 6] ca.f1.length (fun gg s3 s6 wr => ∃ (jj : Nat), jj ≤ ca.f1.length ∧ ca.f1.length - jj ≤ gg ∧ s6 = .int .i64 jj ∧ s3 = .bool false ∧ W1 = wr)
            case atStart => exact ⟨0, Nat.zero_le _, by omega, rfl, rfl, rfl⟩
            case round =>
              obtain ⟨jj, hjj, hg2, rfl, rfl, rfl⟩ := hrel
              by_cases hlt2 : jj < ca.f1.length
              · have hltz2 : (jj : Int) < (ca.f1.length : Int) := by omega
                go_wp2_with fail
                go_roundg (ca.f1.length - (jj + 1))
                case measure => omega
                case rel => exact ⟨jj + 1, by omega, by omega, by go_num, rfl, rfl⟩
              · have : jj = ca.f1.length := by omega
                subst this
                go_wp2_with fail
                go_roundg (d.f2.length - (kk + 1))
                case measure => omega
                case rel => exact ⟨kk + 1, false, by omega, by omega, by go_num, rfl, ⟨HA2.out _ rfl⟩, rfl⟩
          | true =>
            go_wp2_with fail
            refine (HNm _ _).mono ?_
            rintro en w' ⟨rfl, hw'⟩
            have hw' := hw'.symm
            subst hw'
            go_wp2
            obtain ⟨b2, hb2⟩ : ∃ b2, nameB ca.f0 = b2 := ⟨_, rfl⟩
            rw [hb2] at HA2 ⊢
            clear hb2 HB2
            go_loopg [3, 6] ca.f1.length (fun gg s3 s6 wr => ∃ (jj : Nat) (b : Bool), jj ≤ ca.f1.length ∧ ca.f1.length - jj ≤ gg ∧ s6 = .int .i64 jj ∧ s3 = .bool b ∧ Aside0 (b = (b2 && (ca.f1.take jj).all nameB)) ∧ W1 = wr)
            case atStart => exact ⟨0, b2, Nat.zero_le _, by omega, rfl, rfl, ⟨by simp⟩, rfl⟩
            case round =>
              obtain ⟨jj, b, hjj, hg2, rfl, rfl, HJ, rfl⟩ := hrel
              by_cases hlt2 : jj < ca.f1.length
              · have hltz2 : (jj : Int) < (ca.f1.length : Int) := by omega
                obtain ⟨av, c0, rfl, hK, f0⟩ := get1 rfl HG1.out jj hlt2
                obtain rfl : c0 = .string ca.f1[jj] := by simpa [Kd.string, Kd.scalar] using hK
                clear hK
                have HJ2 := Lib.hid (fun (b' : Bool) (h : b' = (b && nameB ca.f1[jj])) => show b' = (b2 && (ca.f1.take (jj + 1)).all nameB) by rw [all_take_snoc hlt2, ← Bool.and_assoc, ← HJ.out, h])
                cases b with
                | false =>
                  go_wp2_with fail
                  go_roundg (ca.f1.length - (jj + 1))
                  case measure => omega
                  case rel => exact ⟨jj + 1, false, by omega, by omega, by go_num, rfl, ⟨HJ2.out _ rfl⟩, rfl⟩
                | true =>
                  go_wp2_with fail
                  refine (HNm _ _).mono ?_
                  rintro en w' ⟨rfl, hw'⟩
                  have hw' := hw'.symm
                  subst hw'
                  go_wp2
                  go_roundg (ca.f1.length - (jj + 1))
                  case measure => omega
                  case rel => exact ⟨jj + 1, _, by omega, by omega, by go_num, rfl, ⟨HJ2.out _ (by simp)⟩, rfl⟩
              · have : jj = ca.f1.length := by omega
                subst this
                have HJ3 := Lib.hid (show b = (b2 && ca.f1.all nameB) by rw [HJ.out, List.take_length])
                go_wp2_with fail
                go_roundg (d.f2.length - (kk + 1))
                case measure => omega
                case rel => exact ⟨kk + 1, b, by omega, by omega, by go_num, rfl, ⟨HA2.out _ (by rw [HJ3.out]; simp)⟩, rfl⟩
        · have : kk = d.f2.length := by omega
          subst this
          have HX3 := Lib.hid (show namedD d = (b && (eachD d).all fun e => nameB e.f1) by rw [HX2.out, HA.out, List.take_length, Bool.and_assoc])
          have HB1 := Lib.hid (HAl.out _ Q0.out)
          clear HX2 HA
          go_wp2_with fail
          refine HB1.out.mono ?_
          rintro en w6 ⟨v, rfl, hN, hb⟩
          obtain ⟨es, hes⟩ : ∃ es, eachD d = es := ⟨_, rfl⟩
          rw [hes] at hN HX3
          obtain ⟨Ae, ce, rfl, hce, hCe⟩ := Kd.N_reads hN
          have hme := hCe.2.1
          have HCe := Aside0.mk hCe
          have Q4 := Aside0.mk (Q0.out.trans (hb.mono Q0.out.size))
          clear hN hCe hb HB1 k0 k1 k2 k3 k4 k5 hes
          obtain ⟨b3, rfl⟩ : ∃ b3 : Bool, b3 = b := ⟨_, rfl⟩
          go_wp2
          go_loopg [3, 8] es.length (fun gg s3 s8 wr => ∃ (kk : Nat) (b : Bool), kk ≤ es.length ∧ es.length - kk ≤ gg ∧ s8 = .int .i64 kk ∧ s3 = .bool b ∧ Aside0 (b = (b3 && (es.take kk).all fun e => nameB e.f1)) ∧ w6 = wr)
          case atStart => exact ⟨0, b3, Nat.zero_le _, by omega, rfl, rfl, ⟨by simp⟩, rfl⟩
          case round =>
            obtain ⟨kk, b, hkk, hg, rfl, rfl, HA, rfl⟩ := hrel
            by_cases hlt : kk < es.length
            · have hltz : (kk : Int) < (es.length : Int) := by omega
              obtain ⟨ad, y0, y1, y2, rfl, hK, e0, e1, e2⟩ := get3 rfl HCe.out kk hlt
              obtain ⟨X2, x2, rfl, rfl, rfl, hl2, hi2⟩ := kE_cells hK
              have HA2 := Lib.hid (fun (b' : Bool) (h : b' = (b && nameB es[kk].f1)) => show b' = (b3 && (es.take (kk + 1)).all fun e => nameB e.f1) by rw [all_take_snoc hlt, ← Bool.and_assoc, ← HA.out, h])
              clear hK hi2 hl2
              cases b with
              | false =>
                go_wp2_with fail
                go_roundg (es.length - (kk + 1))
                case measure => omega
                case rel => exact ⟨kk + 1, false, by omega, by omega, by go_num, rfl, ⟨HA2.out _ rfl⟩, rfl⟩
              | true =>
                go_wp2_with fail
                refine (HNm _ _).mono ?_
                rintro en w' ⟨rfl, hw'⟩
                have hw' := hw'.symm
                subst hw'
                go_wp2
                go_roundg (es.length - (kk + 1))
                case measure => omega
                case rel => exact ⟨kk + 1, _, by omega, by omega, by go_num, rfl, ⟨HA2.out _ (by simp)⟩, rfl⟩
            · have : kk = es.length := by omega
              subst this
              go_wp2
              go_ret
              exact ⟨retb (by rw [HX3.out, HA.out, List.take_length]), Q4.out⟩
end Go.Proofs.YtacefdkfbpgedaaGreat.Mine
namespace Go.Proofs.YtacefdkfbpgedaaGreat.Mine
open Go.Proofs.YtacefdkfbpgedaaGreat.PProgSmall
open Go.RowKit Go.Shelf Go.Proofs.YtacefdkfbpgedaaGreatW.PrintWords Go.Proofs.YtacefdkfbpgedaaGreatW.PrintLast Go.Proofs.YtacefdkfbpgedaaGreatW.PrintMore
set_option linter.unusedVariables false
set_option linter.unusedSimpArgs false
def doubledD (d : De) : Bool := twB d.f1 || (!(d.f2.all fun c => !twB (d.f1 ++ c.f1)) || twB (d.f2.map headC))
theorem cell_keep {n : Nat} {W W' : World} {p : Addr} {v : Value} (hb : Below n W W') (hp : p.block < n) (h : W.cell? p = some v) : W'.cell? p = some v := (hb.cell hp).trans h
abbrev DbS (W0 : World) (B : Nat) (P C : Value) (p : Addr) (v : Value) (W : World) : Prop := Below W0.heap.size W0 W ∧ W.cell? ⟨B, 1, none⟩ = some P ∧ W.cell? ⟨B, 2, none⟩ = some C ∧ W.cell? p = some v
theorem DbS.step {W0 : World} {B : Nat} {P C : Value} {p : Addr} {v : Value} {W W' : World} (h : DbS W0 B P C p v W) (hB : B < W0.heap.size) (hp : p.block < W0.heap.size) (hb : Below W0.heap.size W W') : DbS W0 B P C p v W' := by
  obtain ⟨h0, h1, h2, h3⟩ := h
  exact ⟨h0.trans hb, cell_keep hb hB h1, cell_keep hb hB h2, cell_keep hb hp h3⟩
theorem twB_take {α : Type} [DecidableEq α] {l : List α} (h : (l.take l.length).Nodup) : twB l = false := by
  rw [List.take_length] at h
  simp [twB, h]
set_option maxRecDepth 100000 in
set_option maxHeartbeats 8000000 in
theorem c_rdoubled (d : De) (cs : List Value) (w : World) (hd : Kd.FK k59 w (fun k => k < w.heap.size) d cs) (hl : d.f2.length ≤ 1000000) (hp : d.f1.length ≤ 100000) (hv : ∀ c ∈ d.f2, c.f1.length ≤ 100000) :
    Calls Tryz.prog 139 #[.agg cs.toArray] w fun en w' => en = .returned (.bool (doubledD d)) ∧ Below w.heap.size w w' := by
  obtain ⟨A1, c1, A2, c2, A5, c5, rfl, l1, F1, l2, F2, l5, F5⟩ := k59_openF hd
  have hm1 := (Kd.F_now F1).2.1
  have hm2 := (Kd.F_now F2).2.1
  have hm5 := (Kd.F_now F5).2.1
  have HF1 := Aside0.mk F1
  have HF2 := Aside0.mk F2
  have HF5 := Aside0.mk F5
  have HL := Lib.hid (And.intro l1 (And.intro l2 l5))
  obtain ⟨W1, hW1⟩ : ∃ W1, w.alloc (.cells #[.string d.f0, .slice A1 d.f1.length c1, .slice A2 d.f2.length c2, .int .i64 d.f3.f0, .string d.f3.f1, .slice A5 d.f3.f2.length c5] 59) = W1 := ⟨_, rfl⟩
  have b0 : W1.heap[w.heap.size]? = some (.cells #[.string d.f0, .slice A1 d.f1.length c1, .slice A2 d.f2.length c2, .int .i64 d.f3.f0, .string d.f3.f1, .slice A5 d.f3.f2.length c5] 59 (0, 0)) := by rw [← hW1]; exact alloc_at _ _
  have q0 : Below w.heap.size w W1 := by rw [← hW1]; exact below_alloc1 _ _
  have zW1 : W1.heap.size = w.heap.size + 1 := by rw [← hW1]; simp
  have B0 := Aside0.mk b0
  have Q0 := Aside0.mk q0
  have Z0 := Lib.hid zW1
  have HW1 := Lib.hid hW1
  have HD := Aside0.mk hd
  clear hd F1 F2 F5 b0 q0 zW1 hW1 l1 l2 l5
  have HT := Lib.hid (fun W (hb : Below w.heap.size w W) => c_rtwice A1 c1 d.f1 W (Kd.C_below (Kd.F_now HF1.out) hb) HL.out.1)
  cases t1 : twB d.f1 with
  | true =>
    have HX := Lib.hid (show doubledD d = true by rw [doubledD, t1]; rfl)
    have HT1 := Lib.hid (HT.out _ Q0.out)
    rw [t1] at HT1
    have k0 := (blk_cell B0.out 0).trans rfl
    have k1 := (blk_cell B0.out 1).trans rfl
    have k2 := (blk_cell B0.out 2).trans rfl
    have k3 := (blk_cell B0.out 3).trans rfl
    have k4 := (blk_cell B0.out 4).trans rfl
    have k5 := (blk_cell B0.out 5).trans rfl
    go_enter Tryz.func139, Tryz.ntmps139
    go_wp2_with fail
    rw [HW1.out]
    go_wp2_with fail
    refine HT1.out.mono ?_
    rintro en w2 ⟨rfl, hb⟩
    go_wp2
    go_ret
    exact ⟨retb HX.out.symm, Q0.out.trans (hb.mono Q0.out.size)⟩
  | false =>
  have HX := Lib.hid (show doubledD d = _ by rw [doubledD, t1, Bool.false_or])
  have HT1 := Lib.hid (HT.out _ Q0.out)
  rw [t1] at HT1
  have k0 := (blk_cell B0.out 0).trans rfl
  have k1 := (blk_cell B0.out 1).trans rfl
  have k2 := (blk_cell B0.out 2).trans rfl
  have k3 := (blk_cell B0.out 3).trans rfl
  have k4 := (blk_cell B0.out 4).trans rfl
  have k5 := (blk_cell B0.out 5).trans rfl
  go_enter Tryz.func139, Tryz.ntmps139
  go_wp2_with fail
  rw [HW1.out]
  go_wp2_with fail
  refine HT1.out.mono ?_
  rintro en w2 ⟨rfl, hb⟩
  have B2 := Aside0.mk (blk_below B0.out hb)
  have Q2 := Aside0.mk (Q0.out.trans (hb.mono Q0.out.size))
  clear hb k0 k1 k2 k3 k4 k5 HT1 HT
  go_wp2
  go_loopg [3, 4] d.f2.length (fun gg s3 _ wr => ∃ kk : Nat, kk ≤ d.f2.length ∧ d.f2.length - kk ≤ gg ∧ s3 = .int .i64 kk ∧ Aside0 (∀ j x, j < kk → d.f2[j]? = some x → (!twB (d.f1 ++ x.f1)) = true) ∧ Aside0 (((d.f2.map headC).take kk).Nodup) ∧ Aside0 (Below w.heap.size w wr) ∧ Aside0 (wr.heap[w.heap.size]? = some (.cells #[.string d.f0, .slice A1 d.f1.length c1, .slice A2 d.f2.length c2, .int .i64 d.f3.f0, .string d.f3.f1, .slice A5 d.f3.f2.length c5] 59 (0, 0))))
  case atStart => exact ⟨0, Nat.zero_le _, by omega, rfl, ⟨fun j x h => absurd h (Nat.not_lt_zero _)⟩, ⟨by simp⟩, Q2, B2⟩
  case round =>
    obtain ⟨kk, hkk, hg, rfl, HA, HN, HB, BK⟩ := hrel
    have k0 := (blk_cell BK.out 0).trans rfl
    have k1 := (blk_cell BK.out 1).trans rfl
    have k2 := (blk_cell BK.out 2).trans rfl
    have k3 := (blk_cell BK.out 3).trans rfl
    have k4 := (blk_cell BK.out 4).trans rfl
    have k5 := (blk_cell BK.out 5).trans rfl
    by_cases hlt : kk < d.f2.length
    · have hltz : (kk : Int) < (d.f2.length : Int) := by omega
      obtain ⟨ad, y0, y1, y2, y3, y4, rfl, hK, e0, e1, e2, e3, e4⟩ := get5 rfl (Kd.C_below (Kd.F_now HF2.out) HB.out) kk hlt
      obtain ⟨X1, x1, X4, x4, he, m1, G1, m4, G4⟩ := k62_open hK
      obtain ⟨rfl, rfl, rfl, rfl, rfl⟩ : y0 = _ ∧ y1 = _ ∧ y2 = _ ∧ y3 = _ ∧ y4 = _ := by simpa using he
      have hmx := G1.2.1
      have hvl := hv _ (List.getElem_mem hlt)
      have HX1 := Lib.hid (show d.f2[kk]? = some d.f2[kk] from List.getElem?_eq_getElem hlt)
      obtain ⟨ca, hca⟩ : ∃ ca, d.f2[kk] = ca := ⟨_, rfl⟩
      rw [hca] at hK e0 e1 e2 e3 e4 G1 hmx m1 hvl HX1
      have hsw := HB.out.size
      have hbl := blk_lt BK.out
      have hpl := World.block_lt_of_cell? _ _ e1
      have HGa := Lib.hid (fun W (hb : Below wr.heap.size wr W) => Kd.C_below G1 hb)
      have HGp := Lib.hid (fun W (hb : Below wr.heap.size wr W) => Kd.C_below (Kd.F_now HF1.out) (HB.out.trans (hb.mono HB.out.size)))
      have hS0 : DbS wr w.heap.size (.slice A1 d.f1.length c1) (.slice (some ad) d.f2.length c2) ⟨(ad.add (kk * 5)).block, (ad.add (kk * 5)).off + 1, none⟩ (.slice X1 ca.f1.length x1) wr := ⟨Below.refl _ _, k1, k2, e1⟩
      obtain ⟨l2, hl2⟩ : ∃ l2, d.f1 ++ ca.f1 = l2 := ⟨_, rfl⟩
      have HL2 := Lib.hid hl2
      have hll : d.f1.length + ca.f1.length = l2.length := by rw [← hl2, List.length_append]
      have HTw := Lib.hid (fun W (A : Option Addr) (c : Nat) (hr : Kd.C Kd.string W A l2.length l2) (hc : l2.length ≤ c) (hS : DbS wr w.heap.size (.slice A1 d.f1.length c1) (.slice (some ad) d.f2.length c2) ⟨(ad.add (kk * 5)).block, (ad.add (kk * 5)).off + 1, none⟩ (.slice X1 ca.f1.length x1) W) =>
        (c_rtwice A c l2 W hr hc).mono (R' := fun e W' => e = .returned (.bool (twB l2)) ∧ DbS wr w.heap.size (.slice A1 d.f1.length c1) (.slice (some ad) d.f2.length c2) ⟨(ad.add (kk * 5)).block, (ad.add (kk * 5)).off + 1, none⟩ (.slice X1 ca.f1.length x1) W') (by rintro e W' ⟨h1, h2⟩; exact ⟨h1, hS.step hbl hpl (h2.mono hS.1.size)⟩))
      have hB1 : Below wr.heap.size wr (wr.alloc (.cells #[] 9)).drew := below_drew (below_alloc1 _ _)
      have hO1 : OwnT (wr.alloc (.cells #[] 9)).drew wr.heap.size (.slice (some ⟨wr.heap.size, 0, none⟩) 0 0) [] := Kd.R_below (OwnT.new wr) (below_drew (Below.refl _ _))
      have hG1 : Kd.C Kd.string (wr.alloc (.cells #[] 9)).drew A1 d.f1.length d.f1 := HGp.out _ hB1
      have HB1 := Lib.hid hB1
      have HO1 := Lib.hid hO1
      have HG1 := Lib.hid hG1
      have HS0 := Lib.hid hS0
      have HLl := Lib.hid hll
      clear hl2 hll
      clear hK he G1 G4 m4 k0 k3 k4 k5 e0 e2 e3 e4 hB1 hO1 hG1 hS0
      cases t2 : twB l2 with
      | true =>
        rw [t2] at HTw
        have HT2 := Lib.hid t2
        clear t2
        go_wp2_with fail
        go_region_held3 (fun W => DbS wr w.heap.size (.slice A1 d.f1.length c1) (.slice (some ad) d.f2.length c2) ⟨(ad.add (kk * 5)).block, (ad.add (kk * 5)).off + 1, none⟩ (.slice X1 ca.f1.length x1) W)
          (first | assumption | exact HS0.out.step hbl hpl (below_drew (Below.refl _ _)) | exact HS0.out.step hbl hpl (below_drew (below_alloc1 _ _)))
          (first | (refine Kd.R_append_rows_step Kd.string (w0 := wr) wr.heap.size (by rfl) (.tmp 15) (.tmp 17) 30 9 (.string ⟨#[]⟩) 16 rfl Tryz.underlying30 infoTx rfl (by decide) (by decide) (.slice (some ⟨wr.heap.size, 0, none⟩) 0 0) [] d.f1 A1 d.f1.length c1 (fun _ => True) (fun _ => False) rfl rfl HO1.out HG1.out (fun _ _ h => h) (fun _ h => h.elim) (fun _ _ => trivial) HB1.out HB1.out.size (by simp; omega) ?_; intro v1 w5 ho1 hb1 hg1 hat1; rw [List.nil_append] at ho1; have hS5 := HS0.out.step hbl hpl hb1; have HG2 := Lib.hid (HGa.out _ hb1); have HO2 := Lib.hid ho1; have HB2 := Lib.hid hb1; clear ho1 hb1 hg1 hat1) | (refine Kd.R_append_rows_step Kd.string (w0 := wr) wr.heap.size (by rfl) (.tmp 18) (.tmp 24) 30 9 (.string ⟨#[]⟩) 16 rfl Tryz.underlying30 infoTx rfl (by decide) (by decide) v1 d.f1 ca.f1 X1 ca.f1.length x1 (fun _ => True) (fun _ => False) rfl rfl HO2.out HG2.out (fun _ _ h => h) (fun _ h => h.elim) (fun _ _ => trivial) HB2.out HB2.out.size (by omega) ?_; intro v2 w6 ho2 hb2 hg2 hat2; have hS6 := HS0.out.step hbl hpl hb2; rw [HL2.out] at ho2; obtain ⟨Ax, cx, hv2, hcx, hCx⟩ := Kd.R_reads ho2; subst hv2; have HC2 := Lib.hid hCx; clear hg2 hat2 ho2 hb2 hCx) | (go_at_call 161; (with_reducible refine (HTw.out w6 Ax cx HC2.out hcx hS6).mono ?_); rintro e w7 ⟨rfl, hS7⟩))
        go_wp2
        go_ret
        exact ⟨retb (by rw [HX.out, not_all_at (p := fun c => !twB (d.f1 ++ c.f1)) HX1.out (by simp [HL2.out, HT2.out])]; rfl), HB.out.trans (hS7.1.mono HB.out.size)⟩
      | false =>
        rw [t2] at HTw
        have HT2 := Lib.hid t2
        clear t2
        go_wp2_with fail
        go_region_held3 (fun W => DbS wr w.heap.size (.slice A1 d.f1.length c1) (.slice (some ad) d.f2.length c2) ⟨(ad.add (kk * 5)).block, (ad.add (kk * 5)).off + 1, none⟩ (.slice X1 ca.f1.length x1) W)
          (first | assumption | exact HS0.out.step hbl hpl (below_drew (Below.refl _ _)) | exact HS0.out.step hbl hpl (below_drew (below_alloc1 _ _)))
          (first | (refine Kd.R_append_rows_step Kd.string (w0 := wr) wr.heap.size (by rfl) (.tmp 15) (.tmp 17) 30 9 (.string ⟨#[]⟩) 16 rfl Tryz.underlying30 infoTx rfl (by decide) (by decide) (.slice (some ⟨wr.heap.size, 0, none⟩) 0 0) [] d.f1 A1 d.f1.length c1 (fun _ => True) (fun _ => False) rfl rfl HO1.out HG1.out (fun _ _ h => h) (fun _ h => h.elim) (fun _ _ => trivial) HB1.out HB1.out.size (by simp; omega) ?_; intro v1 w5 ho1 hb1 hg1 hat1; rw [List.nil_append] at ho1; have hS5 := HS0.out.step hbl hpl hb1; have HG2 := Lib.hid (HGa.out _ hb1); have HO2 := Lib.hid ho1; have HB2 := Lib.hid hb1; clear ho1 hb1 hg1 hat1) | (refine Kd.R_append_rows_step Kd.string (w0 := wr) wr.heap.size (by rfl) (.tmp 18) (.tmp 24) 30 9 (.string ⟨#[]⟩) 16 rfl Tryz.underlying30 infoTx rfl (by decide) (by decide) v1 d.f1 ca.f1 X1 ca.f1.length x1 (fun _ => True) (fun _ => False) rfl rfl HO2.out HG2.out (fun _ _ h => h) (fun _ h => h.elim) (fun _ _ => trivial) HB2.out HB2.out.size (by omega) ?_; intro v2 w6 ho2 hb2 hg2 hat2; have hS6 := HS0.out.step hbl hpl hb2; rw [HL2.out] at ho2; obtain ⟨Ax, cx, hv2, hcx, hCx⟩ := Kd.R_reads ho2; subst hv2; have HC2 := Lib.hid hCx; clear hg2 hat2 ho2 hb2 hCx) | (go_at_call 161; (with_reducible refine (HTw.out w6 Ax cx HC2.out hcx hS6).mono ?_); rintro e w7 ⟨rfl, hS7⟩))
        have BK7 := Aside0.mk (blk_below BK.out hS7.1)
        have HB7 := Aside0.mk (HB.out.trans (hS7.1.mono HB.out.size))
        have HA2 := Lib.hid (all_snoc (p := fun c => !twB (d.f1 ++ c.f1)) HA.out HX1.out (by simp [HL2.out, HT2.out]))
        clear hS7 HTw HGa HGp hsw hbl hpl HA k1 k2 e1
        go_wp2
        go_loopg [4] kk (fun gg s4 wr => ∃ jj : Nat, jj ≤ kk ∧ kk - jj ≤ gg ∧ s4 = .int .i64 jj ∧ Aside0 (∀ j x, j < jj → d.f2[j]? = some x → headC x ≠ headC ca) ∧ Aside0 (Below w.heap.size w wr) ∧ Aside0 (wr.heap[w.heap.size]? = some (.cells #[.string d.f0, .slice A1 d.f1.length c1, .slice (some ad) d.f2.length c2, .int .i64 d.f3.f0, .string d.f3.f1, .slice A5 d.f3.f2.length c5] 59 (0, 0))))
        case atStart => exact ⟨0, Nat.zero_le _, by omega, rfl, ⟨fun j x h => absurd h (Nat.not_lt_zero _)⟩, HB7, BK7⟩
        case round =>
          obtain ⟨jj, hjj, hg2, rfl, HJ, HB, BK⟩ := hrel
          have k0 := (blk_cell BK.out 0).trans rfl
          have k1 := (blk_cell BK.out 1).trans rfl
          have k2 := (blk_cell BK.out 2).trans rfl
          have k3 := (blk_cell BK.out 3).trans rfl
          have k4 := (blk_cell BK.out 4).trans rfl
          have k5 := (blk_cell BK.out 5).trans rfl
          by_cases hlt2 : jj < kk
          · have hltz2 : (jj : Int) < (kk : Int) := by omega
            have hlt3 : jj < d.f2.length := by omega
            have hltz3 : (jj : Int) < (d.f2.length : Int) := by omega
            obtain ⟨ad', y0, y1, y2, y3, y4, had, hK, e0, e1, e2, e3, e4⟩ := get5 rfl (Kd.C_below (Kd.F_now HF2.out) HB.out) kk hlt
            cases had
            obtain ⟨Z1, z1, Z4, z4, he, m1', G1, m4, G4⟩ := k62_open hK
            obtain ⟨rfl, rfl, rfl, rfl, rfl⟩ : y0 = _ ∧ y1 = _ ∧ y2 = _ ∧ y3 = _ ∧ y4 = _ := by simpa using he
            have hmz := G1.2.1
            rw [hca] at e0 e1 hmz
            obtain ⟨ad', y0, y1, y2, y3, y4, had, hK, f0, f1, f2, f3, f4⟩ := get5 rfl (Kd.C_below (Kd.F_now HF2.out) HB.out) jj hlt3
            cases had
            obtain ⟨V1, v1', V4, v4, he, m1'', G1, m4, G4⟩ := k62_open hK
            obtain ⟨rfl, rfl, rfl, rfl, rfl⟩ : y0 = _ ∧ y1 = _ ∧ y2 = _ ∧ y3 = _ ∧ y4 = _ := by simpa using he
            have hmv := G1.2.1
            have HXj := Lib.hid (show d.f2[jj]? = some d.f2[jj] from List.getElem?_eq_getElem hlt3)
            obtain ⟨cb, hcb⟩ : ∃ cb, d.f2[jj] = cb := ⟨_, rfl⟩
            rw [hcb] at f0 f1 HXj hmv
            clear hK he G1 G4 m4 m1' m1'' k0 k1 k3 k4 k5 e2 e3 e4 f2 f3 f4 hcb
            by_cases hn : ca.f0 = cb.f0
            · have hnb : (ca.f0.toList == cb.f0.toList) = true := by rw [sEq]; simpa using hn
              have HNn := Lib.hid hn
              clear hn
              cases ht : ((ca.f1.length : Int) == (cb.f1.length : Int)) with
              | true =>
                have HTt := Lib.hid ht
                go_wp2_with fail
                go_quiet (fail)
                go_wp2
                go_ret
                refine ⟨retb ?_, pw_below_drewN HB.out _⟩
                rw [HX.out]
                have hheq : headC cb = headC ca := by
                  have := HTt.out
                  simp at this
                  simp [headC, HNn.out, this]
                rw [twB_of (l := d.f2.map headC) (k := kk) (by simpa using hlt) (by
                  rw [List.mem_iff_getElem?]
                  refine ⟨jj, ?_⟩
                  rw [List.getElem?_take, if_pos hlt2, List.getElem?_map, HXj.out]
                  simp [hca, hheq]), Bool.or_true]
              | false =>
                have HTt := Lib.hid ht
                go_wp2_with fail
                go_quiet (fail)
                go_wp2
                go_roundg (kk - (jj + 1))
                case measure => omega
                case rel => exact ⟨jj + 1, by omega, by omega, by go_num, ⟨fun j x hj hx => by
                  rcases Nat.lt_or_ge j jj with h | h
                  · exact HJ.out j x h hx
                  · obtain rfl : j = jj := by omega
                    rw [HXj.out] at hx; cases hx
                    intro hh
                    have := HTt.out
                    simp [headC] at hh
                    simp at this
                    omega⟩, ⟨pw_below_drewN HB.out _⟩, BK⟩
            · have hnb : (ca.f0.toList == cb.f0.toList) = false := by rw [sEq]; simpa using hn
              have HNn := Lib.hid hn
              clear hn
              go_wp2_with fail
              go_quiet (fail)
              go_wp2
              go_roundg (kk - (jj + 1))
              case measure => omega
              case rel => exact ⟨jj + 1, by omega, by omega, by go_num, ⟨fun j x hj hx => by
                rcases Nat.lt_or_ge j jj with h | h
                · exact HJ.out j x h hx
                · obtain rfl : j = jj := by omega
                  rw [HXj.out] at hx; cases hx
                  intro hh
                  simp [headC] at hh
                  exact HNn.out hh.1.symm⟩, ⟨pw_below_drewN HB.out _⟩, BK⟩
          · have : jj = kk := by omega
            subst this
            go_wp2
            go_roundg (d.f2.length - (jj + 1))
            case measure => omega
            case rel => exact ⟨jj + 1, by omega, by omega, by go_num, ⟨HA2.out⟩, ⟨nodup_take_succ (by simpa using hlt) HN.out (by
              intro hm
              obtain ⟨i, hi⟩ := List.mem_iff_getElem?.1 hm
              rw [List.getElem?_take] at hi
              split at hi
              · next hij =>
                rw [List.getElem?_map] at hi
                obtain ⟨x, hx, hxe⟩ := Option.map_eq_some_iff.1 hi
                exact HJ.out i x hij hx (by rw [hxe]; simp [hca])
              · simp at hi)⟩, HB, BK⟩
    · have : kk = d.f2.length := by omega
      subst this
      go_wp2
      go_ret
      have hn := HN.out
      have hl2 : (d.f2.map headC).length = d.f2.length := by simp
      exact ⟨retb (by rw [HX.out, all_to HA.out, Bool.false_or, twB_take (by rw [hl2]; exact hn)]), HB.out⟩
end Go.Proofs.YtacefdkfbpgedaaGreat.Mine
namespace Go.Proofs.YtacefdkfbpgedaaGreat.Mine
open Go.Proofs.YtacefdkfbpgedaaGreat.PProgSmall
open Go.RowKit Go.Shelf Go.Proofs.YtacefdkfbpgedaaGreatW.PrintWords Go.Proofs.YtacefdkfbpgedaaGreatW.PrintLast Go.Proofs.YtacefdkfbpgedaaGreatW.PrintMore
set_option linter.unusedVariables false
set_option linter.unusedSimpArgs false
theorem bif_or {α : Type} (a b : Bool) (x y : α) : (bif a then x else bif b then x else y) = bif (a || b) then x else y := by cases a <;> cases b <;> rfl
theorem all_and2 {α : Type} (p q : α → Bool) (l : List α) : (l.all p && l.all q) = l.all (fun x => p x && q x) := by
  induction l with
  | nil => rfl
  | cons x xs ih => simp only [List.all_cons, ← ih]; cases p x <;> cases q x <;> cases xs.all p <;> rfl
theorem rightD_eq (sc : Bool) (d : De) : rightD sc d = bif manyD d then 2 else bif !((eachD d).all kindB) then 3 else bif !(namedD d) then 4 else bif doubledD d then 5 else bif clashB d then 7 else bif !sc then 1 else 0 := by
  have h1 : namedD d = (nameB d.f0 && (d.f1.all nameB && ((d.f2.all fun c => nameB c.f0) && ((d.f2.all fun c => c.f1.all nameB) && (eachD d).all fun e => nameB e.f1)))) := by
    rw [namedD, ← all_and2 (fun c : Ca => nameB c.f0) (fun c => c.f1.all nameB), Bool.and_assoc (d.f2.all fun c => nameB c.f0)]
  rw [rightD, h1, manyD, doubledD]
  simp only [bif_or, Bool.not_and]
set_option maxRecDepth 100000 in
set_option maxHeartbeats 4000000 in
theorem c_rscoped (e : Ex) (A : Option Addr) (c : Nat) (sc : List ByteArray) (As : Option Addr) (cS : Nat) (w : World) (hs : szE e ≤ 1000000) (hr : Kd.C k57 w A e.f2.length e.f2) (hc : e.f2.length ≤ c) (hsc : Kd.C Kd.string w As sc.length sc) (hcs : sc.length ≤ cS) :
    Calls Tryz.prog 140 #[.agg #[.int .i64 e.f0, .string e.f1, .slice A e.f2.length c], .slice As sc.length cS] w fun en w' => en = .returned (.bool ((plE e).all (okV sc))) ∧ Below w.heap.size w w' := by
  have q0 := below_alloc1 w (.cells #[.int .i64 e.f0, .string e.f1, .slice A e.f2.length c] 57)
  have HC := Lib.hid (c_rPlaces _ e A c (w.alloc (.cells #[.int .i64 e.f0, .string e.f1, .slice A e.f2.length c] 57)) (fun k => k < w.heap.size) (Nat.le_refl _) hs (Kd.F_below (Kd.C_F k57_heap hr) q0) (fun k hk => by have := q0.size; omega) hc)
  have Q0 := Aside0.mk q0
  have HSc := Aside0.mk hsc
  have hms := hsc.2.1
  obtain ⟨pl, hpl⟩ : ∃ pl, plE e = pl := ⟨_, rfl⟩
  rw [hpl] at HC ⊢
  clear hr q0 hpl hsc
  go_enter Tryz.func140, Tryz.ntmps140
  go_wp2_with fail
  refine HC.out.mono ?_
  rintro en w1 ⟨v, rfl, hN, hb⟩
  obtain ⟨A3, c3, rfl, hc3, hR3⟩ := Kd.N_reads hN
  have hm := hR3.2.1
  have hB1 := Q0.out.trans (hb.mono Q0.out.size)
  have HB := Aside0.mk hB1
  have HR := Aside0.mk hR3
  have HI := Lib.hid (fun s => c_rIn As cS sc s w1 (Kd.C_below HSc.out hB1) hcs)
  clear hN hb hR3 hB1
  go_wp2
  go_loopg [6] pl.length (fun gg s6 wr => ∃ kk : Nat, kk ≤ pl.length ∧ pl.length - kk ≤ gg ∧ s6 = .int .i64 kk ∧ Aside0 (∀ j x, j < kk → pl[j]? = some x → okV sc x = true) ∧ w1 = wr)
  case atStart => exact ⟨0, Nat.zero_le _, by omega, rfl, ⟨fun j x h => absurd h (Nat.not_lt_zero _)⟩, rfl⟩
  case round =>
    obtain ⟨kk, hkk, hg, rfl, HA, rfl⟩ := hrel
    by_cases hlt : kk < pl.length
    · have hltz : (kk : Int) < (pl.length : Int) := by omega
      obtain ⟨ad, c0, c1, c2, rfl, hK, k0, k1, k2⟩ := get3 rfl HR.out kk hlt
      obtain ⟨A2, a2, rfl, rfl, rfl, hl2, hi2⟩ := kE_cells hK
      have HX1 := Lib.hid (show pl[kk]? = some pl[kk] from List.getElem?_eq_getElem hlt)
      clear hK hi2 hl2
      cases t1 : (pl[kk].f0 == 1) with
      | false =>
        have hf : okV sc pl[kk] = true := by simp [okV, t1]
        have HF := Lib.hid hf
        clear hf
        go_wp2
        go_roundg (pl.length - (kk + 1))
        case measure => omega
        case rel => exact ⟨kk + 1, by omega, by omega, by go_num, ⟨all_snoc HA.out HX1.out HF.out⟩, rfl⟩
      | true =>
        have HI1 := Lib.hid (HI.out pl[kk].f1)
        cases t2 : (sc.any fun x => decide (x = pl[kk].f1)) with
        | true =>
          have HF := Lib.hid (show okV sc pl[kk] = true by simp only [okV, memB, t1, t2]; rfl)
          rw [t2] at HI1
          clear t2
          go_wp2_with fail
          refine HI1.out.mono ?_
          rintro en w' ⟨rfl, hw⟩
          have hw := hw.symm
          subst hw
          go_wp2
          go_roundg (pl.length - (kk + 1))
          case measure => omega
          case rel => exact ⟨kk + 1, by omega, by omega, by go_num, ⟨all_snoc HA.out HX1.out HF.out⟩, rfl⟩
        | false =>
          have HF := Lib.hid (show okV sc pl[kk] = false by simp only [okV, memB, t1, t2]; rfl)
          rw [t2] at HI1
          clear t2
          go_wp2_with fail
          refine HI1.out.mono ?_
          rintro en w' ⟨rfl, hw⟩
          have hw := hw.symm
          subst hw
          go_wp2
          go_ret
          have h := not_all_at HX1.out HF.out
          exact ⟨retb (by simpa using h.symm), HB.out⟩
    · have : kk = pl.length := by omega
      subst this
      go_wp2
      go_ret
      have h := all_to HA.out
      exact ⟨retb (by simpa using h.symm), HB.out⟩
theorem scopedD_one {d : De} (h : d.f2.length = 0) : scopedD d = (plE d.f3).all (okV d.f1) := by
  have h2 : d.f2 = [] := List.eq_nil_of_length_eq_zero h
  have hb : bodiesD d = [d.f3] := by rw [bodiesD, if_pos h]
  rw [scopedD, hb]
  simp [scopeI, h2]
theorem scopedD_many {d : De} (h : ¬ d.f2.length = 0) : scopedD d = d.f2.all fun c => (plE c.f2).all (okV (d.f1 ++ c.f1)) := by
  have hb : bodiesD d = d.f2.map (·.f2) := by rw [bodiesD, if_neg h]
  rw [scopedD, hb, Bool.eq_iff_iff, List.all_eq_true, List.all_eq_true]
  constructor
  · intro hh c hc
    obtain ⟨i, hi, rfl⟩ := List.getElem_of_mem hc
    have := hh i (by simpa using hi)
    simpa [scopeI, hi] using this
  · intro hh i hi
    have hi : i < d.f2.length := by simpa using hi
    have := hh d.f2[i] (List.getElem_mem hi)
    simpa [scopeI, hi] using this
abbrev DcS (W0 : World) (B : Nat) (P C : Value) (p : Addr) (v0 v1 v2 v3 : Value) (W : World) : Prop := Below W0.heap.size W0 W ∧ W.cell? ⟨B, 1, none⟩ = some P ∧ W.cell? ⟨B, 2, none⟩ = some C ∧ W.cell? ⟨p.block, p.off + 1, none⟩ = some v0 ∧ W.cell? ⟨p.block, p.off + 2, none⟩ = some v1 ∧ W.cell? ⟨p.block, p.off + 3, none⟩ = some v2 ∧ W.cell? ⟨p.block, p.off + 4, none⟩ = some v3
theorem DcS.step {W0 : World} {B : Nat} {P C : Value} {p : Addr} {v0 v1 v2 v3 : Value} {W W' : World} (h : DcS W0 B P C p v0 v1 v2 v3 W) (hB : B < W0.heap.size) (hp : p.block < W0.heap.size) (hb : Below W0.heap.size W W') : DcS W0 B P C p v0 v1 v2 v3 W' := by
  obtain ⟨h0, h1, h2, h3, h4, h5, h6⟩ := h
  exact ⟨h0.trans hb, cell_keep hb hB h1, cell_keep hb hB h2, cell_keep hb hp h3, cell_keep hb hp h4, cell_keep hb hp h5, cell_keep hb hp h6⟩
set_option maxRecDepth 100000 in
set_option maxHeartbeats 8000000 in
theorem c_rcheck (d : De) (cs : List Value) (w : World) (hd : Kd.FK k59 w (fun k => k < w.heap.size) d cs) (hok : OkD d) (hz : szL (bodiesD d) ≤ 1000000) :
    Calls Tryz.prog 94 #[.agg cs.toArray] w fun en w' => en = .returned (.int .i64 (rightE d)) ∧ Below w.heap.size w w' := by
  have hl : d.f2.length ≤ 100000 := hok.c
  have hp : d.f1.length ≤ 100000 := hok.p
  have hv := hok.v
  have hbz := hok.z
  have HFK := Lib.hid (fun W (hb : Below w.heap.size w W) => Kd.FK_mono (Kd.FK_below hd hb) (ok' := fun k => k < W.heap.size) (fun k hk => by have := hb.size; omega))
  have HMa := Lib.hid (fun W (hb : Below w.heap.size w W) => c_rmany d cs W (HFK.out W hb) (by omega) hz)
  have HAl := Lib.hid (fun W (hb : Below w.heap.size w W) => c_rall d cs (fun k => k < w.heap.size) W (Kd.FK_below hd hb) (fun k hk => by have := hb.size; omega) (by omega) hz)
  have HNa := Lib.hid (fun W (hb : Below w.heap.size w W) => c_rnamed d cs W (HFK.out W hb) (by omega) hz)
  have HDo := Lib.hid (fun W (hb : Below w.heap.size w W) => c_rdoubled d cs W (HFK.out W hb) (by omega) hp hv)
  obtain ⟨A1, c1, A2, c2, A5, c5, rfl, l1, F1, l2, F2, l5, F5⟩ := k59_openF hd
  have hm1 := (Kd.F_now F1).2.1
  have hm2 := (Kd.F_now F2).2.1
  have hm5 := (Kd.F_now F5).2.1
  have HF1 := Aside0.mk F1
  have HF2 := Aside0.mk F2
  have HF5 := Aside0.mk F5
  have HL := Lib.hid (And.intro l1 (And.intro l2 l5))
  obtain ⟨W1, hW1⟩ : ∃ W1, w.alloc (.cells #[.string d.f0, .slice A1 d.f1.length c1, .slice A2 d.f2.length c2, .int .i64 d.f3.f0, .string d.f3.f1, .slice A5 d.f3.f2.length c5] 59) = W1 := ⟨_, rfl⟩
  have b0 : W1.heap[w.heap.size]? = some (.cells #[.string d.f0, .slice A1 d.f1.length c1, .slice A2 d.f2.length c2, .int .i64 d.f3.f0, .string d.f3.f1, .slice A5 d.f3.f2.length c5] 59 (0, 0)) := by rw [← hW1]; exact alloc_at _ _
  have q0 : Below w.heap.size w W1 := by rw [← hW1]; exact below_alloc1 _ _
  have zW1 : W1.heap.size = w.heap.size + 1 := by rw [← hW1]; simp
  have B0 := Aside0.mk b0
  have Q0 := Aside0.mk q0
  have Z0 := Lib.hid zW1
  have HW1 := Lib.hid hW1
  have HD := Aside0.mk hd
  clear hd F1 F2 F5 b0 q0 zW1 hW1 l1 l2 l5
  have HR0 := Lib.hid (rightD_eq (scopedD d) d)
  have Q := Aside0.mk Q0.out
  have B := Aside0.mk B0.out
  have k0 := (blk_cell B.out 0).trans rfl
  have k1 := (blk_cell B.out 1).trans rfl
  have k2 := (blk_cell B.out 2).trans rfl
  have k3 := (blk_cell B.out 3).trans rfl
  have k4 := (blk_cell B.out 4).trans rfl
  have k5 := (blk_cell B.out 5).trans rfl
  cases t1 : manyD d with
  | true =>
    have HX := Lib.hid (show rightE d = 2 by rw [rightE, HR0.out, t1]; rfl)
    have HC1 := Lib.hid (HMa.out _ Q.out)
    rw [t1] at HC1
    go_enter Tryz.func94, Tryz.ntmps94
    go_wp2_with fail
    rw [HW1.out]
    go_wp2_with fail
    refine HC1.out.mono ?_
    rintro en wn ⟨rfl, hb⟩
    have Q := Aside0.mk (Q.out.trans (hb.mono Q.out.size))
    clear hb
    go_wp2
    go_ret
    exact ⟨reti HX.out.symm, Q.out⟩
  | false =>
  have HR1 := Lib.hid (HR0.out.trans (by rw [t1]))
  have HC1 := Lib.hid (HMa.out _ Q.out)
  rw [t1] at HC1
  go_enter Tryz.func94, Tryz.ntmps94
  go_wp2_with fail
  rw [HW1.out]
  go_wp2_with fail
  refine HC1.out.mono ?_
  rintro en wn ⟨rfl, hb⟩
  have B := Aside0.mk (blk_below B.out hb)
  have Q := Aside0.mk (Q.out.trans (hb.mono Q.out.size))
  clear hb HC1 k0 k1 k2 k3 k4 k5
  have k0 := (blk_cell B.out 0).trans rfl
  have k1 := (blk_cell B.out 1).trans rfl
  have k2 := (blk_cell B.out 2).trans rfl
  have k3 := (blk_cell B.out 3).trans rfl
  have k4 := (blk_cell B.out 4).trans rfl
  have k5 := (blk_cell B.out 5).trans rfl
  have HC1 := Lib.hid (HAl.out _ Q.out)
  go_wp2_with fail
  refine HC1.out.mono ?_
  rintro en w1 ⟨v, rfl, hN, hb⟩
  obtain ⟨es, hes⟩ : ∃ es, eachD d = es := ⟨_, rfl⟩
  rw [hes] at hN HR1
  obtain ⟨Ae, ce, rfl, hce, hCe⟩ := Kd.N_reads hN
  have hme := hCe.2.1
  have HCe := Aside0.mk hCe
  have B := Aside0.mk (blk_below B.out hb)
  have Q := Aside0.mk (Q.out.trans (hb.mono Q.out.size))
  clear hb hN hCe HC1 hes k0 k1 k2 k3 k4 k5
  go_wp2
  go_loopg [4] es.length (fun gg s4 wr => ∃ kk : Nat, kk ≤ es.length ∧ es.length - kk ≤ gg ∧ s4 = .int .i64 kk ∧ Aside0 (∀ j x, j < kk → es[j]? = some x → kindB x = true) ∧ w1 = wr)
  case atStart => exact ⟨0, Nat.zero_le _, by omega, rfl, ⟨fun j x h => absurd h (Nat.not_lt_zero _)⟩, rfl⟩
  case round =>
    obtain ⟨kk, hkk, hg, rfl, HA, rfl⟩ := hrel
    by_cases hlt : kk < es.length
    · have hltz : (kk : Int) < (es.length : Int) := by omega
      obtain ⟨ad, y0, y1, y2, rfl, hK, e0, e1, e2⟩ := get3 rfl HCe.out kk hlt
      obtain ⟨X2, x2, rfl, rfl, rfl, hl2, hi2⟩ := kE_cells hK
      have HX1 := Lib.hid (show es[kk]? = some es[kk] from List.getElem?_eq_getElem hlt)
      have hmx := hi2.2.1
      clear hK hi2 hl2
      cases g1 : decide (es[kk].f0 < 1) <;> cases g2 : decide ((3 : Int) < es[kk].f0) <;> cases g3 : (es[kk].f0 == 1) <;> cases g4 : decide ((0 : Int) < (es[kk].f2.length : Int))
      all_goals
        have HG := Lib.hid (And.intro g1 (And.intro g2 (And.intro g3 g4)))
        go_wp2
        all_goals first
        | (go_ret
           have hf : kindB es[kk] = false := by
             obtain ⟨h1, h2, h3, h4⟩ := HG.out
             simp only [decide_eq_true_eq, decide_eq_false_iff_not, beq_iff_eq, beq_eq_false_iff_ne, ne_eq] at h1 h2 h3 h4
             cases hk : kindB es[kk] with
             | false => rfl
             | true =>
               simp only [kindB, Bool.and_eq_true, Bool.or_eq_true, decide_eq_true_eq, bne_iff_ne, ne_eq, beq_iff_eq] at hk
               omega
           exact ⟨reti (by rw [rightE, HR1.out, not_all_at HX1.out hf]; rfl), Q.out⟩)
        | (have hf : kindB es[kk] = true := by
             obtain ⟨h1, h2, h3, h4⟩ := HG.out
             simp only [decide_eq_true_eq, decide_eq_false_iff_not, beq_iff_eq, beq_eq_false_iff_ne, ne_eq] at h1 h2 h3 h4
             simp only [kindB, Bool.and_eq_true, Bool.or_eq_true, decide_eq_true_eq, bne_iff_ne, ne_eq, beq_iff_eq]
             omega
           go_roundg (es.length - (kk + 1))
           case measure => omega
           case rel => exact ⟨kk + 1, by omega, by omega, by go_num, ⟨all_snoc HA.out HX1.out hf⟩, rfl⟩)
    · have : kk = es.length := by omega
      subst this
      have HR2 := Lib.hid (HR1.out.trans (by rw [all_to HA.out]))
      clear HR1 HA
      have k0 := (blk_cell B.out 0).trans rfl
      have k1 := (blk_cell B.out 1).trans rfl
      have k2 := (blk_cell B.out 2).trans rfl
      have k3 := (blk_cell B.out 3).trans rfl
      have k4 := (blk_cell B.out 4).trans rfl
      have k5 := (blk_cell B.out 5).trans rfl
      cases t2 : namedD d with
      | false =>
        have HX := Lib.hid (show rightE d = 4 by rw [rightE, HR2.out, t2]; rfl)
        have HC1 := Lib.hid (HNa.out _ Q.out)
        rw [t2] at HC1
        go_wp2_with fail
        refine HC1.out.mono ?_
        rintro en wn ⟨rfl, hb⟩
        have B := Aside0.mk (blk_below B.out hb)
        have Q := Aside0.mk (Q.out.trans (hb.mono Q.out.size))
        clear hb HC1 k0 k1 k2 k3 k4 k5
        have k0 := (blk_cell B.out 0).trans rfl
        have k1 := (blk_cell B.out 1).trans rfl
        have k2 := (blk_cell B.out 2).trans rfl
        have k3 := (blk_cell B.out 3).trans rfl
        have k4 := (blk_cell B.out 4).trans rfl
        have k5 := (blk_cell B.out 5).trans rfl
        go_wp2
        go_ret
        exact ⟨reti HX.out.symm, Q.out⟩
      | true =>
      have HR3 := Lib.hid (HR2.out.trans (by rw [t2]))
      have HC1 := Lib.hid (HNa.out _ Q.out)
      rw [t2] at HC1
      go_wp2_with fail
      refine HC1.out.mono ?_
      rintro en wn ⟨rfl, hb⟩
      have B := Aside0.mk (blk_below B.out hb)
      have Q := Aside0.mk (Q.out.trans (hb.mono Q.out.size))
      clear hb HC1 k0 k1 k2 k3 k4 k5
      have k0 := (blk_cell B.out 0).trans rfl
      have k1 := (blk_cell B.out 1).trans rfl
      have k2 := (blk_cell B.out 2).trans rfl
      have k3 := (blk_cell B.out 3).trans rfl
      have k4 := (blk_cell B.out 4).trans rfl
      have k5 := (blk_cell B.out 5).trans rfl
      cases t3 : doubledD d with
      | true =>
        have HX := Lib.hid (show rightE d = 5 by rw [rightE, HR3.out, t3]; rfl)
        have HC1 := Lib.hid (HDo.out _ Q.out)
        rw [t3] at HC1
        go_wp2_with fail
        refine HC1.out.mono ?_
        rintro en wn ⟨rfl, hb⟩
        have B := Aside0.mk (blk_below B.out hb)
        have Q := Aside0.mk (Q.out.trans (hb.mono Q.out.size))
        clear hb HC1 k0 k1 k2 k3 k4 k5
        have k0 := (blk_cell B.out 0).trans rfl
        have k1 := (blk_cell B.out 1).trans rfl
        have k2 := (blk_cell B.out 2).trans rfl
        have k3 := (blk_cell B.out 3).trans rfl
        have k4 := (blk_cell B.out 4).trans rfl
        have k5 := (blk_cell B.out 5).trans rfl
        go_wp2
        go_ret
        exact ⟨reti HX.out.symm, Q.out⟩
      | false =>
      have HR4 := Lib.hid (HR3.out.trans (by rw [t3]))
      have HC1 := Lib.hid (HDo.out _ Q.out)
      rw [t3] at HC1
      go_wp2_with fail
      refine HC1.out.mono ?_
      rintro en wn ⟨rfl, hb⟩
      have B := Aside0.mk (blk_below B.out hb)
      have Q := Aside0.mk (Q.out.trans (hb.mono Q.out.size))
      clear hb HC1 k0 k1 k2 k3 k4 k5
      have k0 := (blk_cell B.out 0).trans rfl
      have k1 := (blk_cell B.out 1).trans rfl
      have k2 := (blk_cell B.out 2).trans rfl
      have k3 := (blk_cell B.out 3).trans rfl
      have k4 := (blk_cell B.out 4).trans rfl
      have k5 := (blk_cell B.out 5).trans rfl
      by_cases h0 : d.f2.length = 0
      · have t4 : decide ((0 : Int) < (d.f2.length : Int)) = false := decide_eq_false (by omega)
        have t5 : ((d.f2.length : Int) == 0) = true := by rw [beq_iff_eq]; omega
        have t4n : decide (0 < d.f2.length) = false := decide_eq_false (by omega)
        have HR5 := Lib.hid (HR4.out.trans (by rw [clashB, t4, Bool.false_and, cond_false, scopedD_one h0]))
        have H0 := Lib.hid h0
        clear h0
        have hsz : szE d.f3 ≤ 1000000 := by
          have hb : bodiesD d = [d.f3] := by rw [bodiesD, if_pos H0.out]
          rw [hb] at hz
          simp [szL] at hz
          omega
        have HS := Lib.hid (fun W (hb : Below w.heap.size w W) => c_rscoped d.f3 A5 c5 d.f1 A1 c1 W hsz (Kd.C_below (Kd.F_now HF5.out) hb) HL.out.2.2 (Kd.C_below (Kd.F_now HF1.out) hb) HL.out.1)
        cases t6 : (plE d.f3).all (okV d.f1) with
        | false =>
          have HX := Lib.hid (show rightE d = 1 by rw [rightE, HR5.out, t6]; rfl)
          have HC1 := Lib.hid (HS.out _ Q.out)
          rw [t6] at HC1
          go_wp2_with fail
          refine HC1.out.mono ?_
          rintro en wn ⟨rfl, hb⟩
          have B := Aside0.mk (blk_below B.out hb)
          have Q := Aside0.mk (Q.out.trans (hb.mono Q.out.size))
          clear hb HC1 k0 k1 k2 k3 k4 k5
          have k0 := (blk_cell B.out 0).trans rfl
          have k1 := (blk_cell B.out 1).trans rfl
          have k2 := (blk_cell B.out 2).trans rfl
          have k3 := (blk_cell B.out 3).trans rfl
          have k4 := (blk_cell B.out 4).trans rfl
          have k5 := (blk_cell B.out 5).trans rfl
          go_wp2
          go_ret
          exact ⟨reti HX.out.symm, Q.out⟩
        | true =>
          have HX := Lib.hid (show rightE d = 0 by rw [rightE, HR5.out, t6]; rfl)
          have HC1 := Lib.hid (HS.out _ Q.out)
          rw [t6] at HC1
          go_wp2_with fail
          refine HC1.out.mono ?_
          rintro en wn ⟨rfl, hb⟩
          have B := Aside0.mk (blk_below B.out hb)
          have Q := Aside0.mk (Q.out.trans (hb.mono Q.out.size))
          clear hb HC1 k0 k1 k2 k3 k4 k5
          have k0 := (blk_cell B.out 0).trans rfl
          have k1 := (blk_cell B.out 1).trans rfl
          have k2 := (blk_cell B.out 2).trans rfl
          have k3 := (blk_cell B.out 3).trans rfl
          have k4 := (blk_cell B.out 4).trans rfl
          have k5 := (blk_cell B.out 5).trans rfl
          clear k0 k1 k2 k3 k4 k5
          go_wp2
          go_loopg [5] 1 (fun gg s5 wr => s5 = .int .i64 0 ∧ wn = wr)
          case atStart => exact ⟨rfl, rfl⟩
          case round =>
            obtain ⟨rfl, rfl⟩ := hrel
            have k0 := (blk_cell B.out 0).trans rfl
            have k1 := (blk_cell B.out 1).trans rfl
            have k2 := (blk_cell B.out 2).trans rfl
            have k3 := (blk_cell B.out 3).trans rfl
            have k4 := (blk_cell B.out 4).trans rfl
            have k5 := (blk_cell B.out 5).trans rfl
            have h00 := H0.out
            go_wp2
            go_ret
            exact ⟨reti HX.out.symm, Q.out⟩
      · have t4 : decide ((0 : Int) < (d.f2.length : Int)) = true := decide_eq_true (by omega)
        have t4n : decide (0 < d.f2.length) = true := decide_eq_true (by omega)
        have t5 : ((d.f2.length : Int) == 0) = false := by rw [beq_eq_false_iff_ne]; omega
        have HR5 := Lib.hid (HR4.out.trans (by rw [clashB, t4, Bool.true_and, scopedD_many h0]))
        have H0 := Lib.hid h0
        have hbod : bodiesD d = d.f2.map (·.f2) := by rw [bodiesD, if_neg h0]
        have HBod := Lib.hid hbod
        clear h0 hbod
        cases t6 : (d.f3.f0 != 0) with
        | true =>
          have HX := Lib.hid (show rightE d = 7 by rw [rightE, HR5.out, t6]; rfl)
          go_wp2
          go_ret
          exact ⟨reti HX.out.symm, Q.out⟩
        | false =>
        cases t7 : ((d.f1.length : Int) == 0) with
        | true =>
          have HX := Lib.hid (show rightE d = 7 by rw [rightE, HR5.out, t6, t7]; rfl)
          go_wp2
          go_ret
          exact ⟨reti HX.out.symm, Q.out⟩
        | false =>
        have HR6 := Lib.hid (HR5.out.trans (by rw [t6, t7]))
        go_wp2
        clear k0 k1 k2 k3 k4 k5
        go_loopg [5] d.f2.length (fun gg s5 wr => ∃ kk : Nat, kk ≤ d.f2.length ∧ d.f2.length - kk ≤ gg ∧ s5 = .int .i64 kk ∧ Aside0 (∀ j x, j < kk → d.f2[j]? = some x → (plE x.f2).all (okV (d.f1 ++ x.f1)) = true) ∧ Aside0 (Below w.heap.size w wr) ∧ Aside0 (wr.heap[w.heap.size]? = some (.cells #[.string d.f0, .slice A1 d.f1.length c1, .slice A2 d.f2.length c2, .int .i64 d.f3.f0, .string d.f3.f1, .slice A5 d.f3.f2.length c5] 59 (0, 0))))
        case atStart => exact ⟨0, Nat.zero_le _, by omega, rfl, ⟨fun j x h => absurd h (Nat.not_lt_zero _)⟩, Q, B⟩
        case round =>
          obtain ⟨kk, hkk, hg, rfl, HA, HB, BK⟩ := hrel
          have k0 := (blk_cell BK.out 0).trans rfl
          have k1 := (blk_cell BK.out 1).trans rfl
          have k2 := (blk_cell BK.out 2).trans rfl
          have k3 := (blk_cell BK.out 3).trans rfl
          have k4 := (blk_cell BK.out 4).trans rfl
          have k5 := (blk_cell BK.out 5).trans rfl
          by_cases hlt : kk < d.f2.length
          · have hltz : (kk : Int) < (d.f2.length : Int) := by omega
            obtain ⟨ad, y0, y1, y2, y3, y4, rfl, hK, e0, e1, e2, e3, e4⟩ := get5 rfl (Kd.C_below (Kd.F_now HF2.out) HB.out) kk hlt
            obtain ⟨X1, x1, X4, x4, he, m1, G1, m4, G4⟩ := k62_open hK
            obtain ⟨rfl, rfl, rfl, rfl, rfl⟩ : y0 = _ ∧ y1 = _ ∧ y2 = _ ∧ y3 = _ ∧ y4 = _ := by simpa using he
            have hmx := G1.2.1
            have hvl := hv _ (List.getElem_mem hlt)
            have hsz := hbz d.f2[kk].f2 (by rw [HBod.out]; exact List.mem_map.2 ⟨_, List.getElem_mem hlt, rfl⟩)
            have HX1 := Lib.hid (show d.f2[kk]? = some d.f2[kk] from List.getElem?_eq_getElem hlt)
            obtain ⟨ca, hca⟩ : ∃ ca, d.f2[kk] = ca := ⟨_, rfl⟩
            rw [hca] at hK e0 e1 e2 e3 e4 G1 G4 hmx m1 m4 hvl HX1 hsz
            have hsw := HB.out.size
            have hbl := blk_lt BK.out
            have hpl := World.block_lt_of_cell? _ _ e1
            have HGa := Lib.hid (fun W (hb : Below wr.heap.size wr W) => Kd.C_below G1 hb)
            have HGp := Lib.hid (fun W (hb : Below wr.heap.size wr W) => Kd.C_below (Kd.F_now HF1.out) (HB.out.trans (hb.mono HB.out.size)))
            have hS0 : DcS wr w.heap.size (.slice A1 d.f1.length c1) (.slice (some ad) d.f2.length c2) (ad.add (kk * 5)) (.slice X1 ca.f1.length x1) (.int .i64 ca.f2.f0) (.string ca.f2.f1) (.slice X4 ca.f2.f2.length x4) wr := ⟨Below.refl _ _, k1, k2, e1, e2, e3, e4⟩
            obtain ⟨l2, hl2⟩ : ∃ l2, d.f1 ++ ca.f1 = l2 := ⟨_, rfl⟩
            have HL2 := Lib.hid hl2
            have hll : d.f1.length + ca.f1.length = l2.length := by rw [← hl2, List.length_append]
            have HTw := Lib.hid (fun W (A : Option Addr) (c : Nat) (hr : Kd.C Kd.string W A l2.length l2) (hc : l2.length ≤ c) (hS : DcS wr w.heap.size (.slice A1 d.f1.length c1) (.slice (some ad) d.f2.length c2) (ad.add (kk * 5)) (.slice X1 ca.f1.length x1) (.int .i64 ca.f2.f0) (.string ca.f2.f1) (.slice X4 ca.f2.f2.length x4) W) =>
              (c_rscoped ca.f2 X4 x4 l2 A c W (by omega) (Kd.C_below G4 hS.1) m4 hr hc).mono (R' := fun e W' => e = .returned (.bool ((plE ca.f2).all (okV l2))) ∧ DcS wr w.heap.size (.slice A1 d.f1.length c1) (.slice (some ad) d.f2.length c2) (ad.add (kk * 5)) (.slice X1 ca.f1.length x1) (.int .i64 ca.f2.f0) (.string ca.f2.f1) (.slice X4 ca.f2.f2.length x4) W') (by rintro e W' ⟨h1, h2⟩; exact ⟨h1, hS.step hbl hpl (h2.mono hS.1.size)⟩))
            have HB1 := Lib.hid (show Below wr.heap.size wr (wr.alloc (.cells #[] 9)).drew from below_drew (below_alloc1 _ _))
            have HO1 := Lib.hid (show OwnT (wr.alloc (.cells #[] 9)).drew wr.heap.size (.slice (some ⟨wr.heap.size, 0, none⟩) 0 0) [] from Kd.R_below (OwnT.new wr) (below_drew (Below.refl _ _)))
            have HG1 := Lib.hid (show Kd.C Kd.string (wr.alloc (.cells #[] 9)).drew A1 d.f1.length d.f1 from HGp.out _ HB1.out)
            have HS0 := Lib.hid hS0
            have HLl := Lib.hid hll
            clear hl2 hll
            clear hK he G1 G4 m1 m4 k0 k3 k4 k5 e0 hS0
            cases t8 : (plE ca.f2).all (okV l2) with
            | false =>
              rw [t8] at HTw
              have HT2 := Lib.hid t8
              clear t8
              go_wp2_with fail
              go_region_held3 (fun W => DcS wr w.heap.size (.slice A1 d.f1.length c1) (.slice (some ad) d.f2.length c2) (ad.add (kk * 5)) (.slice X1 ca.f1.length x1) (.int .i64 ca.f2.f0) (.string ca.f2.f1) (.slice X4 ca.f2.f2.length x4) W)
                (first | assumption | exact HS0.out.step hbl hpl (below_drew (Below.refl _ _)) | exact HS0.out.step hbl hpl (below_drew (below_alloc1 _ _)))
                (first | (refine Kd.R_append_rows_step Kd.string (w0 := wr) wr.heap.size (by rfl) (.tmp 93) (.tmp 95) 30 9 (.string ⟨#[]⟩) 16 rfl Tryz.underlying30 infoTx rfl (by decide) (by decide) (.slice (some ⟨wr.heap.size, 0, none⟩) 0 0) [] d.f1 A1 d.f1.length c1 (fun _ => True) (fun _ => False) rfl rfl HO1.out HG1.out (fun _ _ h => h) (fun _ h => h.elim) (fun _ _ => trivial) HB1.out HB1.out.size (by simp; omega) ?_; intro v1 w5 ho1 hb1 hg1 hat1; rw [List.nil_append] at ho1; have hS5 := HS0.out.step hbl hpl hb1; have HG2 := Lib.hid (HGa.out _ hb1); have HO2 := Lib.hid ho1; have HB2 := Lib.hid hb1; clear ho1 hb1 hg1 hat1) | (refine Kd.R_append_rows_step Kd.string (w0 := wr) wr.heap.size (by rfl) (.tmp 96) (.tmp 102) 30 9 (.string ⟨#[]⟩) 16 rfl Tryz.underlying30 infoTx rfl (by decide) (by decide) v1 d.f1 ca.f1 X1 ca.f1.length x1 (fun _ => True) (fun _ => False) rfl rfl HO2.out HG2.out (fun _ _ h => h) (fun _ h => h.elim) (fun _ _ => trivial) HB2.out HB2.out.size (by omega) ?_; intro v2 w6 ho2 hb2 hg2 hat2; have hS6 := HS0.out.step hbl hpl hb2; rw [HL2.out] at ho2; obtain ⟨Ax, cx, hv2, hcx, hCx⟩ := Kd.R_reads ho2; subst hv2; have HC2 := Lib.hid hCx; clear hg2 hat2 ho2 hb2 hCx) | (go_at_call 140; (with_reducible refine (HTw.out w6 Ax cx HC2.out hcx hS6).mono ?_); rintro e w7 ⟨rfl, hS7⟩))
              go_wp2
              go_ret
              exact ⟨reti (by rw [rightE, HR6.out, not_all_at (p := fun c => (plE c.f2).all (okV (d.f1 ++ c.f1))) HX1.out (by simp only [HL2.out, HT2.out])]; rfl), HB.out.trans (hS7.1.mono HB.out.size)⟩
            | true =>
              rw [t8] at HTw
              have HT2 := Lib.hid t8
              clear t8
              go_wp2_with fail
              go_region_held3 (fun W => DcS wr w.heap.size (.slice A1 d.f1.length c1) (.slice (some ad) d.f2.length c2) (ad.add (kk * 5)) (.slice X1 ca.f1.length x1) (.int .i64 ca.f2.f0) (.string ca.f2.f1) (.slice X4 ca.f2.f2.length x4) W)
                (first | assumption | exact HS0.out.step hbl hpl (below_drew (Below.refl _ _)) | exact HS0.out.step hbl hpl (below_drew (below_alloc1 _ _)))
                (first | (refine Kd.R_append_rows_step Kd.string (w0 := wr) wr.heap.size (by rfl) (.tmp 93) (.tmp 95) 30 9 (.string ⟨#[]⟩) 16 rfl Tryz.underlying30 infoTx rfl (by decide) (by decide) (.slice (some ⟨wr.heap.size, 0, none⟩) 0 0) [] d.f1 A1 d.f1.length c1 (fun _ => True) (fun _ => False) rfl rfl HO1.out HG1.out (fun _ _ h => h) (fun _ h => h.elim) (fun _ _ => trivial) HB1.out HB1.out.size (by simp; omega) ?_; intro v1 w5 ho1 hb1 hg1 hat1; rw [List.nil_append] at ho1; have hS5 := HS0.out.step hbl hpl hb1; have HG2 := Lib.hid (HGa.out _ hb1); have HO2 := Lib.hid ho1; have HB2 := Lib.hid hb1; clear ho1 hb1 hg1 hat1) | (refine Kd.R_append_rows_step Kd.string (w0 := wr) wr.heap.size (by rfl) (.tmp 96) (.tmp 102) 30 9 (.string ⟨#[]⟩) 16 rfl Tryz.underlying30 infoTx rfl (by decide) (by decide) v1 d.f1 ca.f1 X1 ca.f1.length x1 (fun _ => True) (fun _ => False) rfl rfl HO2.out HG2.out (fun _ _ h => h) (fun _ h => h.elim) (fun _ _ => trivial) HB2.out HB2.out.size (by omega) ?_; intro v2 w6 ho2 hb2 hg2 hat2; have hS6 := HS0.out.step hbl hpl hb2; rw [HL2.out] at ho2; obtain ⟨Ax, cx, hv2, hcx, hCx⟩ := Kd.R_reads ho2; subst hv2; have HC2 := Lib.hid hCx; clear hg2 hat2 ho2 hb2 hCx) | (go_at_call 140; (with_reducible refine (HTw.out w6 Ax cx HC2.out hcx hS6).mono ?_); rintro e w7 ⟨rfl, hS7⟩))
              have BK7 := Aside0.mk (blk_below BK.out hS7.1)
              have HB7 := Aside0.mk (HB.out.trans (hS7.1.mono HB.out.size))
              have HA2 := Lib.hid (all_snoc (p := fun c => (plE c.f2).all (okV (d.f1 ++ c.f1))) HA.out HX1.out (by simp only [HL2.out, HT2.out]))
              clear hS7 HTw HGa HGp HA k1 k2 e1
              go_wp2
              go_roundg (d.f2.length - (kk + 1))
              case measure => omega
              case rel => exact ⟨kk + 1, by omega, by omega, by go_num, ⟨HA2.out⟩, HB7, BK7⟩
          · have : kk = d.f2.length := by omega
            subst this
            go_wp2
            go_ret
            exact ⟨reti (by rw [rightE, HR6.out, all_to HA.out]; rfl), HB.out⟩
end Go.Proofs.YtacefdkfbpgedaaGreat.Mine
