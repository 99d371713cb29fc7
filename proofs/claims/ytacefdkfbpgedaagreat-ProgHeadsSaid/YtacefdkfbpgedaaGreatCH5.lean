/- prog's Find, Calls, Simple. -/
import Derived.Test.YtacefdkfbpgedaaGreatCH4
import Derived.Test.YtacefdkfbpgedaaGreatCH2
import Derived.Test.YtacefdkfbpgedaaGreatCH3
namespace Go.Proofs.YtacefdkfbpgedaaGreat.Mine
open Go.Proofs.YtacefdkfbpgedaaGreat.PProgSmall
open Go.RowKit Go.Shelf Go.Proofs.YtacefdkfbpgedaaGreatW.PrintWords Go.Proofs.YtacefdkfbpgedaaGreatW.PrintLast Go.Proofs.YtacefdkfbpgedaaGreatW.PrintMore
set_option linter.unusedVariables false
set_option linter.unusedSimpArgs false
theorem own_lower {w : World} {a b : Nat} {v : Value} {ss : List ByteArray} (h : OwnS w a v ss) (hle : b ≤ a) : OwnS w b v ss := by
  refine ⟨h.1, ?_⟩
  rcases h.2 with ⟨h1, h2⟩ | ⟨g, cap, cur, h1, hb, hrest⟩
  · exact Or.inl ⟨h1, h2⟩
  · exact Or.inr ⟨g, cap, cur, h1, Nat.le_trans hle hb, hrest⟩
def findP (defs : List De) (s : ByteArray) : Int × Int :=
  if checkP defs = 0 then (if numD defs s < 0 then (0, 1) else (numD defs s, 0)) else (0, checkP defs)
set_option maxRecDepth 100000 in
set_option maxHeartbeats 4000000 in
theorem c_Find (defs : List De) (A : Option Addr) (c : Nat) (s : ByteArray) (w : World) (hr : Kd.C k59 w A defs.length defs) (hc : defs.length ≤ c) (hok : OkP defs) :
    Calls Tryz.prog 16 #[.agg #[.slice A defs.length c], .string s] w fun en w' => en = .returned (.tuple #[.int .i64 (findP defs s).1, .int .i64 (findP defs s).2]) ∧ Below w.heap.size w w' := by
  obtain ⟨W1, hW1⟩ : ∃ W1, w.alloc (.cells #[.slice A defs.length c] 24) = W1 := ⟨_, rfl⟩
  have q1 : Below w.heap.size w W1 := by rw [← hW1]; exact below_alloc1 _ _
  have bP : W1.heap[w.heap.size]? = some (.cells #[.slice A defs.length c] 24 (0, 0)) := by rw [← hW1]; exact alloc_at _ _
  have HC := Lib.hid (c_Check defs A c W1 (Kd.C_below hr q1) hc hok)
  have HNu := Lib.hid (fun W (hb : Below w.heap.size w W) => c_number defs A c s W (Kd.C_below hr hb) hc)
  have HQ := Lib.hid q1
  have HP := Lib.hid bP
  have HW1 := Lib.hid hW1
  clear hr q1 bP hW1
  obtain ⟨e, he⟩ : ∃ e, checkP defs = e := ⟨_, rfl⟩
  obtain ⟨k, hk⟩ : ∃ k, numD defs s = k := ⟨_, rfl⟩
  have HX := Lib.hid (show findP defs s = if e = 0 then (if k < 0 then (0, 1) else (k, 0)) else (0, e) by rw [findP, he, hk])
  rw [he] at HC
  rw [hk] at HNu
  clear he hk
  go_enter Tryz.func16, Tryz.ntmps16
  go_wp2_with fail
  rw [HW1.out]
  refine HC.out.mono ?_
  rintro en w2 ⟨rfl, hb2⟩
  have bP2 := blk_below HP.out hb2
  have k2 := (blk_cell bP2 0).trans rfl
  have HB2 := Lib.hid (HQ.out.trans (hb2.mono HQ.out.size))
  clear hb2 bP2
  cases he : (e != 0) with
  | true =>
    have HE := Lib.hid he
    go_wp2
    go_ret2
    have hne : ¬ e = 0 := by simpa using HE.out
    exact ⟨by rw [HX.out, if_neg hne]; rfl, HB2.out⟩
  | false =>
    have HE := Lib.hid he
    go_wp2_with fail
    refine (HNu.out _ HB2.out).mono ?_
    rintro en w3 ⟨rfl, hb3⟩
    have HB3 := Lib.hid (HB2.out.trans (hb3.mono HB2.out.size))
    have hz : e = 0 := by simpa using HE.out
    have HZ := Lib.hid hz
    clear hb3 hz k2
    cases hk : decide (k < 0) with
    | true =>
      have HK := Lib.hid hk
      go_wp2
      go_ret2
      have hkn : k < 0 := of_decide_eq_true HK.out
      exact ⟨by rw [HX.out, if_pos HZ.out, if_pos hkn]; rfl, HB3.out⟩
    | false =>
      have HK := Lib.hid hk
      go_wp2
      go_ret2
      have hkn : ¬ k < 0 := of_decide_eq_false HK.out
      exact ⟨by rw [HX.out, if_pos HZ.out, if_neg hkn]; rfl, HB3.out⟩
def callsOf (defs : List De) (s : ByteArray) : List ByteArray := match defs[(numD defs s).toNat]? with | some d => callsL (eachD d) | none => []
def callsP (defs : List De) (s : ByteArray) : List ByteArray := if (findP defs s).2 = 0 then callsOf defs s else []
theorem findP_ok {defs : List De} {s : ByteArray} (h : (findP defs s).2 = 0) : checkP defs = 0 ∧ ∃ i : Nat, numD defs s = (i : Int) ∧ i < defs.length ∧ (findP defs s).1 = (i : Int) := by
  unfold findP at h ⊢
  by_cases h1 : checkP defs = 0
  · rw [if_pos h1] at h
    by_cases h2 : numD defs s < 0
    · rw [if_pos h2] at h; simp at h
    · refine ⟨h1, ?_⟩
      rcases idxB_cases (fun d => decide (d.f0 = s)) defs with h3 | ⟨i, h3, h4⟩
      · unfold numD at h2; omega
      · exact ⟨i, h3, h4, by rw [if_pos h1, if_neg h2]; exact h3⟩
  · rw [if_neg h1] at h; exact absurd h h1
set_option maxRecDepth 100000 in
set_option maxHeartbeats 4000000 in
theorem c_Calls (defs : List De) (A : Option Addr) (c : Nat) (s : ByteArray) (w : World) (hr : Kd.C k59 w A defs.length defs) (hc : defs.length ≤ c) (hok : OkP defs) :
    Calls Tryz.prog 17 #[.agg #[.slice A defs.length c], .string s] w fun en w' => ∃ v, en = .returned (.tuple #[v, .int .i64 (findP defs s).2]) ∧ OwnS w' w.heap.size v (callsP defs s) ∧ Below w.heap.size w w' := by
  have hmd := hr.2.1
  have HF := Lib.hid (Kd.C_F k59_heap hr)
  have HR := Lib.hid hr
  obtain ⟨W1, hW1⟩ : ∃ W1, w.alloc (.cells #[.slice A defs.length c] 24) = W1 := ⟨_, rfl⟩
  have q1 : Below w.heap.size w W1 := by rw [← hW1]; exact below_alloc1 _ _
  have bP : W1.heap[w.heap.size]? = some (.cells #[.slice A defs.length c] 24 (0, 0)) := by rw [← hW1]; exact alloc_at _ _
  have HC := Lib.hid (c_Find defs A c s W1 (Kd.C_below hr q1) hc hok)
  have HQ := Lib.hid q1
  have HP := Lib.hid bP
  have HW1 := Lib.hid hW1
  clear hr q1 bP hW1
  obtain ⟨fp, hfp⟩ : ∃ fp, findP defs s = fp := ⟨_, rfl⟩
  rw [hfp] at HC ⊢
  have HFp := Lib.hid hfp
  clear hfp
  cases he : (fp.2 != 0) with
  | true =>
    have HE := Lib.hid he
    go_enter Tryz.func17, Tryz.ntmps17
    go_wp2_with fail
    rw [HW1.out]
    refine HC.out.mono ?_
    rintro en w2 ⟨rfl, hb2⟩
    have HB2 := Lib.hid (HQ.out.trans (hb2.mono HQ.out.size))
    clear hb2
    go_wp2
    go_ret2
    have hne : ¬ fp.2 = 0 := by simpa using HE.out
    exact ⟨_, rfl, by rw [callsP, HFp.out, if_neg hne]; exact own_nil _ _ _ _, HB2.out⟩
  | false =>
    have hz : fp.2 = 0 := by simpa using he
    obtain ⟨hch, i, hi, hil, hfi⟩ := findP_ok (defs := defs) (s := s) (by rw [HFp.out]; exact hz)
    rw [HFp.out] at hfi
    have HE := Lib.hid he
    have HZ := Lib.hid hz
    have HI := Lib.hid hi
    rw [hfi] at HC
    have hiz : (i : Int) < (defs.length : Int) := by omega
    have hi0 : (0 : Int) ≤ (i : Int) := by omega
    clear hz hi hfi hch
    go_enter Tryz.func17, Tryz.ntmps17
    go_wp2_with fail
    rw [HW1.out]
    refine HC.out.mono ?_
    rintro en w2 ⟨rfl, hb2⟩
    have qr : Below w.heap.size w w2 := HQ.out.trans (hb2.mono HQ.out.size)
    have bP2 := blk_below HP.out hb2
    have kP := (blk_cell bP2 0).trans rfl
    obtain ⟨ad, g0, g1, g2, g3, g4, g5, rfl, hK, hcells, y0, y1, y2, y3, y4, y5⟩ := gett6 rfl (Kd.C_below HR.out qr) i hil
    have hFK := elemF HF.out i hil rfl hcells (fun p v hp hv => qr.cell (World.block_lt_of_cell? _ _ hv) |>.trans hv) (by decide)
    have hmem := List.getElem_mem hil
    obtain ⟨dd, hdd⟩ : ∃ dd, defs[i] = dd := ⟨_, rfl⟩
    have hk : defs[i]? = some dd := by rw [List.getElem?_eq_getElem hil, hdd]
    rw [hdd] at hFK hmem
    obtain ⟨Z1, z1, Z2, z2, Z5, z5, he', _⟩ := k59_openF hFK
    obtain ⟨rfl, rfl, rfl, rfl, rfl, rfl⟩ : g0 = _ ∧ g1 = _ ∧ g2 = _ ∧ g3 = _ ∧ g4 = _ ∧ g5 = _ := by simpa using he'
    have hod := hok.d _ hmem
    have HD := Lib.hid (c_called dd _ w2 (Kd.FK_mono (Kd.FK_below hFK qr) (fun k hk => by have := qr.size; omega)) (by have := hod.c; omega) hod.z (hok.z _ hmem))
    have HQr := Lib.hid qr
    have HK := Lib.hid hk
    clear hb2 bP2 hK hFK hcells he' hk hdd qr
    go_wp2_with fail
    refine HD.out.mono ?_
    rintro en w3 ⟨v, rfl, ho, hb3⟩
    have HO := Lib.hid ho
    have HB3 := Lib.hid hb3
    obtain ⟨Av, cv, hv⟩ := own_slice ho
    subst hv
    clear ho hb3 kP
    go_wp2
    go_ret2
    exact ⟨_, by rw [HZ.out]; rfl, by rw [callsP, HFp.out, if_pos HZ.out, callsOf, HI.out, Int.toNat_natCast, HK.out]; exact own_lower HO.out HQr.out.size, HQr.out.trans (HB3.out.mono HQr.out.size)⟩
end Go.Proofs.YtacefdkfbpgedaaGreat.Mine
namespace Go.Proofs.YtacefdkfbpgedaaGreat.Mine
open Go.Proofs.YtacefdkfbpgedaaGreat.PProgSmall
open Go.RowKit Go.Shelf Go.Proofs.YtacefdkfbpgedaaGreatW.PrintWords Go.Proofs.YtacefdkfbpgedaaGreatW.PrintLast Go.Proofs.YtacefdkfbpgedaaGreatW.PrintMore
set_option linter.unusedVariables false
set_option linter.unusedSimpArgs false
def addL (out l : List ByteArray) : List ByteArray := l.foldl onceL out
theorem addL_snoc (out l : List ByteArray) (x : ByteArray) : addL out (l ++ [x]) = onceL (addL out l) x := by simp [addL]
theorem onceL_mem {l : List ByteArray} {s x : ByteArray} : x ∈ onceL l s ↔ x ∈ l ∨ x = s := by
  unfold onceL
  split
  · next h =>
    obtain ⟨y, hy, e⟩ := List.any_eq_true.1 h
    have e := of_decide_eq_true e
    subst e
    exact ⟨Or.inl, fun h => h.elim id (fun e => e ▸ hy)⟩
  · simp
theorem onceL_nodup {l : List ByteArray} {s : ByteArray} (h : l.Nodup) : (onceL l s).Nodup := by
  unfold onceL
  split
  · exact h
  · next hn =>
    rw [List.nodup_append]
    refine ⟨h, by simp, fun a ha b hb e => hn ?_⟩
    obtain rfl : b = s := by simpa using hb
    exact List.any_eq_true.2 ⟨a, ha, by simpa using e⟩
theorem addL_mem {l : List ByteArray} : ∀ {out : List ByteArray} {x : ByteArray}, x ∈ addL out l ↔ x ∈ out ∨ x ∈ l := by
  induction l with
  | nil => intro out x; simp [addL]
  | cons y ys ih =>
    intro out x
    rw [show addL out (y :: ys) = addL (onceL out y) ys from rfl, ih, onceL_mem, List.mem_cons, or_assoc]
theorem addL_nodup {l : List ByteArray} : ∀ {out : List ByteArray}, out.Nodup → (addL out l).Nodup := by
  induction l with
  | nil => intro out h; exact h
  | cons y ys ih => intro out h; exact ih (onceL_nodup h)
theorem nodup_sub_len : ∀ {l m : List ByteArray}, l.Nodup → (∀ x ∈ l, x ∈ m) → l.length ≤ m.length
  | [], m, _, _ => Nat.zero_le _
  | x :: xs, m, h, hs => by
    obtain ⟨hx, hn⟩ := List.nodup_cons.1 h
    have hm := hs x List.mem_cons_self
    have h1 := nodup_sub_len (m := m.filter (fun y => decide (y ≠ x))) hn (fun y hy => List.mem_filter.2 ⟨hs y (List.mem_cons_of_mem _ hy), decide_eq_true (fun e => hx (e ▸ hy))⟩)
    have h2 : (m.filter (fun y => decide (y ≠ x))).length < m.length := List.length_filter_lt_length_iff_exists.2 ⟨x, hm, by simp⟩
    simp only [List.length_cons]
    omega
def Known (defs : List De) (l : List ByteArray) : Prop := ∀ x ∈ l, 0 ≤ numD defs x
theorem known_mem {defs : List De} {x : ByteArray} (h : 0 ≤ numD defs x) : x ∈ defs.map (·.f0) := by
  unfold numD idxB at h
  split at h
  · next ha =>
    obtain ⟨d, hd, e⟩ := List.any_eq_true.1 ha
    exact List.mem_map.2 ⟨d, hd, of_decide_eq_true e⟩
  · omega
theorem known_len {defs : List De} {l : List ByteArray} (h : Known defs l) (hn : l.Nodup) : l.length ≤ defs.length := by
  have := nodup_sub_len hn (fun x hx => known_mem (h x hx))
  simpa using this
theorem firstErr_inv {α : Type} {f : α → Int} : ∀ {l : List α}, firstErr f l = 0 → ∀ x ∈ l, f x = 0
  | [], _, x, hx => absurd hx (by simp)
  | y :: ys, h, x, hx => by
    rw [firstErr] at h
    by_cases hy : f y = 0
    · rw [if_pos hy] at h
      rcases List.mem_cons.1 hx with rfl | hx
      · exact hy
      · exact firstErr_inv h x hx
    · rw [if_neg hy] at h; exact absurd h hy
theorem checkP_calls {defs : List De} (h : checkP defs = 0) : ∀ d ∈ defs, callsD defs d = 0 := by
  unfold checkP at h
  cases t1 : decide ((defs.length : Int) < 1) with
  | true => rw [t1] at h; simp at h
  | false =>
    cases t2 : decide ((12 : Int) < (defs.length : Int)) with
    | true => rw [t1, t2] at h; simp at h
    | false =>
      rw [t1, t2] at h
      simp only [cond_false] at h
      by_cases h1 : firstErr rightE defs = 0
      · rw [if_pos h1] at h
        cases t3 : twB (defs.map (·.f0)) with
        | true => rw [t3] at h; simp at h
        | false => rw [t3] at h; exact firstErr_inv h
      · rw [if_neg h1] at h; exact absurd h h1
theorem callsL_mem {l : List Ex} {x : ByteArray} (h : x ∈ callsL l) : ∃ e ∈ l, e.f0 = 3 ∧ e.f1 = x := by
  have key : ∀ (l : List Ex) (s : List ByteArray), x ∈ l.foldl (fun s e => if e.f0 = 3 then onceL s e.f1 else s) s → x ∈ s ∨ ∃ e ∈ l, e.f0 = 3 ∧ e.f1 = x := by
    intro l
    induction l with
    | nil => intro s h; exact .inl h
    | cons e es ih =>
      intro s h
      rcases ih _ h with h1 | ⟨y, hy, h2⟩
      · dsimp only at h1
        by_cases he : e.f0 = 3
        · rw [if_pos he, onceL_mem] at h1
          rcases h1 with h1 | h1
          · exact .inl h1
          · exact .inr ⟨e, List.mem_cons_self, he, h1.symm⟩
        · rw [if_neg he] at h1; exact .inl h1
      · exact .inr ⟨y, List.mem_cons_of_mem _ hy, h2⟩
  rcases key l [] h with h1 | h1
  · simp at h1
  · exact h1
theorem callsOf_known {defs : List De} (h : checkP defs = 0) (s : ByteArray) : Known defs (callsOf defs s) := by
  intro x hx
  unfold callsOf at hx
  split at hx
  · next d hd =>
    have hd := List.mem_of_getElem? hd
    obtain ⟨e, he, h3, rfl⟩ := callsL_mem hx
    have h0 := firstErr_inv (checkP_calls h d hd) e he
    unfold callErr at h0
    rw [if_pos h3] at h0
    by_cases hn : numD defs e.f1 < 0
    · rw [if_pos hn] at h0; simp at h0
    · omega
  · simp at hx
theorem onceL_ge (l : List ByteArray) (s : ByteArray) : l.length ≤ (onceL l s).length := by unfold onceL; split <;> simp
theorem addL_ge {l : List ByteArray} : ∀ {out : List ByteArray}, out.length ≤ (addL out l).length := by
  induction l with
  | nil => intro out; exact Nat.le_refl _
  | cons y ys ih => intro out; exact Nat.le_trans (onceL_ge _ _) ih
def reachL (defs : List De) : Nat → Nat → List ByteArray → List ByteArray
  | 0, _, out => out
  | f + 1, i, out => match out[i]? with
    | none => out
    | some s => reachL defs f (i + 1) (addL out (callsOf defs s))
def reachP (defs : List De) (s : ByteArray) : List ByteArray := reachL defs (defs.length + 1) 0 [s]
theorem own_far {w w' : World} {a : Nat} {v u : Value} {ss : List ByteArray} (h : OwnS w a v ss) (hg : w.grownBy w' u.ownBlock) (hne : ∀ k, v.ownBlock = some k → u.ownBlock ≠ some k) : OwnS w' a v ss :=
  own_move h (fun k hk => by obtain ⟨cs, hc⟩ := own_typed h k hk; exact hg.block k (blk_lt hc) (fun e => hne k hk e.symm))
theorem OwnS.after {w w' : World} {a : Nat} {v : Value} {ss : List ByteArray} (h : OwnS w a v ss) (hb : Below w.heap.size w w') : OwnS w' a v ss :=
  own_move h (fun k hk => by obtain ⟨cs, hc⟩ := own_typed h k hk; exact (blk_below hc hb).trans hc.symm)
abbrev ReachS (w wr : World) (A : Option Addr) (n c : Nat) (ao : Addr) (kk : Nat) (s : ByteArray) (ad : Addr) (i : Nat) (g0 g1 g2 g3 g4 g5 : Value) (W : World) : Prop :=
  Below wr.heap.size wr W ∧ W.cell? ⟨w.heap.size, 0, none⟩ = some (.slice A n c) ∧ W.cell? (ao.add kk) = some (.string s) ∧
  W.cell? (ad.add (i * 6)) = some g0 ∧ W.cell? ⟨(ad.add (i * 6)).block, (ad.add (i * 6)).off + 1, none⟩ = some g1 ∧ W.cell? ⟨(ad.add (i * 6)).block, (ad.add (i * 6)).off + 2, none⟩ = some g2 ∧ W.cell? ⟨(ad.add (i * 6)).block, (ad.add (i * 6)).off + 3, none⟩ = some g3 ∧ W.cell? ⟨(ad.add (i * 6)).block, (ad.add (i * 6)).off + 4, none⟩ = some g4 ∧ W.cell? ⟨(ad.add (i * 6)).block, (ad.add (i * 6)).off + 5, none⟩ = some g5
theorem ReachS.step {w wr : World} {A : Option Addr} {n c : Nat} {ao : Addr} {kk : Nat} {s : ByteArray} {ad : Addr} {i : Nat} {g0 g1 g2 g3 g4 g5 : Value} {W W' : World} (h : ReachS w wr A n c ao kk s ad i g0 g1 g2 g3 g4 g5 W) (hb : Below W.heap.size W W') : ReachS w wr A n c ao kk s ad i g0 g1 g2 g3 g4 g5 W' := by
  obtain ⟨h0, h1, h2, h3, h4, h5, h6, h7, h8⟩ := h
  exact ⟨h0.trans (hb.mono h0.size), pw_cell_below hb h1, pw_cell_below hb h2, pw_cell_below hb h3, pw_cell_below hb h4, pw_cell_below hb h5, pw_cell_below hb h6, pw_cell_below hb h7, pw_cell_below hb h8⟩
set_option maxRecDepth 100000 in
set_option maxHeartbeats 4000000 in
theorem c_reach (defs : List De) (A : Option Addr) (c : Nat) (s : ByteArray) (w : World) (hr : Kd.C k59 w A defs.length defs) (hc : defs.length ≤ c) (hok : OkP defs) (hch : checkP defs = 0) (hs : 0 ≤ numD defs s) :
    Calls Tryz.prog 68 #[.agg #[.slice A defs.length c], .string s] w fun en w' => ∃ v, en = .returned v ∧ OwnS w' w.heap.size v (reachP defs s) ∧ Below w.heap.size w w' := by
  have hmd := hr.2.1
  have hn := hok.n
  have HF := Lib.hid (Kd.C_F k59_heap hr)
  have HR := Lib.hid hr
  have HK := Lib.hid (fun x => callsOf_known hch x)
  have HS := Lib.hid hs
  have HL := Lib.hid (fun l (h1 : Known defs l) (h2 : l.Nodup) => known_len h1 h2)
  have q1 := below_alloc2 w (.cells #[.slice A defs.length c] 97) (.cells #[.string s] 9)
  have bP := blk_alloc (alloc_at w (.cells #[.slice A defs.length c] 97)) (.cells #[.string s] 9)
  have oS : OwnS ((w.alloc (.cells #[.slice A defs.length c] 97)).alloc (.cells #[.string s] 9)) w.heap.size (.slice (some ⟨w.heap.size + 1, 0, none⟩) 1 1) [s] := by
    have h := World.ownsRow_lit (base := w.heap.size) (e := 9) (size := 1) (w.alloc (.cells #[.slice A defs.length c] 97)) #[.string s] 1 (by simp) (by decide) rfl
    rw [World.size_alloc] at h
    exact h
  have HC := Lib.hid (fun W (hb : Below w.heap.size w W) x => c_number defs A c x W (Kd.C_below hr hb) hc)
  obtain ⟨W1, hW1⟩ : ∃ W1, (w.alloc (.cells #[.slice A defs.length c] 97)).alloc (.cells #[.string s] 9) = W1 := ⟨_, rfl⟩
  rw [hW1] at q1 bP oS
  have HQ := Lib.hid q1
  have HP := Lib.hid bP
  have HO1 := Lib.hid oS
  have HW1 := Lib.hid hW1
  have HR0 := Lib.hid (show reachL defs (defs.length + 1) 0 [s] = reachP defs s from rfl)
  clear hr q1 bP oS hW1
  go_enter Tryz.func68, Tryz.ntmps68
  go_wp2_with fail
  rw [HW1.out]
  have Q1 := Aside0.mk HQ.out
  have P1 := Aside0.mk HP.out
  go_loopg [5, 6, 8] (defs.length + 1) (fun gg s5 s6 _ wr => ∃ (kk : Nat) (out : List ByteArray), kk ≤ out.length ∧ defs.length + 1 - kk ≤ gg ∧ s6 = .int .i64 kk ∧ Aside0 (OwnS wr w.heap.size s5 out) ∧ Aside0 (Below w.heap.size w wr) ∧ Aside0 (wr.heap[w.heap.size]? = some (.cells #[.slice A defs.length c] 97 (0, 0))) ∧ Aside0 (Known defs out ∧ out.Nodup ∧ reachL defs (defs.length + 1 - kk) kk out = reachP defs s))
  case atStart => exact ⟨0, [s], Nat.zero_le _, by omega, rfl, ⟨HO1.out⟩, Q1, P1, ⟨⟨fun x hx => (List.mem_singleton.1 hx) ▸ HS.out, by simp, HR0.out⟩⟩⟩
  case round =>
    obtain ⟨kk, out, hkk, hg, rfl, HO, HB, HBP, HX⟩ := hrel
    have hlen := HL.out _ HX.out.1 HX.out.2.1
    obtain ⟨Ao, co, rfl, hco, hCo⟩ := OwnS.reads HO.out
    by_cases hlt : kk < out.length
    · have hltz : (kk : Int) < (out.length : Int) := by omega
      obtain ⟨ao, c0, rfl, hKs, hcs, x0⟩ := gett1 rfl hCo kk hlt
      have hok1 : out[kk]? = some out[kk] := List.getElem?_eq_getElem hlt
      obtain ⟨x, hx⟩ : ∃ x, out[kk] = x := ⟨_, rfl⟩
      obtain rfl : c0 = .string x := by simpa [Kd.string, Kd.scalar, hx] using hKs
      rw [hx] at hok1
      have hkn : 0 ≤ numD defs x := HX.out.1 x (List.mem_of_getElem? hok1)
      rcases idxB_cases (fun d => decide (d.f0 = x)) defs with h3 | ⟨i, hi, hil⟩
      · exact absurd (show numD defs x = -1 from h3) (by omega)
      have hi : numD defs x = (i : Int) := hi
      have hiz : (i : Int) < (defs.length : Int) := by omega
      have hi0 : (0 : Int) ≤ (i : Int) := by omega
      have qr := HB.out
      have kP := (blk_cell HBP.out 0).trans rfl
      obtain ⟨ad, g0, g1, g2, g3, g4, g5, rfl, hK, hcells, y0, y1, y2, y3, y4, y5⟩ := gett6 rfl (Kd.C_below HR.out qr) i hil
      have hFK := elemF HF.out i hil rfl hcells (fun p v hp hv => qr.cell (World.block_lt_of_cell? _ _ hv) |>.trans hv) (by decide)
      have hmem := List.getElem_mem hil
      obtain ⟨dd, hdd⟩ : ∃ dd, defs[i] = dd := ⟨_, rfl⟩
      have hk : defs[i]? = some dd := by rw [List.getElem?_eq_getElem hil, hdd]
      rw [hdd] at hFK hmem
      obtain ⟨Z1, z1, Z2, z2, Z5, z5, he', _⟩ := k59_openF hFK
      obtain ⟨rfl, rfl, rfl, rfl, rfl, rfl⟩ : g0 = _ ∧ g1 = _ ∧ g2 = _ ∧ g3 = _ ∧ g4 = _ ∧ g5 = _ := by simpa using he'
      have hod := hok.d _ hmem
      have hcall : callsOf defs x = callsL (eachD dd) := by rw [callsOf, hi, Int.toNat_natCast, hk]
      have hS0 : ReachS w wr (some ad) defs.length c ao kk x ad i (.string dd.f0) (.slice Z1 dd.f1.length z1) (.slice Z2 dd.f2.length z2) (.int .i64 dd.f3.f0) (.string dd.f3.f1) (.slice Z5 dd.f3.f2.length z5) wr := ⟨Below.refl _ _, kP, x0, y0, y1, y2, y3, y4, y5⟩
      have HN := Lib.hid (fun W (hS : ReachS w wr (some ad) defs.length c ao kk x ad i (.string dd.f0) (.slice Z1 dd.f1.length z1) (.slice Z2 dd.f2.length z2) (.int .i64 dd.f3.f0) (.string dd.f3.f1) (.slice Z5 dd.f3.f2.length z5) W) => (HC.out W (qr.trans (hS.1.mono qr.size)) x).mono (R' := fun e W' => e = .returned (.int .i64 i) ∧ ReachS w wr (some ad) defs.length c ao kk x ad i (.string dd.f0) (.slice Z1 dd.f1.length z1) (.slice Z2 dd.f2.length z2) (.int .i64 dd.f3.f0) (.string dd.f3.f1) (.slice Z5 dd.f3.f2.length z5) W') (by rintro e W' ⟨h1, h2⟩; exact ⟨by rw [h1, hi], hS.step h2⟩))
      have HD := Lib.hid (fun W (hS : ReachS w wr (some ad) defs.length c ao kk x ad i (.string dd.f0) (.slice Z1 dd.f1.length z1) (.slice Z2 dd.f2.length z2) (.int .i64 dd.f3.f0) (.string dd.f3.f1) (.slice Z5 dd.f3.f2.length z5) W) => (c_called dd _ W (Kd.FK_mono (Kd.FK_below hFK (qr.trans (hS.1.mono qr.size))) (fun k hk => by have := (qr.trans (hS.1.mono qr.size)).size; omega)) (by have := hod.c; omega) hod.z (hok.z _ hmem)).mono (R' := fun e W' => ∃ v, e = .returned v ∧ OwnS W' wr.heap.size v (callsOf defs x) ∧ ReachS w wr (some ad) defs.length c ao kk x ad i (.string dd.f0) (.slice Z1 dd.f1.length z1) (.slice Z2 dd.f2.length z2) (.int .i64 dd.f3.f0) (.string dd.f3.f1) (.slice Z5 dd.f3.f2.length z5) W') (by rintro e W' ⟨v, h1, h2, h3⟩; exact ⟨v, h1, by rw [hcall]; exact own_lower h2 hS.1.size, hS.step h3⟩))
      have hclen : (callsOf defs x).length < 1000000 := by
        have h1 := callsL_len (eachD dd)
        have h2 := hok.z _ hmem
        rw [hcall]
        rw [eachD, length_plL] at h1
        exact Nat.lt_of_le_of_lt h1 h2
      have HOk := Lib.hid hok1
      clear hCo hKs hcs hx hK hcells hFK he' hk hdd hkn hi hcall hok1 qr kP x0 y0 y1 y2 y3 y4 y5 hod
      go_wp2_with fail
      go_region_held3 (fun W => ReachS w wr (some ad) defs.length c ao kk x ad i (.string dd.f0) (.slice Z1 dd.f1.length z1) (.slice Z2 dd.f2.length z2) (.int .i64 dd.f3.f0) (.string dd.f3.f1) (.slice Z5 dd.f3.f2.length z5) W) (first | assumption | exact hS0.step (below_drew (Below.refl _ _))) (first | (go_at_call 66; refine (HN.out _ (by assumption)).mono ?_; rintro e w' ⟨rfl, hS⟩) | (go_at_call 67; refine (HD.out _ (by assumption)).mono ?_; rintro e w' ⟨v, rfl, hov, hS⟩; obtain ⟨Av, cv, hv⟩ := own_slice hov; subst hv; have HOv := Lib.hid hov; clear hov))
      have HO5 := Aside0.mk (OwnS.after HO.out hS.1)
      have HB5 := Aside0.mk (HB.out.trans (hS.1.mono HB.out.size))
      have HBP5 := Aside0.mk (blk_below HBP.out hS.1)
      have HLt : wr.heap.size ≤ _ := hS.1.size
      have hOlt := fun k (hk : (Value.slice (some ao) out.length co).ownBlock = some k) => (HO.out.lt k hk).2
      have hNe : ∀ k, (Value.slice Av (callsOf defs x).length cv).ownBlock = some k → (Value.slice (some ao) out.length co).ownBlock ≠ some k := fun k hk e => by
        have h1 := hOlt k e
        have h2 := (HOv.out.lt k hk).1
        omega
      have HNe := Aside0.mk hNe
      have HOv5 := Aside0.mk HOv.out
      obtain ⟨cl, hcl⟩ : ∃ cl, callsOf defs x = cl := ⟨_, rfl⟩
      have HCl := Lib.hid hcl
      have HKc := Lib.hid (HK.out x)
      have HXo := Lib.hid HX.out
      rw [hcl] at HOv5 HNe HKc hclen ⊢
      clear hS HN HD HO HB HBP hOlt hNe HOv hcl hS0 HX
      obtain ⟨wo, hwo⟩ : ∃ wo : Nat, wo = wr.heap.size := ⟨_, rfl⟩
      rw [← hwo] at HOv5 HLt
      clear hwo
      go_wp2_with fail
      go_loopg [5, 8, 30] cl.length (fun gg s5 _ s30 wx => ∃ (j : Nat), j ≤ cl.length ∧ cl.length - j ≤ gg ∧ s30 = .int .i64 j ∧ Aside0 (OwnS wx w.heap.size s5 (addL out (cl.take j))) ∧ Aside0 (OwnS wx wo (.slice Av cl.length cv) cl) ∧ Aside0 (∀ k, (Value.slice Av cl.length cv).ownBlock = some k → s5.ownBlock ≠ some k) ∧ Aside0 (Below w.heap.size w wx) ∧ Aside0 (wx.heap[w.heap.size]? = some (.cells #[.slice (some ad) defs.length c] 97 (0, 0))))
      case atStart => exact ⟨0, Nat.zero_le _, by omega, rfl, HO5, HOv5, HNe, HB5, HBP5⟩
      case round =>
        obtain ⟨j, hj, hgg, rfl, JO, JV, JN, JB, JP⟩ := hrel
        have hkn : Known defs (addL out (cl.take j)) := fun y hy => (addL_mem.1 hy).elim (HXo.out.1 y) (fun h => HKc.out y (List.mem_of_mem_take h))
        have hnd : (addL out (cl.take j)).Nodup := addL_nodup HXo.out.2.1
        have hol := HL.out _ hkn hnd
        by_cases hlt2 : j < cl.length
        · have hltz2 : (j : Int) < (cl.length : Int) := by omega
          obtain ⟨Av', cv', hveq, hcv, hCv⟩ := OwnS.reads JV.out
          cases hveq
          obtain ⟨av, c0, rfl, hKs, hcs, x0⟩ := gett1 rfl hCv j hlt2
          obtain ⟨y, hy⟩ : ∃ y, cl[j] = y := ⟨_, rfl⟩
          obtain rfl : c0 = .string y := by simpa [Kd.string, Kd.scalar, hy] using hKs
          obtain ⟨o2, ho2⟩ : ∃ o2, addL out (cl.take j) = o2 := ⟨_, rfl⟩
          rw [ho2] at JO hol
          obtain ⟨Ao2, co2, rfl⟩ := own_slice JO.out
          have hJO := JO.out
          have hbs := JB.out.size
          have HC1 := Lib.hid (c_once w.heap.size _ o2 y wr JO.out JB.out.size (by omega))
          have HO2 := Lib.hid ho2
          have HY := Lib.hid hy
          have HJO := Lib.hid hJO
          clear hCv hKs hcs hy ho2 hJO hkn hnd
          go_wp2_with fail
          refine HC1.out.mono ?_
          rintro en w6 ⟨v1, rfl, hown, hg6, hat⟩
          have HOwn := Aside0.mk hown
          have hJV := own_far JV.out hg6 JN.out
          have HJV := Aside0.mk hJV
          have HJN := Aside0.mk (show ∀ k, (Value.slice (some av) cl.length cv).ownBlock = some k → v1.ownBlock ≠ some k from fun k hk e => by
            rcases hat with h | ⟨b, h, hb⟩
            · rw [h] at e; exact JN.out k hk e
            · rw [h] at e; cases e
              have := (JV.out.lt k hk).2
              omega)
          have HJB := Aside0.mk (JB.out.grown hg6 JB.out.size (fun k hk => own_base HJO.out k hk))
          have HJP := Aside0.mk (show w6.heap[w.heap.size]? = _ from (hg6.block w.heap.size (blk_lt JP.out) (fun e => by obtain ⟨cs, hcs⟩ := own_typed HJO.out _ e.symm; rw [JP.out] at hcs; cases hcs)).trans JP.out)
          clear hown hJV hg6 hat
          go_wp2_with fail
          go_roundg (cl.length - (j + 1))
          case measure => omega
          case rel => exact ⟨j + 1, by omega, by omega, by go_num, ⟨by rw [take_snoc hlt2, addL_snoc, HO2.out, HY.out]; exact HOwn.out⟩, HJV, HJN, HJB, HJP⟩
        · have : j = cl.length := by omega
          subst this
          rw [List.take_length] at JO hkn hnd
          have hge : out.length ≤ (addL out cl).length := addL_ge
          go_wp2_with fail
          go_roundg (defs.length + 1 - (kk + 1))
          case measure => omega
          case rel => exact ⟨kk + 1, addL out cl, by omega, by omega, by go_num, JO, JB, JP, ⟨⟨hkn, hnd, by
            have h := HXo.out.2.2
            rw [show defs.length + 1 - kk = (defs.length - kk) + 1 by omega, reachL, HOk.out] at h
            simp only [HCl.out] at h
            rw [show defs.length + 1 - (kk + 1) = defs.length - kk by omega]
            exact h⟩⟩⟩
    · have : kk = out.length := by omega
      subst this
      go_wp2_with fail
      go_ret
      exact ⟨_, rfl, by
        have h := HX.out.2.2
        rw [show defs.length + 1 - out.length = (defs.length - out.length) + 1 by omega, reachL, List.getElem?_eq_none (Nat.le_refl _)] at h
        rw [← h]; exact HO.out, HB.out⟩
def reachE (defs : List De) (s : ByteArray) : List ByteArray := if (findP defs s).2 = 0 then reachP defs s else []
set_option maxRecDepth 100000 in
set_option maxHeartbeats 4000000 in
theorem c_Reach (defs : List De) (A : Option Addr) (c : Nat) (s : ByteArray) (w : World) (hr : Kd.C k59 w A defs.length defs) (hc : defs.length ≤ c) (hok : OkP defs) :
    Calls Tryz.prog 18 #[.agg #[.slice A defs.length c], .string s] w fun en w' => ∃ v, en = .returned (.tuple #[v, .int .i64 (findP defs s).2]) ∧ OwnS w' w.heap.size v (reachE defs s) ∧ Below w.heap.size w w' := by
  obtain ⟨W1, hW1⟩ : ∃ W1, w.alloc (.cells #[.slice A defs.length c] 24) = W1 := ⟨_, rfl⟩
  have q1 : Below w.heap.size w W1 := by rw [← hW1]; exact below_alloc1 _ _
  have bP : W1.heap[w.heap.size]? = some (.cells #[.slice A defs.length c] 24 (0, 0)) := by rw [← hW1]; exact alloc_at _ _
  have HC := Lib.hid (c_Find defs A c s W1 (Kd.C_below hr q1) hc hok)
  have HQ := Lib.hid q1
  have HP := Lib.hid bP
  have HW1 := Lib.hid hW1
  obtain ⟨fp, hfp⟩ : ∃ fp, findP defs s = fp := ⟨_, rfl⟩
  rw [hfp] at HC ⊢
  have HFp := Lib.hid hfp
  cases he : (fp.2 != 0) with
  | true =>
    have HE := Lib.hid he
    clear hr q1 bP hW1 hfp
    go_enter Tryz.func18, Tryz.ntmps18
    go_wp2_with fail
    rw [HW1.out]
    refine HC.out.mono ?_
    rintro en w2 ⟨rfl, hb2⟩
    have HB2 := Lib.hid (HQ.out.trans (hb2.mono HQ.out.size))
    clear hb2
    go_wp2
    go_ret2
    have hne : ¬ fp.2 = 0 := by simpa using HE.out
    exact ⟨_, rfl, by rw [reachE, HFp.out, if_neg hne]; exact own_nil _ _ _ _, HB2.out⟩
  | false =>
    have hz : fp.2 = 0 := by simpa using he
    obtain ⟨hch, i, hi, hil, hfi⟩ := findP_ok (defs := defs) (s := s) (by rw [hfp]; exact hz)
    have HRe := Lib.hid (fun W (hb : Below w.heap.size w W) => c_reach defs A c s W (Kd.C_below hr hb) hc hok hch (by omega))
    have HZ := Lib.hid hz
    clear hz hi hfi hch hr q1 bP hW1 hfp
    go_enter Tryz.func18, Tryz.ntmps18
    go_wp2_with fail
    rw [HW1.out]
    refine HC.out.mono ?_
    rintro en w2 ⟨rfl, hb2⟩
    have bP2 := blk_below HP.out hb2
    have kP := (blk_cell bP2 0).trans rfl
    have HQr := Lib.hid (HQ.out.trans (hb2.mono HQ.out.size))
    clear hb2 bP2
    go_wp2_with fail
    refine (HRe.out _ HQr.out).mono ?_
    rintro en w3 ⟨v, rfl, ho, hb3⟩
    have HO := Lib.hid ho
    have HB3 := Lib.hid hb3
    obtain ⟨Av, cv, hv⟩ := own_slice ho
    subst hv
    clear ho hb3 kP
    go_wp2
    go_ret2
    exact ⟨_, by rw [HZ.out]; rfl, by rw [reachE, HFp.out, if_pos HZ.out]; exact own_lower HO.out HQr.out.size, HQr.out.trans (HB3.out.mono HQr.out.size)⟩
end Go.Proofs.YtacefdkfbpgedaaGreat.Mine
namespace Go.Proofs.YtacefdkfbpgedaaGreat.Mine
open Go.Proofs.YtacefdkfbpgedaaGreat.PProgSmall
open Go.RowKit Go.Shelf Go.Proofs.YtacefdkfbpgedaaGreatW.PrintWords Go.Proofs.YtacefdkfbpgedaaGreatW.PrintLast Go.Proofs.YtacefdkfbpgedaaGreatW.PrintMore
set_option linter.unusedVariables false
set_option linter.unusedSimpArgs false
theorem K_FK {α : Type} {d : Kd α} (hd : Kd.Heap d) {w : World} {x : α} {cs : List Value} (h : d.K w x cs) : Kd.FK d w (fun k => k < w.heap.size) x cs := fun W hW => hd.K (fun k hlt => hW k hlt hlt) h
theorem run_idx4 (a b c d : Int) (W : World) : (Instr.index 117 (.agg #[.int .i64 a, .int .i64 b, .int .i64 c, .int .i64 d]) (.int .i64 3)).run Tryz.prog W = .ok (.int .i64 d) W := by
  obtain ⟨i, hi, _⟩ := Option.map_eq_some_iff.1 infoInt
  have hc : Tryz.prog.cellsOf 3 = 1 := by kernel_rfl
  simp [Instr.index, run_underlying Tryz.underlying117, asIntOf, part, isAgg, run_underlying Tryz.underlying3, go_sem, hc, hi]
def callIn (e : Ex) : Bool := decide (0 < (cntK (plE e) 3 : Int))
def outerB (e : Ex) : Bool := (e.f0 != 3) || !(e.f2.any callIn)
def simpleD (d : De) : Bool := (eachD d).all outerB
def simpleP (defs : List De) : Bool := if checkP defs = 0 then defs.all simpleD else false
set_option maxHeartbeats 1000000 in
set_option maxRecDepth 100000 in
theorem c_Simple11 (e : Ex) (A : Option Addr) (c : Nat) (w : World) (hr : Kd.C k57 w A e.f2.length e.f2) (hc : e.f2.length ≤ c) (hs : szE e < 1000000) :
    Calls Tryz.prog 84 #[encH (e, A, c)] w fun en w' => en = .returned (.bool (callIn e)) ∧ Below w.heap.size w w' := by
  have q := below_alloc1 w (.cells #[.int .i64 e.f0, .string e.f1, .slice A e.f2.length c] 57)
  have HC := Lib.hid (c_kinds e A c _ (Kd.C_below hr q) hc hs)
  have HQ := Lib.hid q
  clear hr q
  simp only [encH]
  go_enter Tryz.func84, Tryz.ntmps84
  go_wp2_with fail
  refine HC.out.mono ?_
  rintro en w' ⟨rfl, hb⟩
  simp only [kindsV]
  go_wp2
  rw [run_idx4]
  go_wp2
  go_ret
  exact ⟨retb (by simp [callIn]), HQ.out.trans (hb.mono HQ.out.size)⟩
set_option maxHeartbeats 1000000 in
theorem c_Simple1 (e : Ex) (A : Option Addr) (c : Nat) (w : World) (hr : Kd.C k57 w A e.f2.length e.f2) (hc : e.f2.length ≤ c) (hs : szE e < 1000000) :
    Calls Tryz.prog 83 #[encH (e, A, c)] w fun en w' => en = .returned (.bool (outerB e)) ∧ Below w.heap.size w w' := by
  have q := below_alloc1 w (.cells #[.int .i64 e.f0, .string e.f1, .slice A e.f2.length c] 57)
  have HC := Lib.hid (hasE_p A c e.f2 _ hc (Kd.C_below hr q) 84 #[] (enters_of Tryz.func84 (by kernel_rfl) rfl) callIn (fun x cs W hx hK _ => by
    obtain ⟨A2, a2, rfl, hl2, hc2⟩ := k57_open hK
    exact c_Simple11 x A2 a2 W hc2 hl2 (by have := szE_mem hx; omega)))
  have HQ := Lib.hid q
  clear hr q
  simp only [encH]
  cases h1 : (e.f0 != 3) with
  | true =>
    have HF := Lib.hid (show outerB e = true by rw [outerB, h1, Bool.true_or])
    go_enter Tryz.func83, Tryz.ntmps83
    go_wp2
    go_ret
    exact ⟨retb HF.out.symm, below_alloc1 _ _⟩
  | false =>
    have HF := Lib.hid (show outerB e = !(e.f2.any callIn) by rw [outerB, h1, Bool.false_or])
    go_enter Tryz.func83, Tryz.ntmps83
    go_wp2_with fail
    refine HC.out.mono ?_
    rintro en w' ⟨rfl, hb⟩
    go_wp2
    go_ret
    exact ⟨retb HF.out.symm, HQ.out.trans (hb.mono HQ.out.size)⟩
set_option maxHeartbeats 1000000 in
theorem c_Simple2 (d : De) (cs : List Value) (B : Nat) (w : World) (hK : k59.K w d cs) (hbox : w.heap[B]? = some (.cells #[.func (.func 83) #[] #[]] 67 (0, 0))) (hl : d.f2.length ≤ 1000000) (hz : ∀ b ∈ bodiesD d, szE b < 1000000) :
    Calls Tryz.prog 87 #[.agg cs.toArray, .pointer (some ⟨B, 0, none⟩)] w fun en w' => en = .returned (.bool (simpleD d)) ∧ Below w.heap.size w w' := by
  have h6 := k59.K_len hK
  have hd := K_FK k59_heap hK
  obtain ⟨A1, c1, A2, c2, A5, c5, hcs, _⟩ := k59_open hK
  obtain ⟨W1, hW1⟩ : ∃ W1, w.alloc (.cells cs.toArray 59) = W1 := ⟨_, rfl⟩
  have q1 : Below w.heap.size w W1 := by rw [← hW1]; exact below_alloc1 _ _
  have HC := Lib.hid (c_all d cs W1 (Kd.FK_mono (Kd.FK_below hd q1) (fun k hk => by have := q1.size; omega)) hl hz 83 #[] (enters_of Tryz.func83 (by kernel_rfl) rfl) outerB (fun x A c W _ h1 h2 h3 => c_Simple1 x A c W h2 h1 h3))
  have HQ := Lib.hid q1
  subst hcs
  have hlt := lt_of_block hbox
  have k0 := (blk_cell (blk_below hbox q1) 0).trans rfl
  rw [← hW1] at k0
  have HW1 := Lib.hid hW1
  clear hbox hK hd q1 hW1 h6
  go_enter Tryz.func87, Tryz.ntmps87
  go_wp2_with fail
  rw [HW1.out]
  refine HC.out.mono ?_
  rintro en w' ⟨rfl, hb⟩
  go_wp2
  go_ret
  exact ⟨rfl, HQ.out.trans (hb.mono HQ.out.size)⟩
set_option maxRecDepth 100000 in
set_option maxHeartbeats 4000000 in
theorem c_Simple (defs : List De) (A : Option Addr) (c : Nat) (w : World) (hr : Kd.C k59 w A defs.length defs) (hc : defs.length ≤ c) (hok : OkP defs) :
    Calls Tryz.prog 26 #[.agg #[.slice A defs.length c]] w fun en w' => en = .returned (.tuple #[.bool (simpleP defs), .int .i64 (checkP defs)]) ∧ Below w.heap.size w w' := by
  obtain ⟨W1, hW1⟩ : ∃ W1, w.alloc (.cells #[.slice A defs.length c] 24) = W1 := ⟨_, rfl⟩
  have q1 : Below w.heap.size w W1 := by rw [← hW1]; exact below_alloc1 _ _
  have bP : W1.heap[w.heap.size]? = some (.cells #[.slice A defs.length c] 24 (0, 0)) := by rw [← hW1]; exact alloc_at _ _
  have HC := Lib.hid (c_Check defs A c W1 (Kd.C_below hr q1) hc hok)
  have HQ := Lib.hid q1
  have HP := Lib.hid bP
  have HW1 := Lib.hid hW1
  obtain ⟨ch, hch⟩ : ∃ ch, checkP defs = ch := ⟨_, rfl⟩
  have HX := Lib.hid (show simpleP defs = if ch = 0 then defs.all simpleD else false by rw [simpleP, hch])
  have HEv := Lib.hid (fun W (hb : Below w.heap.size w W) (B : Nat) (hB : W.heap[B]? = some (.cells #[.func (.func 83) #[] #[]] 67 (0, 0))) => evD_p A c defs W hc (Kd.C_below hr hb) 87 #[.pointer (some ⟨B, 0, none⟩)] (enters_of Tryz.func87 (by kernel_rfl) rfl) simpleD (fun x cs W' hx hK hb' => c_Simple2 x cs B W' hK (blk_below hB hb') (by have := (hok.d x hx).c; omega) (hok.d x hx).z))
  rw [hch] at HC ⊢
  clear hr q1 bP hW1 hch
  cases he : (ch != 0) with
  | true =>
    have HE := Lib.hid he
    go_enter Tryz.func26, Tryz.ntmps26
    go_wp2_with fail
    rw [HW1.out]
    refine HC.out.mono ?_
    rintro en w2 ⟨rfl, hb2⟩
    have HB2 := Lib.hid (HQ.out.trans (hb2.mono HQ.out.size))
    clear hb2
    go_wp2
    go_ret2
    have hne : ¬ ch = 0 := by simpa using HE.out
    exact ⟨by rw [HX.out, if_neg hne]; rfl, HB2.out⟩
  | false =>
    have hz : ch = 0 := by simpa using he
    have HZ := Lib.hid hz
    clear hz
    go_enter Tryz.func26, Tryz.ntmps26
    go_wp2_with fail
    rw [HW1.out]
    refine HC.out.mono ?_
    rintro en w2 ⟨rfl, hb2⟩
    have bP2 := blk_below HP.out hb2
    have kP := fun o => (blk_cell (blk_alloc bP2 o) 0).trans rfl
    obtain ⟨W3, hW3⟩ : ∃ W3, w2.alloc (.cells #[.func (.func 83) #[] #[]] 67) = W3 := ⟨_, rfl⟩
    have hb3 : Below w2.heap.size w2 W3 := by rw [← hW3]; exact below_alloc1 _ _
    have bF : W3.heap[w2.heap.size]? = some (.cells #[.func (.func 83) #[] #[]] 67 (0, 0)) := by rw [← hW3]; exact alloc_at _ _
    have hq2 := HQ.out.trans (hb2.mono HQ.out.size)
    have HQ3 := Lib.hid (hq2.trans (hb3.mono hq2.size))
    have HC2 := Lib.hid (HEv.out W3 HQ3.out _ bF)
    have hlt2 := lt_of_block bP2
    have HW3 := Lib.hid hW3
    clear hb2 bP2 hW3 hb3 bF hq2 HEv
    go_wp2_with fail
    rw [HW3.out]
    refine HC2.out.mono ?_
    rintro en w4 ⟨rfl, hb4⟩
    have HB4 := Lib.hid hb4
    clear hb4 kP
    go_wp2
    go_ret2
    exact ⟨by rw [HX.out, if_pos HZ.out, HZ.out]; rfl, HQ3.out.trans (HB4.out.mono HQ3.out.size)⟩
end Go.Proofs.YtacefdkfbpgedaaGreat.Mine
namespace Go.Proofs.YtacefdkfbpgedaaGreat.Mine
open Go.Proofs.YtacefdkfbpgedaaGreat.PProgSmall
open Go.RowKit Go.Shelf Go.Proofs.YtacefdkfbpgedaaGreatW.PrintWords Go.Proofs.YtacefdkfbpgedaaGreatW.PrintLast Go.Proofs.YtacefdkfbpgedaaGreatW.PrintMore
set_option linter.unusedVariables false
set_option linter.unusedSimpArgs false
theorem flat_get {z : Nat} : ∀ {rows : List (List Value)} {j i : Nat} {cs : List Value} {u : Value}, (∀ r ∈ rows, r.length = z) → rows[j]? = some cs → cs[i]? = some u → rows.flatten[j * z + i]? = some u
  | [], _, _, _, _, _, h, _ => by simp at h
  | r :: rows, 0, i, cs, u, hz, h, hu => by
    simp at h
    subst h
    have hi := (List.getElem?_eq_some_iff.1 hu).1
    rw [List.flatten_cons, Nat.zero_mul, Nat.zero_add, List.getElem?_append_left hi]
    exact hu
  | r :: rows, j + 1, i, cs, u, hz, h, hu => by
    have h1 := flat_get (rows := rows) (j := j) (i := i) (fun r hr => hz r (List.mem_cons_of_mem _ hr)) (by simpa using h) hu
    have hl := hz r List.mem_cons_self
    rw [List.flatten_cons, List.getElem?_append_right (by rw [hl, Nat.succ_mul]; omega), hl, show (j + 1) * z + i - z = j * z + i by rw [Nat.succ_mul]; omega]
    exact h1
theorem F_lit {α : Type} {d : Kd α} {W : World} {ok : Nat → Prop} (hok : ok W.heap.size) (t : Nat) (rows : List (α × List Value)) (hz : ∀ r ∈ rows, r.2.length = d.sz) (hn : rows.length ≤ 1000) (hK : ∀ r ∈ rows, Kd.FK d W ok r.1 r.2) :
    Kd.F d (W.alloc (.cells ((rows.map (·.2)).flatten).toArray t)) ok (some ⟨W.heap.size, 0, none⟩) (rows.map (·.1)).length (rows.map (·.1)) := by
  intro W' hW'
  refine ⟨rfl, by rw [List.length_map]; omega, fun _ => ⟨_, rfl, fun j p hj => ?_⟩⟩
  rw [List.getElem?_map] at hj
  cases hr : rows[j]? with
  | none => rw [hr] at hj; cases hj
  | some r =>
    rw [hr] at hj
    cases hj
    have hm := List.mem_of_getElem? hr
    refine ⟨r.2, hz r hm, hK r hm W' (fun k hk hlt => (hW' k hk (by rw [World.size_alloc]; omega)).trans ((below_alloc1 W _).block k hlt)), fun i u hu => ?_⟩
    have h1 := flat_get (rows := rows.map (·.2)) (z := d.sz) (j := j) (i := i) (cs := r.2) (u := u) (fun c hc => by obtain ⟨r, hr, rfl⟩ := List.mem_map.1 hc; exact hz r hr) (by rw [List.getElem?_map, hr]; rfl) hu
    have h2 := blk_cell ((hW' W.heap.size hok (by rw [World.size_alloc]; omega)).trans (alloc_at W (.cells ((rows.map (·.2)).flatten).toArray t))) (j * d.sz + i)
    rw [List.getElem?_toArray, h1] at h2
    rw [show (⟨W.heap.size, 0, none⟩ : Addr).add (j * d.sz + i) = ⟨W.heap.size, j * d.sz + i, none⟩ by simp [Addr.add]; intro h1 h2; rw [h1, h2]]
    exact h2
theorem F_lit1 {α : Type} {d : Kd α} {W : World} {ok : Nat → Prop} (hok : ok W.heap.size) (t : Nat) {x1 : α} {c1 : List Value} (k1 : Kd.FK d W ok x1 c1) (z1 : c1.length = d.sz) :
    Kd.F d (W.alloc (.cells c1.toArray t)) ok (some ⟨W.heap.size, 0, none⟩) 1 [x1] := by
  have h := F_lit (W := W) hok t [(x1, c1)] (by simpa using z1) (by simp) (by simpa using k1)
  simpa using h
theorem F_lit2 {α : Type} {d : Kd α} {W : World} {ok : Nat → Prop} (hok : ok W.heap.size) (t : Nat) {x1 x2 : α} {c1 c2 : List Value} (k1 : Kd.FK d W ok x1 c1) (z1 : c1.length = d.sz) (k2 : Kd.FK d W ok x2 c2) (z2 : c2.length = d.sz) :
    Kd.F d (W.alloc (.cells (c1 ++ c2).toArray t)) ok (some ⟨W.heap.size, 0, none⟩) 2 [x1, x2] := by
  have h := F_lit (W := W) hok t [(x1, c1), (x2, c2)] (by simpa using ⟨z1, z2⟩) (by simp) (by simpa using ⟨k1, k2⟩)
  simpa only [List.map_cons, List.map_nil, List.flatten_cons, List.flatten_nil, List.append_nil, List.length_cons, List.length_nil] using h
theorem F_lit3 {α : Type} {d : Kd α} {W : World} {ok : Nat → Prop} (hok : ok W.heap.size) (t : Nat) {x1 x2 x3 : α} {c1 c2 c3 : List Value} (k1 : Kd.FK d W ok x1 c1) (z1 : c1.length = d.sz) (k2 : Kd.FK d W ok x2 c2) (z2 : c2.length = d.sz) (k3 : Kd.FK d W ok x3 c3) (z3 : c3.length = d.sz) :
    Kd.F d (W.alloc (.cells (c1 ++ (c2 ++ c3)).toArray t)) ok (some ⟨W.heap.size, 0, none⟩) 3 [x1, x2, x3] := by
  have h := F_lit (W := W) hok t [(x1, c1), (x2, c2), (x3, c3)] (by simpa using ⟨z1, z2, z3⟩) (by simp) (by simpa using ⟨k1, k2, k3⟩)
  simpa only [List.map_cons, List.map_nil, List.flatten_cons, List.flatten_nil, List.append_nil, List.length_cons, List.length_nil] using h
set_option maxHeartbeats 1000000 in
theorem c_V (s : ByteArray) (w : World) : Calls Tryz.prog 56 #[.string s] w fun e w' => e = .returned (encH (⟨1, s, []⟩, none, 0)) ∧ Below w.heap.size w w' := by
  go_enter Tryz.func56, Tryz.ntmps56
  go_wp2
  refine bodyPost_ret (results_cell_row rfl _ _ w.heap.size 57 #[.int .i64 1, .string s, .slice none 0 0] (0, 0) _ rfl (alloc_at w _) Tryz.underlying57 rfl (by kernel_rfl)) rfl ?_
  exact ⟨rfl, below_alloc1 _ _⟩
set_option maxHeartbeats 1000000 in
theorem c_M (s : ByteArray) (A : Option Addr) (n c : Nat) (w : World) : Calls Tryz.prog 57 #[.string s, .slice A n c] w fun e w' => e = .returned (.agg #[.int .i64 2, .string s, .slice A n c]) ∧ Below w.heap.size w w' := by
  go_enter Tryz.func57, Tryz.ntmps57
  go_wp2
  refine bodyPost_ret (results_cell_row rfl _ _ w.heap.size 57 #[.int .i64 2, .string s, .slice A n c] (0, 0) _ rfl (alloc_at w _) Tryz.underlying57 rfl (by kernel_rfl)) rfl ?_
  exact ⟨rfl, below_alloc1 _ _⟩
set_option maxHeartbeats 1000000 in
theorem c_C (s : ByteArray) (A : Option Addr) (n c : Nat) (w : World) : Calls Tryz.prog 55 #[.string s, .slice A n c] w fun e w' => e = .returned (.agg #[.int .i64 3, .string s, .slice A n c]) ∧ Below w.heap.size w w' := by
  go_enter Tryz.func55, Tryz.ntmps55
  go_wp2
  refine bodyPost_ret (results_cell_row rfl _ _ w.heap.size 57 #[.int .i64 3, .string s, .slice A n c] (0, 0) _ rfl (alloc_at w _) Tryz.underlying57 rfl (by kernel_rfl)) rfl ?_
  exact ⟨rfl, below_alloc1 _ _⟩
end Go.Proofs.YtacefdkfbpgedaaGreat.Mine
namespace Go.Proofs.YtacefdkfbpgedaaGreat.Mine
open Go.Proofs.YtacefdkfbpgedaaGreat.PProgSmall
open Go.RowKit Go.Shelf Go.Proofs.YtacefdkfbpgedaaGreatW.PrintWords Go.Proofs.YtacefdkfbpgedaaGreatW.PrintLast Go.Proofs.YtacefdkfbpgedaaGreatW.PrintMore
set_option linter.unusedVariables false
set_option linter.unusedSimpArgs false
set_option maxRecDepth 100000 in
set_option maxHeartbeats 2000000 in
theorem c_lbodies (d : De) (cs : List Value) (ok : Nat → Prop) (w : World) (hd : Kd.FK k59 w ok d cs) (hl : d.f2.length ≤ 1000000) :
    Calls Tryz.prog 33 #[.agg cs.toArray] w fun en w' => ∃ v, en = .returned v ∧ RowN w w' w.heap.size ok v (bodiesD d) ∧ Below w.heap.size w w' := by
  obtain ⟨A1, c1, A2, c2, A5, c5, rfl, l1, F1, l2, F2, l5, F5⟩ := k59_openF hd
  have HF2 := Aside0.mk F2
  have HF5 := Aside0.mk F5
  obtain ⟨W1, hW1⟩ : ∃ W1, w.alloc (.cells #[.string d.f0, .slice A1 d.f1.length c1, .slice A2 d.f2.length c2, .int .i64 d.f3.f0, .string d.f3.f1, .slice A5 d.f3.f2.length c5] 59) = W1 := ⟨_, rfl⟩
  have b0 : W1.heap[w.heap.size]? = some (.cells #[.string d.f0, .slice A1 d.f1.length c1, .slice A2 d.f2.length c2, .int .i64 d.f3.f0, .string d.f3.f1, .slice A5 d.f3.f2.length c5] 59 (0, 0)) := by rw [← hW1]; exact alloc_at _ _
  have q0 : Below w.heap.size w W1 := by rw [← hW1]; exact below_alloc1 _ _
  have k2 := (blk_cell b0 2).trans rfl
  have k3 := (blk_cell b0 3).trans rfl
  have k4 := (blk_cell b0 4).trans rfl
  have k5 := (blk_cell b0 5).trans rfl
  have B0 := Aside0.mk b0
  have Q0 := Aside0.mk q0
  have Z0 := Lib.hid (show W1.heap.size = w.heap.size + 1 by rw [← hW1]; simp)
  clear hd F1 F2 F5 b0 q0
  have HW1 := Lib.hid hW1
  clear hW1
  by_cases h0 : d.f2.length = 0
  · have h01 : ((d.f2.length : Int) == 0) = true := by rw [beq_iff_eq]; omega
    have HB := Lib.hid (show bodiesD d = [d.f3] by rw [bodiesD, if_pos h0])
    clear h0
    go_enter Tryz.func33, Tryz.ntmps33
    go_wp2
    rw [HW1.out]
    go_wp2
    go_ret
    have hz := Z0.out
    rw [HB.out]
    exact ⟨_, rfl, by rw [← hz]; exact (RowN.box (k57_mkF _ _ d.f3 l5 HF5.out)).lower (by omega), Q0.out.trans ((below_alloc1 _ _).mono Q0.out.size)⟩
  · have h01 : ((d.f2.length : Int) == 0) = false := by rw [beq_eq_false_iff_ne]; omega
    have HB := Lib.hid (show bodiesD d = d.f2.map (·.f2) by rw [bodiesD, if_neg h0])
    clear h0
    go_enter Tryz.func33, Tryz.ntmps33
    go_wp2
    rw [HW1.out]
    go_loopg [3, 16] d.f2.length (fun gg s3 s16 wr => ∃ kk : Nat, kk ≤ d.f2.length ∧ d.f2.length - kk ≤ gg ∧ s16 = .int .i64 kk ∧ Aside0 (RowN w wr w.heap.size ok s3 ((d.f2.take kk).map (·.f2))) ∧ Aside0 (Below w.heap.size w wr))
    case atStart => exact ⟨0, Nat.zero_le _, by omega, rfl, ⟨RowN.nil _ _ _ _⟩, Q0⟩
    case round =>
      obtain ⟨kk, hkk, hg, rfl, HO, HBe⟩ := hrel
      by_cases hlt : kk < d.f2.length
      · have hltz : (kk : Int) < (d.f2.length : Int) := by omega
        obtain ⟨ad, c0, c1', c2', c3, c4, rfl, hK, hcells, k0, k1, k2, k3, k4⟩ := gett5 rfl (Kd.C_below (Kd.F_now HF2.out) HBe.out) kk hlt
        have hFK := elemF HF2.out kk hlt rfl hcells (fun p v _ hv => HBe.out.cell (World.block_lt_of_cell? _ _ hv) |>.trans hv) (by decide)
        obtain ⟨X1, x1, X4, x4, he, m1, G1, m4, G4⟩ := k62_openF hFK
        obtain ⟨rfl, rfl, rfl, rfl, rfl⟩ : c0 = _ ∧ c1' = _ ∧ c2' = _ ∧ c3 = _ ∧ c4 = _ := by simpa using he
        have HM := Aside0.mk (k57_mkF _ _ d.f2[kk].f2 m4 G4)
        obtain ⟨rows, hrl, hR, hfR⟩ := HO.out
        obtain ⟨Ar, cr, rfl⟩ := Kd.R_slice hR
        have hrl2 : rows.length = kk := by rw [hrl]; simp; omega
        have HRL := Lib.hid hrl2
        have HRr := Aside0.mk (Kd.R_below hR (below_alloc2 wr (.cells #[.string d.f2[kk].f0, .slice X1 d.f2[kk].f1.length x1, .int .i64 d.f2[kk].f2.f0, .string d.f2[kk].f2.f1, .slice X4 d.f2[kk].f2.f2.length x4] 62) (.cells #[.int .i64 d.f2[kk].f2.f0, .string d.f2[kk].f2.f1, .slice X4 d.f2[kk].f2.f2.length x4] 57)))
        have HRw := Aside0.mk (Kd.R_below hR (below_alloc1 wr (.cells #[.string d.f2[kk].f0, .slice X1 d.f2[kk].f1.length x1, .int .i64 d.f2[kk].f2.f0, .string d.f2[kk].f2.f1, .slice X4 d.f2[kk].f2.f2.length x4] 62)))
        have HfR := Aside0.mk hfR
        have HrL := Lib.hid hrl
        have hszb := HBe.out.size
        clear hK hcells hFK he G1 G4 hrl hrl2 hR hfR
        have hq1 := below_alloc1 wr (.cells #[.string d.f2[kk].f0, .slice X1 d.f2[kk].f1.length x1, .int .i64 d.f2[kk].f2.f0, .string d.f2[kk].f2.f1, .slice X4 d.f2[kk].f2.f2.length x4] 62)
        have HQ1 := Aside0.mk (HBe.out.trans (hq1.mono hszb))
        clear hq1 HRr
        go_wp2_with (at_builtin; go_must (refine Kd.R_append (Kd.raw 3) (w0 := w) (W := wr.alloc (.cells #[.string d.f2[kk].f0, .slice X1 d.f2[kk].f1.length x1, .int .i64 d.f2[kk].f2.f0, .string d.f2[kk].f2.f1, .slice X4 d.f2[kk].f2.f2.length x4] 62)) w.heap.size rfl (.tmp 20) (.tmp 23) 55 57 _ 48 rfl Tryz.underlying55 infoEx rfl (by decide) (by decide) (.slice Ar rows.length cr) rows [.int .i64 d.f2[kk].f2.f0, .string d.f2[kk].f2.f1, .slice X4 d.f2[kk].f2.f2.length x4] [.int .i64 d.f2[kk].f2.f0, .string d.f2[kk].f2.f1, .slice X4 d.f2[kk].f2.f2.length x4] (fun _ => True) (fun _ => False) rfl (by rw [World.size_alloc]; rfl) (Kd.FK_raw HM.out) (fun _ h => h.elim) (fun _ _ => trivial) HRw.out HQ1.out (by simp; omega) (by rw [HRL.out]; omega) ?_; intro v1 w1 hR1 hb1 _ _))
        go_roundg (d.f2.length - (kk + 1))
        case measure => omega
        case rel => exact ⟨kk + 1, by omega, by omega, by go_num, ⟨⟨_, by rw [List.length_append, HRL.out]; simp; omega, hR1, fun j x c hx hc => by
          have hts : ((d.f2.take (kk + 1)).map (·.f2)) = (d.f2.take kk).map (·.f2) ++ [d.f2[kk].f2] := by rw [take_snoc hlt, List.map_append]; rfl
          rw [hts] at hx
          rcases Nat.lt_or_ge j kk with h | h
          · rw [List.getElem?_append_left (by rw [HRL.out]; exact h)] at hc
            rw [List.getElem?_append_left (by simp; omega)] at hx
            exact HfR.out j x c hx hc
          · rw [List.getElem?_append_right (by rw [HRL.out]; exact h), HRL.out] at hc
            rw [List.getElem?_append_right (by simp; omega)] at hx
            have hl4 : ((d.f2.take kk).map (·.f2)).length = kk := by simp; omega
            rw [hl4] at hx
            rcases hjk : j - kk with _ | i
            · rw [hjk] at hx hc; simp at hx hc; subst hx; subst hc; exact HM.out
            · rw [hjk] at hx; simp at hx⟩⟩, ⟨hb1⟩⟩
      · have : kk = d.f2.length := by omega
        subst this
        obtain ⟨Ar, cr, hr⟩ := HO.out.slice
        subst hr
        go_wp2
        go_ret
        have ho := HO.out
        rw [HB.out]
        exact ⟨_, rfl, by simpa using ho, HBe.out⟩
def anyE (p : Ex → Bool) (e : Ex) : Bool := (plE e).any p
theorem any_plL (p : Ex → Bool) : ∀ l : List Ex, (plL l).any p = l.any (anyE p)
  | [] => rfl
  | x :: xs => by rw [plL, List.any_append, List.any_cons, any_plL p xs]; rfl
theorem anyE_eq (p : Ex → Bool) (e : Ex) : anyE p e = (p e || e.f2.any (anyE p)) := by rw [anyE, plE_eq, List.any_cons, any_plL]
set_option maxHeartbeats 1000000 in
theorem c_lin1 (x : Ex) (cs : List Value) (Bf : Nat) (w : World) (hK : k57.K w x cs) (g : Nat) (lb : Array Value) (hbox : w.heap[Bf]? = some (.cells #[.func (.func g) #[] lb] 67 (0, 0))) (q : Bool)
    (hf : ∀ W : World, Below w.heap.size w W → Calls Tryz.prog 35 #[.agg cs.toArray, .func (.func g) #[] lb] W fun en w' => en = .returned (.bool q) ∧ Below W.heap.size W w') :
    Calls Tryz.prog 92 #[.agg cs.toArray, .pointer (some ⟨Bf, 0, none⟩)] w fun en w' => en = .returned (.bool q) ∧ Below w.heap.size w w' := by
  obtain ⟨A2, a2, rfl, hl2, hc2⟩ := k57_open hK
  have q0 := below_alloc1 w (.cells #[.int .i64 x.f0, .string x.f1, .slice A2 x.f2.length a2] 57)
  have k0 := cell_of_one hbox
  have hlt := lt_of_block hbox
  have hn : ¬ (Bf = w.heap.size) := by omega
  have HC := Lib.hid (hf _ q0)
  have HQ := Lib.hid q0
  clear q0 hbox hK hf hc2
  go_enter Tryz.func92, Tryz.ntmps92
  go_wp2_with fail
  refine HC.out.mono ?_
  rintro en w' ⟨rfl, hb⟩
  go_wp2
  go_ret
  exact ⟨rfl, HQ.out.trans (hb.mono HQ.out.size)⟩
set_option maxHeartbeats 2000000 in
theorem c_lin (w0 : World) (g : Nat) (lb : Array Value) (eg : ∀ args w, (callFunc g args).run Tryz.prog w = .ok (.enter g args) w) (p : Ex → Bool)
    (hp : ∀ (x : Ex) (cs : List Value) (W : World), Below w0.heap.size w0 W → k57.K W x cs → Calls Tryz.prog g (#[.agg cs.toArray] ++ lb) W fun en W' => en = .returned (.bool (p x)) ∧ Below W.heap.size W W') (m : Nat) :
    ∀ (e : Ex) (cs : List Value) (W : World), szE e ≤ m → Below w0.heap.size w0 W → k57.K W e cs → Calls Tryz.prog 35 #[.agg cs.toArray, .func (.func g) #[] lb] W fun en W' => en = .returned (.bool (anyE p e)) ∧ Below W.heap.size W W' := by
  induction m with
  | zero => intro e cs W hm; exact absurd hm (by have := szE_pos e; omega)
  | succ m ih =>
    intro e cs w hm hb hK
    obtain ⟨A2, a2, rfl, hl2, hc2⟩ := k57_open hK
    obtain ⟨W2, hW2⟩ : ∃ W2, (w.alloc (.cells #[.int .i64 e.f0, .string e.f1, .slice A2 e.f2.length a2] 57)).alloc (.cells #[.func (.func g) #[] lb] 67) = W2 := ⟨_, rfl⟩
    have q2 : Below w.heap.size w W2 := by rw [← hW2]; exact below_alloc2 _ _ _
    have bE : W2.heap[w.heap.size]? = some (.cells #[.int .i64 e.f0, .string e.f1, .slice A2 e.f2.length a2] 57 (0, 0)) := by rw [← hW2]; exact blk_alloc (alloc_at _ _) _
    have bF : W2.heap[w.heap.size + 1]? = some (.cells #[.func (.func g) #[] lb] 67 (0, 0)) := by rw [← hW2]; have := alloc_at (w.alloc (.cells #[.int .i64 e.f0, .string e.f1, .slice A2 e.f2.length a2] 57)) (.cells #[.func (.func g) #[] lb] 67); rw [World.size_alloc] at this; exact this
    have hb2 : Below w0.heap.size w0 W2 := hb.trans (q2.mono hb.size)
    have HP := Lib.hid (hp e _ W2 hb2 (k57_mk W2 e hl2 (Kd.C_below hc2 q2)))
    have HC := Lib.hid (fun W (hbW : Below W2.heap.size W2 W) => hasE_p A2 a2 e.f2 W hl2 (Kd.C_below hc2 (q2.trans (hbW.mono q2.size))) 92 #[.pointer (some ⟨w.heap.size + 1, 0, none⟩)] (enters_of Tryz.func92 (by kernel_rfl) rfl) (anyE p) (fun x cs Wx hx hKx hbx => by
      have hsz := szE_mem hx
      have hsz2 := szE_eq e
      refine c_lin1 x cs (w.heap.size + 1) Wx hKx g lb (blk_below (blk_below bF hbW) hbx) (anyE p x) (fun W3 hb3 => ih x cs W3 (by omega) (hb2.trans ((hbW.trans ((hbx.trans (hb3.mono hbx.size)).mono hbW.size)).mono hb2.size)) ?_)
      obtain ⟨A3, a3, rfl, hl3, hc3⟩ := k57_open hKx
      exact k57_mk W3 x hl3 (Kd.C_below hc3 hb3)))
    have k0 := (blk_cell bE 0).trans rfl
    have k1 := (blk_cell bE 1).trans rfl
    have k2 := (blk_cell bE 2).trans rfl
    have k3 := (blk_cell bF 0).trans rfl
    have HE := Lib.hid bE
    have HQ := Lib.hid q2
    have HW2 := Lib.hid hW2
    clear hK hc2 hp ih q2 bE bF hb2 hW2
    cases hpe : p e with
    | true =>
      rw [hpe] at HP
      have HX := Lib.hid (show anyE p e = true by rw [anyE_eq, hpe]; rfl)
      clear hpe HC
      go_enter Tryz.func35, Tryz.ntmps35
      go_upto_region 1 with fail
      rw [HW2.out]
      go_wp2_with (go_at_fn g; refine HP.out.mono ?_; rintro en w' ⟨rfl, hb⟩)
      go_ret
      exact ⟨retb HX.out.symm, HQ.out.trans (hb.mono HQ.out.size)⟩
    | false =>
      rw [hpe] at HP
      have HX := Lib.hid (show anyE p e = e.f2.any (anyE p) by rw [anyE_eq, hpe, Bool.false_or])
      clear hpe
      go_enter Tryz.func35, Tryz.ntmps35
      go_upto_region 1 with fail
      rw [HW2.out]
      go_wp2_with (go_at_fn g; refine HP.out.mono ?_; rintro en w' ⟨rfl, hb⟩; have k5 := (blk_cell (blk_below HE.out hb) 2).trans rfl)
      refine (HC.out w' hb).mono ?_
      rintro en w4 ⟨rfl, hb4⟩
      go_wp2
      go_ret
      exact ⟨retb HX.out.symm, HQ.out.trans ((hb.trans (hb4.mono hb.size)).mono HQ.out.size)⟩
end Go.Proofs.YtacefdkfbpgedaaGreat.Mine
namespace Go.Proofs.YtacefdkfbpgedaaGreat.Mine
open Go.Proofs.YtacefdkfbpgedaaGreat.PProgSmall
open Go.RowKit Go.Shelf Go.Proofs.YtacefdkfbpgedaaGreatW.PrintWords Go.Proofs.YtacefdkfbpgedaaGreatW.PrintLast Go.Proofs.YtacefdkfbpgedaaGreatW.PrintMore
set_option linter.unusedVariables false
set_option linter.unusedSimpArgs false
abbrev lx1 : Ex := ⟨2, (⟨#[97]⟩ : ByteArray), []⟩
abbrev lx2 : Ex := ⟨3, (⟨#[111, 110, 101, 115]⟩ : ByteArray), []⟩
abbrev ll3 : List Ex := [lx1, lx2]
abbrev lx4 : Ex := ⟨2, (⟨#[99, 111, 110, 115]⟩ : ByteArray), ll3⟩
abbrev ll6 : List ByteArray := [(⟨#[120]⟩ : ByteArray)]
abbrev ll7 : List ByteArray := [(⟨#[104]⟩ : ByteArray), (⟨#[116]⟩ : ByteArray)]
abbrev lx8 : Ex := ⟨1, (⟨#[104]⟩ : ByteArray), []⟩
abbrev ll9 : List Ex := [lx8]
abbrev lx10 : Ex := ⟨2, (⟨#[115]⟩ : ByteArray), ll9⟩
abbrev lx11 : Ex := ⟨1, (⟨#[116]⟩ : ByteArray), []⟩
abbrev ll12 : List Ex := [lx11]
abbrev lx13 : Ex := ⟨3, (⟨#[109, 97, 112]⟩ : ByteArray), ll12⟩
abbrev ll14 : List Ex := [lx10, lx13]
abbrev lx15 : Ex := ⟨2, (⟨#[99, 111, 110, 115]⟩ : ByteArray), ll14⟩
abbrev lx17 : Ex := ⟨1, (⟨#[120]⟩ : ByteArray), []⟩
abbrev ll19 : List Ca := [⟨(⟨#[99, 111, 110, 115]⟩ : ByteArray), ll7, lx15⟩, ⟨(⟨#[110, 105, 108]⟩ : ByteArray), [], lx17⟩]
abbrev ll21 : List ByteArray := [(⟨#[120]⟩ : ByteArray), (⟨#[121]⟩ : ByteArray)]
abbrev lx22 : Ex := ⟨1, (⟨#[120]⟩ : ByteArray), []⟩
abbrev ll23 : List Ex := [lx22]
abbrev lx24 : Ex := ⟨3, (⟨#[109, 97, 112]⟩ : ByteArray), ll23⟩
abbrev ll25 : List Ex := [lx24]
abbrev lx26 : Ex := ⟨3, (⟨#[109, 97, 112]⟩ : ByteArray), ll25⟩
abbrev lx27 : Ex := ⟨1, (⟨#[121]⟩ : ByteArray), []⟩
abbrev ll28 : List Ex := [lx26, lx27]
abbrev lx29 : Ex := ⟨2, (⟨#[112]⟩ : ByteArray), ll28⟩
abbrev ll31 : List De := [⟨(⟨#[111, 110, 101, 115]⟩ : ByteArray), [], [], lx4⟩, ⟨(⟨#[109, 97, 112]⟩ : ByteArray), ll6, ll19, ⟨0, ⟨#[]⟩, []⟩⟩, ⟨(⟨#[116, 119, 111]⟩ : ByteArray), ll21, [], lx29⟩]
abbrev listsP : List De := ll31
set_option maxRecDepth 100000 in
set_option maxHeartbeats 4000000 in
theorem c_Lists (w : World) : Calls Tryz.prog 58 #[] w fun en w' => ∃ A, en = .returned (.agg #[.slice A 3 3]) ∧ Kd.C k59 w' A 3 listsP ∧ Below w.heap.size w w' := by
  have q0 := below_alloc1 w (.cells #[.slice none 0 0] 24)
  have b0 := alloc_at w (.cells #[.slice none 0 0] 24)
  obtain ⟨W, hW⟩ : ∃ W, w.alloc (.cells #[.slice none 0 0] 24) = W := ⟨_, rfl⟩
  rw [hW] at q0 b0
  have HW := Lib.hid hW
  have Q := Aside0.mk q0
  have P := Aside0.mk b0
  clear hW q0 b0
  go_enter Tryz.func58, Tryz.ntmps58
  go_wp2_with fail
  rw [HW.out]
  clear HW
  -- 1: M a
  refine (c_M _ _ _ _ _).mono ?_
  rintro en w1 ⟨rfl, hb⟩
  have P := Aside0.mk (blk_below P.out hb)
  have Q := Aside0.mk (Q.out.trans (hb.mono Q.out.size))
  clear hb
  -- 2: C ones
  go_wp2_with fail
  refine (c_C _ _ _ _ _).mono ?_
  rintro en w2 ⟨rfl, hb⟩
  have P := Aside0.mk (blk_below P.out hb)
  have Q := Aside0.mk (Q.out.trans (hb.mono Q.out.size))
  clear hb
  -- 3: a list
  have hlt : w.heap.size < w2.heap.size := by have := lt_of_block P.out; first | exact this | (simpa only [World.size_alloc] using this)
  have hc : Kd.F k57 (w2.alloc (.cells #[.int .i64 2, .string (⟨#[97]⟩ : ByteArray), .slice none 0 0, .int .i64 3, .string (⟨#[111, 110, 101, 115]⟩ : ByteArray), .slice none 0 0] 57)) (fun k => k ≠ w.heap.size) (some ⟨w2.heap.size, 0, none⟩) 2 ll3 := by
    have h := F_lit2 (W := w2) (ok := (fun k => k ≠ w.heap.size)) (by first | (show _ ≠ _; omega) | (show _ ≠ _; simp only [World.size_alloc]; omega)) 57 (k57_mkF _ _ lx1 (Nat.le_refl _) (Kd.F_nil k57 _ _)) rfl (k57_mkF _ _ lx2 (Nat.le_refl _) (Kd.F_nil k57 _ _)) rfl
    try simp only [World.size_alloc] at h
    exact h
  have hb := below_alloc1 w2 (.cells #[.int .i64 2, .string (⟨#[97]⟩ : ByteArray), .slice none 0 0, .int .i64 3, .string (⟨#[111, 110, 101, 115]⟩ : ByteArray), .slice none 0 0] 57)
  have C3 := Aside0.mk hc
  have P := Aside0.mk (blk_below P.out hb)
  have Q := Aside0.mk (Q.out.trans (hb.mono Q.out.size))
  clear hb hc hlt
  -- 4: M cons
  go_wp2_with fail
  refine (c_M _ _ _ _ _).mono ?_
  rintro en w4 ⟨rfl, hb⟩
  have C3 := Aside0.mk (Kd.F_below C3.out hb)
  have P := Aside0.mk (blk_below P.out hb)
  have Q := Aside0.mk (Q.out.trans (hb.mono Q.out.size))
  clear hb
  -- 6: a list
  have hlt : w.heap.size < w4.heap.size := by have := lt_of_block P.out; first | exact this | (simpa only [World.size_alloc] using this)
  have hc : Kd.F Kd.string (w4.alloc (.cells #[.string (⟨#[120]⟩ : ByteArray)] 9)) (fun k => k ≠ w.heap.size) (some ⟨w4.heap.size, 0, none⟩) 1 ll6 := by
    have h := F_lit1 (W := w4) (ok := (fun k => k ≠ w.heap.size)) (by first | (show _ ≠ _; omega) | (show _ ≠ _; simp only [World.size_alloc]; omega)) 9 (show Kd.FK Kd.string _ _ (⟨#[120]⟩ : ByteArray) [.string (⟨#[120]⟩ : ByteArray)] from fun _ _ => rfl) rfl
    try simp only [World.size_alloc] at h
    exact h
  have hb := below_alloc1 w4 (.cells #[.string (⟨#[120]⟩ : ByteArray)] 9)
  have C3 := Aside0.mk (Kd.F_below C3.out hb)
  have C6 := Aside0.mk hc
  have P := Aside0.mk (blk_below P.out hb)
  have Q := Aside0.mk (Q.out.trans (hb.mono Q.out.size))
  clear hb hc hlt
  -- 7: a list
  have hlt : w.heap.size < w4.heap.size + 1 := by have := lt_of_block P.out; first | exact this | (simpa only [World.size_alloc] using this)
  have hc : Kd.F Kd.string ((w4.alloc (.cells #[.string (⟨#[120]⟩ : ByteArray)] 9)).alloc (.cells #[.string (⟨#[104]⟩ : ByteArray), .string (⟨#[116]⟩ : ByteArray)] 9)) (fun k => k ≠ w.heap.size) (some ⟨w4.heap.size + 1, 0, none⟩) 2 ll7 := by
    have h := F_lit2 (W := (w4.alloc (.cells #[.string (⟨#[120]⟩ : ByteArray)] 9))) (ok := (fun k => k ≠ w.heap.size)) (by first | (show _ ≠ _; omega) | (show _ ≠ _; simp only [World.size_alloc]; omega)) 9 (show Kd.FK Kd.string _ _ (⟨#[104]⟩ : ByteArray) [.string (⟨#[104]⟩ : ByteArray)] from fun _ _ => rfl) rfl (show Kd.FK Kd.string _ _ (⟨#[116]⟩ : ByteArray) [.string (⟨#[116]⟩ : ByteArray)] from fun _ _ => rfl) rfl
    try simp only [World.size_alloc] at h
    exact h
  have hb := below_alloc1 (w4.alloc (.cells #[.string (⟨#[120]⟩ : ByteArray)] 9)) (.cells #[.string (⟨#[104]⟩ : ByteArray), .string (⟨#[116]⟩ : ByteArray)] 9)
  have C3 := Aside0.mk (Kd.F_below C3.out hb)
  have C6 := Aside0.mk (Kd.F_below C6.out hb)
  have C7 := Aside0.mk hc
  have P := Aside0.mk (blk_below P.out hb)
  have Q := Aside0.mk (Q.out.trans (hb.mono Q.out.size))
  clear hb hc hlt
  -- 8: V h
  go_wp2_with fail
  refine (c_V _ _).mono ?_
  rintro en w8 ⟨rfl, hb⟩
  simp only [encH, List.length_nil]
  have C3 := Aside0.mk (Kd.F_below C3.out hb)
  have C6 := Aside0.mk (Kd.F_below C6.out hb)
  have C7 := Aside0.mk (Kd.F_below C7.out hb)
  have P := Aside0.mk (blk_below P.out hb)
  have Q := Aside0.mk (Q.out.trans (hb.mono Q.out.size))
  clear hb
  -- 9: a list
  have hlt : w.heap.size < w8.heap.size := by have := lt_of_block P.out; first | exact this | (simpa only [World.size_alloc] using this)
  have hc : Kd.F k57 (w8.alloc (.cells #[.int .i64 1, .string (⟨#[104]⟩ : ByteArray), .slice none 0 0] 57)) (fun k => k ≠ w.heap.size) (some ⟨w8.heap.size, 0, none⟩) 1 ll9 := by
    have h := F_lit1 (W := w8) (ok := (fun k => k ≠ w.heap.size)) (by first | (show _ ≠ _; omega) | (show _ ≠ _; simp only [World.size_alloc]; omega)) 57 (k57_mkF _ _ lx8 (Nat.le_refl _) (Kd.F_nil k57 _ _)) rfl
    try simp only [World.size_alloc] at h
    exact h
  have hb := below_alloc1 w8 (.cells #[.int .i64 1, .string (⟨#[104]⟩ : ByteArray), .slice none 0 0] 57)
  have C3 := Aside0.mk (Kd.F_below C3.out hb)
  have C6 := Aside0.mk (Kd.F_below C6.out hb)
  have C7 := Aside0.mk (Kd.F_below C7.out hb)
  have C9 := Aside0.mk hc
  have P := Aside0.mk (blk_below P.out hb)
  have Q := Aside0.mk (Q.out.trans (hb.mono Q.out.size))
  clear hb hc hlt
  -- 10: M s
  go_wp2_with fail
  refine (c_M _ _ _ _ _).mono ?_
  rintro en w10 ⟨rfl, hb⟩
  have C3 := Aside0.mk (Kd.F_below C3.out hb)
  have C6 := Aside0.mk (Kd.F_below C6.out hb)
  have C7 := Aside0.mk (Kd.F_below C7.out hb)
  have C9 := Aside0.mk (Kd.F_below C9.out hb)
  have P := Aside0.mk (blk_below P.out hb)
  have Q := Aside0.mk (Q.out.trans (hb.mono Q.out.size))
  clear hb
  -- 11: V t
  go_wp2_with fail
  refine (c_V _ _).mono ?_
  rintro en w11 ⟨rfl, hb⟩
  simp only [encH, List.length_nil]
  have C3 := Aside0.mk (Kd.F_below C3.out hb)
  have C6 := Aside0.mk (Kd.F_below C6.out hb)
  have C7 := Aside0.mk (Kd.F_below C7.out hb)
  have C9 := Aside0.mk (Kd.F_below C9.out hb)
  have P := Aside0.mk (blk_below P.out hb)
  have Q := Aside0.mk (Q.out.trans (hb.mono Q.out.size))
  clear hb
  -- 12: a list
  have hlt : w.heap.size < w11.heap.size := by have := lt_of_block P.out; first | exact this | (simpa only [World.size_alloc] using this)
  have hc : Kd.F k57 (w11.alloc (.cells #[.int .i64 1, .string (⟨#[116]⟩ : ByteArray), .slice none 0 0] 57)) (fun k => k ≠ w.heap.size) (some ⟨w11.heap.size, 0, none⟩) 1 ll12 := by
    have h := F_lit1 (W := w11) (ok := (fun k => k ≠ w.heap.size)) (by first | (show _ ≠ _; omega) | (show _ ≠ _; simp only [World.size_alloc]; omega)) 57 (k57_mkF _ _ lx11 (Nat.le_refl _) (Kd.F_nil k57 _ _)) rfl
    try simp only [World.size_alloc] at h
    exact h
  have hb := below_alloc1 w11 (.cells #[.int .i64 1, .string (⟨#[116]⟩ : ByteArray), .slice none 0 0] 57)
  have C3 := Aside0.mk (Kd.F_below C3.out hb)
  have C6 := Aside0.mk (Kd.F_below C6.out hb)
  have C7 := Aside0.mk (Kd.F_below C7.out hb)
  have C9 := Aside0.mk (Kd.F_below C9.out hb)
  have C12 := Aside0.mk hc
  have P := Aside0.mk (blk_below P.out hb)
  have Q := Aside0.mk (Q.out.trans (hb.mono Q.out.size))
  clear hb hc hlt
  -- 13: C map
  go_wp2_with fail
  refine (c_C _ _ _ _ _).mono ?_
  rintro en w13 ⟨rfl, hb⟩
  have C3 := Aside0.mk (Kd.F_below C3.out hb)
  have C6 := Aside0.mk (Kd.F_below C6.out hb)
  have C7 := Aside0.mk (Kd.F_below C7.out hb)
  have C9 := Aside0.mk (Kd.F_below C9.out hb)
  have C12 := Aside0.mk (Kd.F_below C12.out hb)
  have P := Aside0.mk (blk_below P.out hb)
  have Q := Aside0.mk (Q.out.trans (hb.mono Q.out.size))
  clear hb
  -- 14: a list
  have hlt : w.heap.size < w13.heap.size := by have := lt_of_block P.out; first | exact this | (simpa only [World.size_alloc] using this)
  have hc : Kd.F k57 (w13.alloc (.cells #[.int .i64 2, .string (⟨#[115]⟩ : ByteArray), .slice (some ⟨w8.heap.size, 0, none⟩) 1 1, .int .i64 3, .string (⟨#[109, 97, 112]⟩ : ByteArray), .slice (some ⟨w11.heap.size, 0, none⟩) 1 1] 57)) (fun k => k ≠ w.heap.size) (some ⟨w13.heap.size, 0, none⟩) 2 ll14 := by
    have h := F_lit2 (W := w13) (ok := (fun k => k ≠ w.heap.size)) (by first | (show _ ≠ _; omega) | (show _ ≠ _; simp only [World.size_alloc]; omega)) 57 (k57_mkF _ _ lx10 (Nat.le_refl _) C9.out) rfl (k57_mkF _ _ lx13 (Nat.le_refl _) C12.out) rfl
    try simp only [World.size_alloc] at h
    exact h
  have hb := below_alloc1 w13 (.cells #[.int .i64 2, .string (⟨#[115]⟩ : ByteArray), .slice (some ⟨w8.heap.size, 0, none⟩) 1 1, .int .i64 3, .string (⟨#[109, 97, 112]⟩ : ByteArray), .slice (some ⟨w11.heap.size, 0, none⟩) 1 1] 57)
  have C3 := Aside0.mk (Kd.F_below C3.out hb)
  have C6 := Aside0.mk (Kd.F_below C6.out hb)
  have C7 := Aside0.mk (Kd.F_below C7.out hb)
  clear C9
  clear C12
  have C14 := Aside0.mk hc
  have P := Aside0.mk (blk_below P.out hb)
  have Q := Aside0.mk (Q.out.trans (hb.mono Q.out.size))
  clear hb hc hlt
  -- 15: M cons
  go_wp2_with fail
  refine (c_M _ _ _ _ _).mono ?_
  rintro en w15 ⟨rfl, hb⟩
  have C3 := Aside0.mk (Kd.F_below C3.out hb)
  have C6 := Aside0.mk (Kd.F_below C6.out hb)
  have C7 := Aside0.mk (Kd.F_below C7.out hb)
  have C14 := Aside0.mk (Kd.F_below C14.out hb)
  have P := Aside0.mk (blk_below P.out hb)
  have Q := Aside0.mk (Q.out.trans (hb.mono Q.out.size))
  clear hb
  -- 17: V x
  go_wp2_with fail
  refine (c_V _ _).mono ?_
  rintro en w17 ⟨rfl, hb⟩
  simp only [encH, List.length_nil]
  have C3 := Aside0.mk (Kd.F_below C3.out hb)
  have C6 := Aside0.mk (Kd.F_below C6.out hb)
  have C7 := Aside0.mk (Kd.F_below C7.out hb)
  have C14 := Aside0.mk (Kd.F_below C14.out hb)
  have P := Aside0.mk (blk_below P.out hb)
  have Q := Aside0.mk (Q.out.trans (hb.mono Q.out.size))
  clear hb
  -- 19: a list
  have hlt : w.heap.size < w17.heap.size := by have := lt_of_block P.out; first | exact this | (simpa only [World.size_alloc] using this)
  have hc : Kd.F k62 (w17.alloc (.cells #[.string (⟨#[99, 111, 110, 115]⟩ : ByteArray), .slice (some ⟨w4.heap.size + 1, 0, none⟩) 2 2, .int .i64 2, .string (⟨#[99, 111, 110, 115]⟩ : ByteArray), .slice (some ⟨w13.heap.size, 0, none⟩) 2 2, .string (⟨#[110, 105, 108]⟩ : ByteArray), .slice none 0 0, .int .i64 1, .string (⟨#[120]⟩ : ByteArray), .slice none 0 0] 62)) (fun k => k ≠ w.heap.size) (some ⟨w17.heap.size, 0, none⟩) 2 ll19 := by
    have h := F_lit2 (W := w17) (ok := (fun k => k ≠ w.heap.size)) (by first | (show _ ≠ _; omega) | (show _ ≠ _; simp only [World.size_alloc]; omega)) 62 (k62_mkF _ _ (⟨(⟨#[99, 111, 110, 115]⟩ : ByteArray), ll7, lx15⟩ : Ca) (Nat.le_refl _) C7.out (Nat.le_refl _) C14.out) rfl (k62_mkF _ _ (⟨(⟨#[110, 105, 108]⟩ : ByteArray), [], lx17⟩ : Ca) (Nat.le_refl _) (Kd.F_nil Kd.string _ _) (Nat.le_refl _) (Kd.F_nil k57 _ _)) rfl
    try simp only [World.size_alloc] at h
    exact h
  have hb := below_alloc1 w17 (.cells #[.string (⟨#[99, 111, 110, 115]⟩ : ByteArray), .slice (some ⟨w4.heap.size + 1, 0, none⟩) 2 2, .int .i64 2, .string (⟨#[99, 111, 110, 115]⟩ : ByteArray), .slice (some ⟨w13.heap.size, 0, none⟩) 2 2, .string (⟨#[110, 105, 108]⟩ : ByteArray), .slice none 0 0, .int .i64 1, .string (⟨#[120]⟩ : ByteArray), .slice none 0 0] 62)
  have C3 := Aside0.mk (Kd.F_below C3.out hb)
  have C6 := Aside0.mk (Kd.F_below C6.out hb)
  clear C7
  clear C14
  have C19 := Aside0.mk hc
  have P := Aside0.mk (blk_below P.out hb)
  have Q := Aside0.mk (Q.out.trans (hb.mono Q.out.size))
  clear hb hc hlt
  -- 21: a list
  have hlt : w.heap.size < w17.heap.size + 1 := by have := lt_of_block P.out; first | exact this | (simpa only [World.size_alloc] using this)
  have hc : Kd.F Kd.string ((w17.alloc (.cells #[.string (⟨#[99, 111, 110, 115]⟩ : ByteArray), .slice (some ⟨w4.heap.size + 1, 0, none⟩) 2 2, .int .i64 2, .string (⟨#[99, 111, 110, 115]⟩ : ByteArray), .slice (some ⟨w13.heap.size, 0, none⟩) 2 2, .string (⟨#[110, 105, 108]⟩ : ByteArray), .slice none 0 0, .int .i64 1, .string (⟨#[120]⟩ : ByteArray), .slice none 0 0] 62)).alloc (.cells #[.string (⟨#[120]⟩ : ByteArray), .string (⟨#[121]⟩ : ByteArray)] 9)) (fun k => k ≠ w.heap.size) (some ⟨w17.heap.size + 1, 0, none⟩) 2 ll21 := by
    have h := F_lit2 (W := (w17.alloc (.cells #[.string (⟨#[99, 111, 110, 115]⟩ : ByteArray), .slice (some ⟨w4.heap.size + 1, 0, none⟩) 2 2, .int .i64 2, .string (⟨#[99, 111, 110, 115]⟩ : ByteArray), .slice (some ⟨w13.heap.size, 0, none⟩) 2 2, .string (⟨#[110, 105, 108]⟩ : ByteArray), .slice none 0 0, .int .i64 1, .string (⟨#[120]⟩ : ByteArray), .slice none 0 0] 62))) (ok := (fun k => k ≠ w.heap.size)) (by first | (show _ ≠ _; omega) | (show _ ≠ _; simp only [World.size_alloc]; omega)) 9 (show Kd.FK Kd.string _ _ (⟨#[120]⟩ : ByteArray) [.string (⟨#[120]⟩ : ByteArray)] from fun _ _ => rfl) rfl (show Kd.FK Kd.string _ _ (⟨#[121]⟩ : ByteArray) [.string (⟨#[121]⟩ : ByteArray)] from fun _ _ => rfl) rfl
    try simp only [World.size_alloc] at h
    exact h
  have hb := below_alloc1 (w17.alloc (.cells #[.string (⟨#[99, 111, 110, 115]⟩ : ByteArray), .slice (some ⟨w4.heap.size + 1, 0, none⟩) 2 2, .int .i64 2, .string (⟨#[99, 111, 110, 115]⟩ : ByteArray), .slice (some ⟨w13.heap.size, 0, none⟩) 2 2, .string (⟨#[110, 105, 108]⟩ : ByteArray), .slice none 0 0, .int .i64 1, .string (⟨#[120]⟩ : ByteArray), .slice none 0 0] 62)) (.cells #[.string (⟨#[120]⟩ : ByteArray), .string (⟨#[121]⟩ : ByteArray)] 9)
  have C3 := Aside0.mk (Kd.F_below C3.out hb)
  have C6 := Aside0.mk (Kd.F_below C6.out hb)
  have C19 := Aside0.mk (Kd.F_below C19.out hb)
  have C21 := Aside0.mk hc
  have P := Aside0.mk (blk_below P.out hb)
  have Q := Aside0.mk (Q.out.trans (hb.mono Q.out.size))
  clear hb hc hlt
  -- 22: V x
  go_wp2_with fail
  refine (c_V _ _).mono ?_
  rintro en w22 ⟨rfl, hb⟩
  simp only [encH, List.length_nil]
  have C3 := Aside0.mk (Kd.F_below C3.out hb)
  have C6 := Aside0.mk (Kd.F_below C6.out hb)
  have C19 := Aside0.mk (Kd.F_below C19.out hb)
  have C21 := Aside0.mk (Kd.F_below C21.out hb)
  have P := Aside0.mk (blk_below P.out hb)
  have Q := Aside0.mk (Q.out.trans (hb.mono Q.out.size))
  clear hb
  -- 23: a list
  have hlt : w.heap.size < w22.heap.size := by have := lt_of_block P.out; first | exact this | (simpa only [World.size_alloc] using this)
  have hc : Kd.F k57 (w22.alloc (.cells #[.int .i64 1, .string (⟨#[120]⟩ : ByteArray), .slice none 0 0] 57)) (fun k => k ≠ w.heap.size) (some ⟨w22.heap.size, 0, none⟩) 1 ll23 := by
    have h := F_lit1 (W := w22) (ok := (fun k => k ≠ w.heap.size)) (by first | (show _ ≠ _; omega) | (show _ ≠ _; simp only [World.size_alloc]; omega)) 57 (k57_mkF _ _ lx22 (Nat.le_refl _) (Kd.F_nil k57 _ _)) rfl
    try simp only [World.size_alloc] at h
    exact h
  have hb := below_alloc1 w22 (.cells #[.int .i64 1, .string (⟨#[120]⟩ : ByteArray), .slice none 0 0] 57)
  have C3 := Aside0.mk (Kd.F_below C3.out hb)
  have C6 := Aside0.mk (Kd.F_below C6.out hb)
  have C19 := Aside0.mk (Kd.F_below C19.out hb)
  have C21 := Aside0.mk (Kd.F_below C21.out hb)
  have C23 := Aside0.mk hc
  have P := Aside0.mk (blk_below P.out hb)
  have Q := Aside0.mk (Q.out.trans (hb.mono Q.out.size))
  clear hb hc hlt
  -- 24: C map
  go_wp2_with fail
  refine (c_C _ _ _ _ _).mono ?_
  rintro en w24 ⟨rfl, hb⟩
  have C3 := Aside0.mk (Kd.F_below C3.out hb)
  have C6 := Aside0.mk (Kd.F_below C6.out hb)
  have C19 := Aside0.mk (Kd.F_below C19.out hb)
  have C21 := Aside0.mk (Kd.F_below C21.out hb)
  have C23 := Aside0.mk (Kd.F_below C23.out hb)
  have P := Aside0.mk (blk_below P.out hb)
  have Q := Aside0.mk (Q.out.trans (hb.mono Q.out.size))
  clear hb
  -- 25: a list
  have hlt : w.heap.size < w24.heap.size := by have := lt_of_block P.out; first | exact this | (simpa only [World.size_alloc] using this)
  have hc : Kd.F k57 (w24.alloc (.cells #[.int .i64 3, .string (⟨#[109, 97, 112]⟩ : ByteArray), .slice (some ⟨w22.heap.size, 0, none⟩) 1 1] 57)) (fun k => k ≠ w.heap.size) (some ⟨w24.heap.size, 0, none⟩) 1 ll25 := by
    have h := F_lit1 (W := w24) (ok := (fun k => k ≠ w.heap.size)) (by first | (show _ ≠ _; omega) | (show _ ≠ _; simp only [World.size_alloc]; omega)) 57 (k57_mkF _ _ lx24 (Nat.le_refl _) C23.out) rfl
    try simp only [World.size_alloc] at h
    exact h
  have hb := below_alloc1 w24 (.cells #[.int .i64 3, .string (⟨#[109, 97, 112]⟩ : ByteArray), .slice (some ⟨w22.heap.size, 0, none⟩) 1 1] 57)
  have C3 := Aside0.mk (Kd.F_below C3.out hb)
  have C6 := Aside0.mk (Kd.F_below C6.out hb)
  have C19 := Aside0.mk (Kd.F_below C19.out hb)
  have C21 := Aside0.mk (Kd.F_below C21.out hb)
  clear C23
  have C25 := Aside0.mk hc
  have P := Aside0.mk (blk_below P.out hb)
  have Q := Aside0.mk (Q.out.trans (hb.mono Q.out.size))
  clear hb hc hlt
  -- 26: C map
  go_wp2_with fail
  refine (c_C _ _ _ _ _).mono ?_
  rintro en w26 ⟨rfl, hb⟩
  have C3 := Aside0.mk (Kd.F_below C3.out hb)
  have C6 := Aside0.mk (Kd.F_below C6.out hb)
  have C19 := Aside0.mk (Kd.F_below C19.out hb)
  have C21 := Aside0.mk (Kd.F_below C21.out hb)
  have C25 := Aside0.mk (Kd.F_below C25.out hb)
  have P := Aside0.mk (blk_below P.out hb)
  have Q := Aside0.mk (Q.out.trans (hb.mono Q.out.size))
  clear hb
  -- 27: V y
  go_wp2_with fail
  refine (c_V _ _).mono ?_
  rintro en w27 ⟨rfl, hb⟩
  simp only [encH, List.length_nil]
  have C3 := Aside0.mk (Kd.F_below C3.out hb)
  have C6 := Aside0.mk (Kd.F_below C6.out hb)
  have C19 := Aside0.mk (Kd.F_below C19.out hb)
  have C21 := Aside0.mk (Kd.F_below C21.out hb)
  have C25 := Aside0.mk (Kd.F_below C25.out hb)
  have P := Aside0.mk (blk_below P.out hb)
  have Q := Aside0.mk (Q.out.trans (hb.mono Q.out.size))
  clear hb
  -- 28: a list
  have hlt : w.heap.size < w27.heap.size := by have := lt_of_block P.out; first | exact this | (simpa only [World.size_alloc] using this)
  have hc : Kd.F k57 (w27.alloc (.cells #[.int .i64 3, .string (⟨#[109, 97, 112]⟩ : ByteArray), .slice (some ⟨w24.heap.size, 0, none⟩) 1 1, .int .i64 1, .string (⟨#[121]⟩ : ByteArray), .slice none 0 0] 57)) (fun k => k ≠ w.heap.size) (some ⟨w27.heap.size, 0, none⟩) 2 ll28 := by
    have h := F_lit2 (W := w27) (ok := (fun k => k ≠ w.heap.size)) (by first | (show _ ≠ _; omega) | (show _ ≠ _; simp only [World.size_alloc]; omega)) 57 (k57_mkF _ _ lx26 (Nat.le_refl _) C25.out) rfl (k57_mkF _ _ lx27 (Nat.le_refl _) (Kd.F_nil k57 _ _)) rfl
    try simp only [World.size_alloc] at h
    exact h
  have hb := below_alloc1 w27 (.cells #[.int .i64 3, .string (⟨#[109, 97, 112]⟩ : ByteArray), .slice (some ⟨w24.heap.size, 0, none⟩) 1 1, .int .i64 1, .string (⟨#[121]⟩ : ByteArray), .slice none 0 0] 57)
  have C3 := Aside0.mk (Kd.F_below C3.out hb)
  have C6 := Aside0.mk (Kd.F_below C6.out hb)
  have C19 := Aside0.mk (Kd.F_below C19.out hb)
  have C21 := Aside0.mk (Kd.F_below C21.out hb)
  clear C25
  have C28 := Aside0.mk hc
  have P := Aside0.mk (blk_below P.out hb)
  have Q := Aside0.mk (Q.out.trans (hb.mono Q.out.size))
  clear hb hc hlt
  -- 29: M p
  go_wp2_with fail
  refine (c_M _ _ _ _ _).mono ?_
  rintro en w29 ⟨rfl, hb⟩
  have C3 := Aside0.mk (Kd.F_below C3.out hb)
  have C6 := Aside0.mk (Kd.F_below C6.out hb)
  have C19 := Aside0.mk (Kd.F_below C19.out hb)
  have C21 := Aside0.mk (Kd.F_below C21.out hb)
  have C28 := Aside0.mk (Kd.F_below C28.out hb)
  have P := Aside0.mk (blk_below P.out hb)
  have P29 := P
  have Q := Aside0.mk (Q.out.trans (hb.mono Q.out.size))
  clear hb
  have kP := (blk_cell P.out 0).trans rfl
  have fP := blk_frozen P.out 0
  have hlt := lt_of_block P.out
  have hlt0 := hlt
  obtain ⟨X, hX⟩ : ∃ X, w29.setCell ⟨w.heap.size, 0, none⟩ (.slice (some ⟨w29.heap.size, 0, none⟩) 3 3) = X := ⟨_, rfl⟩
  have hXs : X.heap.size = w29.heap.size := by rw [← hX]; simp [World.setCell]
  have P := Aside0.mk (show X.heap[w.heap.size]? = some (.cells #[.slice (some ⟨w29.heap.size, 0, none⟩) 3 3] 24 (0, 0)) by rw [← hX]; exact blk_put P.out 0 _ rfl)
  have Q := Aside0.mk (show Below w.heap.size w X by rw [← hX]; exact Q.out.setCell (Nat.le_refl _) _)
  have C3 := Aside0.mk (Kd.F_far C3.out (p := ⟨w.heap.size, 0, none⟩) (fun k hk => hk) (.slice (some ⟨w29.heap.size, 0, none⟩) 3 3))
  rw [hX] at C3
  have C6 := Aside0.mk (Kd.F_far C6.out (p := ⟨w.heap.size, 0, none⟩) (fun k hk => hk) (.slice (some ⟨w29.heap.size, 0, none⟩) 3 3))
  rw [hX] at C6
  have C19 := Aside0.mk (Kd.F_far C19.out (p := ⟨w.heap.size, 0, none⟩) (fun k hk => hk) (.slice (some ⟨w29.heap.size, 0, none⟩) 3 3))
  rw [hX] at C19
  have C21 := Aside0.mk (Kd.F_far C21.out (p := ⟨w.heap.size, 0, none⟩) (fun k hk => hk) (.slice (some ⟨w29.heap.size, 0, none⟩) 3 3))
  rw [hX] at C21
  have C28 := Aside0.mk (Kd.F_far C28.out (p := ⟨w.heap.size, 0, none⟩) (fun k hk => hk) (.slice (some ⟨w29.heap.size, 0, none⟩) 3 3))
  rw [hX] at C28
  -- 31: a list
  have hlt : w.heap.size < X.heap.size := by have := lt_of_block P.out; first | exact this | (simpa only [World.size_alloc] using this)
  have hc : Kd.F k59 (X.alloc (.cells #[.string (⟨#[111, 110, 101, 115]⟩ : ByteArray), .slice none 0 0, .slice none 0 0, .int .i64 2, .string (⟨#[99, 111, 110, 115]⟩ : ByteArray), .slice (some ⟨w2.heap.size, 0, none⟩) 2 2, .string (⟨#[109, 97, 112]⟩ : ByteArray), .slice (some ⟨w4.heap.size, 0, none⟩) 1 1, .slice (some ⟨w17.heap.size, 0, none⟩) 2 2, .int .i64 0, .string (⟨#[]⟩ : ByteArray), .slice none 0 0, .string (⟨#[116, 119, 111]⟩ : ByteArray), .slice (some ⟨w17.heap.size + 1, 0, none⟩) 2 2, .slice none 0 0, .int .i64 2, .string (⟨#[112]⟩ : ByteArray), .slice (some ⟨w27.heap.size, 0, none⟩) 2 2] 59)) (fun k => k ≠ w.heap.size) (some ⟨X.heap.size, 0, none⟩) 3 ll31 := by
    have h := F_lit3 (W := X) (ok := (fun k => k ≠ w.heap.size)) (by first | (show _ ≠ _; omega) | (show _ ≠ _; simp only [World.size_alloc]; omega)) 59 (k59_mkF _ _ (⟨(⟨#[111, 110, 101, 115]⟩ : ByteArray), [], [], lx4⟩ : De) (Nat.le_refl _) (Kd.F_nil Kd.string _ _) (Nat.le_refl _) (Kd.F_nil k62 _ _) (Nat.le_refl _) C3.out) rfl (k59_mkF _ _ (⟨(⟨#[109, 97, 112]⟩ : ByteArray), ll6, ll19, ⟨0, ⟨#[]⟩, []⟩⟩ : De) (Nat.le_refl _) C6.out (Nat.le_refl _) C19.out (Nat.le_refl _) (Kd.F_nil k57 _ _)) rfl (k59_mkF _ _ (⟨(⟨#[116, 119, 111]⟩ : ByteArray), ll21, [], lx29⟩ : De) (Nat.le_refl _) C21.out (Nat.le_refl _) (Kd.F_nil k62 _ _) (Nat.le_refl _) C28.out) rfl
    try simp only [World.size_alloc] at h
    exact h
  have hb := below_alloc1 X (.cells #[.string (⟨#[111, 110, 101, 115]⟩ : ByteArray), .slice none 0 0, .slice none 0 0, .int .i64 2, .string (⟨#[99, 111, 110, 115]⟩ : ByteArray), .slice (some ⟨w2.heap.size, 0, none⟩) 2 2, .string (⟨#[109, 97, 112]⟩ : ByteArray), .slice (some ⟨w4.heap.size, 0, none⟩) 1 1, .slice (some ⟨w17.heap.size, 0, none⟩) 2 2, .int .i64 0, .string (⟨#[]⟩ : ByteArray), .slice none 0 0, .string (⟨#[116, 119, 111]⟩ : ByteArray), .slice (some ⟨w17.heap.size + 1, 0, none⟩) 2 2, .slice none 0 0, .int .i64 2, .string (⟨#[112]⟩ : ByteArray), .slice (some ⟨w27.heap.size, 0, none⟩) 2 2] 59)
  clear C3
  clear C6
  clear C19
  clear C21
  clear C28
  have C31 := Aside0.mk hc
  have P := Aside0.mk (blk_below P.out hb)
  have Q := Aside0.mk (Q.out.trans (hb.mono Q.out.size))
  clear hb hc hlt
  have HX := Lib.hid hX
  have HXs := Lib.hid hXs
  clear hX hXs
  go_wp2_with fail
  rw [HX.out]
  rw [HXs.out] at C31
  refine bodyPost_ret (results_cell_row rfl _ _ w.heap.size 24 #[.slice (some ⟨w29.heap.size, 0, none⟩) 3 3] (0, 0) _ rfl P.out Tryz.underlying24 rfl (by kernel_rfl)) rfl ?_
  exact ⟨_, rfl, Kd.F_now C31.out, Q.out⟩
end Go.Proofs.YtacefdkfbpgedaaGreat.Mine
