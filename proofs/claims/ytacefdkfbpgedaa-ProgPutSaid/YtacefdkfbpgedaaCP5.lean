/- What is put for variables, counted. No program here. -/
import Derived.Test.YtacefdkfbpgedaaCP4
namespace Go.Proofs.Ytacefdkfbpgedaa.Mine
open Go.Proofs.Ytacefdkfbpgedaa.PProgExprs
open Go.RowKit Go.Shelf Go.Proofs.YtacefdkfbpgedaaW.PrintWords Go.Proofs.YtacefdkfbpgedaaW.PrintLast Go.Proofs.YtacefdkfbpgedaaW.PrintMore
set_option linter.unusedVariables false
set_option linter.unusedSimpArgs false
def isAt (s : ByteArray) (x : Ex) : Bool := decide (x.f0 = 1) && decide (x.f1 = s)
def cntL (s : ByteArray) (l : List Ex) : Nat := (l.filter (isAt s)).length
def cntV (s : ByteArray) (e : Ex) : Nat := cntL s (plE e)
theorem cntL_cons (s : ByteArray) (x : Ex) (l : List Ex) : cntL s (x :: l) = (if isAt s x = true then 1 else 0) + cntL s l := by
  unfold cntL
  by_cases h : isAt s x = true
  · rw [List.filter_cons_of_pos h, if_pos h, List.length_cons]; omega
  · rw [List.filter_cons_of_neg h, if_neg h]; omega
theorem cntL_append (s : ByteArray) (a b : List Ex) : cntL s (a ++ b) = cntL s a + cntL s b := by simp [cntL]
theorem cntV_eq (s : ByteArray) (e : Ex) : cntV s e = (if isAt s e = true then 1 else 0) + cntL s (plL e.f2) := by rw [cntV, plE_eq, cntL_cons]
mutual
/-- Variables have no arguments, and are of some names. -/
def leafV (vs : List ByteArray) : Ex → Prop
  | ⟨k, s, l⟩ => (k = 1 → l = [] ∧ s ∈ vs) ∧ leafL vs l
def leafL (vs : List ByteArray) : List Ex → Prop
  | [] => True
  | x :: xs => leafV vs x ∧ leafL vs xs
end
theorem leafV_eq (vs : List ByteArray) (e : Ex) : leafV vs e = ((e.f0 = 1 → e.f2 = [] ∧ e.f1 ∈ vs) ∧ leafL vs e.f2) := by cases e; simp [leafV]
section
variable {x y : ByteArray} {b0 b1 : Ex} {vs : List ByteArray}
theorem isV_two {k : Int} {s : ByteArray} : isV [x, y] k s = (decide (k = 1) && (decide (x = s) || decide (y = s))) := by simp [isV]
theorem pick_x : pickE [x, y] [b0, b1] x = b0 := by simp [pickE, List.findIdx_cons]
theorem pick_y (h : x ≠ y) : pickE [x, y] [b0, b1] y = b1 := by simp [pickE, List.findIdx_cons, h]
theorem isAt_true {s : ByteArray} {e : Ex} (h : e.f0 = 1) (h2 : e.f1 = s) : isAt s e = true := by rw [isAt, decide_eq_true h, decide_eq_true h2]; rfl
theorem isAt_ne {s : ByteArray} {e : Ex} (h2 : e.f1 ≠ s) : isAt s e = false := by rw [isAt, decide_eq_false h2, Bool.and_false]
theorem put_cases (h : x ≠ y) (e : Ex) (ho : leafV vs e) :
    (e.f0 = 1 ∧ e.f1 = x ∧ e.f2 = [] ∧ putE [x, y] [b0, b1] e = b0) ∨ (e.f0 = 1 ∧ e.f1 = y ∧ e.f2 = [] ∧ putE [x, y] [b0, b1] e = b1) ∨
    (isAt x e = false ∧ isAt y e = false ∧ putE [x, y] [b0, b1] e = ⟨e.f0, e.f1, putL [x, y] [b0, b1] e.f2⟩) := by
  rw [leafV_eq] at ho
  rw [putE_eq, isV_two]
  by_cases hk : e.f0 = 1
  · by_cases hx : x = e.f1
    · refine .inl ⟨hk, hx.symm, (ho.1 hk).1, ?_⟩
      rw [if_pos (by simp [hk, hx]), ← hx, pick_x]
    · by_cases hy : y = e.f1
      · refine .inr (.inl ⟨hk, hy.symm, (ho.1 hk).1, ?_⟩)
        rw [if_pos (by simp [hk, hy]), ← hy, pick_y h]
      · refine .inr (.inr ⟨?_, ?_, ?_⟩)
        · exact isAt_ne (fun h => hx h.symm)
        · exact isAt_ne (fun h => hy h.symm)
        · rw [if_neg (by simp [hx, hy])]
  · refine .inr (.inr ⟨?_, ?_, ?_⟩)
    · rw [isAt, decide_eq_false hk, Bool.false_and]
    · rw [isAt, decide_eq_false hk, Bool.false_and]
    · rw [if_neg (by simp [hk])]
theorem put_count (h : x ≠ y) (m : Nat) : ∀ e : Ex, szE e ≤ m → leafV vs e →
    (szE (putE [x, y] [b0, b1] e) : Int) = szE e + cntV x e * ((szE b0 : Int) - 1) + cntV y e * ((szE b1 : Int) - 1) ∧
    (∀ z, z ≠ x → z ≠ y → (cntV z (putE [x, y] [b0, b1] e) : Int) = cntV z e + (cntV x e : Int) * cntV z b0 + (cntV y e : Int) * cntV z b1) ∧ htE e ≤ htE (putE [x, y] [b0, b1] e) := by
  induction m with
  | zero => intro e h; exact absurd h (by have := szE_pos e; omega)
  | succ m ih =>
    intro e hs ho
    have hL : ∀ l : List Ex, szL l ≤ m → leafL vs l →
        (szL (putL [x, y] [b0, b1] l) : Int) = szL l + cntL x (plL l) * ((szE b0 : Int) - 1) + cntL y (plL l) * ((szE b1 : Int) - 1) ∧
        (∀ z, z ≠ x → z ≠ y → (cntL z (plL (putL [x, y] [b0, b1] l)) : Int) = cntL z (plL l) + (cntL x (plL l) : Int) * cntV z b0 + (cntL y (plL l) : Int) * cntV z b1) ∧ htL l ≤ htL (putL [x, y] [b0, b1] l) := by
      intro l
      induction l with
      | nil => intro _ _; simp [putL, szL, plL, cntL, htL]
      | cons a rest ihl =>
        intro h1 h2
        rw [szL] at h1
        rw [leafL] at h2
        obtain ⟨p1, p2, p3⟩ := ih a (by omega) h2.1
        obtain ⟨q1, q2, q3⟩ := ihl (by omega) h2.2
        rw [putL, szL, szL, plL, plL, htL, htL, cntL_append, cntL_append]
        refine ⟨?_, fun z hx hy => ?_, by omega⟩
        · rw [cntV, cntV] at p1
          simp only [Int.natCast_add, Int.add_mul]
          omega
        · have r1 := p2 z hx hy
          have r2 := q2 z hx hy
          rw [cntV, cntV, cntV, cntV] at r1
          rw [cntL_append, cntL_append]
          simp only [cntV] at r1 r2 ⊢
          simp only [Int.natCast_add, Int.add_mul]
          omega
    have hsz := szE_eq e
    rcases put_cases (b0 := b0) (b1 := b1) h e ho with ⟨h1, h2, h3, h4⟩ | ⟨h1, h2, h3, h4⟩ | ⟨h1, h2, h4⟩
    · have e1 : cntV x e = 1 := by rw [cntV_eq, isAt_true h1 h2, h3]; rfl
      have e2 : cntV y e = 0 := by rw [cntV_eq, isAt_ne (by rw [h2]; exact h), h3]; rfl
      have e3 : szE e = 1 := by rw [hsz, h3]; rfl
      rw [h4, e1, e2, e3]
      refine ⟨by omega, fun z hx hy => ?_, by rw [htE_eq, h3]; simp [htL]⟩
      have e4 : cntV z e = 0 := by rw [cntV_eq, isAt_ne (by rw [h2]; exact fun h => hx h.symm), h3]; rfl
      rw [e4]; omega
    · have e1 : cntV y e = 1 := by rw [cntV_eq, isAt_true h1 h2, h3]; rfl
      have e2 : cntV x e = 0 := by rw [cntV_eq, isAt_ne (by rw [h2]; exact fun hh => h hh.symm), h3]; rfl
      have e3 : szE e = 1 := by rw [hsz, h3]; rfl
      rw [h4, e1, e2, e3]
      refine ⟨by omega, fun z hx hy => ?_, by rw [htE_eq, h3]; simp [htL]⟩
      have e4 : cntV z e = 0 := by rw [cntV_eq, isAt_ne (by rw [h2]; exact fun h => hy h.symm), h3]; rfl
      rw [e4]; omega
    · rw [leafV_eq] at ho
      obtain ⟨p1, p2, p3⟩ := hL e.f2 (by omega) ho.2
      rw [h4]
      have e1 : cntV x e = cntL x (plL e.f2) := by rw [cntV_eq, h1]; simp
      have e2 : cntV y e = cntL y (plL e.f2) := by rw [cntV_eq, h2]; simp
      refine ⟨?_, fun z hx hy => ?_, ?_⟩
      · rw [e1, e2, szE_eq, szE_eq]
        simp only [Int.natCast_add]
        omega
      · have r := p2 z hx hy
        rw [e1, e2, cntV_eq, cntV_eq z e]
        have e3 : isAt z ⟨e.f0, e.f1, putL [x, y] [b0, b1] e.f2⟩ = isAt z e := rfl
        rw [e3]
        simp only [Int.natCast_add]
        omega
      · rw [htE_eq, htE_eq]; exact p3
end
theorem put_same {vs : List ByteArray} (m : Nat) : ∀ e : Ex, szE e ≤ m → leafV vs e → putE vs (vs.map fun s => (⟨1, s, []⟩ : Ex)) e = e := by
  induction m with
  | zero => intro e h; exact absurd h (by have := szE_pos e; omega)
  | succ m ih =>
    intro e hs ho
    have hsz := szE_eq e
    rw [leafV_eq] at ho
    have hL : ∀ l : List Ex, szL l ≤ m → leafL vs l → putL vs (vs.map fun s => (⟨1, s, []⟩ : Ex)) l = l := by
      intro l
      induction l with
      | nil => intro _ _; simp [putL]
      | cons a rest ihl =>
        intro h1 h2
        rw [szL] at h1
        rw [leafL] at h2
        rw [putL, ih a (by omega) h2.1, ihl (by omega) h2.2]
    rw [putE_eq]
    split
    · next h =>
      rw [isV, Bool.and_eq_true, decide_eq_true_eq] at h
      obtain ⟨h1, h2⟩ := ho.1 h.1
      have hf : (vs.findIdx fun x => decide (x = e.f1)) < vs.length := List.findIdx_lt_length_of_exists ⟨e.f1, h2, by simp⟩
      have hg := List.findIdx_getElem (w := hf)
      simp only [decide_eq_true_eq] at hg
      rw [pickE, List.getD_eq_getElem?_getD, List.getElem?_map, List.getElem?_eq_getElem hf, hg]
      simp only [Option.map_some, Option.getD_some]
      exact ex_ext h.1.symm rfl h1.symm
    · rw [hL e.f2 (by omega) ho.2]; cases e; rfl
theorem varsL_mem (l : List Ex) (s : ByteArray) : (varsL l).any (fun x => decide (x = s)) = decide (0 < cntL s l) := by
  have key : ∀ (l : List Ex) (a : List ByteArray), (s ∈ l.foldl (fun a x => if x.f0 = 1 then onceL a x.f1 else a) a) ↔ (s ∈ a ∨ 0 < cntL s l) := by
    intro l
    induction l with
    | nil => intro a; simp [cntL]
    | cons x xs ih =>
      intro a
      rw [List.foldl_cons, ih, cntL_cons]
      by_cases hk : x.f0 = 1
      · rw [if_pos hk]
        have hm : s ∈ onceL a x.f1 ↔ s ∈ a ∨ s = x.f1 := by
          unfold onceL
          split
          · next h =>
            obtain ⟨y, hy, e⟩ := List.any_eq_true.1 h
            have e := of_decide_eq_true e
            subst e
            exact ⟨Or.inl, fun h => h.elim id (fun e => e ▸ hy)⟩
          · simp
        rw [hm]
        by_cases he : x.f1 = s
        · rw [if_pos (isAt_true hk he)]
          exact ⟨fun _ => .inr (by omega), fun _ => .inl (.inr he.symm)⟩
        · rw [if_neg (by rw [isAt_ne he]; simp)]
          exact ⟨fun h => h.elim (fun h => h.elim .inl (fun h => absurd h.symm he)) (fun h => .inr (by omega)), fun h => h.elim (fun h => .inl (.inl h)) (fun h => .inr (by omega))⟩
      · rw [if_neg hk, if_neg (by rw [isAt, decide_eq_false hk]; simp)]
        rw [Nat.zero_add]
  rw [Bool.eq_iff_iff, List.any_eq_true, decide_eq_true_eq]
  have h := key l []
  simp only [List.not_mem_nil, false_or] at h
  rw [← h]
  exact ⟨fun ⟨x, hx, e⟩ => (of_decide_eq_true e) ▸ hx, fun hx => ⟨s, hx, by simp⟩⟩
end Go.Proofs.Ytacefdkfbpgedaa.Mine
namespace Go.Proofs.Ytacefdkfbpgedaa.Mine
open Go.Proofs.Ytacefdkfbpgedaa.PProgExprs
open Go.RowKit Go.Shelf Go.Proofs.YtacefdkfbpgedaaW.PrintWords Go.Proofs.YtacefdkfbpgedaaW.PrintLast Go.Proofs.YtacefdkfbpgedaaW.PrintMore
set_option linter.unusedVariables false
set_option linter.unusedSimpArgs false
theorem cntV_le (s : ByteArray) (e : Ex) : cntV s e ≤ szE e := by rw [cntV, cntL, ← length_plE]; exact List.length_filter_le _ _
theorem cntL_take {s : ByteArray} {l : List Ex} {k : Nat} (h : k < l.length) : cntL s (plL (l.take (k + 1))) = cntL s (plL (l.take k)) + cntV s l[k] := by rw [plL_take h, cntL_append]; rfl
theorem cntLL_le (s : ByteArray) (l : List Ex) : cntL s (plL l) ≤ szL l := by rw [cntL, ← length_plL]; exact List.length_filter_le _ _
set_option maxRecDepth 100000 in
set_option maxHeartbeats 2000000 in
theorem c_count (s : ByteArray) (m : Nat) : ∀ (e : Ex) (A : Option Addr) (c : Nat) (w : World), szE e ≤ m → szE e ≤ 1000000 → Kd.C k24 w A e.f2.length e.f2 → e.f2.length ≤ c →
    Calls Try.prog 29 #[.agg #[.int .i64 e.f0, .string e.f1, .slice A e.f2.length c], .string s] w fun en w' => en = .returned (.int .i64 (cntV s e : Int)) ∧ Below w.heap.size w w' := by
  induction m with
  | zero => intro e A c w h; exact absurd h (by have := szE_pos e; omega)
  | succ m ih =>
    intro e A c w hm hb hr hc
    have hmx := hr.2.1
    have HR := Aside0.mk hr
    have hsz := szE_eq e
    have h1 : szL e.f2 ≤ m := by omega
    have h2 : szL e.f2 ≤ 1000000 := by omega
    have hcv := cntV_eq s e
    have q0 := below_alloc1 w (.cells #[.int .i64 e.f0, .string e.f1, .slice A e.f2.length c] 24)
    have Q0 := Aside0.mk q0
    clear hr hm hb hsz q0
    cases t0 : (e.f0 == 1) with
    | true =>
      have g0 : e.f0 = 1 := by simpa using t0
      cases t1 : (e.f1.toList == s.toList) with
      | true =>
        have g1 : e.f1 = s := by rw [sEq] at t1; simpa using t1
        rw [if_pos (isAt_true g0 g1)] at hcv
        have HS := Lib.hid hcv
        clear hcv g0 g1
        go_enter Try.func29, Try.ntmps29
        go_wp2
        go_loopg [5, 20] e.f2.length (fun gg s5 s20 wr => ∃ kk : Nat, kk ≤ e.f2.length ∧ e.f2.length - kk ≤ gg ∧ s20 = .int .i64 kk ∧ s5 = .int .i64 (1 + cntL s (plL (e.f2.take kk)) : Int) ∧ Aside0 (Below w.heap.size w wr))
        case atStart => exact ⟨0, Nat.zero_le _, by omega, rfl, by simp [plL, cntL], Q0⟩
        case round =>
          obtain ⟨kk, hkk, hg, rfl, rfl, HB⟩ := hrel
          by_cases hlt : kk < e.f2.length
          · have hltz : (kk : Int) < (e.f2.length : Int) := by omega
            obtain ⟨ad, c0, c1, c2, rfl, hK, k0, k1, k2⟩ := get3 rfl (Kd.C_below HR.out HB.out) kk hlt
            obtain ⟨A2, a2, rfl, rfl, rfl, hl2, hi2⟩ := kE_cells hK
            have q1 := below_alloc1 wr (.cells #[.int .i64 e.f2[kk].f0, .string e.f2[kk].f1, .slice A2 e.f2[kk].f2.length a2] 24)
            have hmem : e.f2[kk] ∈ e.f2 := List.getElem_mem hlt
            have hle := szL_mem hmem
            have hcall := ih e.f2[kk] A2 a2 (wr.alloc (.cells #[.int .i64 e.f2[kk].f0, .string e.f2[kk].f1, .slice A2 e.f2[kk].f2.length a2] 24)) (by omega) (by omega) (Kd.C_below hi2 q1) hl2
            have hbd : cntV s e.f2[kk] ≤ 1000000 := Nat.le_trans (cntV_le _ _) (by omega)
            have hbl : cntL s (plL (e.f2.take kk)) ≤ 1000000 := Nat.le_trans (cntLL_le _ _) (by have := szL_take_le e.f2 kk; omega)
            have Q1 := Aside0.mk q1
            have HC := Lib.hid hcall
            clear hK hi2 hl2 q1 hmem hle hcall
            go_wp2_with fail
            refine HC.out.mono ?_
            rintro en w' ⟨rfl, hb⟩
            have HB2 := Aside0.mk (HB.out.trans ((Q1.out.trans (hb.mono Q1.out.size)).mono HB.out.size))
            clear hb
            go_wp2
            go_roundg (e.f2.length - (kk + 1))
            case measure => omega
            case rel => exact ⟨kk + 1, by omega, by omega, by go_num, by rw [cntL_take hlt]; go_num, HB2⟩
          · have : kk = e.f2.length := by omega
            subst this
            go_wp2
            go_ret
            exact ⟨reti (by rw [List.take_of_length_le (Nat.le_refl _), HS.out]; try (first | rfl | (push_cast; rfl) | simp)), HB.out⟩
      | false =>
        have g1 : e.f1 ≠ s := by rw [sEq] at t1; simpa using t1
        rw [if_neg (by rw [isAt_ne g1]; simp), Nat.zero_add] at hcv
        have HS := Lib.hid hcv
        clear hcv g0 g1
        go_enter Try.func29, Try.ntmps29
        go_wp2
        go_loopg [5, 20] e.f2.length (fun gg s5 s20 wr => ∃ kk : Nat, kk ≤ e.f2.length ∧ e.f2.length - kk ≤ gg ∧ s20 = .int .i64 kk ∧ s5 = .int .i64 (cntL s (plL (e.f2.take kk)) : Int) ∧ Aside0 (Below w.heap.size w wr))
        case atStart => exact ⟨0, Nat.zero_le _, by omega, rfl, by simp [plL, cntL], Q0⟩
        case round =>
          obtain ⟨kk, hkk, hg, rfl, rfl, HB⟩ := hrel
          by_cases hlt : kk < e.f2.length
          · have hltz : (kk : Int) < (e.f2.length : Int) := by omega
            obtain ⟨ad, c0, c1, c2, rfl, hK, k0, k1, k2⟩ := get3 rfl (Kd.C_below HR.out HB.out) kk hlt
            obtain ⟨A2, a2, rfl, rfl, rfl, hl2, hi2⟩ := kE_cells hK
            have q1 := below_alloc1 wr (.cells #[.int .i64 e.f2[kk].f0, .string e.f2[kk].f1, .slice A2 e.f2[kk].f2.length a2] 24)
            have hmem : e.f2[kk] ∈ e.f2 := List.getElem_mem hlt
            have hle := szL_mem hmem
            have hcall := ih e.f2[kk] A2 a2 (wr.alloc (.cells #[.int .i64 e.f2[kk].f0, .string e.f2[kk].f1, .slice A2 e.f2[kk].f2.length a2] 24)) (by omega) (by omega) (Kd.C_below hi2 q1) hl2
            have hbd : cntV s e.f2[kk] ≤ 1000000 := Nat.le_trans (cntV_le _ _) (by omega)
            have hbl : cntL s (plL (e.f2.take kk)) ≤ 1000000 := Nat.le_trans (cntLL_le _ _) (by have := szL_take_le e.f2 kk; omega)
            have Q1 := Aside0.mk q1
            have HC := Lib.hid hcall
            clear hK hi2 hl2 q1 hmem hle hcall
            go_wp2_with fail
            refine HC.out.mono ?_
            rintro en w' ⟨rfl, hb⟩
            have HB2 := Aside0.mk (HB.out.trans ((Q1.out.trans (hb.mono Q1.out.size)).mono HB.out.size))
            clear hb
            go_wp2
            go_roundg (e.f2.length - (kk + 1))
            case measure => omega
            case rel => exact ⟨kk + 1, by omega, by omega, by go_num, by rw [cntL_take hlt]; go_num, HB2⟩
          · have : kk = e.f2.length := by omega
            subst this
            go_wp2
            go_ret
            exact ⟨reti (by rw [List.take_of_length_le (Nat.le_refl _), HS.out]; try (first | rfl | (push_cast; rfl) | simp)), HB.out⟩
    | false =>
      have g0 : ¬ e.f0 = 1 := by simpa using t0
      rw [if_neg (by rw [isAt, decide_eq_false g0]; simp), Nat.zero_add] at hcv
      have HS := Lib.hid hcv
      clear hcv g0
      go_enter Try.func29, Try.ntmps29
      go_wp2
      go_loopg [5, 20] e.f2.length (fun gg s5 s20 wr => ∃ kk : Nat, kk ≤ e.f2.length ∧ e.f2.length - kk ≤ gg ∧ s20 = .int .i64 kk ∧ s5 = .int .i64 (cntL s (plL (e.f2.take kk)) : Int) ∧ Aside0 (Below w.heap.size w wr))
      case atStart => exact ⟨0, Nat.zero_le _, by omega, rfl, by simp [plL, cntL], Q0⟩
      case round =>
        obtain ⟨kk, hkk, hg, rfl, rfl, HB⟩ := hrel
        by_cases hlt : kk < e.f2.length
        · have hltz : (kk : Int) < (e.f2.length : Int) := by omega
          obtain ⟨ad, c0, c1, c2, rfl, hK, k0, k1, k2⟩ := get3 rfl (Kd.C_below HR.out HB.out) kk hlt
          obtain ⟨A2, a2, rfl, rfl, rfl, hl2, hi2⟩ := kE_cells hK
          have q1 := below_alloc1 wr (.cells #[.int .i64 e.f2[kk].f0, .string e.f2[kk].f1, .slice A2 e.f2[kk].f2.length a2] 24)
          have hmem : e.f2[kk] ∈ e.f2 := List.getElem_mem hlt
          have hle := szL_mem hmem
          have hcall := ih e.f2[kk] A2 a2 (wr.alloc (.cells #[.int .i64 e.f2[kk].f0, .string e.f2[kk].f1, .slice A2 e.f2[kk].f2.length a2] 24)) (by omega) (by omega) (Kd.C_below hi2 q1) hl2
          have hbd : cntV s e.f2[kk] ≤ 1000000 := Nat.le_trans (cntV_le _ _) (by omega)
          have hbl : cntL s (plL (e.f2.take kk)) ≤ 1000000 := Nat.le_trans (cntLL_le _ _) (by have := szL_take_le e.f2 kk; omega)
          have Q1 := Aside0.mk q1
          have HC := Lib.hid hcall
          clear hK hi2 hl2 q1 hmem hle hcall
          go_wp2_with fail
          refine HC.out.mono ?_
          rintro en w' ⟨rfl, hb⟩
          have HB2 := Aside0.mk (HB.out.trans ((Q1.out.trans (hb.mono Q1.out.size)).mono HB.out.size))
          clear hb
          go_wp2
          go_roundg (e.f2.length - (kk + 1))
          case measure => omega
          case rel => exact ⟨kk + 1, by omega, by omega, by go_num, by rw [cntL_take hlt]; go_num, HB2⟩
        · have : kk = e.f2.length := by omega
          subst this
          go_wp2
          go_ret
          exact ⟨reti (by rw [List.take_of_length_le (Nat.le_refl _), HS.out]; try (first | rfl | (push_cast; rfl) | simp)), HB.out⟩
end Go.Proofs.Ytacefdkfbpgedaa.Mine
namespace Go.Proofs.Ytacefdkfbpgedaa.Mine
open Go.Proofs.Ytacefdkfbpgedaa.PProgExprs
open Go.RowKit Go.Shelf Go.Proofs.YtacefdkfbpgedaaW.PrintWords Go.Proofs.YtacefdkfbpgedaaW.PrintLast Go.Proofs.YtacefdkfbpgedaaW.PrintMore
set_option linter.unusedVariables false
set_option linter.unusedSimpArgs false
set_option maxHeartbeats 2000000 in
theorem c_Mod (v n : Nat) (w : World) (hn : 0 < n) (hn2 : n ≤ 1000000) (hv : v ≤ 1000000) :
    Calls Try.prog 87 #[.int .i64 (v : Int), .int .i64 (n : Int)] w fun en w' => en = .returned (.int .i64 ((v % n : Nat) : Int)) ∧ w' = w := by
  have t1 : decide ((n : Int) < 1) = false := decide_eq_false (by omega)
  have hnz : ¬ ((n : Int) = 0) := by omega
  have hnn : ¬ (n = 0) := by omega
  obtain ⟨q, hq⟩ : ∃ q, v % n = q := ⟨_, rfl⟩
  have hmod : (v : Int) % (n : Int) = (q : Int) := by rw [← hq]; exact (Int.natCast_emod v n).symm
  have hmodt : (v : Int).tmod (n : Int) = (q : Int) := by rw [Int.tmod_eq_emod_of_nonneg (by omega)]; exact hmod
  have t2 : decide ((q : Int) < 0) = false := decide_eq_false (by omega)
  rw [hq]
  clear hq
  go_enter Try.func87, Try.ntmps87
  go_wp2_with fail
  go_ret
  exact ⟨rfl, rfl⟩
def nameN (n : Nat) : ByteArray := ⟨#[102, 97 + n.toUInt8]⟩
set_option maxRecDepth 100000 in
set_option maxHeartbeats 4000000 in
theorem c_name (n : Nat) (w : World) (hn : n < 26) :
    Calls Try.prog 72 #[.int .i64 (n : Int)] w fun en w' => en = .returned (.string (nameN n)) ∧ w' = w := by
  rcases (show n = 0 ∨ n = 1 ∨ n = 2 ∨ n = 3 ∨ n = 4 ∨ n = 5 ∨ n = 6 ∨ n = 7 ∨ n = 8 ∨ n = 9 ∨ n = 10 ∨ n = 11 ∨ n = 12 ∨ n = 13 ∨ n = 14 ∨ n = 15 ∨ n = 16 ∨ n = 17 ∨ n = 18 ∨ n = 19 ∨ n = 20 ∨ n = 21 ∨ n = 22 ∨ n = 23 ∨ n = 24 ∨ n = 25 by omega) with rfl | rfl | rfl | rfl | rfl | rfl | rfl | rfl | rfl | rfl | rfl | rfl | rfl | rfl | rfl | rfl | rfl | rfl | rfl | rfl | rfl | rfl | rfl | rfl | rfl | rfl
  · have HC := Lib.hid (show Calls Try.prog 87 #[.int .i64 0, .int .i64 26] w fun en w' => en = .returned (.int .i64 0) ∧ w' = w from c_Mod 0 26 w (by decide) (by decide) (by decide))
    go_enter Try.func72, Try.ntmps72
    go_wp2_with fail
    refine HC.out.mono ?_
    rintro en w' ⟨rfl, rfl⟩
    go_wp2_with fail
    go_ret
    exact ⟨rfl, rfl⟩
  · have HC := Lib.hid (show Calls Try.prog 87 #[.int .i64 1, .int .i64 26] w fun en w' => en = .returned (.int .i64 1) ∧ w' = w from c_Mod 1 26 w (by decide) (by decide) (by decide))
    go_enter Try.func72, Try.ntmps72
    go_wp2_with fail
    refine HC.out.mono ?_
    rintro en w' ⟨rfl, rfl⟩
    go_wp2_with fail
    go_ret
    exact ⟨rfl, rfl⟩
  · have HC := Lib.hid (show Calls Try.prog 87 #[.int .i64 2, .int .i64 26] w fun en w' => en = .returned (.int .i64 2) ∧ w' = w from c_Mod 2 26 w (by decide) (by decide) (by decide))
    go_enter Try.func72, Try.ntmps72
    go_wp2_with fail
    refine HC.out.mono ?_
    rintro en w' ⟨rfl, rfl⟩
    go_wp2_with fail
    go_ret
    exact ⟨rfl, rfl⟩
  · have HC := Lib.hid (show Calls Try.prog 87 #[.int .i64 3, .int .i64 26] w fun en w' => en = .returned (.int .i64 3) ∧ w' = w from c_Mod 3 26 w (by decide) (by decide) (by decide))
    go_enter Try.func72, Try.ntmps72
    go_wp2_with fail
    refine HC.out.mono ?_
    rintro en w' ⟨rfl, rfl⟩
    go_wp2_with fail
    go_ret
    exact ⟨rfl, rfl⟩
  · have HC := Lib.hid (show Calls Try.prog 87 #[.int .i64 4, .int .i64 26] w fun en w' => en = .returned (.int .i64 4) ∧ w' = w from c_Mod 4 26 w (by decide) (by decide) (by decide))
    go_enter Try.func72, Try.ntmps72
    go_wp2_with fail
    refine HC.out.mono ?_
    rintro en w' ⟨rfl, rfl⟩
    go_wp2_with fail
    go_ret
    exact ⟨rfl, rfl⟩
  · have HC := Lib.hid (show Calls Try.prog 87 #[.int .i64 5, .int .i64 26] w fun en w' => en = .returned (.int .i64 5) ∧ w' = w from c_Mod 5 26 w (by decide) (by decide) (by decide))
    go_enter Try.func72, Try.ntmps72
    go_wp2_with fail
    refine HC.out.mono ?_
    rintro en w' ⟨rfl, rfl⟩
    go_wp2_with fail
    go_ret
    exact ⟨rfl, rfl⟩
  · have HC := Lib.hid (show Calls Try.prog 87 #[.int .i64 6, .int .i64 26] w fun en w' => en = .returned (.int .i64 6) ∧ w' = w from c_Mod 6 26 w (by decide) (by decide) (by decide))
    go_enter Try.func72, Try.ntmps72
    go_wp2_with fail
    refine HC.out.mono ?_
    rintro en w' ⟨rfl, rfl⟩
    go_wp2_with fail
    go_ret
    exact ⟨rfl, rfl⟩
  · have HC := Lib.hid (show Calls Try.prog 87 #[.int .i64 7, .int .i64 26] w fun en w' => en = .returned (.int .i64 7) ∧ w' = w from c_Mod 7 26 w (by decide) (by decide) (by decide))
    go_enter Try.func72, Try.ntmps72
    go_wp2_with fail
    refine HC.out.mono ?_
    rintro en w' ⟨rfl, rfl⟩
    go_wp2_with fail
    go_ret
    exact ⟨rfl, rfl⟩
  · have HC := Lib.hid (show Calls Try.prog 87 #[.int .i64 8, .int .i64 26] w fun en w' => en = .returned (.int .i64 8) ∧ w' = w from c_Mod 8 26 w (by decide) (by decide) (by decide))
    go_enter Try.func72, Try.ntmps72
    go_wp2_with fail
    refine HC.out.mono ?_
    rintro en w' ⟨rfl, rfl⟩
    go_wp2_with fail
    go_ret
    exact ⟨rfl, rfl⟩
  · have HC := Lib.hid (show Calls Try.prog 87 #[.int .i64 9, .int .i64 26] w fun en w' => en = .returned (.int .i64 9) ∧ w' = w from c_Mod 9 26 w (by decide) (by decide) (by decide))
    go_enter Try.func72, Try.ntmps72
    go_wp2_with fail
    refine HC.out.mono ?_
    rintro en w' ⟨rfl, rfl⟩
    go_wp2_with fail
    go_ret
    exact ⟨rfl, rfl⟩
  · have HC := Lib.hid (show Calls Try.prog 87 #[.int .i64 10, .int .i64 26] w fun en w' => en = .returned (.int .i64 10) ∧ w' = w from c_Mod 10 26 w (by decide) (by decide) (by decide))
    go_enter Try.func72, Try.ntmps72
    go_wp2_with fail
    refine HC.out.mono ?_
    rintro en w' ⟨rfl, rfl⟩
    go_wp2_with fail
    go_ret
    exact ⟨rfl, rfl⟩
  · have HC := Lib.hid (show Calls Try.prog 87 #[.int .i64 11, .int .i64 26] w fun en w' => en = .returned (.int .i64 11) ∧ w' = w from c_Mod 11 26 w (by decide) (by decide) (by decide))
    go_enter Try.func72, Try.ntmps72
    go_wp2_with fail
    refine HC.out.mono ?_
    rintro en w' ⟨rfl, rfl⟩
    go_wp2_with fail
    go_ret
    exact ⟨rfl, rfl⟩
  · have HC := Lib.hid (show Calls Try.prog 87 #[.int .i64 12, .int .i64 26] w fun en w' => en = .returned (.int .i64 12) ∧ w' = w from c_Mod 12 26 w (by decide) (by decide) (by decide))
    go_enter Try.func72, Try.ntmps72
    go_wp2_with fail
    refine HC.out.mono ?_
    rintro en w' ⟨rfl, rfl⟩
    go_wp2_with fail
    go_ret
    exact ⟨rfl, rfl⟩
  · have HC := Lib.hid (show Calls Try.prog 87 #[.int .i64 13, .int .i64 26] w fun en w' => en = .returned (.int .i64 13) ∧ w' = w from c_Mod 13 26 w (by decide) (by decide) (by decide))
    go_enter Try.func72, Try.ntmps72
    go_wp2_with fail
    refine HC.out.mono ?_
    rintro en w' ⟨rfl, rfl⟩
    go_wp2_with fail
    go_ret
    exact ⟨rfl, rfl⟩
  · have HC := Lib.hid (show Calls Try.prog 87 #[.int .i64 14, .int .i64 26] w fun en w' => en = .returned (.int .i64 14) ∧ w' = w from c_Mod 14 26 w (by decide) (by decide) (by decide))
    go_enter Try.func72, Try.ntmps72
    go_wp2_with fail
    refine HC.out.mono ?_
    rintro en w' ⟨rfl, rfl⟩
    go_wp2_with fail
    go_ret
    exact ⟨rfl, rfl⟩
  · have HC := Lib.hid (show Calls Try.prog 87 #[.int .i64 15, .int .i64 26] w fun en w' => en = .returned (.int .i64 15) ∧ w' = w from c_Mod 15 26 w (by decide) (by decide) (by decide))
    go_enter Try.func72, Try.ntmps72
    go_wp2_with fail
    refine HC.out.mono ?_
    rintro en w' ⟨rfl, rfl⟩
    go_wp2_with fail
    go_ret
    exact ⟨rfl, rfl⟩
  · have HC := Lib.hid (show Calls Try.prog 87 #[.int .i64 16, .int .i64 26] w fun en w' => en = .returned (.int .i64 16) ∧ w' = w from c_Mod 16 26 w (by decide) (by decide) (by decide))
    go_enter Try.func72, Try.ntmps72
    go_wp2_with fail
    refine HC.out.mono ?_
    rintro en w' ⟨rfl, rfl⟩
    go_wp2_with fail
    go_ret
    exact ⟨rfl, rfl⟩
  · have HC := Lib.hid (show Calls Try.prog 87 #[.int .i64 17, .int .i64 26] w fun en w' => en = .returned (.int .i64 17) ∧ w' = w from c_Mod 17 26 w (by decide) (by decide) (by decide))
    go_enter Try.func72, Try.ntmps72
    go_wp2_with fail
    refine HC.out.mono ?_
    rintro en w' ⟨rfl, rfl⟩
    go_wp2_with fail
    go_ret
    exact ⟨rfl, rfl⟩
  · have HC := Lib.hid (show Calls Try.prog 87 #[.int .i64 18, .int .i64 26] w fun en w' => en = .returned (.int .i64 18) ∧ w' = w from c_Mod 18 26 w (by decide) (by decide) (by decide))
    go_enter Try.func72, Try.ntmps72
    go_wp2_with fail
    refine HC.out.mono ?_
    rintro en w' ⟨rfl, rfl⟩
    go_wp2_with fail
    go_ret
    exact ⟨rfl, rfl⟩
  · have HC := Lib.hid (show Calls Try.prog 87 #[.int .i64 19, .int .i64 26] w fun en w' => en = .returned (.int .i64 19) ∧ w' = w from c_Mod 19 26 w (by decide) (by decide) (by decide))
    go_enter Try.func72, Try.ntmps72
    go_wp2_with fail
    refine HC.out.mono ?_
    rintro en w' ⟨rfl, rfl⟩
    go_wp2_with fail
    go_ret
    exact ⟨rfl, rfl⟩
  · have HC := Lib.hid (show Calls Try.prog 87 #[.int .i64 20, .int .i64 26] w fun en w' => en = .returned (.int .i64 20) ∧ w' = w from c_Mod 20 26 w (by decide) (by decide) (by decide))
    go_enter Try.func72, Try.ntmps72
    go_wp2_with fail
    refine HC.out.mono ?_
    rintro en w' ⟨rfl, rfl⟩
    go_wp2_with fail
    go_ret
    exact ⟨rfl, rfl⟩
  · have HC := Lib.hid (show Calls Try.prog 87 #[.int .i64 21, .int .i64 26] w fun en w' => en = .returned (.int .i64 21) ∧ w' = w from c_Mod 21 26 w (by decide) (by decide) (by decide))
    go_enter Try.func72, Try.ntmps72
    go_wp2_with fail
    refine HC.out.mono ?_
    rintro en w' ⟨rfl, rfl⟩
    go_wp2_with fail
    go_ret
    exact ⟨rfl, rfl⟩
  · have HC := Lib.hid (show Calls Try.prog 87 #[.int .i64 22, .int .i64 26] w fun en w' => en = .returned (.int .i64 22) ∧ w' = w from c_Mod 22 26 w (by decide) (by decide) (by decide))
    go_enter Try.func72, Try.ntmps72
    go_wp2_with fail
    refine HC.out.mono ?_
    rintro en w' ⟨rfl, rfl⟩
    go_wp2_with fail
    go_ret
    exact ⟨rfl, rfl⟩
  · have HC := Lib.hid (show Calls Try.prog 87 #[.int .i64 23, .int .i64 26] w fun en w' => en = .returned (.int .i64 23) ∧ w' = w from c_Mod 23 26 w (by decide) (by decide) (by decide))
    go_enter Try.func72, Try.ntmps72
    go_wp2_with fail
    refine HC.out.mono ?_
    rintro en w' ⟨rfl, rfl⟩
    go_wp2_with fail
    go_ret
    exact ⟨rfl, rfl⟩
  · have HC := Lib.hid (show Calls Try.prog 87 #[.int .i64 24, .int .i64 26] w fun en w' => en = .returned (.int .i64 24) ∧ w' = w from c_Mod 24 26 w (by decide) (by decide) (by decide))
    go_enter Try.func72, Try.ntmps72
    go_wp2_with fail
    refine HC.out.mono ?_
    rintro en w' ⟨rfl, rfl⟩
    go_wp2_with fail
    go_ret
    exact ⟨rfl, rfl⟩
  · have HC := Lib.hid (show Calls Try.prog 87 #[.int .i64 25, .int .i64 26] w fun en w' => en = .returned (.int .i64 25) ∧ w' = w from c_Mod 25 26 w (by decide) (by decide) (by decide))
    go_enter Try.func72, Try.ntmps72
    go_wp2_with fail
    refine HC.out.mono ?_
    rintro en w' ⟨rfl, rfl⟩
    go_wp2_with fail
    go_ret
    exact ⟨rfl, rfl⟩
end Go.Proofs.Ytacefdkfbpgedaa.Mine
namespace Go.Proofs.Ytacefdkfbpgedaa.Mine
open Go.Proofs.Ytacefdkfbpgedaa.PProgExprs
open Go.RowKit Go.Shelf Go.Proofs.YtacefdkfbpgedaaW.PrintWords Go.Proofs.YtacefdkfbpgedaaW.PrintLast Go.Proofs.YtacefdkfbpgedaaW.PrintMore
set_option linter.unusedVariables false
set_option linter.unusedSimpArgs false
def headOk (s : ByteArray) (n : Nat) : Prop :=
  (n = 0 ∧ (s = ⟨#[97]⟩ ∨ s = ⟨#[110, 105, 108]⟩)) ∨ (n = 1 ∧ (s = ⟨#[115]⟩ ∨ s = ⟨#[117]⟩)) ∨ (n = 2 ∧ (s = ⟨#[99, 111, 110, 115]⟩ ∨ s = ⟨#[112]⟩))
mutual
/-- What is made: variables of some names, nodes, and calls with the right numbers of arguments; within: in arguments of a call. -/
def GenE (vs : List ByteArray) (ars : List Nat) (nested : Bool) : Bool → Ex → Prop
  | within, ⟨k, s, l⟩ => (k = 1 ∧ l = [] ∧ s ∈ vs) ∨ (k = 2 ∧ headOk s l.length ∧ GenL vs ars nested within l) ∨
      (k = 3 ∧ (nested = true ∨ within = false) ∧ (∃ n, ars[n]? = some l.length ∧ s = nameN n) ∧ GenL vs ars nested true l)
def GenL (vs : List ByteArray) (ars : List Nat) (nested : Bool) : Bool → List Ex → Prop
  | _, [] => True
  | within, x :: xs => GenE vs ars nested within x ∧ GenL vs ars nested within xs
end
theorem genE_eq (vs : List ByteArray) (ars : List Nat) (nested within : Bool) (e : Ex) : GenE vs ars nested within e = ((e.f0 = 1 ∧ e.f2 = [] ∧ e.f1 ∈ vs) ∨ (e.f0 = 2 ∧ headOk e.f1 e.f2.length ∧ GenL vs ars nested within e.f2) ∨
      (e.f0 = 3 ∧ (nested = true ∨ within = false) ∧ (∃ n, ars[n]? = some e.f2.length ∧ e.f1 = nameN n) ∧ GenL vs ars nested true e.f2)) := by cases e; rw [GenE]
theorem genL_iff {vs : List ByteArray} {ars : List Nat} {nested within : Bool} : ∀ {l : List Ex}, GenL vs ars nested within l ↔ ∀ x ∈ l, GenE vs ars nested within x
  | [] => by simp [GenL]
  | x :: xs => by rw [GenL, genL_iff (l := xs)]; simp
theorem genL_snoc {vs : List ByteArray} {ars : List Nat} {nested within : Bool} {l : List Ex} {x : Ex} (h : GenL vs ars nested within l) (hx : GenE vs ars nested within x) : GenL vs ars nested within (l ++ [x]) := by
  rw [genL_iff] at h ⊢
  intro y hy
  rcases List.mem_append.1 hy with hy | hy
  · exact h y hy
  · rw [List.mem_singleton.1 hy]; exact hx
theorem szL_snoc (l : List Ex) (x : Ex) : szL (l ++ [x]) = szL l + szE x := by
  induction l with
  | nil => simp [szL]
  | cons y ys ih => rw [List.cons_append, szL, szL, ih]; omega
def exS : Nat → Nat
  | 0 => 1
  | d + 1 => 1 + 2 * exS d
def exD : Nat → Nat
  | 0 => 2
  | d + 1 => 3 + 2 * exD d
theorem leaf_of_gen {vs : List ByteArray} {ars : List Nat} {nested : Bool} (m : Nat) : ∀ (within : Bool) (e : Ex), szE e ≤ m → GenE vs ars nested within e → leafV vs e := by
  induction m with
  | zero => intro within e h; exact absurd h (by have := szE_pos e; omega)
  | succ m ih =>
    intro within e hm h
    have hL : ∀ (w : Bool) (l : List Ex), szL l ≤ m → GenL vs ars nested w l → leafL vs l := by
      intro w l
      induction l with
      | nil => intro _ _; simp [leafL]
      | cons x xs ihl =>
        intro h1 h2
        rw [szL] at h1
        rw [GenL] at h2
        rw [leafL]
        exact ⟨ih w x (by omega) h2.1, ihl (by omega) h2.2⟩
    have hs := szE_eq e
    rw [genE_eq] at h
    rw [leafV_eq]
    rcases h with ⟨h1, h2, h3⟩ | ⟨h1, _, h3⟩ | ⟨h1, _, _, h3⟩
    · exact ⟨fun _ => ⟨h2, h3⟩, by rw [h2]; simp [leafL]⟩
    · exact ⟨fun h => absurd (h1.symm.trans h) (by decide), hL _ _ (by omega) h3⟩
    · exact ⟨fun h => absurd (h1.symm.trans h) (by decide), hL _ _ (by omega) h3⟩
end Go.Proofs.Ytacefdkfbpgedaa.Mine
