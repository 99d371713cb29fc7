/- Contracts: total, Size, Height, left, BigExpr, long. -/
import Derived.Test.YtacefdkfbpgedaaQ1
import Derived.BigQuiet
import Derived.Deep.RegionHeld3
import Derived.Maps.OwnOps
import Derived.Maps.Views
import Derived.Maps.OwnSet
namespace Go.Proofs.Ytacefdkfbpgedaa.Mine
open Go.Proofs.Ytacefdkfbpgedaa.PProgExprs
open Go.RowKit Go.Proofs.YtacefdkfbpgedaaW.PrintWords Go.Proofs.YtacefdkfbpgedaaW.PrintLast Go.Proofs.YtacefdkfbpgedaaW.PrintMore
set_option linter.unusedVariables false
attribute [local go_sem] max2_int min2_int max_two min_two
set_option linter.unusedSimpArgs false

theorem infoInt : (Try.prog.info? 3).map (fun i => (i.zero, i.size, i.bytes)) = some (some (.int .i64 0), 1, 8) := by kernel_rfl

def sumI (l : List Int) : Int := l.foldl (· + ·) 0
theorem sumI_append (a : List Int) (x : Int) : sumI (a ++ [x]) = sumI a + x := by simp [sumI]

set_option maxHeartbeats 1000000 in
theorem c_total (n : Int) (A : Option Addr) (c : Nat) (l : List Int) (w : World) (hr : Kd.C (Kd.int .i64) w A l.length l) (hc : l.length ≤ c) (hn : 0 ≤ n) (hl : ∀ x ∈ l, 0 ≤ x) (hs : n + sumI l ≤ 9223372036854775807) :
    Calls Try.prog 63 #[.int .i64 n, .slice A l.length c] w fun e w' => e = .returned (.int .i64 (n + sumI l)) ∧ Below w.heap.size w w' := by
  have hm := hr.2.1
  have HR := Aside0.mk hr
  have mono : ∀ k, k ≤ l.length → 0 ≤ sumI (l.take k) ∧ sumI (l.take k) ≤ sumI l := by
    intro k
    have pos : ∀ (a b : List Int), (∀ x ∈ b, 0 ≤ x) → sumI a ≤ sumI (a ++ b) := by
      intro a b
      induction b generalizing a with
      | nil => intro _; simp
      | cons x xs ih =>
        intro h
        have := ih (a ++ [x]) (fun y hy => h y (List.mem_cons_of_mem _ hy))
        have h0 := h x List.mem_cons_self
        rw [sumI_append] at this
        simp only [List.append_assoc, List.singleton_append] at this
        omega
    intro _
    have h1 := pos (l.take k) (l.drop k) (fun x hx => hl x (List.mem_of_mem_drop hx))
    have h2 := pos [] (l.take k) (fun x hx => hl x (List.mem_of_mem_take hx))
    rw [List.take_append_drop] at h1
    simp only [List.nil_append] at h2
    exact ⟨h2, h1⟩
  have HM := Aside0.mk mono
  clear mono hr hl
  go_enter Try.func63, Try.ntmps63
  go_wp2
  go_loopg [0, 6, 9] l.length (fun gg s0 _ s9 wr => ∃ kk : Nat, kk ≤ l.length ∧ l.length - kk ≤ gg ∧ s9 = .int .i64 kk ∧ s0 = .int .i64 (n + sumI (l.take kk)) ∧ wr = w)
  case atStart => exact ⟨0, Nat.zero_le _, by omega, rfl, by simp [sumI], rfl⟩
  case round =>
    obtain ⟨kk, hkk, hg, rfl, rfl, rfl⟩ := hrel
    have m1 := HM.out kk hkk
    by_cases hlt : kk < l.length
    · have hltz : (kk : Int) < (l.length : Int) := by omega
      obtain ⟨ad, c0, rfl, hK, k0⟩ := get1 rfl HR.out kk hlt
      obtain rfl : c0 = .int .i64 l[kk] := by simpa [Kd.int, Kd.scalar] using hK
      have m2 := HM.out (kk + 1) hlt
      have hsn : sumI (l.take (kk + 1)) = sumI (l.take kk) + l[kk] := by rw [take_snoc hlt, sumI_append]
      have m3 : 0 ≤ n + sumI (l.take kk) + l[kk] ∧ n + sumI (l.take kk) + l[kk] ≤ 9223372036854775807 := by omega
      have HS := Lib.hid hsn
      clear hsn hK
      go_wp2
      go_roundg (l.length - (kk + 1))
      case measure => omega
      case rel => exact ⟨kk + 1, by omega, by omega, by go_num, by rw [HS.out]; go_num, rfl⟩
    · have : kk = l.length := by omega
      subst this
      go_wp2
      go_ret
      exact ⟨reti (by rw [List.take_of_length_le (Nat.le_refl _)]), Below.refl _ _⟩

theorem sumI_sz (l : List Ex) : sumI (l.map fun x => (szE x : Int)) = (szL l : Int) := by
  have key : ∀ (l : List Ex) (a : Int), (l.map fun x => (szE x : Int)).foldl (· + ·) a = a + (szL l : Int) := by
    intro l
    induction l with
    | nil => intro a; simp [szL]
    | cons x xs ih => intro a; simp only [List.map_cons, List.foldl_cons, ih, szL]; omega
  simp [sumI, key]

/-- What an expression's cells are. -/
theorem kE_cells {W : World} {x : Ex} {c0 c1 c2 : Value} (h : k24.K W x [c0, c1, c2]) : ∃ A c, c0 = .int .i64 x.f0 ∧ c1 = .string x.f1 ∧ c2 = .slice A x.f2.length c ∧ x.f2.length ≤ c ∧ k24.C W A x.f2.length x.f2 := by
  obtain ⟨A, c, e, l, g⟩ := k24_open h
  have : c0 = .int .i64 x.f0 ∧ c1 = .string x.f1 ∧ c2 = .slice A x.f2.length c := by simpa using e
  exact ⟨A, c, this.1, this.2.1, this.2.2, l, g⟩

set_option maxHeartbeats 2000000 in
theorem c_Size (n : Nat) : ∀ (e : Ex) (A : Option Addr) (c : Nat) (w : World), szE e ≤ n → szE e ≤ 1000000 → Kd.C k24 w A e.f2.length e.f2 → e.f2.length ≤ c →
    Calls Try.prog 17 #[.agg #[.int .i64 e.f0, .string e.f1, .slice A e.f2.length c]] w fun en w' => en = .returned (.int .i64 (szE e : Int)) ∧ Below w.heap.size w w' := by
  induction n with
  | zero => intro e A c w h; exact absurd h (by have := szE_pos e; omega)
  | succ n ih =>
    intro e A c w hn hb hr hc
    have hu := Try.underlying46
    have hm := hr.2.1
    have HR := Aside0.mk hr
    have hsz := szE_eq e
    have h1 : szL e.f2 ≤ n := by omega
    have h2 : szL e.f2 ≤ 1000000 := by omega
    have HS := Lib.hid hsz
    have hlen : e.f2.length ≤ 1000000 := by
      have : ∀ l : List Ex, l.length ≤ szL l := by
        intro l
        induction l with
        | nil => simp
        | cons x xs ih => rw [szL, List.length_cons]; have := szE_pos x; omega
      have := this e.f2; omega
    have q0 := below_alloc1 w (.cells #[.int .i64 e.f0, .string e.f1, .slice A e.f2.length c] 24)
    have Q0 := Aside0.mk q0
    clear hr hn hb hsz q0
    go_enter Try.func17, Try.ntmps17
    go_wp2
    go_loopg [3, 5, 9] e.f2.length (fun gg s3 _ s9 wr => ∃ kk : Nat, kk ≤ e.f2.length ∧ e.f2.length - kk ≤ gg ∧ s9 = .int .i64 kk ∧ Aside0 (wr.ownsRow w.heap.size 3 1 s3 kk (nums .i64 ((e.f2.take kk).map fun x => (szE x : Int)))) ∧ Aside0 (Below w.heap.size w wr))
    case atStart => exact ⟨0, Nat.zero_le _, by omega, rfl, ⟨own_nil _ _ _ _⟩, Q0⟩
    case round =>
      obtain ⟨kk, hkk, hg, rfl, HO, HB⟩ := hrel
      by_cases hlt : kk < e.f2.length
      · have hltz : (kk : Int) < (e.f2.length : Int) := by omega
        obtain ⟨ad, c0, c1, c2, rfl, hK, k0, k1, k2⟩ := get3 rfl (Kd.C_below HR.out HB.out) kk hlt
        obtain ⟨A2, a2, rfl, rfl, rfl, hl2, hi2⟩ := kE_cells hK
        have q1 := below_alloc1 wr (.cells #[.int .i64 e.f2[kk].f0, .string e.f2[kk].f1, .slice A2 e.f2[kk].f2.length a2] 24)
        have hmem : e.f2[kk] ∈ e.f2 := List.getElem_mem hlt
        have hle := szL_mem hmem
        have hcall := ih e.f2[kk] A2 a2 (wr.alloc (.cells #[.int .i64 e.f2[kk].f0, .string e.f2[kk].f1, .slice A2 e.f2[kk].f2.length a2] 24)) (by omega) (by omega) (Kd.C_below hi2 q1) hl2
        have Q1 := Aside0.mk q1
        have HC := Lib.hid hcall
        clear hK hi2 hl2 q1 hmem hle hcall
        go_wp2_with fail
        refine HC.out.mono ?_
        rintro en w' ⟨rfl, hb⟩
        have HO2 := Aside0.mk (pw_own_below (HO.out.alloc (.cells #[.int .i64 e.f2[kk].f0, .string e.f2[kk].f1, .slice A2 e.f2[kk].f2.length a2] 24)) hb)
        have HB2 := Aside0.mk (HB.out.trans ((Q1.out.trans (hb.mono Q1.out.size)).mono HB.out.size))
        have hlen2 : ((e.f2.take kk).map fun x => (szE x : Int)).length = kk := by simp; omega
        have HL := Lib.hid hlen2
        clear hb HO HB Q1 HC hlen2
        go_wp2_with (at_builtin; refine print_append_num (w0 := w) w.heap.size rfl (.tmp 13) (.tmp 16) 46 3 .i64 8 rfl hu infoInt (by decide) _ ((e.f2.take kk).map fun x => (szE x : Int)) (szE e.f2[kk] : Int) rfl rfl (by rw [HL.out]; exact HO2.out) HB2.out (by have := HB2.out.size; omega) (by rw [HL.out]; omega) ?_; intro v1 w1 ho hb hg hat)
        go_roundg (e.f2.length - (kk + 1))
        case measure => omega
        case rel => exact ⟨kk + 1, by omega, by omega, by go_num, ⟨by
          rw [List.length_append, HL.out] at ho
          have e1 : (e.f2.take (kk + 1)).map (fun x => (szE x : Int)) = (e.f2.take kk).map (fun x => (szE x : Int)) ++ [(szE e.f2[kk] : Int)] := by rw [take_snoc hlt, List.map_append]; rfl
          rw [e1]; exact ho⟩, ⟨hb⟩⟩
      · have : kk = e.f2.length := by omega
        subst this
        have e1 : e.f2.take e.f2.length = e.f2 := List.take_of_length_le (Nat.le_refl _)
        have ho := HO.out
        rw [e1] at ho
        obtain ⟨A3, c3, rfl, hrd⟩ := own_reads ho
        have hc3 : e.f2.length ≤ c3 := by
          rcases ho.2 with ⟨h, _⟩ | ⟨g, cap, cur, h, _, _, hle, _⟩
          · injection h with h1 h2 h3; omega
          · injection h with h1 h2 h3; omega
        have hl3 : (e.f2.map fun x => (szE x : Int)).length = e.f2.length := by simp
        have hcall := c_total 1 A3 c3 (e.f2.map fun x => (szE x : Int)) wr (by rw [hl3]; exact Kd.C_of_reads (d := (0 : Int)) (h1 := fun _ => rfl) hrd) (by rw [hl3]; exact hc3) (by omega)
          (fun x hx => by obtain ⟨y, _, rfl⟩ := List.mem_map.1 hx; omega) (by rw [sumI_sz]; omega)
        rw [hl3, sumI_sz] at hcall
        have HC := Lib.hid hcall
        clear hcall ho hl3 hrd e1
        go_wp2_with fail
        refine HC.out.mono ?_
        rintro en w' ⟨rfl, hb⟩
        go_wp2
        go_ret
        exact ⟨reti (by rw [HS.out]; omega), HB.out.trans (hb.mono HB.out.size)⟩

set_option maxHeartbeats 2000000 in
theorem c_Height (n : Nat) : ∀ (e : Ex) (A : Option Addr) (c : Nat) (w : World), szE e ≤ n → htE e ≤ 1000000 → Kd.C k24 w A e.f2.length e.f2 → e.f2.length ≤ c →
    Calls Try.prog 19 #[.agg #[.int .i64 e.f0, .string e.f1, .slice A e.f2.length c]] w fun en w' => en = .returned (.int .i64 (htE e : Int)) ∧ Below w.heap.size w w' := by
  induction n with
  | zero => intro e A c w h; exact absurd h (by have := szE_pos e; omega)
  | succ n ih =>
    intro e A c w hn hb hr hc
    have hm := hr.2.1
    have HR := Aside0.mk hr
    have hsz := szE_eq e
    have hht := htE_eq e
    have h1 : szL e.f2 ≤ n := by omega
    have h2 : htL e.f2 ≤ 1000000 := by omega
    have HS := Lib.hid hht
    have q0 := below_alloc1 w (.cells #[.int .i64 e.f0, .string e.f1, .slice A e.f2.length c] 24)
    have Q0 := Aside0.mk q0
    clear hr hn hb hsz q0 hht
    go_enter Try.func19, Try.ntmps19
    go_wp2
    go_loopg [3, 5, 9] e.f2.length (fun gg s3 _ s9 wr => ∃ kk : Nat, kk ≤ e.f2.length ∧ e.f2.length - kk ≤ gg ∧ s9 = .int .i64 kk ∧ s3 = .int .i64 (htL (e.f2.take kk) : Int) ∧ Aside0 (Below w.heap.size w wr))
    case atStart => exact ⟨0, Nat.zero_le _, by omega, rfl, by simp [htL], Q0⟩
    case round =>
      obtain ⟨kk, hkk, hg, rfl, rfl, HB⟩ := hrel
      by_cases hlt : kk < e.f2.length
      · have hltz : (kk : Int) < (e.f2.length : Int) := by omega
        obtain ⟨ad, c0, c1, c2, rfl, hK, k0, k1, k2⟩ := get3 rfl (Kd.C_below HR.out HB.out) kk hlt
        obtain ⟨A2, a2, rfl, rfl, rfl, hl2, hi2⟩ := kE_cells hK
        have q1 := below_alloc1 wr (.cells #[.int .i64 e.f2[kk].f0, .string e.f2[kk].f1, .slice A2 e.f2[kk].f2.length a2] 24)
        have hmem : e.f2[kk] ∈ e.f2 := List.getElem_mem hlt
        have hle := szL_mem hmem
        have hlh := htL_mem hmem
        have hcall := ih e.f2[kk] A2 a2 (wr.alloc (.cells #[.int .i64 e.f2[kk].f0, .string e.f2[kk].f1, .slice A2 e.f2[kk].f2.length a2] 24)) (by omega) (by omega) (Kd.C_below hi2 q1) hl2
        have hbd : htE e.f2[kk] ≤ 1000000 := by omega
        have Q1 := Aside0.mk q1
        have HC := Lib.hid hcall
        clear hK hi2 hl2 q1 hmem hle hcall hlh
        go_wp2_with fail
        refine HC.out.mono ?_
        rintro en w' ⟨rfl, hb⟩
        have HB2 := Aside0.mk (HB.out.trans ((Q1.out.trans (hb.mono Q1.out.size)).mono HB.out.size))
        clear hb
        go_wp2
        all_goals
          go_roundg (e.f2.length - (kk + 1))
          case measure => omega
          case rel => exact ⟨kk + 1, by omega, by omega, by go_num, by rw [htL_take hlt]; congr 1; omega, HB2⟩
      · have : kk = e.f2.length := by omega
        subst this
        go_wp2
        go_ret
        exact ⟨reti (by rw [List.take_of_length_le (Nat.le_refl _), HS.out]), HB.out⟩


set_option maxHeartbeats 2000000 in
theorem c_left (m : Nat) : ∀ (e : Ex) (n : Int) (A : Option Addr) (c : Nat) (w : World), szE e ≤ m → nmE e → 0 ≤ n → n ≤ 1000000 → Kd.C k24 w A e.f2.length e.f2 → e.f2.length ≤ c →
    Calls Try.prog 54 #[.agg #[.int .i64 e.f0, .string e.f1, .slice A e.f2.length c], .int .i64 n] w fun en w' => en = .returned (.int .i64 (leftE e n)) ∧ Below w.heap.size w w' := by
  induction m with
  | zero => intro e n A c w h; exact absurd h (by have := szE_pos e; omega)
  | succ m ih =>
    intro e n A c w hs hn h0 h1 hr hc
    have hm := hr.2.1
    have HR := Aside0.mk hr
    rw [szE_eq] at hs
    rw [nmE_eq] at hn
    have hnm : e.f1.size ≤ 140737488351232 := hn.1
    have HN := Aside0.mk hn.2
    have hle := leftE_eq e n
    have HE := Lib.hid hle
    have q0 := below_alloc1 w (.cells #[.int .i64 e.f0, .string e.f1, .slice A e.f2.length c] 24)
    have Q0 := Aside0.mk q0
    have B0 := Aside0.mk (alloc_at w (.cells #[.int .i64 e.f0, .string e.f1, .slice A e.f2.length c] 24))
    clear hr hn q0 hle
    go_enter Try.func54, Try.ntmps54
    go_wp2
    go_loopg [1, 5] e.f2.length (fun gg s1 s5 wr => ∃ (kk : Nat) (nk : Int), kk ≤ e.f2.length ∧ e.f2.length - kk ≤ gg ∧ s5 = .int .i64 kk ∧ s1 = .int .i64 nk ∧ nk ≤ 1000000 ∧ -140737488351232 ≤ nk ∧ Aside0 (leftL (e.f2.drop kk) nk = leftE e n) ∧ Aside0 (Below w.heap.size w wr) ∧ Aside0 (wr.heap[w.heap.size]? = some (.cells #[.int .i64 e.f0, .string e.f1, .slice A e.f2.length c] 24 (0, 0))))
    case atStart => exact ⟨0, n - (1 + (e.f1.size : Int) / 40), Nat.zero_le _, by omega, rfl, by go_num, by omega, by omega, ⟨by rw [List.drop_zero, HE.out]⟩, Q0, B0⟩
    case round =>
      obtain ⟨kk, nk, hkk, hg, rfl, rfl, hn1, hn2, HV, HB, BK⟩ := hrel
      have b2 := (blk_cell BK.out 2).trans rfl
      have f2 := blk_frozen BK.out 2
      by_cases hlt : kk < e.f2.length
      · have hltz : (kk : Int) < (e.f2.length : Int) := by omega
        have hlb : decide ((kk : Int) < (e.f2.length : Int)) = true := by simpa using hltz
        by_cases hnk : 0 ≤ nk
        · have hnb : decide (0 ≤ nk) = true := by simpa using hnk
          obtain ⟨ad, c0, c1, c2, rfl, hK, k0, k1, k2⟩ := get3 rfl (Kd.C_below HR.out HB.out) kk hlt
          obtain ⟨A2, a2, rfl, rfl, rfl, hl2, hi2⟩ := kE_cells hK
          have hmem : e.f2[kk] ∈ e.f2 := List.getElem_mem hlt
          have hle := szL_mem hmem
          have hbd := leftE_bd _ e.f2[kk] nk (Nat.le_refl _) (nmL_mem hmem HN.out) hnk
          have hcall := ih e.f2[kk] nk A2 a2 wr (by omega) (nmL_mem hmem HN.out) hnk hn1 hi2 hl2
          have HD := Lib.hid (leftL_drop hlt nk hnk)
          have HC := Lib.hid hcall
          clear hK hi2 hl2 hmem hle hcall
          go_wp2_with fail
          refine HC.out.mono ?_
          rintro en w' ⟨rfl, hb⟩
          have HB2 := Aside0.mk (HB.out.trans (hb.mono HB.out.size))
          have BK2 := Aside0.mk (blk_below BK.out hb)
          clear hb
          go_wp2
          go_roundg (e.f2.length - (kk + 1))
          case measure => omega
          case rel => exact ⟨kk + 1, _, by omega, by omega, by go_num, rfl, by omega, by omega, ⟨by rw [← HD.out]; exact HV.out⟩, HB2, BK2⟩
        · have hnb : decide (0 ≤ nk) = false := by simpa using hnk
          go_wp2
          go_ret
          exact ⟨reti (by rw [← HV.out, leftL_neg _ _ (by omega)]), HB.out⟩
      · have hlb : decide ((kk : Int) < (e.f2.length : Int)) = false := by simp; omega
        have : kk = e.f2.length := by omega
        subst this
        go_wp2
        go_ret
        exact ⟨reti (by have := HV.out; rw [List.drop_length, leftL] at this; exact this), HB.out⟩

def bigE (e : Ex) : Bool := decide (leftE e 60 < 0)
set_option maxHeartbeats 1000000 in
theorem c_BigExpr (e : Ex) (A : Option Addr) (c : Nat) (w : World) (hn : nmE e) (hr : Kd.C k24 w A e.f2.length e.f2) (hc : e.f2.length ≤ c) :
    Calls Try.prog 8 #[.agg #[.int .i64 e.f0, .string e.f1, .slice A e.f2.length c]] w fun en w' => en = .returned (.bool (bigE e)) ∧ Below w.heap.size w w' := by
  have q0 := below_alloc1 w (.cells #[.int .i64 e.f0, .string e.f1, .slice A e.f2.length c] 24)
  have HC := Lib.hid (c_left _ e 60 A c (w.alloc (.cells #[.int .i64 e.f0, .string e.f1, .slice A e.f2.length c] 24)) (Nat.le_refl _) hn (by omega) (by omega) (Kd.C_below hr q0) hc)
  have Q0 := Aside0.mk q0
  clear hr q0
  go_enter Try.func8, Try.ntmps8
  go_wp2_with fail
  refine HC.out.mono ?_
  rintro en w' ⟨rfl, hb⟩
  go_wp2
  go_ret
  exact ⟨rfl, Q0.out.trans (hb.mono Q0.out.size)⟩

/-- A list of texts is too long, or has a text that is. -/
def longS (l : List ByteArray) : Bool := decide (12 < l.length) || l.any fun s => decide (40 < s.size)
set_option maxHeartbeats 1000000 in
theorem c_long1 (s : ByteArray) (w : World) : Calls Try.prog 55 #[.string s] w fun en w' => en = .returned (.bool (decide (40 < s.size))) ∧ Below w.heap.size w w' := by
  go_enter Try.func55, Try.ntmps55
  go_wp2
  go_ret
  exact ⟨retb (by simp; omega), Below.refl _ _⟩
set_option maxHeartbeats 1000000 in
theorem c_long (l : List ByteArray) (A : Option Addr) (c : Nat) (w : World) (hr : Kd.C Kd.string w A l.length l) (hc : l.length ≤ c) :
    Calls Try.prog 9 #[.slice A l.length c] w fun en w' => en = .returned (.bool (longS l)) ∧ Below w.heap.size w w' := by
  have hm := hr.2.1
  have HC := Lib.hid (hasS_p A c l w hc hr 55 #[] (enters_of Try.func55 (by kernel_rfl) rfl) (fun s => decide (40 < s.size)) (fun x cs W _ _ _ => c_long1 x W))
  clear hr
  by_cases hlt : 12 < l.length
  · have hlb : decide ((12 : Int) < (l.length : Int)) = true := by simp; omega
    go_enter Try.func9, Try.ntmps9
    go_wp2
    go_ret
    exact ⟨retb (by simp [longS, hlt]), Below.refl _ _⟩
  · have hlb : decide ((12 : Int) < (l.length : Int)) = false := by simp; omega
    go_enter Try.func9, Try.ntmps9
    go_wp2_with fail
    refine HC.out.mono ?_
    rintro en w' ⟨rfl, hb⟩
    go_wp2
    go_ret
    exact ⟨retb (by simp [longS, hlt]), hb⟩

end Go.Proofs.Ytacefdkfbpgedaa.Mine
/- Contracts: lists of texts: In, Index, Contains, Equal, twice. -/
namespace Go.Proofs.Ytacefdkfbpgedaa.Mine
open Go.Proofs.Ytacefdkfbpgedaa.PProgExprs
open Go.RowKit Go.Proofs.YtacefdkfbpgedaaW.PrintWords Go.Proofs.YtacefdkfbpgedaaW.PrintLast Go.Proofs.YtacefdkfbpgedaaW.PrintMore
set_option linter.unusedVariables false
set_option linter.unusedSimpArgs false

theorem sEq (a b : ByteArray) : (a.toList == b.toList) = decide (a = b) := by
  rw [ByteArray.toList_eq, ByteArray.toList_eq]
  by_cases h : a = b
  · subst h; simp
  · have : ¬ a.data.toList = b.data.toList := fun h2 => h (by cases a; cases b; simp at h2; rw [h2])
    rw [decide_eq_false h, beq_eq_false_iff_ne]; exact this
theorem sNe (a b : ByteArray) : (a.toList != b.toList) = !decide (a = b) := by rw [bne, sEq]

set_option maxHeartbeats 1000000 in
theorem c_rIn (A : Option Addr) (c : Nat) (l : List ByteArray) (s : ByteArray) (w : World) (hr : Kd.C Kd.string w A l.length l) (hc : l.length ≤ c) :
    Calls Try.prog 68 #[.slice A l.length c, .string s] w fun e w' => e = .returned (.bool (l.any fun x => decide (x = s))) ∧ w' = w := by
  have hm := hr.2.1
  have HR := Aside0.mk hr
  clear hr
  go_enter Try.func68, Try.ntmps68
  go_wp2
  go_loopg [5] l.length (fun gg s5 wr => ∃ kk : Nat, kk ≤ l.length ∧ l.length - kk ≤ gg ∧ s5 = .int .i64 kk ∧ Aside0 (∀ j x, j < kk → l[j]? = some x → decide (x = s) = false) ∧ wr = w)
  case atStart => exact ⟨0, Nat.zero_le _, by omega, rfl, ⟨fun j x hj => absurd hj (Nat.not_lt_zero _)⟩, rfl⟩
  case round =>
    obtain ⟨kk, hkk, hg, rfl, HI, rfl⟩ := hrel
    by_cases hlt : kk < l.length
    · have hltz : (kk : Int) < (l.length : Int) := by omega
      obtain ⟨ad, c0, rfl, hK, k0⟩ := get1 rfl HR.out kk hlt
      obtain rfl : c0 = .string l[kk] := by simpa [Kd.string, Kd.scalar] using hK
      have HX := Lib.hid (show l[kk]? = some l[kk] from List.getElem?_eq_getElem hlt)
      clear hK
      by_cases he : l[kk] = s
      · have hb : (l[kk].toList == s.toList) = true := by rw [sEq]; simpa using he
        have HE := Lib.hid he
        clear he
        go_wp2
        go_ret
        exact ⟨retb (any_some HX.out (by simpa using HE.out)).symm, rfl⟩
      · have hb : (l[kk].toList == s.toList) = false := by rw [sEq]; simpa using he
        have HE := Lib.hid he
        clear he
        go_wp2
        go_roundg (l.length - (kk + 1))
        case measure => omega
        case rel => exact ⟨kk + 1, by omega, by omega, by go_num, ⟨none_snoc (p := fun x => decide (x = s)) HI.out HX.out (by simpa using HE.out)⟩, rfl⟩
    · have : kk = l.length := by omega
      subst this
      go_wp2
      go_ret
      exact ⟨retb (any_none HI.out).symm, rfl⟩

set_option maxHeartbeats 1000000 in
theorem c_IndexS (A : Option Addr) (c : Nat) (l : List ByteArray) (s : ByteArray) (w : World) (hr : Kd.C Kd.string w A l.length l) (hc : l.length ≤ c) :
    Calls Try.prog 41 #[.slice A l.length c, .string s] w fun e w' => e = .returned (.int .i64 (idxB (fun x => decide (x = s)) l)) ∧ w' = w := by
  have hm := hr.2.1
  have HR := Aside0.mk hr
  clear hr
  go_enter Try.func41, Try.ntmps41
  go_wp2
  go_loopg [5, 8] l.length (fun gg _ s8 wr => ∃ kk : Nat, kk ≤ l.length ∧ l.length - kk ≤ gg ∧ s8 = .int .i64 kk ∧ Aside0 (∀ j x, j < kk → l[j]? = some x → decide (x = s) = false) ∧ wr = w)
  case atStart => exact ⟨0, Nat.zero_le _, by omega, rfl, ⟨fun j x hj => absurd hj (Nat.not_lt_zero _)⟩, rfl⟩
  case round =>
    obtain ⟨kk, hkk, hg, rfl, HI, rfl⟩ := hrel
    by_cases hlt : kk < l.length
    · have hltz : (kk : Int) < (l.length : Int) := by omega
      obtain ⟨ad, c0, rfl, hK, k0⟩ := get1 rfl HR.out kk hlt
      obtain rfl : c0 = .string l[kk] := by simpa [Kd.string, Kd.scalar] using hK
      have HX := Lib.hid (show l[kk]? = some l[kk] from List.getElem?_eq_getElem hlt)
      clear hK
      by_cases he : l[kk] = s
      · have hb : (s.toList == l[kk].toList) = true := by rw [sEq]; simpa using he.symm
        have HE := Lib.hid he
        clear he
        go_wp2
        go_ret
        exact ⟨reti (idxB_some HX.out (by simpa using HE.out) HI.out).symm, rfl⟩
      · have hb : (s.toList == l[kk].toList) = false := by rw [sEq]; simpa using fun h => he h.symm
        have HE := Lib.hid he
        clear he
        go_wp2
        go_roundg (l.length - (kk + 1))
        case measure => omega
        case rel => exact ⟨kk + 1, by omega, by omega, by go_num, ⟨none_snoc (p := fun x => decide (x = s)) HI.out HX.out (by simpa using HE.out)⟩, rfl⟩
    · have : kk = l.length := by omega
      subst this
      go_wp2
      go_ret
      exact ⟨reti (idxB_none HI.out).symm, rfl⟩

theorem idxB_nonneg {α : Type} (p : α → Bool) (l : List α) : decide (0 ≤ idxB p l) = l.any p := by
  unfold idxB
  by_cases h : l.any p = true
  · rw [if_pos h, h]; simp
  · rw [if_neg h]; simp at h ⊢; exact h
set_option maxHeartbeats 1000000 in
theorem c_ContS (A : Option Addr) (c : Nat) (l : List ByteArray) (s : ByteArray) (w : World) (hr : Kd.C Kd.string w A l.length l) (hc : l.length ≤ c) :
    Calls Try.prog 31 #[.slice A l.length c, .string s] w fun e w' => e = .returned (.bool (l.any fun x => decide (x = s))) ∧ w' = w := by
  have HC := Lib.hid (c_IndexS A c l s w hr hc)
  clear hr
  go_enter Try.func31, Try.ntmps31
  go_wp2_with fail
  refine HC.out.mono ?_
  rintro e w' ⟨rfl, rfl⟩
  go_wp2
  go_ret
  exact ⟨retb (idxB_nonneg _ _), rfl⟩

set_option maxHeartbeats 2000000 in
theorem c_EqS (A B : Option Addr) (c d : Nat) (l m : List ByteArray) (w : World) (hr : Kd.C Kd.string w A l.length l) (hc : l.length ≤ c) (hs : Kd.C Kd.string w B m.length m) (hd : m.length ≤ d) :
    Calls Try.prog 21 #[.slice A l.length c, .slice B m.length d] w fun e w' => e = .returned (.bool (decide (l = m))) ∧ Below w.heap.size w w' := by
  have hm1 := hr.2.1
  have hm2 := hs.2.1
  have HR := Aside0.mk hr
  have HS := Aside0.mk hs
  clear hr hs
  by_cases hl : l.length = m.length
  · have hl1 : ((l.length : Int) != (m.length : Int)) = false := by simp only [bne_eq_false_iff_eq]; omega
    have HL := Lib.hid hl
    clear hl
    go_enter Try.func21, Try.ntmps21
    go_wp2
    go_loopg [5, 13] l.length (fun gg _ s13 wr => ∃ kk : Nat, kk ≤ l.length ∧ l.length - kk ≤ gg ∧ s13 = .int .i64 kk ∧ Aside0 (∀ j x y, j < kk → l[j]? = some x → m[j]? = some y → decide (x = y) = true) ∧ Aside0 (Below w.heap.size w wr))
    case atStart => exact ⟨0, Nat.zero_le _, by omega, rfl, ⟨fun j x y hj => absurd hj (Nat.not_lt_zero _)⟩, ⟨Below.refl _ _⟩⟩
    case round =>
      obtain ⟨kk, hkk, hg, rfl, HI, HB⟩ := hrel
      by_cases hlt : kk < l.length
      · have hltz : (kk : Int) < (l.length : Int) := by omega
        have hlt2 : kk < m.length := by have := HL.out; omega
        have hltz2 : (kk : Int) < (m.length : Int) := by omega
        obtain ⟨ad, c0, rfl, hK, k0⟩ := get1 rfl (Kd.C_below HR.out HB.out) kk hlt
        obtain rfl : c0 = .string l[kk] := by simpa [Kd.string, Kd.scalar] using hK
        obtain ⟨bd, d0, rfl, hK2, l0⟩ := get1 rfl (Kd.C_below HS.out HB.out) kk hlt2
        obtain rfl : d0 = .string m[kk] := by simpa [Kd.string, Kd.scalar] using hK2
        have HX := Lib.hid (show l[kk]? = some l[kk] from List.getElem?_eq_getElem hlt)
        have HY := Lib.hid (show m[kk]? = some m[kk] from List.getElem?_eq_getElem hlt2)
        clear hK hK2
        by_cases he : l[kk] = m[kk]
        · have hb : (l[kk].toList != m[kk].toList) = false := by rw [sNe]; simpa using he
          have hb2 : (l[kk].toList == m[kk].toList) = true := by rw [sEq]; simpa using he
          have HE := Lib.hid he
          clear he
          go_wp2_with fail
          go_quiet (fail)
          go_wp2
          go_roundg (l.length - (kk + 1))
          case measure => omega
          case rel => exact ⟨kk + 1, by omega, by omega, by go_num, ⟨fun j x y hj hx hy => by
            rcases Nat.lt_or_ge j kk with h | h
            · exact HI.out j x y h hx hy
            · obtain rfl : j = kk := by omega
              rw [HX.out] at hx; rw [HY.out] at hy
              cases hx; cases hy; simpa using HE.out⟩, ⟨pw_below_drewN HB.out _⟩⟩
        · have hb : (l[kk].toList != m[kk].toList) = true := by rw [sNe]; simpa using he
          have hb2 : (l[kk].toList == m[kk].toList) = false := by rw [sEq]; simpa using he
          have HE := Lib.hid he
          clear he
          go_wp2_with fail
          go_quiet (fail)
          go_wp2
          go_ret
          exact ⟨retb (by symm; rw [decide_eq_false_iff_not]; intro h; subst h; exact HE.out rfl), pw_below_drewN HB.out _⟩
      · have : kk = l.length := by omega
        subst this
        go_wp2
        go_ret
        exact ⟨retb (by
          symm; rw [decide_eq_true_iff]
          apply List.ext_getElem HL.out
          intro i h1 h2
          simpa using HI.out i _ _ h1 (List.getElem?_eq_getElem h1) (List.getElem?_eq_getElem h2)), HB.out⟩
  · have hl1 : ((l.length : Int) != (m.length : Int)) = true := by simp only [bne_iff_ne, ne_eq]; omega
    have HL := Lib.hid hl
    clear hl
    go_enter Try.func21, Try.ntmps21
    go_wp2
    go_ret
    exact ⟨retb (by symm; rw [decide_eq_false_iff_not]; intro h; exact HL.out (by rw [h])), Below.refl _ _⟩
end Go.Proofs.Ytacefdkfbpgedaa.Mine
/- Contracts: whether a list has a text twice: by the reference, and by a map. -/
namespace Go.Proofs.Ytacefdkfbpgedaa.Mine
open Go.Proofs.Ytacefdkfbpgedaa.PProgExprs
open Go.RowKit Go.Proofs.YtacefdkfbpgedaaW.PrintWords Go.Proofs.YtacefdkfbpgedaaW.PrintLast Go.Proofs.YtacefdkfbpgedaaW.PrintMore
set_option linter.unusedVariables false
set_option linter.unusedSimpArgs false

/-- A list has something twice. -/
def twB {α : Type} [DecidableEq α] (l : List α) : Bool := !decide l.Nodup
theorem twB_of {α : Type} [DecidableEq α] {l : List α} {k : Nat} (h : k < l.length) (hm : l[k] ∈ l.take k) : twB l = true := by
  rw [twB, Bool.not_eq_true', decide_eq_false_iff_not]
  intro hn
  obtain ⟨i, hi, he⟩ := List.getElem_of_mem hm
  rw [List.getElem_take] at he
  rw [List.length_take] at hi
  exact (List.pairwise_iff_getElem.1 hn) i k (by omega) h (by omega) he
theorem nodup_take_succ {α : Type} {l : List α} {k : Nat} (h : k < l.length) (hn : (l.take k).Nodup) (hm : l[k] ∉ l.take k) : (l.take (k + 1)).Nodup := by
  rw [take_snoc h, List.nodup_append]
  exact ⟨hn, by simp, fun a ha b hb e => hm (by rw [List.mem_singleton] at hb; subst hb; subst e; exact ha)⟩
def memB {α : Type} [DecidableEq α] (s : α) (l : List α) : Bool := l.any fun x => decide (x = s)
theorem memB_iff {α : Type} [DecidableEq α] {l : List α} {s : α} : memB s l = true ↔ s ∈ l := by simp [memB]
theorem memB_false {α : Type} [DecidableEq α] {l : List α} {s : α} : memB s l = false ↔ s ∉ l := by rw [← memB_iff]; simp

set_option maxHeartbeats 2000000 in
theorem c_rtwice (A : Option Addr) (c : Nat) (l : List ByteArray) (w : World) (hr : Kd.C Kd.string w A l.length l) (hc : l.length ≤ c) :
    Calls Try.prog 59 #[.slice A l.length c] w fun e w' => e = .returned (.bool (twB l)) ∧ Below w.heap.size w w' := by
  have hm := hr.2.1
  have HR := Aside0.mk hr
  clear hr
  go_enter Try.func59, Try.ntmps59
  go_wp2
  go_loopg [3] l.length (fun gg s3 wr => ∃ kk : Nat, kk ≤ l.length ∧ l.length - kk ≤ gg ∧ s3 = .int .i64 kk ∧ Aside0 ((l.take kk).Nodup) ∧ Aside0 (Below w.heap.size w wr))
  case atStart => exact ⟨0, Nat.zero_le _, by omega, rfl, ⟨by simp⟩, ⟨Below.refl _ _⟩⟩
  case round =>
    obtain ⟨kk, hkk, hg, rfl, HI, HB⟩ := hrel
    by_cases hlt : kk < l.length
    · have hltz : (kk : Int) < (l.length : Int) := by omega
      obtain ⟨ad, c0, rfl, hK, k0⟩ := get1 rfl (Kd.C_below HR.out HB.out) kk hlt
      obtain rfl : c0 = .string l[kk] := by simpa [Kd.string, Kd.scalar] using hK
      have hct := Kd.C_take (Kd.C_below HR.out HB.out) (show kk ≤ l.length by omega)
      have hlen : (l.take kk).length = kk := by rw [List.length_take]; omega
      rw [hlen] at hct
      have hcall : ∀ nq, Calls Try.prog 68 #[.slice (some ad) kk c, .string l[kk]] (wr.drewN nq) fun e w' => e = .returned (.bool (memB l[kk] (l.take kk))) ∧ w' = wr.drewN nq := fun nq => by
        have := c_rIn (some ad) c (l.take kk) l[kk] (wr.drewN nq) (by rw [hlen]; exact Kd.C_drewN hct nq) (by omega)
        rw [hlen] at this
        exact this
      have HC := Lib.hid hcall
      clear hK hct hlen hcall
      by_cases hm2 : l[kk] ∈ l.take kk
      · have hd : memB l[kk] (l.take kk) = true := memB_iff.2 hm2
        have HM := Lib.hid hm2
        rw [Hid] at HC
        simp only [hd] at HC
        have HC2 := Lib.hid HC
        clear HC hm2 hd
        go_wp2_with fail
        go_quiet ((go_at_call 68; refine Calls.quiet_of_same (HC2.out _)))
        go_wp2
        go_ret
        exact ⟨retb (twB_of hlt HM.out).symm, pw_below_drewN HB.out _⟩
      · have hd : memB l[kk] (l.take kk) = false := memB_false.2 hm2
        have HM := Lib.hid hm2
        rw [Hid] at HC
        simp only [hd] at HC
        have HC2 := Lib.hid HC
        clear HC hm2 hd
        go_wp2_with fail
        go_quiet ((go_at_call 68; refine Calls.quiet_of_same (HC2.out _)))
        go_wp2
        go_roundg (l.length - (kk + 1))
        case measure => omega
        case rel => exact ⟨kk + 1, by omega, by omega, by go_num, ⟨nodup_take_succ hlt HI.out HM.out⟩, ⟨pw_below_drewN HB.out _⟩⟩
    · have : kk = l.length := by omega
      subst this
      go_wp2
      go_ret
      exact ⟨retb (by have := HI.out; rw [List.take_of_length_le (Nat.le_refl _)] at this; simp [twB, this]), HB.out⟩

/-! ### a set of texts that is kept in a map -/
theorem plainElem_bool_inv {H : Type} {P : Program} {e : TypeId} (he : P.underlying e = some .bool) {v : Value} {z : DataW H × List MemPlace} (h : plainElem P e v = some z) : ∃ a, v = .bool a ∧ z = (.lit (.bool a), []) := by
  unfold plainElem at h
  rw [he] at h
  split at h
  · cases h; exact ⟨_, rfl, rfl⟩
  all_goals simp_all
theorem lookup_bool {H : Type} {P : Program} {k t e : TypeId} {w : World} {b n : Nat} {D : DataW H} (h : w.ownsMap P k (plainElem P e) b n D) (K : Maps.Keyed P k) (ht : P.underlying t = some (.map k e)) (he : P.underlying e = some .bool) (hz : (zeroValue e).run P w = .ok (.bool false) w)
    {key : Value} {kl : Lit} (hkey : keyOf P k key = some kl) : ∃ c, (Instr.lookup t (.map (some b)) key false).run P w = .ok (.bool c) w ∧ D.atKey kl (.lit (.bool false)) = .lit (.bool c) := by
  obtain ⟨v, ps, hrun, hv⟩ := h.lookup K ht hz (plainElem_bool he false) hkey
  obtain ⟨c, rfl, hc⟩ := plainElem_bool_inv he hv
  simp only [Prod.mk.injEq] at hc
  exact ⟨c, hrun, hc.1⟩
/-- Block b is a map that has the texts of l. -/
def MSet (W : World) (b : Nat) (l : List ByteArray) : Prop :=
  ∃ (D : DataW Unit), W.ownsMap Try.prog 9 (plainElem Try.prog 4) b l.length D ∧ Maps.IsMap D ∧ ∀ s : ByteArray, D.atKey (.string s.data.toList) (.lit (.bool false)) = .lit (.bool (memB s l))
theorem law_str : Go.Maps.Keyed Try.prog 9 := Go.Maps.string_keyed Try.underlying9
theorem zero_bool (w : World) : (zeroValue 4).run Try.prog w = .ok (.bool false) w := by kernel_rfl
theorem key_str {s : ByteArray} (hs : s.size ≤ nmLim) : keyOf Try.prog 9 (.string s) = some (.string s.data.toList) := Go.WideMaps.keyOf_string_mk Try.underlying9 (by unfold nmLim at hs; unfold maxLen; omega)
theorem MSet.made (w : World) : MSet (w.alloc (.map #[] 0)) w.heap.size [] := ⟨.map [], World.ownsMap_made _ _ _ _, Maps.isMap_empty, fun s => by simp [DataW.atKey, memB]⟩
theorem MSet.lt {W : World} {b : Nat} {l : List ByteArray} (h : MSet W b l) : b < W.heap.size := by obtain ⟨D, h, _⟩ := h; exact h.lt
theorem MSet.below {W W' : World} {b : Nat} {l : List ByteArray} (h : MSet W b l) (hb : Below W.heap.size W W') : MSet W' b l := by
  obtain ⟨D, h1, h2⟩ := h
  exact ⟨D, h1.kept (row := none) (grown_of_below hb none) (by simp), h2⟩

set_option maxHeartbeats 2000000 in
theorem c_twice1 (s : ByteArray) (B b : Nat) (l : List ByteArray) (w : World) (hs : s.size ≤ nmLim) (hB : w.heap[B]? = some (.cells #[.map (some b)] 118 (0, 0))) (hm : MSet w b l) (hl : l.length < 1000000) :
    Calls Try.prog 97 #[.string s, .pointer (some ⟨B, 0, none⟩)] w fun e w' => e = .returned (.bool (!memB s l)) ∧ MSet w' b (l ++ [s]) ∧ Fr (fun k => k = b) w w' := by
  obtain ⟨D, hown, hD, hat⟩ := hm
  have k0 := cell_of_one hB
  have hkey : keyOf Try.prog 9 (.string s) = some (.string s.data.toList) := key_str hs
  obtain ⟨cc, hrun, hcc⟩ := lookup_bool hown law_str Try.underlying118 Try.underlying4 (zero_bool w) hkey
  have hcc2 : cc = memB s l := (Lit.bool.inj (DataW.lit.inj ((hat s).symm.trans hcc))).symm
  subst hcc2
  have HO := Aside0.mk hown
  have HA := Lib.hid hat
  have HK := Lib.hid hkey
  have HB := Lib.hid hB
  have HD := Lib.hid hD
  clear hown hat hkey hcc hB hD
  go_enter Try.func97, Try.ntmps97
  go_wp2_with (at_mapUpdate; refine wpList_mapUpdate_own _ rfl _ _ _ 118 rfl 9 4 law_str Try.underlying118 (plainElem Try.prog 4) b l.length D rfl HO.out (by unfold maxLen; omega) _ _ (.string s.data.toList) rfl rfl HK.out (.lit (.bool true)) [] (plainElem_bool Try.underlying4 true) ?_; intro w1 hown1 hgrow1)
  go_ret
  refine ⟨retb rfl, ⟨D.put (.string s.data.toList) (.lit (.bool true)), by simpa using hown1, HD.out.put _ _, fun t => ?_⟩, (Fr.refl _ _).grown hgrow1 (fun k hk => .inl (by cases hk; rfl))⟩
  by_cases ht : t = s
  · subst ht
    rw [Maps.atKey_put_same HD.out (show WideAt.IsKeyLit (Lit.string t.data.toList) from trivial), memB_iff.2 (by simp)]
  · rw [Maps.atKey_put_other (fun h => ht (Go.WideShapes.bytes_inj (Lit.string.inj h))), HA.out t]
    have : memB t (l ++ [s]) = memB t l := by simp [memB]; intro h; exact absurd h.symm ht
    rw [this]

set_option maxHeartbeats 2000000 in
theorem c_twice (A : Option Addr) (c : Nat) (l : List ByteArray) (w : World) (hr : Kd.C Kd.string w A l.length l) (hc : l.length ≤ c) (hs : ∀ s ∈ l, s.size ≤ nmLim) (hl : l.length < 1000000) :
    Calls Try.prog 61 #[.slice A l.length c] w fun e w' => e = .returned (.bool (twB l)) ∧ Below w.heap.size w w' := by
  have hmm := @run_makeMap Try.prog
  obtain ⟨W1, hW1⟩ : ∃ W1, (w.alloc (.map #[] 0)).alloc (.cells #[.map (some w.heap.size)] 118) = W1 := ⟨_, rfl⟩
  have b1 : Below w.heap.size w W1 := by rw [← hW1]; exact (below_alloc1 _ _).trans ((below_alloc1 _ _).mono (by simp))
  have s1 : W1.heap.size = w.heap.size + 2 := by rw [← hW1]; simp
  have m1 : MSet W1 w.heap.size [] := by rw [← hW1]; exact (MSet.made w).below (below_alloc1 _ _)
  have x1 : W1.heap[w.heap.size + 1]? = some (.cells #[.map (some w.heap.size)] 118 (0, 0)) := by rw [← hW1]; have := alloc_at (w.alloc (.map #[] 0)) (.cells #[.map (some w.heap.size)] 118); simpa using this
  have HC := Lib.hid (evS A c l W1 hc (Fr (fun k => k = w.heap.size)) (Fr.rel _) (fun W W' k cs hk h ho => h.blk ho (by omega)) (fun W hW => Kd.C_below hr (((Fr.of_below _ b1).trans hW).below (Nat.le_refl _) (fun k hk he => by omega)))
    97 #[.pointer (some ⟨w.heap.size + 1, 0, none⟩)] (enters_of Try.func97 (by kernel_rfl) rfl)
    (fun i W => MSet W w.heap.size (l.take i) ∧ W.heap[w.heap.size + 1]? = some (.cells #[.map (some w.heap.size)] 118 (0, 0)) ∧ (l.take i).Nodup)
    (fun i W => Below w.heap.size w W ∧ ∃ h : i < l.length, l[i] ∈ l.take i)
    (fun i W W' h hb => ⟨h.1.below hb, blk_below h.2.1 hb, h.2.2⟩)
    (fun i x cs W hx hK _ hW hi => by
      obtain ⟨hil, rfl⟩ := List.getElem?_eq_some_iff.1 hx
      refine (c_twice1 l[i] (w.heap.size + 1) w.heap.size (l.take i) W (hs _ (List.getElem_mem hil)) hi.2.1 hi.1 (by rw [List.length_take]; omega)).mono ?_
      rintro e W' ⟨rfl, hm, hfr⟩
      refine ⟨_, rfl, ?_⟩
      cases hmb : memB l[i] (l.take i) with
      | true => exact ⟨((Fr.of_below _ b1).trans (hW.trans hfr)).below (Nat.le_refl _) (fun k hk he => by omega), hil, memB_iff.1 hmb⟩
      | false => exact ⟨hfr, by rw [take_snoc hil]; exact hm, hfr.blk hi.2.1 (by omega), nodup_take_succ hil hi.2.2 (memB_false.1 hmb)⟩)
    ⟨by simpa using m1, x1, by simp⟩)
  rw [← hW1] at HC
  have B1 := Aside0.mk b1
  have HW := Aside0.mk hW1
  clear m1 x1 hr hs b1 hW1 s1
  go_enter Try.func61, Try.ntmps61
  go_wp2_with fail
  refine HC.out.mono ?_
  rintro e w' ⟨b, rfl, hb⟩
  cases b with
  | true =>
    have hfr := hb.1
    rw [HW.out] at hfr
    have HB := Aside0.mk (((Fr.of_below _ B1.out).trans hfr).below (n := w.heap.size) (Nat.le_refl _) (fun k hk he => by omega))
    have HI := Aside0.mk hb.2.2.2
    clear hb hfr
    go_wp2
    go_ret
    exact ⟨retb (by have := HI.out; rw [List.take_of_length_le (Nat.le_refl _)] at this; simp [twB, this]), HB.out⟩
  | false =>
    obtain ⟨i, hi, hbel, hi2, hmem⟩ := hb
    have HB := Aside0.mk hbel
    have HM := Aside0.mk hmem
    clear hbel
    go_wp2
    go_ret
    exact ⟨retb (twB_of hi2 HM.out).symm, HB.out⟩
end Go.Proofs.Ytacefdkfbpgedaa.Mine
