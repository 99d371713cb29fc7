/- Contracts: total, Size, Height, left, BigExpr, long. -/
import Derived.Test.YtacefdkfbpgedaaGreatCH1
import Derived.BigQuiet
import Derived.Deep.RegionHeld3
import Derived.Maps.OwnOps
import Derived.Maps.Views
import Derived.Maps.OwnSet
import Derived.RangeFuncNested
import Derived.RangeFuncBound
import Derived.RangeFuncCalls
import Derived.RangeFuncLeaves
import Derived.Shelf.AbstractIn
import Derived.WalkKit
import Derived.Laws.EntriesVeiled
import Derived.OwnWalkIn
import Derived.TacticsInMore
import Derived.LoopNIn
import Derived.LoopIn
namespace Go.Proofs.YtacefdkfbpgedaaGreat.Mine
open Go.Proofs.YtacefdkfbpgedaaGreat.PProgSmall
open Go.RowKit Go.Proofs.YtacefdkfbpgedaaGreatW.PrintWords Go.Proofs.YtacefdkfbpgedaaGreatW.PrintLast Go.Proofs.YtacefdkfbpgedaaGreatW.PrintMore
set_option linter.unusedVariables false
attribute [local go_sem] max2_int min2_int max_two min_two
set_option linter.unusedSimpArgs false
theorem infoInt : (Tryz.prog.info? 3).map (fun i => (i.zero, i.size, i.bytes)) = some (some (.int .i64 0), 1, 8) := by kernel_rfl
def sumI (l : List Int) : Int := l.foldl (· + ·) 0
theorem sumI_append (a : List Int) (x : Int) : sumI (a ++ [x]) = sumI a + x := by simp [sumI]
set_option maxHeartbeats 1000000 in
theorem c_total (n : Int) (A : Option Addr) (c : Nat) (l : List Int) (w : World) (hr : Kd.C (Kd.int .i64) w A l.length l) (hc : l.length ≤ c) (hn : 0 ≤ n) (hl : ∀ x ∈ l, 0 ≤ x) (hs : n + sumI l ≤ 9223372036854775807) :
    Calls Tryz.prog 114 #[.int .i64 n, .slice A l.length c] w fun e w' => e = .returned (.int .i64 (n + sumI l)) ∧ Below w.heap.size w w' := by
  have hm := hr.2.1
  have HR := Aside0.mk hr
  have mono : ∀ k, k ≤ l.length → 0 ≤ sumI (l.take k) ∧ sumI (l.take k) ≤ sumI l := by
    intro k
    have pos : ∀ (a b : List Int), (∀ x ∈ b, 0 ≤ x) → sumI a ≤ sumI (a ++ b) := by
      intro a b
      induction b generalizing a with
      | nil => intro _; simp
      | cons x xs ih =>
        intro h
        have := ih (a ++ [x]) (fun y hy => h y (List.mem_cons_of_mem _ hy))
        have h0 := h x List.mem_cons_self
        rw [sumI_append] at this
        simp only [List.append_assoc, List.singleton_append] at this
        omega
    intro _
    have h1 := pos (l.take k) (l.drop k) (fun x hx => hl x (List.mem_of_mem_drop hx))
    have h2 := pos [] (l.take k) (fun x hx => hl x (List.mem_of_mem_take hx))
    rw [List.take_append_drop] at h1
    simp only [List.nil_append] at h2
    exact ⟨h2, h1⟩
  have HM := Aside0.mk mono
  clear mono hr hl
  go_enter Tryz.func114, Tryz.ntmps114
  go_wp2
  go_loopg [0, 6, 9] l.length (fun gg s0 _ s9 wr => ∃ kk : Nat, kk ≤ l.length ∧ l.length - kk ≤ gg ∧ s9 = .int .i64 kk ∧ s0 = .int .i64 (n + sumI (l.take kk)) ∧ wr = w)
  case atStart => exact ⟨0, Nat.zero_le _, by omega, rfl, by simp [sumI], rfl⟩
  case round =>
    obtain ⟨kk, hkk, hg, rfl, rfl, rfl⟩ := hrel
    have m1 := HM.out kk hkk
    by_cases hlt : kk < l.length
    · have hltz : (kk : Int) < (l.length : Int) := by omega
      obtain ⟨ad, c0, rfl, hK, k0⟩ := get1 rfl HR.out kk hlt
      obtain rfl : c0 = .int .i64 l[kk] := by simpa [Kd.int, Kd.scalar] using hK
      have m2 := HM.out (kk + 1) hlt
      have hsn : sumI (l.take (kk + 1)) = sumI (l.take kk) + l[kk] := by rw [take_snoc hlt, sumI_append]
      have m3 : 0 ≤ n + sumI (l.take kk) + l[kk] ∧ n + sumI (l.take kk) + l[kk] ≤ 9223372036854775807 := by omega
      have HS := Lib.hid hsn
      clear hsn hK
      go_wp2
      go_roundg (l.length - (kk + 1))
      case measure => omega
      case rel => exact ⟨kk + 1, by omega, by omega, by go_num, by rw [HS.out]; go_num, rfl⟩
    · have : kk = l.length := by omega
      subst this
      go_wp2
      go_ret
      exact ⟨reti (by rw [List.take_of_length_le (Nat.le_refl _)]), Below.refl _ _⟩
theorem sumI_sz (l : List Ex) : sumI (l.map fun x => (szE x : Int)) = (szL l : Int) := by
  have key : ∀ (l : List Ex) (a : Int), (l.map fun x => (szE x : Int)).foldl (· + ·) a = a + (szL l : Int) := by
    intro l
    induction l with
    | nil => intro a; simp [szL]
    | cons x xs ih => intro a; simp only [List.map_cons, List.foldl_cons, ih, szL]; omega
  simp [sumI, key]
theorem kE_cells {W : World} {x : Ex} {c0 c1 c2 : Value} (h : k57.K W x [c0, c1, c2]) : ∃ A c, c0 = .int .i64 x.f0 ∧ c1 = .string x.f1 ∧ c2 = .slice A x.f2.length c ∧ x.f2.length ≤ c ∧ k57.C W A x.f2.length x.f2 := by
  obtain ⟨A, c, e, l, g⟩ := k57_open h
  have : c0 = .int .i64 x.f0 ∧ c1 = .string x.f1 ∧ c2 = .slice A x.f2.length c := by simpa using e
  exact ⟨A, c, this.1, this.2.1, this.2.2, l, g⟩
set_option maxHeartbeats 2000000 in
theorem c_Size (n : Nat) : ∀ (e : Ex) (A : Option Addr) (c : Nat) (w : World), szE e ≤ n → szE e ≤ 1000000 → Kd.C k57 w A e.f2.length e.f2 → e.f2.length ≤ c →
    Calls Tryz.prog 60 #[.agg #[.int .i64 e.f0, .string e.f1, .slice A e.f2.length c]] w fun en w' => en = .returned (.int .i64 (szE e : Int)) ∧ Below w.heap.size w w' := by
  induction n with
  | zero => intro e A c w h; exact absurd h (by have := szE_pos e; omega)
  | succ n ih =>
    intro e A c w hn hb hr hc
    have hu := Tryz.underlying48
    have hm := hr.2.1
    have HR := Aside0.mk hr
    have hsz := szE_eq e
    have h1 : szL e.f2 ≤ n := by omega
    have h2 : szL e.f2 ≤ 1000000 := by omega
    have HS := Lib.hid hsz
    have hlen : e.f2.length ≤ 1000000 := by
      have : ∀ l : List Ex, l.length ≤ szL l := by
        intro l
        induction l with
        | nil => simp
        | cons x xs ih => rw [szL, List.length_cons]; have := szE_pos x; omega
      have := this e.f2; omega
    have q0 := below_alloc1 w (.cells #[.int .i64 e.f0, .string e.f1, .slice A e.f2.length c] 57)
    have Q0 := Aside0.mk q0
    clear hr hn hb hsz q0
    go_enter Tryz.func60, Tryz.ntmps60
    go_wp2
    go_loopg [3, 5, 9] e.f2.length (fun gg s3 _ s9 wr => ∃ kk : Nat, kk ≤ e.f2.length ∧ e.f2.length - kk ≤ gg ∧ s9 = .int .i64 kk ∧ Aside0 (wr.ownsRow w.heap.size 3 1 s3 kk (nums .i64 ((e.f2.take kk).map fun x => (szE x : Int)))) ∧ Aside0 (Below w.heap.size w wr))
    case atStart => exact ⟨0, Nat.zero_le _, by omega, rfl, ⟨own_nil _ _ _ _⟩, Q0⟩
    case round =>
      obtain ⟨kk, hkk, hg, rfl, HO, HB⟩ := hrel
      by_cases hlt : kk < e.f2.length
      · have hltz : (kk : Int) < (e.f2.length : Int) := by omega
        obtain ⟨ad, c0, c1, c2, rfl, hK, k0, k1, k2⟩ := get3 rfl (Kd.C_below HR.out HB.out) kk hlt
        obtain ⟨A2, a2, rfl, rfl, rfl, hl2, hi2⟩ := kE_cells hK
        have q1 := below_alloc1 wr (.cells #[.int .i64 e.f2[kk].f0, .string e.f2[kk].f1, .slice A2 e.f2[kk].f2.length a2] 57)
        have hmem : e.f2[kk] ∈ e.f2 := List.getElem_mem hlt
        have hle := szL_mem hmem
        have hcall := ih e.f2[kk] A2 a2 (wr.alloc (.cells #[.int .i64 e.f2[kk].f0, .string e.f2[kk].f1, .slice A2 e.f2[kk].f2.length a2] 57)) (by omega) (by omega) (Kd.C_below hi2 q1) hl2
        have Q1 := Aside0.mk q1
        have HC := Lib.hid hcall
        clear hK hi2 hl2 q1 hmem hle hcall
        go_wp2_with fail
        refine HC.out.mono ?_
        rintro en w' ⟨rfl, hb⟩
        have HO2 := Aside0.mk (pw_own_below (HO.out.alloc (.cells #[.int .i64 e.f2[kk].f0, .string e.f2[kk].f1, .slice A2 e.f2[kk].f2.length a2] 57)) hb)
        have HB2 := Aside0.mk (HB.out.trans ((Q1.out.trans (hb.mono Q1.out.size)).mono HB.out.size))
        have hlen2 : ((e.f2.take kk).map fun x => (szE x : Int)).length = kk := by simp; omega
        have HL := Lib.hid hlen2
        clear hb HO HB Q1 HC hlen2
        go_wp2_with (at_builtin; refine print_append_num (w0 := w) w.heap.size rfl (.tmp 13) (.tmp 16) 48 3 .i64 8 rfl hu infoInt (by decide) _ ((e.f2.take kk).map fun x => (szE x : Int)) (szE e.f2[kk] : Int) rfl rfl (by rw [HL.out]; exact HO2.out) HB2.out (by have := HB2.out.size; omega) (by rw [HL.out]; omega) ?_; intro v1 w1 ho hb hg hat)
        go_roundg (e.f2.length - (kk + 1))
        case measure => omega
        case rel => exact ⟨kk + 1, by omega, by omega, by go_num, ⟨by
          rw [List.length_append, HL.out] at ho
          have e1 : (e.f2.take (kk + 1)).map (fun x => (szE x : Int)) = (e.f2.take kk).map (fun x => (szE x : Int)) ++ [(szE e.f2[kk] : Int)] := by rw [take_snoc hlt, List.map_append]; rfl
          rw [e1]; exact ho⟩, ⟨hb⟩⟩
      · have : kk = e.f2.length := by omega
        subst this
        have e1 : e.f2.take e.f2.length = e.f2 := List.take_of_length_le (Nat.le_refl _)
        have ho := HO.out
        rw [e1] at ho
        obtain ⟨A3, c3, rfl, hrd⟩ := own_reads ho
        have hc3 : e.f2.length ≤ c3 := by
          rcases ho.2 with ⟨h, _⟩ | ⟨g, cap, cur, h, _, _, hle, _⟩
          · injection h with h1 h2 h3; omega
          · injection h with h1 h2 h3; omega
        have hl3 : (e.f2.map fun x => (szE x : Int)).length = e.f2.length := by simp
        have hcall := c_total 1 A3 c3 (e.f2.map fun x => (szE x : Int)) wr (by rw [hl3]; exact Kd.C_of_reads (d := (0 : Int)) (h1 := fun _ => rfl) hrd) (by rw [hl3]; exact hc3) (by omega)
          (fun x hx => by obtain ⟨y, _, rfl⟩ := List.mem_map.1 hx; omega) (by rw [sumI_sz]; omega)
        rw [hl3, sumI_sz] at hcall
        have HC := Lib.hid hcall
        clear hcall ho hl3 hrd e1
        go_wp2_with fail
        refine HC.out.mono ?_
        rintro en w' ⟨rfl, hb⟩
        go_wp2
        go_ret
        exact ⟨reti (by rw [HS.out]; omega), HB.out.trans (hb.mono HB.out.size)⟩
def bigE (e : Ex) : Bool := decide (leftE e 60 < 0)
def longS (l : List ByteArray) : Bool := decide (12 < l.length) || l.any fun s => decide (40 < s.size)
end Go.Proofs.YtacefdkfbpgedaaGreat.Mine
namespace Go.Proofs.YtacefdkfbpgedaaGreat.Mine
open Go.Proofs.YtacefdkfbpgedaaGreat.PProgSmall
open Go.RowKit Go.Proofs.YtacefdkfbpgedaaGreatW.PrintWords Go.Proofs.YtacefdkfbpgedaaGreatW.PrintLast Go.Proofs.YtacefdkfbpgedaaGreatW.PrintMore
set_option linter.unusedVariables false
set_option linter.unusedSimpArgs false
theorem sEq (a b : ByteArray) : (a.toList == b.toList) = decide (a = b) := by
  rw [ByteArray.toList_eq, ByteArray.toList_eq]
  by_cases h : a = b
  · subst h; simp
  · have : ¬ a.data.toList = b.data.toList := fun h2 => h (by cases a; cases b; simp at h2; rw [h2])
    rw [decide_eq_false h, beq_eq_false_iff_ne]; exact this
theorem sNe (a b : ByteArray) : (a.toList != b.toList) = !decide (a = b) := by rw [bne, sEq]
set_option maxHeartbeats 1000000 in
theorem c_IndexS (A : Option Addr) (c : Nat) (l : List ByteArray) (s : ByteArray) (w : World) (hr : Kd.C Kd.string w A l.length l) (hc : l.length ≤ c) :
    Calls Tryz.prog 123 #[.slice A l.length c, .string s] w fun e w' => e = .returned (.int .i64 (idxB (fun x => decide (x = s)) l)) ∧ w' = w := by
  have hm := hr.2.1
  have HR := Aside0.mk hr
  clear hr
  go_enter Tryz.func123, Tryz.ntmps123
  go_wp2
  go_loopg [5, 8] l.length (fun gg _ s8 wr => ∃ kk : Nat, kk ≤ l.length ∧ l.length - kk ≤ gg ∧ s8 = .int .i64 kk ∧ Aside0 (∀ j x, j < kk → l[j]? = some x → decide (x = s) = false) ∧ wr = w)
  case atStart => exact ⟨0, Nat.zero_le _, by omega, rfl, ⟨fun j x hj => absurd hj (Nat.not_lt_zero _)⟩, rfl⟩
  case round =>
    obtain ⟨kk, hkk, hg, rfl, HI, rfl⟩ := hrel
    by_cases hlt : kk < l.length
    · have hltz : (kk : Int) < (l.length : Int) := by omega
      obtain ⟨ad, c0, rfl, hK, k0⟩ := get1 rfl HR.out kk hlt
      obtain rfl : c0 = .string l[kk] := by simpa [Kd.string, Kd.scalar] using hK
      have HX := Lib.hid (show l[kk]? = some l[kk] from List.getElem?_eq_getElem hlt)
      clear hK
      by_cases he : l[kk] = s
      · have hb : (s.toList == l[kk].toList) = true := by rw [sEq]; simpa using he.symm
        have HE := Lib.hid he
        clear he
        go_wp2
        go_ret
        exact ⟨reti (idxB_some HX.out (by simpa using HE.out) HI.out).symm, rfl⟩
      · have hb : (s.toList == l[kk].toList) = false := by rw [sEq]; simpa using fun h => he h.symm
        have HE := Lib.hid he
        clear he
        go_wp2
        go_roundg (l.length - (kk + 1))
        case measure => omega
        case rel => exact ⟨kk + 1, by omega, by omega, by go_num, ⟨none_snoc (p := fun x => decide (x = s)) HI.out HX.out (by simpa using HE.out)⟩, rfl⟩
    · have : kk = l.length := by omega
      subst this
      go_wp2
      go_ret
      exact ⟨reti (idxB_none HI.out).symm, rfl⟩
theorem idxB_nonneg {α : Type} (p : α → Bool) (l : List α) : decide (0 ≤ idxB p l) = l.any p := by
  unfold idxB
  by_cases h : l.any p = true
  · rw [if_pos h, h]; simp
  · rw [if_neg h]; simp at h ⊢; exact h
set_option maxHeartbeats 1000000 in
theorem c_ContS (A : Option Addr) (c : Nat) (l : List ByteArray) (s : ByteArray) (w : World) (hr : Kd.C Kd.string w A l.length l) (hc : l.length ≤ c) :
    Calls Tryz.prog 69 #[.slice A l.length c, .string s] w fun e w' => e = .returned (.bool (l.any fun x => decide (x = s))) ∧ w' = w := by
  have HC := Lib.hid (c_IndexS A c l s w hr hc)
  clear hr
  go_enter Tryz.func69, Tryz.ntmps69
  go_wp2_with fail
  refine HC.out.mono ?_
  rintro e w' ⟨rfl, rfl⟩
  go_wp2
  go_ret
  exact ⟨retb (idxB_nonneg _ _), rfl⟩
set_option maxHeartbeats 2000000 in
theorem c_EqS (A B : Option Addr) (c d : Nat) (l m : List ByteArray) (w : World) (hr : Kd.C Kd.string w A l.length l) (hc : l.length ≤ c) (hs : Kd.C Kd.string w B m.length m) (hd : m.length ≤ d) :
    Calls Tryz.prog 20 #[.slice A l.length c, .slice B m.length d] w fun e w' => e = .returned (.bool (decide (l = m))) ∧ Below w.heap.size w w' := by
  have hm1 := hr.2.1
  have hm2 := hs.2.1
  have HR := Aside0.mk hr
  have HS := Aside0.mk hs
  clear hr hs
  by_cases hl : l.length = m.length
  · have hl1 : ((l.length : Int) != (m.length : Int)) = false := by simp only [bne_eq_false_iff_eq]; omega
    have HL := Lib.hid hl
    clear hl
    go_enter Tryz.func20, Tryz.ntmps20
    go_wp2
    go_loopg [5, 13] l.length (fun gg _ s13 wr => ∃ kk : Nat, kk ≤ l.length ∧ l.length - kk ≤ gg ∧ s13 = .int .i64 kk ∧ Aside0 (∀ j x y, j < kk → l[j]? = some x → m[j]? = some y → decide (x = y) = true) ∧ Aside0 (Below w.heap.size w wr))
    case atStart => exact ⟨0, Nat.zero_le _, by omega, rfl, ⟨fun j x y hj => absurd hj (Nat.not_lt_zero _)⟩, ⟨Below.refl _ _⟩⟩
    case round =>
      obtain ⟨kk, hkk, hg, rfl, HI, HB⟩ := hrel
      by_cases hlt : kk < l.length
      · have hltz : (kk : Int) < (l.length : Int) := by omega
        have hlt2 : kk < m.length := by have := HL.out; omega
        have hltz2 : (kk : Int) < (m.length : Int) := by omega
        obtain ⟨ad, c0, rfl, hK, k0⟩ := get1 rfl (Kd.C_below HR.out HB.out) kk hlt
        obtain rfl : c0 = .string l[kk] := by simpa [Kd.string, Kd.scalar] using hK
        obtain ⟨bd, d0, rfl, hK2, l0⟩ := get1 rfl (Kd.C_below HS.out HB.out) kk hlt2
        obtain rfl : d0 = .string m[kk] := by simpa [Kd.string, Kd.scalar] using hK2
        have HX := Lib.hid (show l[kk]? = some l[kk] from List.getElem?_eq_getElem hlt)
        have HY := Lib.hid (show m[kk]? = some m[kk] from List.getElem?_eq_getElem hlt2)
        clear hK hK2
        by_cases he : l[kk] = m[kk]
        · have hb : (l[kk].toList != m[kk].toList) = false := by rw [sNe]; simpa using he
          have hb2 : (l[kk].toList == m[kk].toList) = true := by rw [sEq]; simpa using he
          have HE := Lib.hid he
          clear he
          go_wp2_with fail
          go_quiet (fail)
          go_wp2
          go_roundg (l.length - (kk + 1))
          case measure => omega
          case rel => exact ⟨kk + 1, by omega, by omega, by go_num, ⟨fun j x y hj hx hy => by
            rcases Nat.lt_or_ge j kk with h | h
            · exact HI.out j x y h hx hy
            · obtain rfl : j = kk := by omega
              rw [HX.out] at hx; rw [HY.out] at hy
              cases hx; cases hy; simpa using HE.out⟩, ⟨pw_below_drewN HB.out _⟩⟩
        · have hb : (l[kk].toList != m[kk].toList) = true := by rw [sNe]; simpa using he
          have hb2 : (l[kk].toList == m[kk].toList) = false := by rw [sEq]; simpa using he
          have HE := Lib.hid he
          clear he
          go_wp2_with fail
          go_quiet (fail)
          go_wp2
          go_ret
          exact ⟨retb (by symm; rw [decide_eq_false_iff_not]; intro h; subst h; exact HE.out rfl), pw_below_drewN HB.out _⟩
      · have : kk = l.length := by omega
        subst this
        go_wp2
        go_ret
        exact ⟨retb (by
          symm; rw [decide_eq_true_iff]
          apply List.ext_getElem HL.out
          intro i h1 h2
          simpa using HI.out i _ _ h1 (List.getElem?_eq_getElem h1) (List.getElem?_eq_getElem h2)), HB.out⟩
  · have hl1 : ((l.length : Int) != (m.length : Int)) = true := by simp only [bne_iff_ne, ne_eq]; omega
    have HL := Lib.hid hl
    clear hl
    go_enter Tryz.func20, Tryz.ntmps20
    go_wp2
    go_ret
    exact ⟨retb (by symm; rw [decide_eq_false_iff_not]; intro h; exact HL.out (by rw [h])), Below.refl _ _⟩
end Go.Proofs.YtacefdkfbpgedaaGreat.Mine
namespace Go.Proofs.YtacefdkfbpgedaaGreat.Mine
open Go.Proofs.YtacefdkfbpgedaaGreat.PProgSmall
open Go.RowKit Go.Proofs.YtacefdkfbpgedaaGreatW.PrintWords Go.Proofs.YtacefdkfbpgedaaGreatW.PrintLast Go.Proofs.YtacefdkfbpgedaaGreatW.PrintMore
set_option linter.unusedVariables false
set_option linter.unusedSimpArgs false
def twB {α : Type} [DecidableEq α] (l : List α) : Bool := !decide l.Nodup
theorem twB_of {α : Type} [DecidableEq α] {l : List α} {k : Nat} (h : k < l.length) (hm : l[k] ∈ l.take k) : twB l = true := by
  rw [twB, Bool.not_eq_true', decide_eq_false_iff_not]
  intro hn
  obtain ⟨i, hi, he⟩ := List.getElem_of_mem hm
  rw [List.getElem_take] at he
  rw [List.length_take] at hi
  exact (List.pairwise_iff_getElem.1 hn) i k (by omega) h (by omega) he
theorem nodup_take_succ {α : Type} {l : List α} {k : Nat} (h : k < l.length) (hn : (l.take k).Nodup) (hm : l[k] ∉ l.take k) : (l.take (k + 1)).Nodup := by
  rw [take_snoc h, List.nodup_append]
  exact ⟨hn, by simp, fun a ha b hb e => hm (by rw [List.mem_singleton] at hb; subst hb; subst e; exact ha)⟩
def memB {α : Type} [DecidableEq α] (s : α) (l : List α) : Bool := l.any fun x => decide (x = s)
theorem memB_iff {α : Type} [DecidableEq α] {l : List α} {s : α} : memB s l = true ↔ s ∈ l := by simp [memB]
theorem memB_false {α : Type} [DecidableEq α] {l : List α} {s : α} : memB s l = false ↔ s ∉ l := by rw [← memB_iff]; simp
theorem plainElem_bool_inv {H : Type} {P : Program} {e : TypeId} (he : P.underlying e = some .bool) {v : Value} {z : DataW H × List MemPlace} (h : plainElem P e v = some z) : ∃ a, v = .bool a ∧ z = (.lit (.bool a), []) := by
  unfold plainElem at h
  rw [he] at h
  split at h
  · cases h; exact ⟨_, rfl, rfl⟩
  all_goals simp_all
theorem lookup_bool {H : Type} {P : Program} {k t e : TypeId} {w : World} {b n : Nat} {D : DataW H} (h : w.ownsMap P k (plainElem P e) b n D) (K : Maps.Keyed P k) (ht : P.underlying t = some (.map k e)) (he : P.underlying e = some .bool) (hz : (zeroValue e).run P w = .ok (.bool false) w)
    {key : Value} {kl : Lit} (hkey : keyOf P k key = some kl) : ∃ c, (Instr.lookup t (.map (some b)) key false).run P w = .ok (.bool c) w ∧ D.atKey kl (.lit (.bool false)) = .lit (.bool c) := by
  obtain ⟨v, ps, hrun, hv⟩ := h.lookup K ht hz (plainElem_bool he false) hkey
  obtain ⟨c, rfl, hc⟩ := plainElem_bool_inv he hv
  simp only [Prod.mk.injEq] at hc
  exact ⟨c, hrun, hc.1⟩
def MSet (W : World) (b : Nat) (l : List ByteArray) : Prop :=
  ∃ (D : DataW Unit), W.ownsMap Tryz.prog 9 (plainElem Tryz.prog 4) b l.length D ∧ Maps.IsMap D ∧ ∀ s : ByteArray, D.atKey (.string s.data.toList) (.lit (.bool false)) = .lit (.bool (memB s l))
theorem law_str : Go.Maps.Keyed Tryz.prog 9 := Go.Maps.string_keyed Tryz.underlying9
theorem zero_bool (w : World) : (zeroValue 4).run Tryz.prog w = .ok (.bool false) w := by kernel_rfl
theorem key_str {s : ByteArray} (hs : s.size ≤ nmLim) : keyOf Tryz.prog 9 (.string s) = some (.string s.data.toList) := Go.WideMaps.keyOf_string_mk Tryz.underlying9 (by unfold nmLim at hs; unfold maxLen; omega)
theorem MSet.made (w : World) : MSet (w.alloc (.map #[] 0)) w.heap.size [] := ⟨.map [], World.ownsMap_made _ _ _ _, Maps.isMap_empty, fun s => by simp [DataW.atKey, memB]⟩
theorem MSet.lt {W : World} {b : Nat} {l : List ByteArray} (h : MSet W b l) : b < W.heap.size := by obtain ⟨D, h, _⟩ := h; exact h.lt
theorem MSet.below {W W' : World} {b : Nat} {l : List ByteArray} (h : MSet W b l) (hb : Below W.heap.size W W') : MSet W' b l := by
  obtain ⟨D, h1, h2⟩ := h
  exact ⟨D, h1.kept (row := none) (grown_of_below hb none) (by simp), h2⟩
set_option maxHeartbeats 2000000 in
theorem c_twice1 (s : ByteArray) (B b : Nat) (l : List ByteArray) (w : World) (hs : s.size ≤ nmLim) (hB : w.heap[B]? = some (.cells #[.map (some b)] 149 (0, 0))) (hm : MSet w b l) (hl : l.length < 1000000) :
    Calls Tryz.prog 156 #[.string s, .pointer (some ⟨B, 0, none⟩)] w fun e w' => e = .returned (.bool (!memB s l)) ∧ MSet w' b (l ++ [s]) ∧ Fr (fun k => k = b) w w' := by
  obtain ⟨D, hown, hD, hat⟩ := hm
  have k0 := cell_of_one hB
  have hkey : keyOf Tryz.prog 9 (.string s) = some (.string s.data.toList) := key_str hs
  obtain ⟨cc, hrun, hcc⟩ := lookup_bool hown law_str Tryz.underlying149 Tryz.underlying4 (zero_bool w) hkey
  have hcc2 : cc = memB s l := (Lit.bool.inj (DataW.lit.inj ((hat s).symm.trans hcc))).symm
  subst hcc2
  have HO := Aside0.mk hown
  have HA := Lib.hid hat
  have HK := Lib.hid hkey
  have HB := Lib.hid hB
  have HD := Lib.hid hD
  clear hown hat hkey hcc hB hD
  go_enter Tryz.func156, Tryz.ntmps156
  go_wp2_with (at_mapUpdate; refine wpList_mapUpdate_own _ rfl _ _ _ 149 rfl 9 4 law_str Tryz.underlying149 (plainElem Tryz.prog 4) b l.length D rfl HO.out (by unfold maxLen; omega) _ _ (.string s.data.toList) rfl rfl HK.out (.lit (.bool true)) [] (plainElem_bool Tryz.underlying4 true) ?_; intro w1 hown1 hgrow1)
  go_ret
  refine ⟨retb rfl, ⟨D.put (.string s.data.toList) (.lit (.bool true)), by simpa using hown1, HD.out.put _ _, fun t => ?_⟩, (Fr.refl _ _).grown hgrow1 (fun k hk => .inl (by cases hk; rfl))⟩
  by_cases ht : t = s
  · subst ht
    rw [Maps.atKey_put_same HD.out (show WideAt.IsKeyLit (Lit.string t.data.toList) from trivial), memB_iff.2 (by simp)]
  · rw [Maps.atKey_put_other (fun h => ht (Go.WideShapes.bytes_inj (Lit.string.inj h))), HA.out t]
    have : memB t (l ++ [s]) = memB t l := by simp [memB]; intro h; exact absurd h.symm ht
    rw [this]
set_option maxHeartbeats 2000000 in
theorem c_twice (A : Option Addr) (c : Nat) (l : List ByteArray) (w : World) (hr : Kd.C Kd.string w A l.length l) (hc : l.length ≤ c) (hs : ∀ s ∈ l, s.size ≤ nmLim) (hl : l.length < 1000000) :
    Calls Tryz.prog 99 #[.slice A l.length c] w fun e w' => e = .returned (.bool (twB l)) ∧ Below w.heap.size w w' := by
  have hmm := @run_makeMap Tryz.prog
  obtain ⟨W1, hW1⟩ : ∃ W1, (w.alloc (.map #[] 0)).alloc (.cells #[.map (some w.heap.size)] 149) = W1 := ⟨_, rfl⟩
  have b1 : Below w.heap.size w W1 := by rw [← hW1]; exact (below_alloc1 _ _).trans ((below_alloc1 _ _).mono (by simp))
  have s1 : W1.heap.size = w.heap.size + 2 := by rw [← hW1]; simp
  have m1 : MSet W1 w.heap.size [] := by rw [← hW1]; exact (MSet.made w).below (below_alloc1 _ _)
  have x1 : W1.heap[w.heap.size + 1]? = some (.cells #[.map (some w.heap.size)] 149 (0, 0)) := by rw [← hW1]; have := alloc_at (w.alloc (.map #[] 0)) (.cells #[.map (some w.heap.size)] 149); simpa using this
  have HC := Lib.hid (evS A c l W1 hc (Fr (fun k => k = w.heap.size)) (Fr.rel _) (fun W W' k cs hk h ho => h.blk ho (by omega)) (fun W hW => Kd.C_below hr (((Fr.of_below _ b1).trans hW).below (Nat.le_refl _) (fun k hk he => by omega)))
    156 #[.pointer (some ⟨w.heap.size + 1, 0, none⟩)] (enters_of Tryz.func156 (by kernel_rfl) rfl)
    (fun i W => MSet W w.heap.size (l.take i) ∧ W.heap[w.heap.size + 1]? = some (.cells #[.map (some w.heap.size)] 149 (0, 0)) ∧ (l.take i).Nodup)
    (fun i W => Below w.heap.size w W ∧ ∃ h : i < l.length, l[i] ∈ l.take i)
    (fun i W W' h hb => ⟨h.1.below hb, blk_below h.2.1 hb, h.2.2⟩)
    (fun i x cs W hx hK _ hW hi => by
      obtain ⟨hil, rfl⟩ := List.getElem?_eq_some_iff.1 hx
      refine (c_twice1 l[i] (w.heap.size + 1) w.heap.size (l.take i) W (hs _ (List.getElem_mem hil)) hi.2.1 hi.1 (by rw [List.length_take]; omega)).mono ?_
      rintro e W' ⟨rfl, hm, hfr⟩
      refine ⟨_, rfl, ?_⟩
      cases hmb : memB l[i] (l.take i) with
      | true => exact ⟨((Fr.of_below _ b1).trans (hW.trans hfr)).below (Nat.le_refl _) (fun k hk he => by omega), hil, memB_iff.1 hmb⟩
      | false => exact ⟨hfr, by rw [take_snoc hil]; exact hm, hfr.blk hi.2.1 (by omega), nodup_take_succ hil hi.2.2 (memB_false.1 hmb)⟩)
    ⟨by simpa using m1, x1, by simp⟩)
  rw [← hW1] at HC
  have B1 := Aside0.mk b1
  have HW := Aside0.mk hW1
  clear m1 x1 hr hs b1 hW1 s1
  go_enter Tryz.func99, Tryz.ntmps99
  go_wp2_with fail
  refine HC.out.mono ?_
  rintro e w' ⟨b, rfl, hb⟩
  cases b with
  | true =>
    have hfr := hb.1
    rw [HW.out] at hfr
    have HB := Aside0.mk (((Fr.of_below _ B1.out).trans hfr).below (n := w.heap.size) (Nat.le_refl _) (fun k hk he => by omega))
    have HI := Aside0.mk hb.2.2.2
    clear hb hfr
    go_wp2
    go_ret
    exact ⟨retb (by have := HI.out; rw [List.take_of_length_le (Nat.le_refl _)] at this; simp [twB, this]), HB.out⟩
  | false =>
    obtain ⟨i, hi, hbel, hi2, hmem⟩ := hb
    have HB := Aside0.mk hbel
    have HM := Aside0.mk hmem
    clear hbel
    go_wp2
    go_ret
    exact ⟨retb (twB_of hi2 HM.out).symm, HB.out⟩
end Go.Proofs.YtacefdkfbpgedaaGreat.Mine
namespace Go.Proofs.YtacefdkfbpgedaaGreat.Mine
open Go.Proofs.YtacefdkfbpgedaaGreat.PProgSmall
open Go.RowKit Go.Shelf Go.Proofs.YtacefdkfbpgedaaGreatW.PrintWords Go.Proofs.YtacefdkfbpgedaaGreatW.PrintLast Go.Proofs.YtacefdkfbpgedaaGreatW.PrintMore
set_option linter.unusedVariables false
set_option linter.unusedSimpArgs false
attribute [local go_sem] Oper.semAt_some
theorem roomw (k : Nat) : Fence.wide.room k := fun d h => by cases h
theorem RoundIn.any {m m' : Nat} {P : Program} {l : Nat} {f : FuncId} {tmps : Array Value} {assign body : Code} {w : World} {R : Ending → World → Prop}
    (h : RoundIn Fence.wide m P l f tmps assign body w R) : RoundIn Fence.wide m' P l f tmps assign body w R := ⟨h.1, fun c cs _ => h.2 c cs (roomw _)⟩
theorem YieldAt.any {m : Nat} (m' : Nat) {P : Program} {l : Nat} {args : Array Value} {W : World} {R : Ending → World → Prop} (h : YieldAt Fence.wide m P l args W R) : YieldAt Fence.wide m' P l args W R := by
  obtain ⟨fn, tmps, assign, body, hy, hR⟩ := h
  exact ⟨fn, tmps, assign, body, hy, RoundIn.any hR⟩
abbrev HdP (w0 : World) (ok : Nat → Prop) (h : Ex × Option Addr × Nat) : Prop := h.1.f2.length ≤ h.2.2 ∧ Kd.F k57 w0 ok h.2.1 h.1.f2.length h.1.f2 ∧ szE h.1 < 1000000
abbrev Hd (w0 : World) (ok : Nat → Prop) := { h : Ex × Option Addr × Nat // HdP w0 ok h }
def encH (h : Ex × Option Addr × Nat) : Value := .agg #[.int .i64 h.1.f0, .string h.1.f1, .slice h.2.1 h.1.f2.length h.2.2]
def cellsH (h : Ex × Option Addr × Nat) : Array Value := #[.int .i64 h.1.f0, .string h.1.f1, .slice h.2.1 h.1.f2.length h.2.2]
def exs {w0 : World} {ok : Nat → Prop} (hs : List (Hd w0 ok)) : List Ex := hs.map (·.1.1)
theorem exs_append {w0 : World} {ok : Nat → Prop} (a b : List (Hd w0 ok)) : exs (a ++ b) = exs a ++ exs b := by simp [exs]
theorem exs_length {w0 : World} {ok : Nat → Prop} (a : List (Hd w0 ok)) : (exs a).length = a.length := by simp [exs]
def fvY (l : Nat) : Value := .func (.yield l) #[] #[]
def fvW (Yb Wb : Nat) : Value := .func (.func 134) #[] #[.pointer (some ⟨Yb, 0, none⟩), .pointer (some ⟨Wb, 0, none⟩)]
def WalkPost {w0 : World} {ok : Nat → Prop} (M : Nat → Prop) (n₀ : Nat) (J Jx : List (Hd w0 ok) → World → Prop) (pre : List (Hd w0 ok)) (ys : List Ex) (W : World) (en : Ending) (W' : World) : Prop :=
  ∃ b : Bool, en = .returned (.bool b) ∧ if b then KC M n₀ W W' ∧ ∃ hs, exs hs = ys ∧ J (pre ++ hs) W' else ∃ hs, exs hs <+: ys ∧ Jx (pre ++ hs) W'
set_option maxRecDepth 100000 in
set_option maxHeartbeats 4000000 in
theorem walk_calls (l : Nat) (w0 : World) (M : Nat → Prop) (n₀ N : Nat) (ok : Nat → Prop) (hM : ∀ k, M k → k < w0.heap.size) (hok : ∀ k, ok k → ¬ M k ∧ k < n₀) (J Jx : List (Hd w0 ok) → World → Prop)
    (hJ : ∀ s W W', J s W → Below W.heap.size W W' → J s W')
    (hY : ∀ pre x W, J pre W → pre.length < N → YieldAt Fence.wide 0 Tryz.prog l #[encH x.1] W fun e W' => (e = .returned (.bool true) ∧ J (pre ++ [x]) W' ∧ KC M n₀ W W') ∨ (e = .returned (.bool false) ∧ Jx (pre ++ [x]) W'))
    (Yb Wb : Nat) (hYb : w0.heap.size ≤ Yb) (hWb : w0.heap.size ≤ Wb) (m : Nat) :
    ∀ (h : Hd w0 ok) (pre : List (Hd w0 ok)) (W : World), szE h.1.1 ≤ m → KC M n₀ w0 W → W.heap[Yb]? = some (.cells #[fvY l] 67 (0, 0)) → W.heap[Wb]? = some (.cells #[fvW Yb Wb] 67 (0, 0)) → J pre W → pre.length + szE h.1.1 ≤ N →
      Calls Tryz.prog 134 #[encH h.1, .pointer (some ⟨Yb, 0, none⟩), .pointer (some ⟨Wb, 0, none⟩)] W (WalkPost M n₀ J Jx pre (plE h.1.1) W) := by
  induction m with
  | zero => intro h pre W hs; exact absurd hs (by have := szE_pos h.1.1; omega)
  | succ m ih =>
    rintro ⟨⟨e, A, c⟩, hc, hF, hz⟩ pre W hs hK hy0 hw0 hj hN
    simp only at hs hN hc hF hz ⊢
    rw [szE_eq] at hs hN
    have hnM : ∀ k, w0.heap.size ≤ k → ¬ M k := fun k hk h => by have := hM k h; omega
    have hWs := hK.1
    -- the parameter's box
    have q1 := below_alloc1 W (.cells #[.int .i64 e.f0, .string e.f1, .slice A e.f2.length c] 57)
    have bx := alloc_at W (.cells #[.int .i64 e.f0, .string e.f1, .slice A e.f2.length c] 57)
    have hk1 : KC M n₀ w0 (W.alloc (.cells #[.int .i64 e.f0, .string e.f1, .slice A e.f2.length c] 57)) := (KC.rel M n₀).trans hK ((KC.rel M n₀).below q1)
    have hyld := hY pre ⟨(e, A, c), hc, hF, hz⟩ _ (hJ _ _ _ hj q1) (by omega)
    have y1 := cell_of_one (blk_below hy0 q1)
    -- the rest behind the round
    have hyld2 := YieldAt.mono hyld (R' := fun en W2 => (en = .returned (.bool true) ∧ W2.cell? ⟨W.heap.size, 2, none⟩ = some (.slice A e.f2.length c) ∧ W2.cell? ⟨Wb, 0, none⟩ = some (fvW Yb Wb) ∧
        Calls Tryz.prog 135 #[.slice A e.f2.length c, fvW Yb Wb] W2 (fun en W' => ∃ b : Bool, en = .returned (.bool b) ∧ if b then KC M n₀ W W' ∧ ∃ hs, exs hs = plE e ∧ J (pre ++ hs) W' else ∃ hs, exs hs <+: plE e ∧ Jx (pre ++ hs) W')) ∨
      (en = .returned (.bool false) ∧ ∃ hs, exs hs <+: plE e ∧ Jx (pre ++ hs) W2)) (by
        rintro en W2 (⟨rfl, hJ2, hk2⟩ | ⟨rfl, hx2⟩)
        · left
          have hk02 := (KC.rel M n₀).trans hk1 hk2
          obtain ⟨cs2, bx2, bx2c⟩ := hk2.blkE (hnM _ hWs) bx
          have hy2 := hk2.blkF (hnM _ hYb) (blk_below hy0 q1)
          have hw2 := hk2.blkF (hnM _ hWb) (blk_below hw0 q1)
          refine ⟨rfl, (blk_cell bx2 2).trans (bx2c.trans rfl), cell_of_one hw2, ?_⟩
          refine (evE A c e.f2 W2 hc (KC M n₀) (KC.rel M n₀) (fun W' W'' k cs hk h ho => h.blkF (hnM _ (by have := hk02.1; omega)) ho) (fun W' hW' => Kd.F_now (((KC.rel M n₀).trans hk02 hW').F hF hok))
            134 #[.pointer (some ⟨Yb, 0, none⟩), .pointer (some ⟨Wb, 0, none⟩)] (enters_of Tryz.func134 (by kernel_rfl) rfl)
            (fun i W' => ∃ hs, exs hs = plL (e.f2.take i) ∧ J (pre ++ [⟨(e, A, c), hc, hF, hz⟩] ++ hs) W' ∧ W'.heap[Yb]? = some (.cells #[fvY l] 67 (0, 0)) ∧ W'.heap[Wb]? = some (.cells #[fvW Yb Wb] 67 (0, 0)))
            (fun i W' => ∃ hs, exs hs <+: plL e.f2 ∧ Jx (pre ++ [⟨(e, A, c), hc, hF, hz⟩] ++ hs) W')
            (fun i W' W'' ⟨hs, h1, h2, h3, h4⟩ hb => ⟨hs, h1, hJ _ _ _ h2 hb, blk_below h3 hb, blk_below h4 hb⟩)
            ?_ ⟨[], rfl, by simpa using hJ2, hy2, hw2⟩).mono ?_
          · intro i x cs W' hx hKx hcc hW' ⟨hs1, h1, h2, h3, h4⟩
            obtain ⟨hil, rfl⟩ := List.getElem?_eq_some_iff.1 hx
            obtain ⟨ad, rfl, hcells⟩ := hcc
            have hk0' := (KC.rel M n₀).trans hk02 hW'
            have hFK := elemF hF i hil (k57.K_len hKx) hcells (fun p v hp hv => hk0'.cell hv (hok _ hp).1 (hok _ hp).2) (by decide)
            obtain ⟨A2, a2, rfl, hl2, hF2⟩ := k57_openF hFK
            have hle := szL_take_le e.f2 (i + 1)
            rw [szL_take hil] at hle
            have hlen : hs1.length = szL (e.f2.take i) := by rw [← exs_length, h1, length_plL]
            refine (ih ⟨(e.f2[i], A2, a2), hl2, hF2, by have := szE_mem (List.getElem_mem hil); simp only at hz ⊢; omega⟩ (pre ++ [⟨(e, some ad, c), hc, hF, hz⟩] ++ hs1) W' (by simp only; omega) hk0' h3 h4 h2 (by simp only [List.length_append, List.length_cons, List.length_nil]; omega)).mono ?_
            rintro en W'' ⟨b, rfl, hb⟩
            refine ⟨b, rfl, ?_⟩
            cases b with
            | true =>
              obtain ⟨hkk, hs2, h5, h6⟩ := hb
              exact ⟨hkk, hs1 ++ hs2, by rw [exs_append, h1, h5, plL_take hil], by rw [← List.append_assoc]; exact h6, hkk.blkF (hnM _ hYb) h3, hkk.blkF (hnM _ hWb) h4⟩
            | false =>
              obtain ⟨hs2, h5, h6⟩ := hb
              refine ⟨hs1 ++ hs2, ?_, by rw [← List.append_assoc]; exact h6⟩
              rw [exs_append, h1]
              have hsplit : plL e.f2 = plL (e.f2.take i) ++ (plE e.f2[i] ++ plL (e.f2.drop (i + 1))) := by
                rw [← List.append_assoc, ← plL_take hil, ← plL_append, List.take_append_drop]
              rw [hsplit]
              exact (List.prefix_append_right_inj _).2 (h5.trans (List.prefix_append _ _))
          · rintro en W' ⟨b, rfl, hb⟩
            refine ⟨b, rfl, ?_⟩
            cases b with
            | true =>
              obtain ⟨hkk, hs1, h1, h2, _⟩ := hb
              rw [List.take_of_length_le (Nat.le_refl _)] at h1
              exact ⟨(KC.rel M n₀).trans ((KC.rel M n₀).below q1) ((KC.rel M n₀).trans hk2 hkk), ⟨(e, A, c), hc, hF, hz⟩ :: hs1, by rw [plE_eq]; simp [exs] at h1 ⊢; exact h1, by simpa using h2⟩
            | false =>
              obtain ⟨i, _, hs1, h1, h2⟩ := hb
              refine ⟨⟨(e, A, c), hc, hF, hz⟩ :: hs1, ?_, by simpa using h2⟩
              rw [plE_eq]
              simpa [exs] using h1
        · right
          refine ⟨rfl, [⟨(e, A, c), hc, hF, hz⟩], ?_, by simpa using hx2⟩
          rw [plE_eq]
          simp [exs])
    obtain ⟨fn, tmps, assign, body, hy, hR⟩ := YieldAt.any 0 hyld2
    have hdd : ∀ k : Nat, (Fence.wide.depth.isSome = true → 1 ≤ k) := fun k h => by cases h
    unfold fvY at y1
    unfold fvW at hR
    unfold encH at hy ⊢
    simp only at hy
    have HR := Lib.hid hR
    have hltb : ¬ (Yb = W.heap.size) := by have := blk_lt hy0; omega
    clear hyld hyld2 ih hY hJ hk1 hF hj hy0 hw0 bx hK hR
    refine (callsIn_wide (n := 5)).1 (callsIn_of_wp (F := Fence.wide) Tryz.func134 rfl trivial ?_ rfl)
    simp only [Tryz.ntmps134, List.size_toArray, List.length_cons, List.length_nil, Nat.reduceAdd, Nat.reduceSub, Array.replicate_succ, Array.replicate_zero, List.push_toArray, List.append_toArray, List.nil_append, List.cons_append]
    gi_wp2_with fail
    refine (RoundIn.any HR.out).mono ?_
    clear HR
    rintro en W2 (⟨rfl, k2, kw, hev⟩ | ⟨rfl, hx2⟩)
    · have HE := Lib.hid hev
      clear hev
      gi_wp2_with fail
      refine ⟨trivial, (callsIn_wide.2 HE.out).mono ?_⟩
      rintro en W3 ⟨b, rfl, hb⟩
      have HB := Lib.hid hb
      clear hb
      gi_wp2
      go_ret
      exact ⟨b, rfl, HB.out⟩
    · have HX := Lib.hid hx2
      clear hx2
      gi_wp2
      refine ⟨trivial, ?_⟩
      gi_wp2
      go_ret
      exact ⟨false, rfl, HX.out⟩
theorem c_places (e : Ex) (A : Option Addr) (c : Nat) (w : World) :
    Calls Tryz.prog 82 #[.agg #[.int .i64 e.f0, .string e.f1, .slice A e.f2.length c]] w fun en w' => en = .returned (.func (.func 133) #[] #[.pointer (some ⟨w.heap.size, 0, none⟩)]) ∧ w' = w.alloc (.cells #[.int .i64 e.f0, .string e.f1, .slice A e.f2.length c] 57) := by
  go_enter Tryz.func82, Tryz.ntmps82
  go_wp2
  go_ret
  exact ⟨rfl, rfl⟩
set_option maxRecDepth 100000 in
set_option maxHeartbeats 4000000 in
theorem places_stops (w0 : World) (M : Nat → Prop) (n₀ : Nat) (ok : Nat → Prop) (hM : ∀ k, M k → k < w0.heap.size) (hok : ∀ k, ok k → ¬ M k ∧ k < n₀) (h : Hd w0 ok) (Be : Nat) (hBe : ¬ M Be) (w : World)
    (hkw : KC M n₀ w0 w) (hn : w0.heap.size ≤ w.heap.size) (hbox : w.heap[Be]? = some (.cells (cellsH h.1) 57 (0, 0))) :
    SeqStopsK Fence.wide 5 Tryz.prog 133 #[.pointer (some ⟨Be, 0, none⟩)] (fun x : Hd w0 ok => #[encH x.1]) (KC M n₀) (fun hs => exs hs = plE h.1.1) (fun hs => exs hs <+: plE h.1.1) (szE h.1.1) w := by
  intro l J Jx W hW hJ hJx hY h0
  have hJ' : ∀ s W W', J s W → Below W.heap.size W W' → J s W' := fun s A B hs hb => hJ s A B none hs (grown_of_below hb none) (fun r e => by cases e)
  obtain ⟨⟨e, A, c⟩, hc, hF, hz⟩ := h
  simp only [cellsH] at hbox hn ⊢
  have hb1 := blk_below hbox hW
  have hWs := hW.size
  obtain ⟨W1, hW1⟩ : ∃ W1, (W.alloc (.cells #[fvY l] 67)).alloc (.cells #[fvW W.heap.size (W.heap.size + 1)] 67) = W1 := ⟨_, rfl⟩
  have b1 : Below W.heap.size W W1 := by rw [← hW1]; exact (below_alloc1 _ _).trans ((below_alloc1 _ _).mono (by simp))
  have y1 : W1.heap[W.heap.size]? = some (.cells #[fvY l] 67 (0, 0)) := by rw [← hW1]; exact blk_alloc (alloc_at _ _) _
  have w1 : W1.heap[W.heap.size + 1]? = some (.cells #[fvW W.heap.size (W.heap.size + 1)] 67 (0, 0)) := by rw [← hW1]; have := alloc_at (W.alloc (.cells #[fvY l] 67)) (.cells #[fvW W.heap.size (W.heap.size + 1)] 67); simpa using this
  have k1 : KC M n₀ w0 W1 := (KC.rel M n₀).trans hkw ((KC.rel M n₀).below (hW.trans (b1.mono hWs)))
  have hcw : Calls Tryz.prog 134 #[.agg #[.int .i64 e.f0, .string e.f1, .slice A e.f2.length c], .pointer (some ⟨W.heap.size, 0, none⟩), .pointer (some ⟨W.heap.size + 1, 0, none⟩)] W1 (WalkPost M n₀ J Jx [] (plE e) W1) := (walk_calls l w0 M n₀ (szE e) ok hM hok J Jx hJ' (fun pre x W hj hl => YieldAt.any 0 (hY pre x W hj hl)) W.heap.size (W.heap.size + 1) (by omega) (by omega) _ ⟨(e, A, c), hc, hF, hz⟩ [] W1 (Nat.le_refl _) k1 y1 w1 (hJ' _ _ _ h0 b1) (by simp))
  have cb0 : W1.cell? ⟨Be, 0, none⟩ = some (.int .i64 e.f0) := (blk_cell (blk_below hb1 b1) 0).trans rfl
  have cb1 : W1.cell? ⟨Be, 1, none⟩ = some (.string e.f1) := (blk_cell (blk_below hb1 b1) 1).trans rfl
  have cb2 : W1.cell? ⟨Be, 2, none⟩ = some (.slice A e.f2.length c) := (blk_cell (blk_below hb1 b1) 2).trans rfl
  have hne : ¬ (Be = W.heap.size) := by have := blk_lt hb1; omega
  have hne2 : ¬ (Be = W.heap.size + 1) := by have := blk_lt hb1; omega
  rw [← hW1] at hcw cb0 cb1 cb2
  unfold fvY fvW at hcw cb0 cb1 cb2
  have HC := Lib.hid hcw
  clear hY hJ hJx h0 hJ' hkw k1 y1 w1 b1 hbox hb1 hW hW1 hcw
  refine callsIn_of_wp (F := Fence.wide) Tryz.func133 rfl trivial ?_ rfl
  simp only [Tryz.ntmps133, List.size_toArray, List.length_cons, List.length_nil, Nat.reduceAdd, Nat.reduceSub, Array.replicate_succ, Array.replicate_zero, List.push_toArray, List.append_toArray, List.nil_append, List.cons_append]
  gi_wp2_with fail
  refine ⟨trivial, (callsIn_wide.2 HC.out).mono ?_⟩
  rintro en W3 ⟨b, rfl, hb⟩
  have HB := Lib.hid hb
  clear hb
  gi_wp2
  go_end0
  refine ⟨⟨_, rfl⟩, ?_⟩
  have hb := HB.out
  cases b with
  | true => obtain ⟨_, hs, h1, h2⟩ := hb; exact .inl ⟨hs, h1, by simpa using h2⟩
  | false => obtain ⟨hs, h1, h2⟩ := hb; exact .inr ⟨hs, h1, by simpa using h2⟩
end Go.Proofs.YtacefdkfbpgedaaGreat.Mine
namespace Go.Proofs.YtacefdkfbpgedaaGreat.Mine
open Go.Proofs.YtacefdkfbpgedaaGreat.PProgSmall
open Go.RowKit Go.Shelf Go.Proofs.YtacefdkfbpgedaaGreatW.PrintWords Go.Proofs.YtacefdkfbpgedaaGreatW.PrintLast Go.Proofs.YtacefdkfbpgedaaGreatW.PrintMore
set_option linter.unusedVariables false
set_option linter.unusedSimpArgs false
def exO : Obj → Bool
  | .cells _ t _ => t == 57
  | _ => false
def KeepsBut (l : Option Nat) (W W' : World) : Prop := W.heap.size ≤ W'.heap.size ∧ ∀ k o, some k ≠ l → W.heap[k]? = some o → (o.isCells = false ∨ exO o = true) → W'.heap[k]? = some o
theorem KeepsBut.refl (l : Option Nat) (W : World) : KeepsBut l W W := ⟨Nat.le_refl _, fun _ _ _ h _ => h⟩
theorem KeepsBut.trans {l : Option Nat} {a b c : World} (h : KeepsBut l a b) (k : KeepsBut l b c) : KeepsBut l a c := ⟨Nat.le_trans h.1 k.1, fun i o hi h0 ho => k.2 i o hi (h.2 i o hi h0 ho) ho⟩
theorem KeepsBut.below {l : Option Nat} {W W' : World} (h : Below W.heap.size W W') : KeepsBut l W W' := ⟨h.size, fun k o _ hk _ => (h.block k (blk_lt hk)).trans hk⟩
theorem KeepsBut.any {W W' : World} (h : KeepsBut none W W') (l : Option Nat) : KeepsBut l W W' := ⟨h.1, fun k o _ hk ho => h.2 k o (by simp) hk ho⟩
theorem KeepsBut.putObj {W : World} {l : Nat} {o : Obj} (o' : Obj) : KeepsBut (some l) W (W.putObj l o') := ⟨by simp, fun k x hk h _ => (World.putObj_heap_other (fun e => hk (by rw [e]))).trans h⟩
theorem KeepsBut.set {l : Option Nat} {W : World} {g : Nat} {cs : Array Value} {t : Nat} {p : Nat × Nat} (h : W.heap[g]? = some (.cells cs t p)) (ht : t ≠ 57) (j : Nat) (u : Value) : KeepsBut l W (W.setCell ⟨g, j, none⟩ u) :=
  ⟨by simp [World.setCell], fun k o _ hk ho => (Below.heap_setCell _ _ _ _ (fun e => by
    subst e; try simp only at hk
    rw [h] at hk; cases hk
    rcases ho with ho | ho
    · cases ho
    · simp [exO] at ho; exact ht ho)).trans hk⟩
theorem KeepsBut.grown {l : Option Nat} {W W' : World} {row : Option Nat} (hg : W.grownBy W' row) (hr : ∀ k, row = some k → ∃ cs t p, W.heap[k]? = some (.cells cs t p) ∧ t ≠ 57) : KeepsBut l W W' :=
  ⟨hg.size, fun k o _ hk ho => (hg.block k (blk_lt hk) (fun e => by
    obtain ⟨cs, t, p, h, ht⟩ := hr k e.symm
    rw [h] at hk; cases hk
    rcases ho with ho | ho
    · cases ho
    · simp [exO] at ho; exact ht ho)).trans hk⟩
def KX (M : Nat → Prop) (n l : Nat) (W W' : World) : Prop := KC M n W W' ∧ KeepsBut (some l) W W'
theorem KX.trans {M : Nat → Prop} {n l : Nat} {a b c : World} (h : KX M n l a b) (k : KX M n l b c) : KX M n l a c := ⟨(KC.rel M n).trans h.1 k.1, h.2.trans k.2⟩
def SeqX {α : Type} (m g : Nat) (lb : Array Value) (enc : α → Value) (M : Nat → Prop) (n₀ : Nat) (S Sp : List α → Prop) (N : Nat) (w : World) : Prop :=
  ∀ (l : Nat) (J Jx : List α → World → Prop) (W : World), Below w.heap.size w W → l < W.heap.size → OwnFrom W.heap.size J → OwnFrom W.heap.size Jx →
    (∀ pre x W1, J pre W1 → pre.length < N → YieldAt Fence.wide 0 Tryz.prog l #[enc x] W1 fun e W' => (e = .returned (.bool true) ∧ J (pre ++ [x]) W' ∧ KX M n₀ l W1 W') ∨ (e = .returned (.bool false) ∧ Jx (pre ++ [x]) W' ∧ KeepsBut (some l) W1 W')) →
    J [] W → CallsIn Fence.wide m Tryz.prog g (#[.func (.yield l) #[] #[]] ++ lb) W fun e W' => (∃ v, e = .returned v) ∧ ((∃ xs, S xs ∧ J xs W') ∨ (∃ pre, Sp pre ∧ Jx pre W'))
def postX {α : Type} (M : Nat → Prop) (n₀ : Nat) (I : List α → World → Prop) (Ix : Code → List α → World → Prop) (xs : List α) (W : World) : Exit → Act → World → Prop
  | .normal, _, W' => KC M n₀ W W' ∧ KeepsBut none W W' ∧ I xs W'
  | .ret, _, W' => KeepsBut none W W' ∧ Ix .ret xs W'
  | .exit id, _, W' => KeepsBut none W W' ∧ Ix (.exit id) xs W'
  | .goto t, _, W' => KeepsBut none W W' ∧ Ix (.goto t) xs W'
  | .panic _, _, _ => False
  | .outgrown, _, _ => False
set_option maxHeartbeats 1000000 in
theorem rangeX {α : Type} {n : Nat} {g : Operand} {p : Tmp} {assign body : Code} {Q : Exit → Act → World → Prop} {a : Act} {w : World} (h1 : 1 ≤ n) {gf : Nat} {lb : Array Value} (hg : a.eval g = .func (.func gf) #[] lb)
    (eg : ∀ args w, (callFunc gf args).run Tryz.prog w = .ok (.enter gf args) w) {enc : α → Value} {M : Nat → Prop} {n₀ N : Nat} {S Sp : List α → Prop} {w0 : World} (hseq : SeqX (n - 1) gf lb enc M n₀ S Sp N w0) (hn₀ : n₀ ≤ w.heap.size) (hb0 : Below w0.heap.size w0 w)
    (I : List α → World → Prop) (Ix : Code → List α → World → Prop) (hI : OwnFrom w.heap.size I) (hIx : ∀ c, OwnFrom w.heap.size (Ix c)) (h0 : I [] w) (Ax : α → Act → World → Prop) (hAx : ∀ x a', OwnFrom w.heap.size (fun (_ : Unit) W => Ax x a' W))
    (hassign : ∀ (l : Nat) (pre : List α) (x : α) (W : World) (K : Act → World → Prop), w.heap.size ≤ l → I pre W → (∀ a' W', KeepsBut none W W' → KC M n₀ W W' → I pre W' → Ax x a' W' → K a' W') →
      assign.wpIn (Fence.wide.inRound l) (n - 1 - 1) Tryz.prog (Exit.then K (fun _ _ _ => False)) { tmps := (#[p].zip #[enc x]).foldl (fun t (p, v) => t.setIfInBounds p v) a.tmps, defers := [] } W)
    (hbody : ∀ (l : Nat) (pre : List α) (x : α) (a' : Act) (W : World), w.heap.size ≤ l → I pre W → Ax x a' W → pre.length < N → body.wpIn (Fence.wide.inRound l) (n - 1 - 1) Tryz.prog (postX M n₀ I Ix (pre ++ [x]) W) a' W)
    (hdone : ∀ (D : Nat) (xs : List α) (W : World), w.heap.size ≤ D → S xs → I xs W → W.heap[D]? = some (.deferred (some [])) → Q .normal { a with defers := { target := .collected D, args := #[] } :: a.defers } W)
    (hstop : ∀ (D : Nat) (c : Code) (pre : List α) (W : World), w.heap.size ≤ D → Sp pre → Ix c pre W → W.heap[D]? = some (.deferred (some [])) → c.wpIn Fence.wide n Tryz.prog Q { a with defers := { target := .collected D, args := #[] } :: a.defers } W) :
    (Code.rangeFunc g #[p] assign body).wpIn Fence.wide n Tryz.prog Q a w := by
  refine wpIn_rangeFunc fun fn hfn => ?_
  -- the two blocks of the loop's book-keeping
  obtain ⟨rec, hrec⟩ : ∃ rec : LoopState → Option Code → Loop, rec = fun st pe => { state := st, pending := pe, fn, tmps := a.tmps, params := #[p], assign, body, defers := w.heap.size } := ⟨_, rfl⟩
  obtain ⟨l, hl⟩ : ∃ l, l = w.heap.size + 1 := ⟨_, rfl⟩
  obtain ⟨W1, hW1⟩ : ∃ W1, (w.alloc (.deferred (some []))).alloc (.loop (rec .ready none)) = W1 := ⟨_, rfl⟩
  have z1 : W1.heap.size = w.heap.size + 2 := by rw [← hW1]; simp
  have hL : W1.heap[l]? = some (.loop (rec .ready none)) := by rw [← hW1, hl]; have := World.alloc_heap_new (w.alloc (.deferred (some []))) (.loop (rec .ready none)); rwa [World.size_alloc] at this
  have hD : W1.heap[w.heap.size]? = some (.deferred (some [])) := by rw [← hW1]; exact blk_alloc (World.alloc_heap_new w _) _
  have hI1 : I [] W1 := by rw [← hW1]; exact hI.alloc _ (hI.alloc _ h0)
  have hb1 : Below w0.heap.size w0 W1 := by rw [← hW1]; exact hb0.trans ((below_alloc2 w _ _).mono hb0.size)
  have hkc : ∀ (W : World) (r r' : Loop), W.heap[l]? = some (.loop r) → KX M n₀ l W (W.putObj l (.loop r')) := fun W r r' h => ⟨KC.putObj M (by omega) h rfl, KeepsBut.putObj (o := .loop r) _⟩
  -- what the loop's two blocks hold, beside what is the caller's
  let Jt : List α → World → Prop := fun pre W => I pre W ∧ W.heap[l]? = some (.loop (rec .ready none)) ∧ W.heap[w.heap.size]? = some (.deferred (some []))
  let Js : List α → World → Prop := fun pre W => ∃ c, Ix c pre W ∧ W.heap[l]? = some (.loop (rec .done (some c))) ∧ W.heap[w.heap.size]? = some (.deferred (some []))
  have up : ∀ {A : World} {row : Option Nat}, (∀ r, row = some r → W1.heap.size ≤ r ∧ ∃ o : Obj, A.heap[r]? = some o ∧ o.isCells = false) → (∀ r, row = some r → w.heap.size ≤ r ∧ ∃ o : Obj, A.heap[r]? = some o ∧ o.isCells = false) := fun hr r e => ⟨by have := (hr r e).1; omega, (hr r e).2⟩
  have keep : ∀ {A B : World} {row : Option Nat} {k : Nat} {o : Obj}, A.grownBy B row → (∀ r, row = some r → W1.heap.size ≤ r ∧ ∃ o : Obj, A.heap[r]? = some o ∧ o.isCells = false) → k < W1.heap.size → A.heap[k]? = some o → B.heap[k]? = some o :=
    fun hg' hr hk ho => (hg'.block _ (blk_lt ho) (fun e => by have := (hr _ e.symm).1; omega)).trans ho
  have hJt : OwnFrom W1.heap.size Jt := fun s A B row hs hg' hr => ⟨hI s A B row hs.1 hg' (up hr), keep hg' hr (by omega) hs.2.1, keep hg' hr (by omega) hs.2.2⟩
  have hJs : OwnFrom W1.heap.size Js := fun s A B row hs hg' hr => by
    obtain ⟨c, hc, h2, h3⟩ := hs
    exact ⟨c, hIx c s A B row hc hg' (up hr), keep hg' hr (by omega) h2, keep hg' hr (by omega) h3⟩
  refine ⟨l, [{ target := .collected w.heap.size, args := #[] }], W1, { target := .fn (.func gf) lb, args := #[.func (.yield l) #[] #[]] }, W1, gf, #[.func (.yield l) #[] #[]] ++ lb, W1, ?_, ?_, ?_, ?_, fun _ => h1, ?_⟩
  · rw [← hW1, hrec, hl]; exact run_enterLoop_outer _ _ _ _ _
  · simp only [resolve, hg]; simp [go_sem]
  · intro f' hf'; trivial
  · simp [invoke, go_sem, eg]
  · refine (hseq l Jt Js W1 hb1 (by omega) hJt hJs ?_ ⟨hI1, hL, hD⟩).mono ?_
    · -- a round
      rintro pre x W ⟨hi, h2, h3⟩ hlen
      have hy := run_yield (P := Tryz.prog) (args := #[enc x]) h2 (by rw [hrec]; rfl)
      rw [hrec] at hy
      refine YieldAt.any 0 (m := n - 1 - 1) ⟨fn, _, assign, body, hy, roundIn_of_wpIn hfn (hassign l pre x W _ (by omega) hi ?_)⟩
      clear hy
      intro a' Wa hka hca hia hax
      have g2 := hka.2 _ _ (by simp) h2 (.inl rfl)
      have g3 := hka.2 _ _ (by simp) h3 (.inl rfl)
      have hlt := blk_lt g2
      refine ⟨_, run_beginRound g2 (by rw [hrec]), ?_⟩
      obtain ⟨Wb, hWb⟩ : ∃ Wb, Wa.putObj l (.loop { rec .ready none with state := .busy }) = Wb := ⟨_, rfl⟩
      have b2 : Wb.heap[l]? = some (.loop { rec .ready none with state := .busy }) := by rw [← hWb]; exact World.putObj_heap_same hlt
      have b3 : Wb.heap[w.heap.size]? = some (.deferred (some [])) := by rw [← hWb]; exact (World.putObj_heap_other (by omega)).trans g3
      have bk : KX M n₀ l Wa Wb := by rw [← hWb]; exact hkc _ _ _ g2
      have bi : I pre Wb := by rw [← hWb]; exact hI.putObj _ hia (by omega) g2 rfl
      have ba : Ax x a' Wb := by rw [← hWb]; exact (hAx x a').putObj (s := ()) _ hax (by omega) g2 rfl
      rw [hWb]
      refine wpIn_mono (hbody l pre x a' Wb (by omega) bi ba hlen) ?_
      have fin : ∀ (jump : Option Code) (W3 : World), KeepsBut none Wb W3 →
          (Instr.endRound l jump).run Tryz.prog W3 = .ok (.bool jump.isNone) (W3.putObj l (.loop (rec (if jump.isNone then .ready else .done) jump))) ∧ W3.heap[l]? = some (.loop { rec .ready none with state := .busy }) ∧
          (W3.putObj l (.loop (rec (if jump.isNone then .ready else .done) jump))).heap[l]? = some (.loop (rec (if jump.isNone then .ready else .done) jump)) ∧
          (W3.putObj l (.loop (rec (if jump.isNone then .ready else .done) jump))).heap[w.heap.size]? = some (.deferred (some [])) := fun jump W3 hk3 => by
        have c2 := hk3.2 _ _ (by simp) b2 (.inl rfl)
        have hr := run_endRound (P := Tryz.prog) jump c2
        rw [hrec] at hr c2 ⊢
        exact ⟨hr, c2, World.putObj_heap_same (blk_lt c2), (World.putObj_heap_other (by omega)).trans (hk3.2 _ _ (by simp) b3 (.inl rfl))⟩
      rintro e a3 W3 hp
      cases e with
      | normal =>
        obtain ⟨hc3, hk3, hi3⟩ := hp
        obtain ⟨hr, h4, h5, h6⟩ := fin none W3 hk3
        exact ⟨_, _, hr, .inl ⟨rfl, ⟨hI.putObj _ hi3 (by omega) h4 rfl, h5, h6⟩, (KX.trans ⟨hca, hka.any _⟩ (bk.trans ⟨hc3, hk3.any _⟩)).trans (hkc _ _ _ h4)⟩⟩
      | ret =>
        obtain ⟨hk3, hi3⟩ := hp
        obtain ⟨hr, h4, h5, h6⟩ := fin (some .ret) W3 hk3
        exact ⟨_, _, hr, .inr ⟨rfl, ⟨.ret, (hIx _).putObj _ hi3 (by omega) h4 rfl, h5, h6⟩, ((hka.any _).trans (bk.2.trans (hk3.any _))).trans (hkc _ _ _ h4).2⟩⟩
      | exit id =>
        obtain ⟨hk3, hi3⟩ := hp
        obtain ⟨hr, h4, h5, h6⟩ := fin (some (.exit id)) W3 hk3
        exact ⟨_, _, hr, .inr ⟨rfl, ⟨.exit id, (hIx _).putObj _ hi3 (by omega) h4 rfl, h5, h6⟩, ((hka.any _).trans (bk.2.trans (hk3.any _))).trans (hkc _ _ _ h4).2⟩⟩
      | goto t =>
        obtain ⟨hk3, hi3⟩ := hp
        obtain ⟨hr, h4, h5, h6⟩ := fin (some (.goto t)) W3 hk3
        exact ⟨_, _, hr, .inr ⟨rfl, ⟨.goto t, (hIx _).putObj _ hi3 (by omega) h4 rfl, h5, h6⟩, ((hka.any _).trans (bk.2.trans (hk3.any _))).trans (hkc _ _ _ h4).2⟩⟩
      | panic ch => exact hp.elim
      | outgrown => exact hp.elim
    · -- behind the iterator
      rintro e W2 ⟨⟨v, rfl⟩, (⟨xs, hS, hi, h2, h3⟩ | ⟨pre, hSp, c, hi, h2, h3⟩)⟩
      · refine ⟨none, _, by have := run_endLoop (P := Tryz.prog) h2 (by rw [hrec]; simp); rw [hrec] at this; exact this, hdone w.heap.size xs _ (Nat.le_refl _) hS (hI.putObj _ hi (by omega) h2 rfl) ((World.putObj_heap_other (by omega)).trans h3)⟩
      · exact ⟨some c, _, by have := run_endLoop (P := Tryz.prog) h2 (by rw [hrec]; simp); rw [hrec] at this; exact this, hstop w.heap.size c pre _ (Nat.le_refl _) hSp ((hIx c).putObj _ hi (by omega) h2 rfl) ((World.putObj_heap_other (by omega)).trans h3)⟩
abbrev markD (D : Nat) : Deferred := { target := .collected D, args := #[] }
theorem leaves_marks {F : Fence} {n : Nat} {fn : Func} {tmps : Array Value} {R : Ending → World → Prop} {B : Nat} {I : World → Prop} (hI : ∀ (W : World) (D : Nat), B ≤ D → W.heap[D]? = some (.deferred (some [])) → I W → I (W.putObj D (.deferred none)))
    (hres : ∀ W, I W → ∃ v, (results fn tmps).run Tryz.prog W = .ok v W ∧ R (.returned v) W) :
    ∀ (Ds : List Nat) (W : World), Ds.Nodup → (∀ D ∈ Ds, B ≤ D ∧ W.heap[D]? = some (.deferred (some []))) → I W → LeavesInM F n Tryz.prog fn tmps R (Ds.map markD) .returning W
  | [], W, _, _, h => hres W h
  | D :: Ds, W, hn, hD, h => by
    rw [List.nodup_cons] at hn
    have h1 := hD D List.mem_cons_self
    refine ⟨by simp, .inl ⟨D, _, rfl, run_takeDeferred h1.2, ?_⟩⟩
    refine leaves_marks hI hres Ds _ hn.2 (fun E hE => ⟨(hD E (List.mem_cons_of_mem _ hE)).1, ?_⟩) (hI W D h1.1 h1.2 h)
    exact (World.putObj_heap_other (fun e => hn.1 (by rw [← e]; exact hE))).trans (hD E (List.mem_cons_of_mem _ hE)).2
theorem wpIn_loopT {F : Fence} {n : Nat} {P : Program} {Q : Exit → Act → World → Prop} {a : Act} {w : World} {c : Code} (I : Act → World → Prop) (μ : Act → World → Nat) (h₀ : I a w)
    (round : ∀ a w, I a w → ∀ T : Act → World → Prop, (∀ a' w', I a' w' → μ a' w' < μ a w → T a' w') → c.wpIn F n P (Exit.then T Q) a w) : (Code.loop c).wpIn F n P Q a w :=
  wpIn_loop I μ h₀ fun a w h => round a w h _ (fun _ _ h1 h2 => ⟨h1, h2⟩)
def Marks (B : Nat) (Ds : List Nat) (W : World) : Prop := Ds.Nodup ∧ ∀ D ∈ Ds, B ≤ D ∧ W.heap[D]? = some (.deferred (some []))
theorem Marks.nil (B : Nat) (W : World) : Marks B [] W := ⟨List.nodup_nil, fun D h => by cases h⟩
theorem Marks.keeps {B : Nat} {Ds : List Nat} {W W' : World} {l : Option Nat} (h : Marks B Ds W) (hk : KeepsBut l W W') (hl : ∀ k, l = some k → k < B) : Marks B Ds W' :=
  ⟨h.1, fun D hD => ⟨(h.2 D hD).1, hk.2 D _ (fun e => by have := hl D e.symm; have := (h.2 D hD).1; omega) (h.2 D hD).2 (.inl rfl)⟩⟩
theorem Marks.below {B : Nat} {Ds : List Nat} {W W' : World} (h : Marks B Ds W) (hb : Below W.heap.size W W') : Marks B Ds W' := ⟨h.1, fun D hD => ⟨(h.2 D hD).1, blk_below (h.2 D hD).2 hb⟩⟩
theorem Marks.own {β : Type} {B : Nat} {Ds : List Nat} {W0 : World} (h0 : Marks B Ds W0) : OwnFrom W0.heap.size (fun (_ : β) W => Marks B Ds W) := fun _ W W' row hs hg hr => ⟨hs.1, fun D hD => ⟨(hs.2 D hD).1, (hg.block D (blk_lt (hs.2 D hD).2) (fun e => by have := (hr D e.symm).1; have := blk_lt (h0.2 D hD).2; omega)).trans (hs.2 D hD).2⟩⟩
theorem Marks.cons {B D : Nat} {Ds : List Nat} {W0 W : World} (h0 : Marks B Ds W0) (h : Marks B Ds W) (hD : W0.heap.size ≤ D) (hB : B ≤ D) (hW : W.heap[D]? = some (.deferred (some []))) : Marks B (D :: Ds) W :=
  ⟨List.nodup_cons.2 ⟨fun hm => by have := blk_lt (h0.2 D hm).2; omega, h.1⟩, fun E hE => by
    rcases List.mem_cons.1 hE with rfl | hE
    · exact ⟨hB, hW⟩
    · exact h.2 E hE⟩
end Go.Proofs.YtacefdkfbpgedaaGreat.Mine
namespace Go.Proofs.YtacefdkfbpgedaaGreat.Mine
open Go.Proofs.YtacefdkfbpgedaaGreat.PProgSmall
open Go.RowKit Go.Shelf Go.Proofs.YtacefdkfbpgedaaGreatW.PrintWords Go.Proofs.YtacefdkfbpgedaaGreatW.PrintLast Go.Proofs.YtacefdkfbpgedaaGreatW.PrintMore
set_option linter.unusedVariables false
set_option linter.unusedSimpArgs false
attribute [local go_sem] Oper.semAt_some
theorem infoStr : (Tryz.prog.info? 9).map (fun i => (i.zero, i.size, i.bytes)) = some (some (.string ⟨#[]⟩), 1, 16) := by kernel_rfl
abbrev OwnS (W : World) (base : Nat) (v : Value) (l : List ByteArray) : Prop := W.ownsRow base 9 1 v l.length (encs Value.string l)
def onceL (l : List ByteArray) (s : ByteArray) : List ByteArray := if l.any (fun x => decide (x = s)) then l else l ++ [s]
theorem onceL_len (l : List ByteArray) (s : ByteArray) : (onceL l s).length ≤ l.length + 1 := by unfold onceL; split <;> simp
theorem OwnS.reads {W : World} {base : Nat} {v : Value} {l : List ByteArray} (h : OwnS W base v l) : ∃ A c, v = .slice A l.length c ∧ l.length ≤ c ∧ Kd.C Kd.string W A l.length l := by
  obtain ⟨A, c, rfl, hr⟩ := own_reads_of (d := (⟨#[]⟩ : ByteArray)) h
  exact ⟨A, c, rfl, own_cap h, Kd.C_of_reads hr⟩
set_option maxHeartbeats 2000000 in
theorem c_once (base : Nat) (v : Value) (l : List ByteArray) (s : ByteArray) (w : World) (HO : OwnS w base v l) (hb : base ≤ w.heap.size) (hl : l.length < 1000000) :
    Calls Tryz.prog 128 #[v, .string s] w fun e w' => ∃ v1, e = .returned v1 ∧ OwnS w' base v1 (onceL l s) ∧ w.grownBy w' v.ownBlock ∧ (v1.ownBlock = v.ownBlock ∨ ∃ b, v1.ownBlock = some b ∧ w.heap.size ≤ b) := by
  obtain ⟨A, c, rfl, hc, hr⟩ := HO.reads
  have HC := Lib.hid (c_ContS A c l s w hr hc)
  have HO := Aside0.mk HO
  clear hr
  cases hm : l.any (fun x => decide (x = s)) with
  | true =>
    have HM := Lib.hid hm
    rw [hm] at HC
    clear hm
    go_enter Tryz.func128, Tryz.ntmps128
    go_wp2_with fail
    refine HC.out.mono ?_
    rintro e w' ⟨rfl, rfl⟩
    go_wp2
    go_ret
    exact ⟨_, rfl, by rw [onceL, HM.out]; exact HO.out, grown_of_below (Below.refl _ _) _, .inl rfl⟩
  | false =>
    have HM := Lib.hid hm
    rw [hm] at HC
    clear hm
    go_enter Tryz.func128, Tryz.ntmps128
    go_wp2_with fail
    refine HC.out.mono ?_
    rintro e w' ⟨rfl, rfl⟩
    go_wp2_with (at_builtin; refine print_append_of (w0 := w') Value.string base rfl _ _ 30 9 _ _ rfl Tryz.underlying30 infoStr rfl (by decide) (.slice A l.length c) l s rfl rfl rfl HO.out (Below.refl _ _) hb (by omega) ?_; intro v1 w1 hown hbel hg hat)
    go_ret
    exact ⟨_, rfl, by rw [onceL, HM.out]; exact hown, hg, hat⟩
theorem Blk.notcells {W W' : World} {row : Option Nat} {k : Nat} {cs : Array Value} {t : Nat} {p : Nat × Nat} (h : W.heap[k]? = some (.cells cs t p)) (hg : W.grownBy W' row) (hr : ∀ r, row = some r → ∃ o : Obj, W.heap[r]? = some o ∧ o.isCells = false) : W'.heap[k]? = some (.cells cs t p) :=
  (hg.block k (blk_lt h) (fun e => by obtain ⟨o, h1, h2⟩ := hr k e.symm; rw [h] at h1; cases h1; cases h2)).trans h
theorem own_blkOf {β : Type} (f : β → Array Value) (k t : Nat) : Own (fun (s : β) W => W.heap[k]? = some (.cells (f s) t (0, 0))) := fun s W W' row hs hg hr => Blk.notcells hs hg hr
theorem Boxed.notcells {W W' : World} {row : Option Nat} {k : Nat} {v : Value} {t : Nat} (h : Boxed W k t v) (hg : W.grownBy W' row) (hr : ∀ r, row = some r → ∃ o : Obj, W.heap[r]? = some o ∧ o.isCells = false) : Boxed W' k t v := Blk.notcells h hg hr
theorem OwnS.notcells {W W' : World} {row : Option Nat} {base : Nat} {v : Value} {l : List ByteArray} (h : OwnS W base v l) (hg : W.grownBy W' row) (hr : ∀ r, row = some r → ∃ o : Obj, W.heap[r]? = some o ∧ o.isCells = false) : OwnS W' base v l :=
  own_move h (fun k hk => by obtain ⟨cs, hc⟩ := own_typed h k hk; exact (Blk.notcells hc hg hr).trans hc.symm)
def Bel (w : World) (n : Nat) (W : World) : Prop := Below w.heap.size w W ∧ n ≤ W.heap.size
theorem Bel.own {β : Type} {w : World} {n : Nat} (h : w.heap.size ≤ n) : OwnFrom (β := β) n (fun _ W => Bel w n W) := fun s W W' row hs hg hr => ⟨hs.1.grown hg hs.1.size (fun k hk => by have := (hr k hk).1; omega), Nat.le_trans hs.2 hg.size⟩
theorem Bel.after {w W W' : World} {n : Nat} (h : Bel w n W) (hb : Below W.heap.size W W') : Bel w n W' := ⟨h.1.trans (hb.mono h.1.size), Nat.le_trans h.2 hb.size⟩
theorem Bel.grown {w W W' : World} {n : Nat} {row : Option Nat} (h : Bel w n W) (hg : W.grownBy W' row) (hr : ∀ k, row = some k → w.heap.size ≤ k) : Bel w n W' := ⟨h.1.grown hg h.1.size hr, Nat.le_trans h.2 hg.size⟩
theorem Bel.set {w W : World} {n : Nat} {p : Addr} (h : Bel w n W) (hp : w.heap.size ≤ p.block) (u : Value) : Bel w n (W.setCell p u) := ⟨h.1.setCell hp u, by have := h.2; simpa [World.setCell] using this⟩
end Go.Proofs.YtacefdkfbpgedaaGreat.Mine
namespace Go.Proofs.YtacefdkfbpgedaaGreat.Mine
open Go.Proofs.YtacefdkfbpgedaaGreat.PProgSmall
open Go.RowKit Go.Shelf Go.Proofs.YtacefdkfbpgedaaGreatW.PrintWords Go.Proofs.YtacefdkfbpgedaaGreatW.PrintLast Go.Proofs.YtacefdkfbpgedaaGreatW.PrintMore
set_option linter.unusedVariables false
set_option linter.unusedSimpArgs false
attribute [local go_sem] Oper.semAt_some
def kdOf (k : Int) : Nat := if 0 ≤ k ∧ k < 4 then k.toNat else 0
def cntK (l : List Ex) (i : Nat) : Nat := (l.filter (fun x => kdOf x.f0 == i)).length
theorem cntK_snoc (l : List Ex) (x : Ex) (i : Nat) : cntK (l ++ [x]) i = cntK l i + if kdOf x.f0 = i then 1 else 0 := by
  unfold cntK
  rw [List.filter_append, List.length_append]
  congr 1
  by_cases h : kdOf x.f0 = i <;> simp [h]
theorem cntK_le (l : List Ex) (i : Nat) : cntK l i ≤ l.length := List.length_filter_le _ _
def kindsV (l : List Ex) : Array Value := #[.int .i64 (cntK l 0), .int .i64 (cntK l 1), .int .i64 (cntK l 2), .int .i64 (cntK l 3)]
theorem kinds_step {W : World} {g i : Nat} {l : List Ex} {x : Ex} (h : W.heap[g]? = some (.cells (kindsV l) 117 (0, 0))) (hx : kdOf x.f0 = i) (hi : i < 4) : (W.setCell ⟨g, i, none⟩ (.int .i64 (↑(cntK l i) + 1))).heap[g]? = some (.cells (kindsV (l ++ [x])) 117 (0, 0)) := by
  refine blk_put h i _ ?_
  simp only [kindsV, cntK_snoc, hx]
  match i, hi with
  | 0, _ => simp
  | 1, _ => simp
  | 2, _ => simp
  | 3, _ => simp
set_option maxRecDepth 100000 in
set_option maxHeartbeats 4000000 in
theorem c_kinds (e : Ex) (A : Option Addr) (c : Nat) (w : World) (hF : Kd.C k57 w A e.f2.length e.f2) (hc : e.f2.length ≤ c) (hs : szE e < 1000000) :
    Calls Tryz.prog 85 #[.agg #[.int .i64 e.f0, .string e.f1, .slice A e.f2.length c]] w fun en w' => en = .returned (.agg (kindsV (plE e))) ∧ Below w.heap.size w w' := by
  have HC := Lib.hid (c_places e A c)
  refine (callsIn_wide (n := 6)).1 (callsIn_of_wp_marks (F := Fence.wide) Tryz.func85 rfl trivial ?_ rfl)
  simp only [Tryz.ntmps85, List.size_toArray, List.length_cons, List.length_nil, Nat.reduceAdd, Nat.reduceSub, Array.replicate_succ, Array.replicate_zero, List.push_toArray, List.append_toArray, List.nil_append, List.cons_append]
  gi_wp2_with fail
  refine ⟨trivial, (callsIn_wide.2 (HC.out _)).mono ?_⟩
  rintro en w1 ⟨rfl, rfl⟩
  gi_wp2_with fail
  obtain ⟨W1, hW1⟩ : ∃ W1, (w.alloc (.cells #[.int .i64 e.f0, .string e.f1, .slice A e.f2.length c] 57)).alloc (.cells #[.int .i64 0, .int .i64 0, .int .i64 0, .int .i64 0] 117) = W1 := ⟨_, rfl⟩
  have z1 : W1.heap.size = w.heap.size + 2 := by rw [← hW1]; simp
  have q1 : Below w.heap.size w W1 := by rw [← hW1]; exact (below_alloc1 _ _).trans ((below_alloc1 _ _).mono (by simp))
  obtain ⟨W0, hW0⟩ : ∃ W0, (W1.alloc (.cells #[.int .i64 0, .int .i64 0, .int .i64 0, .int .i64 0] 117)).alloc (.cells #[.int .i64 e.f0, .string e.f1, .slice A e.f2.length c] 57) = W0 := ⟨_, rfl⟩
  have hsz : W0.heap.size = w.heap.size + 4 := by rw [← hW0]; simp [z1]
  have hb0 : Below w.heap.size w W0 := by rw [← hW0]; exact q1.trans (((below_alloc1 _ _).trans ((below_alloc1 _ _).mono (by simp))).mono (by omega))
  have bO : W0.heap[w.heap.size + 1 + 1]? = some (.cells (kindsV []) 117 (0, 0)) := by rw [← hW0]; have := blk_alloc (alloc_at W1 (.cells #[.int .i64 0, .int .i64 0, .int .i64 0, .int .i64 0] 117)) (.cells #[.int .i64 e.f0, .string e.f1, .slice A e.f2.length c] 57); rw [z1] at this; simpa [kindsV, cntK] using this
  have bZ : W0.heap[w.heap.size + 1]? = some (.cells (kindsV []) 117 (0, 0)) := by rw [← hW0]; refine blk_alloc (blk_alloc ?_ _) _; rw [← hW1]; have := alloc_at (w.alloc (.cells #[.int .i64 e.f0, .string e.f1, .slice A e.f2.length c] 57)) (.cells #[.int .i64 0, .int .i64 0, .int .i64 0, .int .i64 0] 117); simpa [kindsV, cntK] using this
  have bP : W0.heap[w.heap.size + 1 + 1 + 1]? = some (.cells (cellsH (e, A, c)) 57 (0, 0)) := by rw [← hW0]; have := alloc_at (W1.alloc (.cells #[.int .i64 0, .int .i64 0, .int .i64 0, .int .i64 0] 117)) (.cells #[.int .i64 e.f0, .string e.f1, .slice A e.f2.length c] 57); simp only [World.size_alloc, z1] at this; simpa [cellsH] using this
  rw [hW1, hW0]
  clear hW0 hW1 HC
  have hF0 : Kd.F k57 W0 (fun k => k < w.heap.size) A e.f2.length e.f2 := Kd.F_below (Kd.C_F k57_heap hF) hb0
  refine wpIn_rangeFunc_ownH rfl (by omega) (gf := 133) (lb := #[.pointer (some ⟨w.heap.size + 1 + 1 + 1, 0, none⟩)]) rfl trivial (enters_of Tryz.func133 (by kernel_rfl) rfl)
    (places_stops W0 NoM w.heap.size (fun k => k < w.heap.size) (fun k hk => hk.elim) (fun k hk => ⟨fun h => h, hk⟩) ⟨(e, A, c), hc, hF0, hs⟩ (w.heap.size + 1 + 1 + 1) (fun h => h) W0 ((KC.rel _ _).refl _) (Nat.le_refl _) bP)
    (KC.rel _ _).trans (fun W l o o' hl ho hcl _ => KC.putObj _ (by omega) ho hcl) (Below.refl _ _) (fun _ => rfl)
    (fun pre W => W.heap[w.heap.size + 1 + 1]? = some (.cells (kindsV (exs pre)) 117 (0, 0)) ∧ W.heap[w.heap.size + 1]? = some (.cells (kindsV []) 117 (0, 0)) ∧ Bel w W0.heap.size W)
    (fun _ _ _ => False)
    (OwnFrom.and (Own.from (own_blkOf (fun pre => kindsV (exs pre)) _ _) _) (OwnFrom.and (Own.from (own_blkOf (fun _ => kindsV []) _ _) _) (Bel.own hb0.size)))
    (fun _ _ _ _ _ hs _ _ => hs)
    ⟨bO, bZ, hb0, Nat.le_refl _⟩
    (fun x a' W => ∃ Bx, W0.heap.size ≤ Bx ∧ W.heap[Bx]? = some (.cells (cellsH x.1) 57 (0, 0)) ∧ a' = { tmps := #[.agg #[.int .i64 e.f0, .string e.f1, .slice A e.f2.length c], .pointer (some ⟨w.heap.size, 0, none⟩), .pointer (some ⟨w.heap.size + 1, 0, none⟩), .pointer (some ⟨w.heap.size + 1 + 1, 0, none⟩), .pointer (some ⟨Bx, 0, none⟩), .agg #[.int .i64 e.f0, .string e.f1, .slice A e.f2.length c], .func (.func 133) #[] #[.pointer (some ⟨w.heap.size + 1 + 1 + 1, 0, none⟩)], encH x.1, undef, undef, undef, undef, undef, undef, undef, undef, undef, undef, undef, undef, undef, undef, undef, undef], defers := [] })
    (fun x a' _ X Y row hs hg hr => by obtain ⟨Bx, h1, h2, h3⟩ := hs; exact ⟨Bx, h1, Blk.notcells h2 hg (fun r e => (hr r e).2), h3⟩)
    ?assign ?body ?done ?stop
  case assign =>
    rintro l pre ⟨⟨x, A', c'⟩, hx⟩ W K hI hK
    simp only [encH]
    gi_wp2
    have q := below_alloc1 W (.cells #[.int .i64 x.f0, .string x.f1, .slice A' x.f2.length c'] 57)
    obtain ⟨h1, hz, h3⟩ := hI
    exact hK _ _ ((KeepsOthers.alloc _ _).from _) ((KC.rel _ _).below q) ⟨blk_below h1 q, blk_below hz q, h3.after q⟩ ⟨W.heap.size, h3.2, alloc_at _ _, rfl⟩
  case body =>
    rintro l pre ⟨⟨x, A', c'⟩, hx⟩ a' W hl hr ⟨h1, hz, h3⟩ ⟨Bx, hBx, bX, rfl⟩ hlt
    have k0 : W.cell? ⟨Bx, 0, none⟩ = some (.int .i64 x.f0) := (blk_cell bX 0).trans rfl
    have fx := blk_frozen bX 0
    have o0 : W.cell? ⟨w.heap.size + 1 + 1, 0, none⟩ = some (.int .i64 (cntK (exs pre) 0)) := (blk_cell h1 0).trans rfl
    have o1 : W.cell? ⟨w.heap.size + 1 + 1, 1, none⟩ = some (.int .i64 (cntK (exs pre) 1)) := (blk_cell h1 1).trans rfl
    have o2 : W.cell? ⟨w.heap.size + 1 + 1, 2, none⟩ = some (.int .i64 (cntK (exs pre) 2)) := (blk_cell h1 2).trans rfl
    have o3 : W.cell? ⟨w.heap.size + 1 + 1, 3, none⟩ = some (.int .i64 (cntK (exs pre) 3)) := (blk_cell h1 3).trans rfl
    have fo := fun i => blk_frozen h1 i
    have hlen : (exs pre).length < 1000000 := by rw [exs_length]; simp only at hlt; omega
    have l0 := cntK_le (exs pre) 0
    have l1 := cntK_le (exs pre) 1
    have l2 := cntK_le (exs pre) 2
    have l3 := cntK_le (exs pre) 3
    have hne : ¬ (Bx = w.heap.size + 1 + 1) := by omega
    have hne2 : ¬ (w.heap.size + 1 + 1 = Bx) := by omega
    have H1 := Lib.hid h1
    have H3 := Lib.hid h3
    have BX := Lib.hid bX
    have HZ := Lib.hid hz
    clear hz
    clear h1 h3 bX
    have hb1 := blk_far H1.out (p := ⟨Bx, 0, none⟩) hne2 (.int .i64 0)
    have HB1 := Lib.hid hb1
    by_cases hb : x.f0 < 0
    · have hkd : kdOf x.f0 = 0 := by unfold kdOf; split <;> omega
      gi_wp2_with fail
      refine ⟨((KeepsOthers.setCell _ _ _).trans (KeepsOthers.setCell _ _ _)).from _, (KC.rel _ _).trans (KC.set _ (by omega) BX.out (by decide) (by decide)) (KC.set _ (by omega) hb1 (by decide) (by decide)), ?_, blk_far (blk_far HZ.out (by simp only; omega) _) (by simp only; omega) _, ?_⟩
      · rw [exs_append]
        exact kinds_step hb1 hkd (by omega)
      · have := (H3.out.set (p := ⟨Bx, 0, none⟩) (by simp only; omega) (.int .i64 0)).set (p := ⟨w.heap.size + 1 + 1, 0, none⟩) (by simp only; omega) (.int .i64 (↑(cntK (exs pre) 0) + 1))
        rw [hsz] at this
        exact this
    · by_cases hb4 : 4 ≤ x.f0
      · have hkd : kdOf x.f0 = 0 := by unfold kdOf; split <;> omega
        gi_wp2_with fail
        refine ⟨((KeepsOthers.setCell _ _ _).trans (KeepsOthers.setCell _ _ _)).from _, (KC.rel _ _).trans (KC.set _ (by omega) BX.out (by decide) (by decide)) (KC.set _ (by omega) hb1 (by decide) (by decide)), ?_, blk_far (blk_far HZ.out (by simp only; omega) _) (by simp only; omega) _, ?_⟩
        · rw [exs_append]
          exact kinds_step hb1 hkd (by omega)
        · have := (H3.out.set (p := ⟨Bx, 0, none⟩) (by simp only; omega) (.int .i64 0)).set (p := ⟨w.heap.size + 1 + 1, 0, none⟩) (by simp only; omega) (.int .i64 (↑(cntK (exs pre) 0) + 1))
          rw [hsz] at this
          exact this
      have hd : x.f0 = 0 ∨ x.f0 = 1 ∨ x.f0 = 2 ∨ x.f0 = 3 := by omega
      clear hb hb4
      rcases hd with hx0 | hx0 | hx0 | hx0
      · have hkd : kdOf x.f0 = 0 := by rw [hx0]; rfl
        rw [hx0] at k0
        gi_wp2_with fail
        refine ⟨(KeepsOthers.setCell _ _ _).from _, KC.set _ (by omega) H1.out (by decide) (by decide), ?_, blk_far HZ.out (by simp only; omega) _, ?_⟩
        · rw [exs_append]
          exact kinds_step H1.out hkd (by omega)
        · have := H3.out.set (p := ⟨w.heap.size + 1 + 1, 0, none⟩) (by simp only; omega) (.int .i64 (↑(cntK (exs pre) 0) + 1))
          rw [hsz] at this
          exact this
      · have hkd : kdOf x.f0 = 1 := by rw [hx0]; rfl
        rw [hx0] at k0
        gi_wp2_with fail
        refine ⟨(KeepsOthers.setCell _ _ _).from _, KC.set _ (by omega) H1.out (by decide) (by decide), ?_, blk_far HZ.out (by simp only; omega) _, ?_⟩
        · rw [exs_append]
          exact kinds_step H1.out hkd (by omega)
        · have := H3.out.set (p := ⟨w.heap.size + 1 + 1, 1, none⟩) (by simp only; omega) (.int .i64 (↑(cntK (exs pre) 1) + 1))
          rw [hsz] at this
          exact this
      · have hkd : kdOf x.f0 = 2 := by rw [hx0]; rfl
        rw [hx0] at k0
        gi_wp2_with fail
        refine ⟨(KeepsOthers.setCell _ _ _).from _, KC.set _ (by omega) H1.out (by decide) (by decide), ?_, blk_far HZ.out (by simp only; omega) _, ?_⟩
        · rw [exs_append]
          exact kinds_step H1.out hkd (by omega)
        · have := H3.out.set (p := ⟨w.heap.size + 1 + 1, 2, none⟩) (by simp only; omega) (.int .i64 (↑(cntK (exs pre) 2) + 1))
          rw [hsz] at this
          exact this
      · have hkd : kdOf x.f0 = 3 := by rw [hx0]; rfl
        rw [hx0] at k0
        gi_wp2_with fail
        refine ⟨(KeepsOthers.setCell _ _ _).from _, KC.set _ (by omega) H1.out (by decide) (by decide), ?_, blk_far HZ.out (by simp only; omega) _, ?_⟩
        · rw [exs_append]
          exact kinds_step H1.out hkd (by omega)
        · have := H3.out.set (p := ⟨w.heap.size + 1 + 1, 3, none⟩) (by simp only; omega) (.int .i64 (↑(cntK (exs pre) 3) + 1))
          rw [hsz] at this
          exact this
  case done =>
    rintro D zs W hD hzs ⟨h1, hz, h3⟩ hK
    have hzs' : exs zs = plE e := hzs
    rw [hzs'] at h1
    have o0 : W.cell? ⟨w.heap.size + 1 + 1, 0, none⟩ = some (.int .i64 (cntK (plE e) 0)) := (blk_cell h1 0).trans rfl
    have o1 : W.cell? ⟨w.heap.size + 1 + 1, 1, none⟩ = some (.int .i64 (cntK (plE e) 1)) := (blk_cell h1 1).trans rfl
    have o2 : W.cell? ⟨w.heap.size + 1 + 1, 2, none⟩ = some (.int .i64 (cntK (plE e) 2)) := (blk_cell h1 2).trans rfl
    have o3 : W.cell? ⟨w.heap.size + 1 + 1, 3, none⟩ = some (.int .i64 (cntK (plE e) 3)) := (blk_cell h1 3).trans rfl
    have z0 : W.cell? ⟨w.heap.size + 1, 0, none⟩ = some (.int .i64 0) := (blk_cell hz 0).trans rfl
    have z1 : W.cell? ⟨w.heap.size + 1, 1, none⟩ = some (.int .i64 0) := (blk_cell hz 1).trans rfl
    have z2 : W.cell? ⟨w.heap.size + 1, 2, none⟩ = some (.int .i64 0) := (blk_cell hz 2).trans rfl
    have z3 : W.cell? ⟨w.heap.size + 1, 3, none⟩ = some (.int .i64 0) := (blk_cell hz 3).trans rfl
    have fz := fun i => blk_frozen hz i
    gi_wp2
    obtain ⟨W4, hW4⟩ : ∃ W4, ((((W.setCell ⟨w.heap.size + 1, 0, none⟩ (.int .i64 (cntK (plE e) 0))).setCell ⟨w.heap.size + 1, 1, none⟩ (.int .i64 (cntK (plE e) 1))).setCell ⟨w.heap.size + 1, 2, none⟩ (.int .i64 (cntK (plE e) 2))).setCell ⟨w.heap.size + 1, 3, none⟩ (.int .i64 (cntK (plE e) 3))) = W4 := ⟨_, rfl⟩
    have b4 : W4.heap[w.heap.size + 1]? = some (.cells (kindsV (plE e)) 117 (0, 0)) := by rw [← hW4]; exact blk_put (blk_put (blk_put (blk_put hz 0 _ rfl) 1 _ rfl) 2 _ rfl) 3 _ (by simp [kindsV])
    have hKne : ¬ D = w.heap.size + 1 := by omega
    have k4 : W4.heap[D]? = some (.deferred (some [])) := by rw [← hW4]; exact (Below.heap_setCell _ _ _ _ hKne).trans ((Below.heap_setCell _ _ _ _ hKne).trans ((Below.heap_setCell _ _ _ _ hKne).trans ((Below.heap_setCell _ _ _ _ hKne).trans hK)))
    have h4 : Bel w W0.heap.size W4 := by rw [← hW4]; exact (((h3.set (by simp) _).set (by simp) _).set (by simp) _).set (by simp) _
    rw [hW4]
    have hg := grownBy_putObj' W4 D (.deferred none)
    have b5 : (W4.putObj D (.deferred none)).heap[w.heap.size + 1]? = some (.cells (kindsV (plE e)) 117 (0, 0)) := by rw [World.putObj_heap_other (by omega)]; exact b4
    refine ⟨by simp, .inl ⟨_, _, rfl, run_takeDeferred k4, ?_⟩⟩
    exact ⟨_, results_single rfl (.cell _ _ _ _ _ rfl b5 Tryz.underlying117 rfl rfl .nil), rfl, h4.1.grown hg h4.1.size (fun k hk => by cases hk; have := h3.1.size; have := hb0.size; omega)⟩
  case stop =>
    rintro D c pre W _ _ h _
    exact h.elim
end Go.Proofs.YtacefdkfbpgedaaGreat.Mine
