/- What is put for variables, counted. No program here. -/
import Derived.Test.YtacefdkfbpgedaaGreatCH6
import Derived.Test.YtacefdkfbpgedaaGreatCH1
import Derived.Deep.DeepCutAuto
import Derived.Lib.Hide
import Derived.Test.YtacefdkfbpgedaaGreatCH5
import Derived.Test.YtacefdkfbpgedaaGreatCH3
namespace Go.Proofs.YtacefdkfbpgedaaGreat.Mine
open Go.Proofs.YtacefdkfbpgedaaGreat.PProgSmall
open Go.RowKit Go.Shelf Go.Proofs.YtacefdkfbpgedaaGreatW.PrintWords Go.Proofs.YtacefdkfbpgedaaGreatW.PrintLast Go.Proofs.YtacefdkfbpgedaaGreatW.PrintMore
set_option linter.unusedVariables false
set_option linter.unusedSimpArgs false
section
variable {x y : ByteArray} {b0 b1 : Ex} {vs : List ByteArray}
end
end Go.Proofs.YtacefdkfbpgedaaGreat.Mine
namespace Go.Proofs.YtacefdkfbpgedaaGreat.Mine
open Go.Proofs.YtacefdkfbpgedaaGreat.PProgSmall
open Go.RowKit Go.Shelf Go.Proofs.YtacefdkfbpgedaaGreatW.PrintWords Go.Proofs.YtacefdkfbpgedaaGreatW.PrintLast Go.Proofs.YtacefdkfbpgedaaGreatW.PrintMore
set_option linter.unusedVariables false
set_option linter.unusedSimpArgs false
end Go.Proofs.YtacefdkfbpgedaaGreat.Mine
namespace Go.Proofs.YtacefdkfbpgedaaGreat.Mine
open Go.Proofs.YtacefdkfbpgedaaGreat.PProgSmall
open Go.RowKit Go.Shelf Go.Proofs.YtacefdkfbpgedaaGreatW.PrintWords Go.Proofs.YtacefdkfbpgedaaGreatW.PrintLast Go.Proofs.YtacefdkfbpgedaaGreatW.PrintMore
set_option linter.unusedVariables false
set_option linter.unusedSimpArgs false
set_option maxHeartbeats 2000000 in
theorem c_Mod (v n : Nat) (w : World) (hn : 0 < n) (hn2 : n ≤ 1000000) (hv : v ≤ 1000000) :
  Calls Tryz.prog 131 #[.int .i64 (v : Int), .int .i64 (n : Int)] w fun en w' => en = .returned (.int .i64 ((v % n : Nat) : Int)) ∧ w' = w := by
 have t1 : decide ((n : Int) < 1) = false := decide_eq_false (by omega)
 have hnz : ¬ ((n : Int) = 0) := by omega
 have hnn : ¬ (n = 0) := by omega
 obtain ⟨q, hq⟩ : ∃ q, v % n = q := ⟨_, rfl⟩
 have hmod : (v : Int) % (n : Int) = (q : Int) := by rw [← hq]; exact (Int.natCast_emod v n).symm
 have hmodt : (v : Int).tmod (n : Int) = (q : Int) := by rw [Int.tmod_eq_emod_of_nonneg (by omega)]; exact hmod
 have t2 : decide ((q : Int) < 0) = false := decide_eq_false (by omega)
 rw [hq]
 clear hq
 go_enter Tryz.func131, Tryz.ntmps131
 go_wp2_with fail
 go_ret
 exact ⟨rfl, rfl⟩
def nameN (n : Nat) : ByteArray := ⟨#[102, 97 + n.toUInt8]⟩
set_option maxRecDepth 100000 in
set_option maxHeartbeats 4000000 in
theorem c_name (n : Nat) (w : World) (hn : n < 26) :
  Calls Tryz.prog 75 #[.int .i64 (n : Int)] w fun en w' => en = .returned (.string (nameN n)) ∧ w' = w := by
 rcases (show n = 0 ∨ n = 1 ∨ n = 2 ∨ n = 3 ∨ n = 4 ∨ n = 5 ∨ n = 6 ∨ n = 7 ∨ n = 8 ∨ n = 9 ∨ n = 10 ∨ n = 11 ∨ n = 12 ∨ n = 13 ∨ n = 14 ∨ n = 15 ∨ n = 16 ∨ n = 17 ∨ n = 18 ∨ n = 19 ∨ n = 20 ∨ n = 21 ∨ n = 22 ∨ n = 23 ∨ n = 24 ∨ n = 25 by omega) with rfl | rfl | rfl | rfl | rfl | rfl | rfl | rfl | rfl | rfl | rfl | rfl | rfl | rfl | rfl | rfl | rfl | rfl | rfl | rfl | rfl | rfl | rfl | rfl | rfl | rfl
 ·have HC := Lib.hid (show Calls Tryz.prog 131 #[.int .i64 0, .int .i64 26] w fun en w' => en = .returned (.int .i64 0) ∧ w' = w from c_Mod 0 26 w (by decide) (by decide) (by decide))
  go_enter Tryz.func75, Tryz.ntmps75
  go_wp2_with fail
  refine HC.out.mono ?_
  rintro en w' ⟨rfl, rfl⟩
  go_wp2_with fail
  go_ret
  exact ⟨rfl, rfl⟩
 ·have HC := Lib.hid (show Calls Tryz.prog 131 #[.int .i64 1, .int .i64 26] w fun en w' => en = .returned (.int .i64 1) ∧ w' = w from c_Mod 1 26 w (by decide) (by decide) (by decide))
  go_enter Tryz.func75, Tryz.ntmps75
  go_wp2_with fail
  refine HC.out.mono ?_
  rintro en w' ⟨rfl, rfl⟩
  go_wp2_with fail
  go_ret
  exact ⟨rfl, rfl⟩
 ·have HC := Lib.hid (show Calls Tryz.prog 131 #[.int .i64 2, .int .i64 26] w fun en w' => en = .returned (.int .i64 2) ∧ w' = w from c_Mod 2 26 w (by decide) (by decide) (by decide))
  go_enter Tryz.func75, Tryz.ntmps75
  go_wp2_with fail
  refine HC.out.mono ?_
  rintro en w' ⟨rfl, rfl⟩
  go_wp2_with fail
  go_ret
  exact ⟨rfl, rfl⟩
 ·have HC := Lib.hid (show Calls Tryz.prog 131 #[.int .i64 3, .int .i64 26] w fun en w' => en = .returned (.int .i64 3) ∧ w' = w from c_Mod 3 26 w (by decide) (by decide) (by decide))
  go_enter Tryz.func75, Tryz.ntmps75
  go_wp2_with fail
  refine HC.out.mono ?_
  rintro en w' ⟨rfl, rfl⟩
  go_wp2_with fail
  go_ret
  exact ⟨rfl, rfl⟩
 ·have HC := Lib.hid (show Calls Tryz.prog 131 #[.int .i64 4, .int .i64 26] w fun en w' => en = .returned (.int .i64 4) ∧ w' = w from c_Mod 4 26 w (by decide) (by decide) (by decide))
  go_enter Tryz.func75, Tryz.ntmps75
  go_wp2_with fail
  refine HC.out.mono ?_
  rintro en w' ⟨rfl, rfl⟩
  go_wp2_with fail
  go_ret
  exact ⟨rfl, rfl⟩
 ·have HC := Lib.hid (show Calls Tryz.prog 131 #[.int .i64 5, .int .i64 26] w fun en w' => en = .returned (.int .i64 5) ∧ w' = w from c_Mod 5 26 w (by decide) (by decide) (by decide))
  go_enter Tryz.func75, Tryz.ntmps75
  go_wp2_with fail
  refine HC.out.mono ?_
  rintro en w' ⟨rfl, rfl⟩
  go_wp2_with fail
  go_ret
  exact ⟨rfl, rfl⟩
 ·have HC := Lib.hid (show Calls Tryz.prog 131 #[.int .i64 6, .int .i64 26] w fun en w' => en = .returned (.int .i64 6) ∧ w' = w from c_Mod 6 26 w (by decide) (by decide) (by decide))
  go_enter Tryz.func75, Tryz.ntmps75
  go_wp2_with fail
  refine HC.out.mono ?_
  rintro en w' ⟨rfl, rfl⟩
  go_wp2_with fail
  go_ret
  exact ⟨rfl, rfl⟩
 ·have HC := Lib.hid (show Calls Tryz.prog 131 #[.int .i64 7, .int .i64 26] w fun en w' => en = .returned (.int .i64 7) ∧ w' = w from c_Mod 7 26 w (by decide) (by decide) (by decide))
  go_enter Tryz.func75, Tryz.ntmps75
  go_wp2_with fail
  refine HC.out.mono ?_
  rintro en w' ⟨rfl, rfl⟩
  go_wp2_with fail
  go_ret
  exact ⟨rfl, rfl⟩
 ·have HC := Lib.hid (show Calls Tryz.prog 131 #[.int .i64 8, .int .i64 26] w fun en w' => en = .returned (.int .i64 8) ∧ w' = w from c_Mod 8 26 w (by decide) (by decide) (by decide))
  go_enter Tryz.func75, Tryz.ntmps75
  go_wp2_with fail
  refine HC.out.mono ?_
  rintro en w' ⟨rfl, rfl⟩
  go_wp2_with fail
  go_ret
  exact ⟨rfl, rfl⟩
 ·have HC := Lib.hid (show Calls Tryz.prog 131 #[.int .i64 9, .int .i64 26] w fun en w' => en = .returned (.int .i64 9) ∧ w' = w from c_Mod 9 26 w (by decide) (by decide) (by decide))
  go_enter Tryz.func75, Tryz.ntmps75
  go_wp2_with fail
  refine HC.out.mono ?_
  rintro en w' ⟨rfl, rfl⟩
  go_wp2_with fail
  go_ret
  exact ⟨rfl, rfl⟩
 ·have HC := Lib.hid (show Calls Tryz.prog 131 #[.int .i64 10, .int .i64 26] w fun en w' => en = .returned (.int .i64 10) ∧ w' = w from c_Mod 10 26 w (by decide) (by decide) (by decide))
  go_enter Tryz.func75, Tryz.ntmps75
  go_wp2_with fail
  refine HC.out.mono ?_
  rintro en w' ⟨rfl, rfl⟩
  go_wp2_with fail
  go_ret
  exact ⟨rfl, rfl⟩
 ·have HC := Lib.hid (show Calls Tryz.prog 131 #[.int .i64 11, .int .i64 26] w fun en w' => en = .returned (.int .i64 11) ∧ w' = w from c_Mod 11 26 w (by decide) (by decide) (by decide))
  go_enter Tryz.func75, Tryz.ntmps75
  go_wp2_with fail
  refine HC.out.mono ?_
  rintro en w' ⟨rfl, rfl⟩
  go_wp2_with fail
  go_ret
  exact ⟨rfl, rfl⟩
 ·have HC := Lib.hid (show Calls Tryz.prog 131 #[.int .i64 12, .int .i64 26] w fun en w' => en = .returned (.int .i64 12) ∧ w' = w from c_Mod 12 26 w (by decide) (by decide) (by decide))
  go_enter Tryz.func75, Tryz.ntmps75
  go_wp2_with fail
  refine HC.out.mono ?_
  rintro en w' ⟨rfl, rfl⟩
  go_wp2_with fail
  go_ret
  exact ⟨rfl, rfl⟩
 ·have HC := Lib.hid (show Calls Tryz.prog 131 #[.int .i64 13, .int .i64 26] w fun en w' => en = .returned (.int .i64 13) ∧ w' = w from c_Mod 13 26 w (by decide) (by decide) (by decide))
  go_enter Tryz.func75, Tryz.ntmps75
  go_wp2_with fail
  refine HC.out.mono ?_
  rintro en w' ⟨rfl, rfl⟩
  go_wp2_with fail
  go_ret
  exact ⟨rfl, rfl⟩
 ·have HC := Lib.hid (show Calls Tryz.prog 131 #[.int .i64 14, .int .i64 26] w fun en w' => en = .returned (.int .i64 14) ∧ w' = w from c_Mod 14 26 w (by decide) (by decide) (by decide))
  go_enter Tryz.func75, Tryz.ntmps75
  go_wp2_with fail
  refine HC.out.mono ?_
  rintro en w' ⟨rfl, rfl⟩
  go_wp2_with fail
  go_ret
  exact ⟨rfl, rfl⟩
 ·have HC := Lib.hid (show Calls Tryz.prog 131 #[.int .i64 15, .int .i64 26] w fun en w' => en = .returned (.int .i64 15) ∧ w' = w from c_Mod 15 26 w (by decide) (by decide) (by decide))
  go_enter Tryz.func75, Tryz.ntmps75
  go_wp2_with fail
  refine HC.out.mono ?_
  rintro en w' ⟨rfl, rfl⟩
  go_wp2_with fail
  go_ret
  exact ⟨rfl, rfl⟩
 ·have HC := Lib.hid (show Calls Tryz.prog 131 #[.int .i64 16, .int .i64 26] w fun en w' => en = .returned (.int .i64 16) ∧ w' = w from c_Mod 16 26 w (by decide) (by decide) (by decide))
  go_enter Tryz.func75, Tryz.ntmps75
  go_wp2_with fail
  refine HC.out.mono ?_
  rintro en w' ⟨rfl, rfl⟩
  go_wp2_with fail
  go_ret
  exact ⟨rfl, rfl⟩
 ·have HC := Lib.hid (show Calls Tryz.prog 131 #[.int .i64 17, .int .i64 26] w fun en w' => en = .returned (.int .i64 17) ∧ w' = w from c_Mod 17 26 w (by decide) (by decide) (by decide))
  go_enter Tryz.func75, Tryz.ntmps75
  go_wp2_with fail
  refine HC.out.mono ?_
  rintro en w' ⟨rfl, rfl⟩
  go_wp2_with fail
  go_ret
  exact ⟨rfl, rfl⟩
 ·have HC := Lib.hid (show Calls Tryz.prog 131 #[.int .i64 18, .int .i64 26] w fun en w' => en = .returned (.int .i64 18) ∧ w' = w from c_Mod 18 26 w (by decide) (by decide) (by decide))
  go_enter Tryz.func75, Tryz.ntmps75
  go_wp2_with fail
  refine HC.out.mono ?_
  rintro en w' ⟨rfl, rfl⟩
  go_wp2_with fail
  go_ret
  exact ⟨rfl, rfl⟩
 ·have HC := Lib.hid (show Calls Tryz.prog 131 #[.int .i64 19, .int .i64 26] w fun en w' => en = .returned (.int .i64 19) ∧ w' = w from c_Mod 19 26 w (by decide) (by decide) (by decide))
  go_enter Tryz.func75, Tryz.ntmps75
  go_wp2_with fail
  refine HC.out.mono ?_
  rintro en w' ⟨rfl, rfl⟩
  go_wp2_with fail
  go_ret
  exact ⟨rfl, rfl⟩
 ·have HC := Lib.hid (show Calls Tryz.prog 131 #[.int .i64 20, .int .i64 26] w fun en w' => en = .returned (.int .i64 20) ∧ w' = w from c_Mod 20 26 w (by decide) (by decide) (by decide))
  go_enter Tryz.func75, Tryz.ntmps75
  go_wp2_with fail
  refine HC.out.mono ?_
  rintro en w' ⟨rfl, rfl⟩
  go_wp2_with fail
  go_ret
  exact ⟨rfl, rfl⟩
 ·have HC := Lib.hid (show Calls Tryz.prog 131 #[.int .i64 21, .int .i64 26] w fun en w' => en = .returned (.int .i64 21) ∧ w' = w from c_Mod 21 26 w (by decide) (by decide) (by decide))
  go_enter Tryz.func75, Tryz.ntmps75
  go_wp2_with fail
  refine HC.out.mono ?_
  rintro en w' ⟨rfl, rfl⟩
  go_wp2_with fail
  go_ret
  exact ⟨rfl, rfl⟩
 ·have HC := Lib.hid (show Calls Tryz.prog 131 #[.int .i64 22, .int .i64 26] w fun en w' => en = .returned (.int .i64 22) ∧ w' = w from c_Mod 22 26 w (by decide) (by decide) (by decide))
  go_enter Tryz.func75, Tryz.ntmps75
  go_wp2_with fail
  refine HC.out.mono ?_
  rintro en w' ⟨rfl, rfl⟩
  go_wp2_with fail
  go_ret
  exact ⟨rfl, rfl⟩
 ·have HC := Lib.hid (show Calls Tryz.prog 131 #[.int .i64 23, .int .i64 26] w fun en w' => en = .returned (.int .i64 23) ∧ w' = w from c_Mod 23 26 w (by decide) (by decide) (by decide))
  go_enter Tryz.func75, Tryz.ntmps75
  go_wp2_with fail
  refine HC.out.mono ?_
  rintro en w' ⟨rfl, rfl⟩
  go_wp2_with fail
  go_ret
  exact ⟨rfl, rfl⟩
 ·have HC := Lib.hid (show Calls Tryz.prog 131 #[.int .i64 24, .int .i64 26] w fun en w' => en = .returned (.int .i64 24) ∧ w' = w from c_Mod 24 26 w (by decide) (by decide) (by decide))
  go_enter Tryz.func75, Tryz.ntmps75
  go_wp2_with fail
  refine HC.out.mono ?_
  rintro en w' ⟨rfl, rfl⟩
  go_wp2_with fail
  go_ret
  exact ⟨rfl, rfl⟩
 ·have HC := Lib.hid (show Calls Tryz.prog 131 #[.int .i64 25, .int .i64 26] w fun en w' => en = .returned (.int .i64 25) ∧ w' = w from c_Mod 25 26 w (by decide) (by decide) (by decide))
  go_enter Tryz.func75, Tryz.ntmps75
  go_wp2_with fail
  refine HC.out.mono ?_
  rintro en w' ⟨rfl, rfl⟩
  go_wp2_with fail
  go_ret
  exact ⟨rfl, rfl⟩
end Go.Proofs.YtacefdkfbpgedaaGreat.Mine
namespace Go.Proofs.YtacefdkfbpgedaaGreat.Mine
open Go.Proofs.YtacefdkfbpgedaaGreat.PProgSmall
open Go.RowKit Go.Shelf Go.Proofs.YtacefdkfbpgedaaGreatW.PrintWords Go.Proofs.YtacefdkfbpgedaaGreatW.PrintLast Go.Proofs.YtacefdkfbpgedaaGreatW.PrintMore
set_option linter.unusedVariables false
set_option linter.unusedSimpArgs false
set_option maxRecDepth 100000
def Sack (B : Nat) (A : Option Addr) (n c m : Nat) (W : World) : Prop := ∃ (nx : Nat) (st : Int), nx ≤ m ∧ W.heap[B]? = some (.cells #[.slice A n c, .int .i64 nx, .int .u64 st] 109 (0, 0))
theorem wrap_u64 (x : Int) : 0 ≤ IntKind.u64.wrap x ∧ IntKind.u64.wrap x < 18446744073709551616 := by
 simp only [IntKind.wrap, IntKind.signed, IntKind.bits]
 simp
 omega
abbrev SkS (B : Nat) (v u t : Value) (W : World) : Prop := W.cell? ⟨B, 0, none⟩ = some v ∧ W.cell? ⟨B, 1, none⟩ = some u ∧ W.cell? ⟨B, 2, none⟩ = some t
theorem SkS.of {B : Nat} {v u t : Value} {W : World} (h : W.heap[B]? = some (.cells #[v, u, t] 109 (0, 0))) : SkS B v u t W := ⟨(blk_cell h 0).trans rfl, (blk_cell h 1).trans rfl, (blk_cell h 2).trans rfl⟩
set_option maxHeartbeats 8000000 in
theorem c_draw (B : Nat) (A : Option Addr) (n c m : Nat) (zs : List Int) (w : World) (hs : Sack B A n c m w) (hn : zs.length = n) (hr : Kd.C (Kd.int .u8) w A zs.length zs) (hm : m ≤ 1000000000000) :
  Calls Tryz.prog 164 #[.pointer (some ⟨B, 0, none⟩)] w fun en w' => ∃ r : Int, en = .returned (.int .u64 r) ∧ 0 ≤ r ∧ r < 2147483648 ∧ Sack B A n c (m + 1) w' ∧ Fr (fun k => k = B) w w' := by
 obtain ⟨nx0, st, hnx, hb⟩ := hs
 have hmz := hr.2.1
 rw [hn] at hmz
 have HB := Aside0.mk hb
 have HR := Aside0.mk hr
 have HN := Lib.hid hn
 have b0 := (blk_cell hb 0).trans rfl
 clear hb hr hn
 go_enter Tryz.func164, Tryz.ntmps164
 go_upto_if 8 with fail
 go_cut [2] (fun s2 wx => s2 = .int .u64 0 ∧ ∃ (nx : Nat) (st : Int), nx ≤ m + 1 ∧ Aside0 (wx.heap[B]? = some (.cells #[.slice A n c, .int .i64 nx, .int .u64 st] 109 (0, 0))) ∧ Aside0 (Fr (fun k => k = B) w wx))
 case first =>
  cases h0 : decide (0 < n) with
  | false =>
   go_wp2_with fail
   go_meet
   exact ⟨rfl, nx0, st, by omega, HB, ⟨Fr.refl _ _⟩⟩
  | true =>
   have hnp : 0 < n := of_decide_eq_true h0
   obtain ⟨q, hq⟩ : ∃ q, nx0 % n = q := ⟨_, rfl⟩
   have hql : q < n := by rw [← hq]; exact Nat.mod_lt _ hnp
   have hmod : (nx0 : Int) % (n : Int) = (q : Int) := by rw [← hq]; exact (Int.natCast_emod nx0 n).symm
   have hmodt : (nx0 : Int).tmod (n : Int) = (q : Int) := by rw [Int.tmod_eq_emod_of_nonneg (by omega)]; exact hmod
   have hqz : (q : Int) < (n : Int) := by omega
   have hn0 : ¬ ((n : Int) = 0) := by omega
   have hn00 : ¬ (n = 0) := by omega
   obtain ⟨ad, c0, rfl, hK, hcells, y0⟩ := gett1 rfl HR.out q (by rw [HN.out]; exact hql)
   obtain ⟨z, rfl⟩ : ∃ z : Int, c0 = .int .u8 z := ⟨zs[q]'(by rw [HN.out]; exact hql), by simpa [Kd.int, Kd.scalar] using hK⟩
   clear hK hcells hq hql hnp b0
   go_upto_region 2 with fail
   obtain ⟨X, hX⟩ : ∃ X, w.drew = X := ⟨_, rfl⟩
   have HX := Aside0.mk (show X.heap[B]? = some (.cells #[.slice (some ad) n c, .int .i64 nx0, .int .u64 st] 109 (0, 0)) by rw [← hX]; exact HB.out)
   have HG := Aside0.mk (show Fr (fun k => k = B) w X by rw [← hX]; exact (Fr.refl _ _).drew)
   have hSd : (fun W => SkS B (.slice (some ad) n c) (.int .i64 nx0) (.int .u64 st) W ∧ W.cell? (ad.add q) = some (.int .u8 z)) X := ⟨SkS.of HX.out, by rw [← hX]; simpa using y0⟩
   refine wp_region_K (S := fun W => SkS B (.slice (some ad) n c) (.int .i64 nx0) (.int .u64 st) W ∧ W.cell? (ad.add q) = some (.int .u8 z)) (k := 25) (by kernel_rfl) ?_
   change wpAnyK _ _ _ _ _ _ 26 (Array.replicate 26 false) _ _
   rw [hX]
   clear hX y0
   refine wpAnyK_take (i := 0) (v := ?_) rfl (by kernel_rfl) (by kernel_rfl) (by kernel_rfl) (by kernel_rfl) (fun _ _ _ h => h) hSd (Or.inl ⟨by rfl, ?_⟩) ?_
   rotate_left 1
   (intro w hSw; (try dsimp only at hSw); go_simp; try (with_reducible rfl))
   (try simp only [List.getElem_toArray, List.getElem_cons_succ, List.getElem_cons_zero]); (try dsimp only [Act.put]); (try simp only [List.setIfInBounds_toArray, List.set_cons_zero, List.set_cons_succ])
   refine wpAnyK_take (i := 1) (v := ?_) rfl (by kernel_rfl) (by kernel_rfl) (by kernel_rfl) (by kernel_rfl) (fun _ _ _ h => h) hSd (Or.inl ⟨by rfl, ?_⟩) ?_
   rotate_left 1
   (intro w hSw; (try dsimp only at hSw); go_simp; try (with_reducible rfl))
   (try simp only [List.getElem_toArray, List.getElem_cons_succ, List.getElem_cons_zero]); (try dsimp only [Act.put]); (try simp only [List.setIfInBounds_toArray, List.set_cons_zero, List.set_cons_succ])
   refine wpAnyK_take (i := 2) (v := ?_) rfl (by kernel_rfl) (by kernel_rfl) (by kernel_rfl) (by kernel_rfl) (fun _ _ _ h => h) hSd (Or.inl ⟨by rfl, ?_⟩) ?_
   rotate_left 1
   (intro w hSw; (try dsimp only at hSw); go_simp; try (with_reducible rfl))
   (try simp only [List.getElem_toArray, List.getElem_cons_succ, List.getElem_cons_zero]); (try dsimp only [Act.put]); (try simp only [List.setIfInBounds_toArray, List.set_cons_zero, List.set_cons_succ])
   refine wpAnyK_take (i := 3) (v := ?_) rfl (by kernel_rfl) (by kernel_rfl) (by kernel_rfl) (by kernel_rfl) (fun _ _ _ h => h) hSd (Or.inl ⟨by rfl, ?_⟩) ?_
   rotate_left 1
   (intro w hSw; (try dsimp only at hSw); go_simp; try (with_reducible rfl))
   (try simp only [List.getElem_toArray, List.getElem_cons_succ, List.getElem_cons_zero]); (try dsimp only [Act.put]); (try simp only [List.setIfInBounds_toArray, List.set_cons_zero, List.set_cons_succ])
   refine wpAnyK_take (i := 4) (v := ?_) rfl (by kernel_rfl) (by kernel_rfl) (by kernel_rfl) (by kernel_rfl) (fun _ _ _ h => h) hSd (Or.inl ⟨by rfl, ?_⟩) ?_
   rotate_left 1
   (intro w hSw; (try dsimp only at hSw); go_simp; try (with_reducible rfl))
   (try simp only [List.getElem_toArray, List.getElem_cons_succ, List.getElem_cons_zero]); (try dsimp only [Act.put]); (try simp only [List.setIfInBounds_toArray, List.set_cons_zero, List.set_cons_succ])
   refine wpAnyK_take (i := 5) (v := ?_) rfl (by kernel_rfl) (by kernel_rfl) (by kernel_rfl) (by kernel_rfl) (fun _ _ _ h => h) hSd (Or.inl ⟨by rfl, ?_⟩) ?_
   rotate_left 1
   (intro w hSw; (try dsimp only at hSw); go_simp; try (with_reducible rfl))
   (try simp only [List.getElem_toArray, List.getElem_cons_succ, List.getElem_cons_zero]); (try dsimp only [Act.put]); (try simp only [List.setIfInBounds_toArray, List.set_cons_zero, List.set_cons_succ])
   refine wpAnyK_take (i := 6) (v := ?_) rfl (by kernel_rfl) (by kernel_rfl) (by kernel_rfl) (by kernel_rfl) (fun _ _ _ h => h) hSd (Or.inl ⟨by rfl, ?_⟩) ?_
   rotate_left 1
   (intro w hSw; (try dsimp only at hSw); go_simp; try (with_reducible rfl))
   (try simp only [List.getElem_toArray, List.getElem_cons_succ, List.getElem_cons_zero]); (try dsimp only [Act.put]); (try simp only [List.setIfInBounds_toArray, List.set_cons_zero, List.set_cons_succ])
   refine wpAnyK_take (i := 7) (v := ?_) rfl (by kernel_rfl) (by kernel_rfl) (by kernel_rfl) (by kernel_rfl) (fun _ _ _ h => h) hSd (Or.inl ⟨by rfl, ?_⟩) ?_
   rotate_left 1
   (intro w hSw; (try dsimp only at hSw); go_simp; try (with_reducible rfl))
   (try simp only [List.getElem_toArray, List.getElem_cons_succ, List.getElem_cons_zero]); (try dsimp only [Act.put]); (try simp only [List.setIfInBounds_toArray, List.set_cons_zero, List.set_cons_succ])
   refine wpAnyK_take (i := 8) (v := ?_) rfl (by kernel_rfl) (by kernel_rfl) (by kernel_rfl) (by kernel_rfl) (fun _ _ _ h => h) hSd (Or.inl ⟨by rfl, ?_⟩) ?_
   rotate_left 1
   (intro w hSw; (try dsimp only at hSw); go_simp; try (with_reducible rfl))
   (try simp only [List.getElem_toArray, List.getElem_cons_succ, List.getElem_cons_zero]); (try dsimp only [Act.put]); (try simp only [List.setIfInBounds_toArray, List.set_cons_zero, List.set_cons_succ])
   refine wpAnyK_take (i := 9) (v := ?_) rfl (by kernel_rfl) (by kernel_rfl) (by kernel_rfl) (by kernel_rfl) (fun _ _ _ h => h) hSd (Or.inl ⟨by rfl, ?_⟩) ?_
   rotate_left 1
   (intro w hSw; (try dsimp only at hSw); go_simp; try (with_reducible rfl))
   (try simp only [List.getElem_toArray, List.getElem_cons_succ, List.getElem_cons_zero]); (try dsimp only [Act.put]); (try simp only [List.setIfInBounds_toArray, List.set_cons_zero, List.set_cons_succ])
   refine wpAnyK_take (i := 10) (v := ?_) rfl (by kernel_rfl) (by kernel_rfl) (by kernel_rfl) (by kernel_rfl) (fun _ _ _ h => h) hSd (Or.inl ⟨by rfl, ?_⟩) ?_
   rotate_left 1
   (intro w hSw; (try dsimp only at hSw); go_simp; try (with_reducible rfl))
   (try simp only [List.getElem_toArray, List.getElem_cons_succ, List.getElem_cons_zero]); (try dsimp only [Act.put]); (try simp only [List.setIfInBounds_toArray, List.set_cons_zero, List.set_cons_succ])
   refine wpAnyK_take (i := 11) (v := ?_) rfl (by kernel_rfl) (by kernel_rfl) (by kernel_rfl) (by kernel_rfl) (fun _ _ _ h => h) hSd (Or.inl ⟨by rfl, ?_⟩) ?_
   rotate_left 1
   (intro w hSw; (try dsimp only at hSw); go_simp; try (with_reducible rfl))
   (try simp only [List.getElem_toArray, List.getElem_cons_succ, List.getElem_cons_zero]); (try dsimp only [Act.put]); (try simp only [List.setIfInBounds_toArray, List.set_cons_zero, List.set_cons_succ])
   refine wpAnyK_take (i := 12) (v := ?_) rfl (by kernel_rfl) (by kernel_rfl) (by kernel_rfl) (by kernel_rfl) (fun _ _ _ h => h) hSd (Or.inl ⟨by rfl, ?_⟩) ?_
   rotate_left 1
   (intro w hSw; (try dsimp only at hSw); go_simp; try (with_reducible rfl))
   (try simp only [List.getElem_toArray, List.getElem_cons_succ, List.getElem_cons_zero]); (try dsimp only [Act.put]); (try simp only [List.setIfInBounds_toArray, List.set_cons_zero, List.set_cons_succ])
   refine wpAnyK_take (i := 13) (v := ?_) rfl (by kernel_rfl) (by kernel_rfl) (by kernel_rfl) (by kernel_rfl) (fun _ _ _ h => h) hSd (Or.inl ⟨by rfl, ?_⟩) ?_
   rotate_left 1
   (intro w hSw; (try dsimp only at hSw); go_simp; try (with_reducible rfl))
   (try simp only [List.getElem_toArray, List.getElem_cons_succ, List.getElem_cons_zero]); (try dsimp only [Act.put]); (try simp only [List.setIfInBounds_toArray, List.set_cons_zero, List.set_cons_succ])
   refine wpAnyK_take (i := 14) (v := ?_) rfl (by kernel_rfl) (by kernel_rfl) (by kernel_rfl) (by kernel_rfl) (fun _ _ _ h => h) hSd (Or.inl ⟨by rfl, ?_⟩) ?_
   rotate_left 1
   (intro w hSw; (try dsimp only at hSw); go_simp; try (with_reducible rfl))
   (try simp only [List.getElem_toArray, List.getElem_cons_succ, List.getElem_cons_zero]); (try dsimp only [Act.put]); (try simp only [List.setIfInBounds_toArray, List.set_cons_zero, List.set_cons_succ])
   refine wpAnyK_take (i := 15) (v := ?_) rfl (by kernel_rfl) (by kernel_rfl) (by kernel_rfl) (by kernel_rfl) (fun _ _ _ h => h) hSd (Or.inl ⟨by rfl, ?_⟩) ?_
   rotate_left 1
   (intro w hSw; (try dsimp only at hSw); go_simp; try (with_reducible rfl))
   (try simp only [List.getElem_toArray, List.getElem_cons_succ, List.getElem_cons_zero]); (try dsimp only [Act.put]); (try simp only [List.setIfInBounds_toArray, List.set_cons_zero, List.set_cons_succ])
   refine wpAnyK_take (i := 16) (v := ?_) rfl (by kernel_rfl) (by kernel_rfl) (by kernel_rfl) (by kernel_rfl) (fun _ _ _ h => h) hSd (Or.inl ⟨by rfl, ?_⟩) ?_
   rotate_left 1
   (intro w hSw; (try dsimp only at hSw); go_simp; try (with_reducible rfl))
   (try simp only [List.getElem_toArray, List.getElem_cons_succ, List.getElem_cons_zero]); (try dsimp only [Act.put]); (try simp only [List.setIfInBounds_toArray, List.set_cons_zero, List.set_cons_succ])
   refine wpAnyK_take (i := 17) (v := ?_) rfl (by kernel_rfl) (by kernel_rfl) (by kernel_rfl) (by kernel_rfl) (fun _ _ _ h => h) hSd (Or.inl ⟨by rfl, ?_⟩) ?_
   rotate_left 1
   (intro w hSw; (try dsimp only at hSw); go_simp; try (with_reducible rfl))
   (try simp only [List.getElem_toArray, List.getElem_cons_succ, List.getElem_cons_zero]); (try dsimp only [Act.put]); (try simp only [List.setIfInBounds_toArray, List.set_cons_zero, List.set_cons_succ])
   refine wpAnyK_take (i := 18) (v := ?_) rfl (by kernel_rfl) (by kernel_rfl) (by kernel_rfl) (by kernel_rfl) (fun _ _ _ h => h) hSd (Or.inl ⟨by rfl, ?_⟩) ?_
   rotate_left 1
   (intro w hSw; (try dsimp only at hSw); go_simp; try (with_reducible rfl))
   (try simp only [List.getElem_toArray, List.getElem_cons_succ, List.getElem_cons_zero]); (try dsimp only [Act.put]); (try simp only [List.setIfInBounds_toArray, List.set_cons_zero, List.set_cons_succ])
   refine wpAnyK_take (i := 19) (v := ?_) rfl (by kernel_rfl) (by kernel_rfl) (by kernel_rfl) (by kernel_rfl) (fun _ _ _ h => h) hSd (Or.inl ⟨by rfl, ?_⟩) ?_
   rotate_left 1
   (intro w hSw; (try dsimp only at hSw); go_simp; try (with_reducible rfl))
   (try simp only [List.getElem_toArray, List.getElem_cons_succ, List.getElem_cons_zero]); (try dsimp only [Act.put]); (try simp only [List.setIfInBounds_toArray, List.set_cons_zero, List.set_cons_succ])
   refine wpAnyK_take (i := 20) (v := ?_) rfl (by kernel_rfl) (by kernel_rfl) (by kernel_rfl) (by kernel_rfl) (fun _ _ _ h => h) hSd (Or.inl ⟨by rfl, ?_⟩) ?_
   rotate_left 1
   (intro w hSw; (try dsimp only at hSw); go_simp; try (with_reducible rfl))
   (try simp only [List.getElem_toArray, List.getElem_cons_succ, List.getElem_cons_zero]); (try dsimp only [Act.put]); (try simp only [List.setIfInBounds_toArray, List.set_cons_zero, List.set_cons_succ])
   refine wpAnyK_take (i := 21) (v := ?_) rfl (by kernel_rfl) (by kernel_rfl) (by kernel_rfl) (by kernel_rfl) (fun _ _ _ h => h) hSd (Or.inl ⟨by rfl, ?_⟩) ?_
   rotate_left 1
   (intro w hSw; (try dsimp only at hSw); go_simp; try (with_reducible rfl))
   (try simp only [List.getElem_toArray, List.getElem_cons_succ, List.getElem_cons_zero]); (try dsimp only [Act.put]); (try simp only [List.setIfInBounds_toArray, List.set_cons_zero, List.set_cons_succ])
   refine wpAnyK_take (i := 22) (v := ?_) rfl (by kernel_rfl) (by kernel_rfl) (by kernel_rfl) (by kernel_rfl) (fun _ _ _ h => h) hSd (Or.inl ⟨by rfl, ?_⟩) ?_
   rotate_left 1
   (intro w hSw; (try dsimp only at hSw); go_simp; try (with_reducible rfl))
   (try simp only [List.getElem_toArray, List.getElem_cons_succ, List.getElem_cons_zero]); (try dsimp only [Act.put]); (try simp only [List.setIfInBounds_toArray, List.set_cons_zero, List.set_cons_succ])
   refine wpAnyK_one (i := 23) (by kernel_rfl) rfl (fun K hK => ?_)
   go_simp
   refine hK.out _ _ (fun _ => hSd) ?_
   clear hK
   refine wpAnyK_one (i := 24) (by kernel_rfl) rfl (fun K hK => ?_)
   go_simp
   refine hK.out _ _ (fun _ => hSd) ?_
   clear hK
   refine wpAnyK_one (i := 25) (by kernel_rfl) rfl (fun K hK => ?_)
   have b2 := (blk_cell HX.out 2).trans rfl
   have fb := fun i => blk_frozen HX.out i
   go_simp
   refine hK.out _ _ (fun h => absurd rfl h) ?_
   clear hK hSd b2 fb
   refine wpAnyK_done (by kernel_rfl) ?_ _
   obtain ⟨s0, hs0⟩ : ∃ s0, IntKind.u64.wrap (st + IntKind.u64.wrap (IntKind.u64.wrap z + 1)) = s0 := ⟨_, rfl⟩
   rw [hs0]
   clear hs0
   obtain ⟨W2, hW2⟩ : ∃ W2, X.setCell ⟨B, 2, none⟩ (.int .u64 s0) = W2 := ⟨_, rfl⟩
   have HB := Aside0.mk (show W2.heap[B]? = some (.cells #[.slice (some ad) n c, .int .i64 nx0, .int .u64 s0] 109 (0, 0)) by rw [← hW2]; exact blk_put HX.out 2 _ rfl)
   have HF := Aside0.mk (show Fr (fun k => k = B) w W2 by rw [← hW2]; exact HG.out.setCell (p := ⟨B, 2, none⟩) (.inl rfl) _)
   rw [hW2]
   clear hW2 HX HG
   have b1 := (blk_cell HB.out 1).trans rfl
   have fb := fun i => blk_frozen HB.out i
   go_wp2_with fail
   go_meet
   exact ⟨rfl, nx0 + 1, s0, by omega, ⟨by have := blk_put HB.out 1 (.int .i64 ((nx0 : Int) + 1)) rfl; simpa using this⟩, ⟨HF.out.setCell (p := ⟨B, 1, none⟩) (.inl rfl) _⟩⟩
 case rest =>
  obtain ⟨rfl, nx, st, hnx, HB, HF⟩ := hcut
  go_upto_region 4 with fail
  obtain ⟨X, hX⟩ : ∃ X, World.drew wc = X := ⟨_, rfl⟩
  have HX := Aside0.mk (show X.heap[B]? = some (.cells #[.slice A n c, .int .i64 nx, .int .u64 st] 109 (0, 0)) by rw [← hX]; exact HB.out)
  have HG := Aside0.mk (show Fr (fun k => k = B) w X by rw [← hX]; exact HF.out.drew)
  have hSd : (fun W => SkS B (.slice A n c) (.int .i64 nx) (.int .u64 st) W) X := SkS.of HX.out
  refine wp_region_K (S := fun W => SkS B (.slice A n c) (.int .i64 nx) (.int .u64 st) W) (k := 12) (by kernel_rfl) ?_
  change wpAnyK _ _ _ _ _ _ 13 (Array.replicate 13 false) _ _
  rw [hX]
  clear hX
  refine wpAnyK_take (i := 0) (v := ?_) rfl (by kernel_rfl) (by kernel_rfl) (by kernel_rfl) (by kernel_rfl) (fun _ _ _ h => h) hSd (Or.inl ⟨by rfl, ?_⟩) ?_
  rotate_left 1
  (intro w hSw; (try dsimp only at hSw); go_simp; try (with_reducible rfl))
  (try simp only [List.getElem_toArray, List.getElem_cons_succ, List.getElem_cons_zero]); (try dsimp only [Act.put]); (try simp only [List.setIfInBounds_toArray, List.set_cons_zero, List.set_cons_succ])
  refine wpAnyK_take (i := 1) (v := ?_) rfl (by kernel_rfl) (by kernel_rfl) (by kernel_rfl) (by kernel_rfl) (fun _ _ _ h => h) hSd (Or.inl ⟨by rfl, ?_⟩) ?_
  rotate_left 1
  (intro w hSw; (try dsimp only at hSw); go_simp; try (with_reducible rfl))
  (try simp only [List.getElem_toArray, List.getElem_cons_succ, List.getElem_cons_zero]); (try dsimp only [Act.put]); (try simp only [List.setIfInBounds_toArray, List.set_cons_zero, List.set_cons_succ])
  refine wpAnyK_take (i := 2) (v := ?_) rfl (by kernel_rfl) (by kernel_rfl) (by kernel_rfl) (by kernel_rfl) (fun _ _ _ h => h) hSd (Or.inl ⟨by rfl, ?_⟩) ?_
  rotate_left 1
  (intro w hSw; (try dsimp only at hSw); go_simp; try (with_reducible rfl))
  (try simp only [List.getElem_toArray, List.getElem_cons_succ, List.getElem_cons_zero]); (try dsimp only [Act.put]); (try simp only [List.setIfInBounds_toArray, List.set_cons_zero, List.set_cons_succ])
  refine wpAnyK_take (i := 3) (v := ?_) rfl (by kernel_rfl) (by kernel_rfl) (by kernel_rfl) (by kernel_rfl) (fun _ _ _ h => h) hSd (Or.inl ⟨by rfl, ?_⟩) ?_
  rotate_left 1
  (intro w hSw; (try dsimp only at hSw); go_simp; try (with_reducible rfl))
  (try simp only [List.getElem_toArray, List.getElem_cons_succ, List.getElem_cons_zero]); (try dsimp only [Act.put]); (try simp only [List.setIfInBounds_toArray, List.set_cons_zero, List.set_cons_succ])
  refine wpAnyK_take (i := 4) (v := ?_) rfl (by kernel_rfl) (by kernel_rfl) (by kernel_rfl) (by kernel_rfl) (fun _ _ _ h => h) hSd (Or.inl ⟨by rfl, ?_⟩) ?_
  rotate_left 1
  (intro w hSw; (try dsimp only at hSw); go_simp; try (with_reducible rfl))
  (try simp only [List.getElem_toArray, List.getElem_cons_succ, List.getElem_cons_zero]); (try dsimp only [Act.put]); (try simp only [List.setIfInBounds_toArray, List.set_cons_zero, List.set_cons_succ])
  refine wpAnyK_take (i := 5) (v := ?_) rfl (by kernel_rfl) (by kernel_rfl) (by kernel_rfl) (by kernel_rfl) (fun _ _ _ h => h) hSd (Or.inl ⟨by rfl, ?_⟩) ?_
  rotate_left 1
  (intro w hSw; (try dsimp only at hSw); go_simp; try (with_reducible rfl))
  (try simp only [List.getElem_toArray, List.getElem_cons_succ, List.getElem_cons_zero]); (try dsimp only [Act.put]); (try simp only [List.setIfInBounds_toArray, List.set_cons_zero, List.set_cons_succ])
  refine wpAnyK_take (i := 6) (v := ?_) rfl (by kernel_rfl) (by kernel_rfl) (by kernel_rfl) (by kernel_rfl) (fun _ _ _ h => h) hSd (Or.inl ⟨by rfl, ?_⟩) ?_
  rotate_left 1
  (intro w hSw; (try dsimp only at hSw); go_simp; try (with_reducible rfl))
  (try simp only [List.getElem_toArray, List.getElem_cons_succ, List.getElem_cons_zero]); (try dsimp only [Act.put]); (try simp only [List.setIfInBounds_toArray, List.set_cons_zero, List.set_cons_succ])
  refine wpAnyK_take (i := 7) (v := ?_) rfl (by kernel_rfl) (by kernel_rfl) (by kernel_rfl) (by kernel_rfl) (fun _ _ _ h => h) hSd (Or.inl ⟨by rfl, ?_⟩) ?_
  rotate_left 1
  (intro w hSw; (try dsimp only at hSw); go_simp; try (with_reducible rfl))
  (try simp only [List.getElem_toArray, List.getElem_cons_succ, List.getElem_cons_zero]); (try dsimp only [Act.put]); (try simp only [List.setIfInBounds_toArray, List.set_cons_zero, List.set_cons_succ])
  refine wpAnyK_take (i := 8) (v := ?_) rfl (by kernel_rfl) (by kernel_rfl) (by kernel_rfl) (by kernel_rfl) (fun _ _ _ h => h) hSd (Or.inl ⟨by rfl, ?_⟩) ?_
  rotate_left 1
  (intro w hSw; (try dsimp only at hSw); go_simp; try (with_reducible rfl))
  (try simp only [List.getElem_toArray, List.getElem_cons_succ, List.getElem_cons_zero]); (try dsimp only [Act.put]); (try simp only [List.setIfInBounds_toArray, List.set_cons_zero, List.set_cons_succ])
  refine wpAnyK_take (i := 9) (v := ?_) rfl (by kernel_rfl) (by kernel_rfl) (by kernel_rfl) (by kernel_rfl) (fun _ _ _ h => h) hSd (Or.inl ⟨by rfl, ?_⟩) ?_
  rotate_left 1
  (intro w hSw; (try dsimp only at hSw); go_simp; try (with_reducible rfl))
  (try simp only [List.getElem_toArray, List.getElem_cons_succ, List.getElem_cons_zero]); (try dsimp only [Act.put]); (try simp only [List.setIfInBounds_toArray, List.set_cons_zero, List.set_cons_succ])
  refine wpAnyK_one (i := 10) (by kernel_rfl) rfl (fun K hK => ?_)
  go_simp
  refine hK.out _ _ (fun _ => hSd) ?_
  clear hK
  refine wpAnyK_one (i := 11) (by kernel_rfl) rfl (fun K hK => ?_)
  go_simp
  refine hK.out _ _ (fun _ => hSd) ?_
  clear hK
  refine wpAnyK_one (i := 12) (by kernel_rfl) rfl (fun K hK => ?_)
  have b2 := (blk_cell HX.out 2).trans rfl
  have fb := fun i => blk_frozen HX.out i
  go_simp
  refine hK.out _ _ (fun h => absurd rfl h) ?_
  clear hK hSd b2 fb
  refine wpAnyK_done (by kernel_rfl) ?_ _
  obtain ⟨s2, hso⟩ : ∃ s2, bits BinOp.xor .u64 st (IntKind.u64.wrap (st * 8192)) = s2 := ⟨_, rfl⟩
  rw [hso]
  clear hso
  obtain ⟨W2, hwo⟩ : ∃ W2, X.setCell ⟨B, 2, none⟩ (.int .u64 s2) = W2 := ⟨_, rfl⟩
  have HB := Aside0.mk (show W2.heap[B]? = some (.cells #[.slice A n c, .int .i64 nx, .int .u64 s2] 109 (0, 0)) by rw [← hwo]; exact blk_put HX.out 2 _ rfl)
  have HF := Aside0.mk (show Fr (fun k => k = B) w W2 by rw [← hwo]; exact HG.out.setCell (p := ⟨B, 2, none⟩) (.inl rfl) _)
  rw [hwo]
  clear hwo HX HG
  go_upto_region 5 with fail
  obtain ⟨X, hX⟩ : ∃ X, World.drew W2 = X := ⟨_, rfl⟩
  have HX := Aside0.mk (show X.heap[B]? = some (.cells #[.slice A n c, .int .i64 nx, .int .u64 s2] 109 (0, 0)) by rw [← hX]; exact HB.out)
  have HG := Aside0.mk (show Fr (fun k => k = B) w X by rw [← hX]; exact HF.out.drew)
  have hSd : (fun W => SkS B (.slice A n c) (.int .i64 nx) (.int .u64 s2) W) X := SkS.of HX.out
  refine wp_region_K (S := fun W => SkS B (.slice A n c) (.int .i64 nx) (.int .u64 s2) W) (k := 12) (by kernel_rfl) ?_
  change wpAnyK _ _ _ _ _ _ 13 (Array.replicate 13 false) _ _
  rw [hX]
  clear hX
  refine wpAnyK_take (i := 0) (v := ?_) rfl (by kernel_rfl) (by kernel_rfl) (by kernel_rfl) (by kernel_rfl) (fun _ _ _ h => h) hSd (Or.inl ⟨by rfl, ?_⟩) ?_
  rotate_left 1
  (intro w hSw; (try dsimp only at hSw); go_simp; try (with_reducible rfl))
  (try simp only [List.getElem_toArray, List.getElem_cons_succ, List.getElem_cons_zero]); (try dsimp only [Act.put]); (try simp only [List.setIfInBounds_toArray, List.set_cons_zero, List.set_cons_succ])
  refine wpAnyK_take (i := 1) (v := ?_) rfl (by kernel_rfl) (by kernel_rfl) (by kernel_rfl) (by kernel_rfl) (fun _ _ _ h => h) hSd (Or.inl ⟨by rfl, ?_⟩) ?_
  rotate_left 1
  (intro w hSw; (try dsimp only at hSw); go_simp; try (with_reducible rfl))
  (try simp only [List.getElem_toArray, List.getElem_cons_succ, List.getElem_cons_zero]); (try dsimp only [Act.put]); (try simp only [List.setIfInBounds_toArray, List.set_cons_zero, List.set_cons_succ])
  refine wpAnyK_take (i := 2) (v := ?_) rfl (by kernel_rfl) (by kernel_rfl) (by kernel_rfl) (by kernel_rfl) (fun _ _ _ h => h) hSd (Or.inl ⟨by rfl, ?_⟩) ?_
  rotate_left 1
  (intro w hSw; (try dsimp only at hSw); go_simp; try (with_reducible rfl))
  (try simp only [List.getElem_toArray, List.getElem_cons_succ, List.getElem_cons_zero]); (try dsimp only [Act.put]); (try simp only [List.setIfInBounds_toArray, List.set_cons_zero, List.set_cons_succ])
  refine wpAnyK_take (i := 3) (v := ?_) rfl (by kernel_rfl) (by kernel_rfl) (by kernel_rfl) (by kernel_rfl) (fun _ _ _ h => h) hSd (Or.inl ⟨by rfl, ?_⟩) ?_
  rotate_left 1
  (intro w hSw; (try dsimp only at hSw); go_simp; try (with_reducible rfl))
  (try simp only [List.getElem_toArray, List.getElem_cons_succ, List.getElem_cons_zero]); (try dsimp only [Act.put]); (try simp only [List.setIfInBounds_toArray, List.set_cons_zero, List.set_cons_succ])
  refine wpAnyK_take (i := 4) (v := ?_) rfl (by kernel_rfl) (by kernel_rfl) (by kernel_rfl) (by kernel_rfl) (fun _ _ _ h => h) hSd (Or.inl ⟨by rfl, ?_⟩) ?_
  rotate_left 1
  (intro w hSw; (try dsimp only at hSw); go_simp; try (with_reducible rfl))
  (try simp only [List.getElem_toArray, List.getElem_cons_succ, List.getElem_cons_zero]); (try dsimp only [Act.put]); (try simp only [List.setIfInBounds_toArray, List.set_cons_zero, List.set_cons_succ])
  refine wpAnyK_take (i := 5) (v := ?_) rfl (by kernel_rfl) (by kernel_rfl) (by kernel_rfl) (by kernel_rfl) (fun _ _ _ h => h) hSd (Or.inl ⟨by rfl, ?_⟩) ?_
  rotate_left 1
  (intro w hSw; (try dsimp only at hSw); go_simp; try (with_reducible rfl))
  (try simp only [List.getElem_toArray, List.getElem_cons_succ, List.getElem_cons_zero]); (try dsimp only [Act.put]); (try simp only [List.setIfInBounds_toArray, List.set_cons_zero, List.set_cons_succ])
  refine wpAnyK_take (i := 6) (v := ?_) rfl (by kernel_rfl) (by kernel_rfl) (by kernel_rfl) (by kernel_rfl) (fun _ _ _ h => h) hSd (Or.inl ⟨by rfl, ?_⟩) ?_
  rotate_left 1
  (intro w hSw; (try dsimp only at hSw); go_simp; try (with_reducible rfl))
  (try simp only [List.getElem_toArray, List.getElem_cons_succ, List.getElem_cons_zero]); (try dsimp only [Act.put]); (try simp only [List.setIfInBounds_toArray, List.set_cons_zero, List.set_cons_succ])
  refine wpAnyK_take (i := 7) (v := ?_) rfl (by kernel_rfl) (by kernel_rfl) (by kernel_rfl) (by kernel_rfl) (fun _ _ _ h => h) hSd (Or.inl ⟨by rfl, ?_⟩) ?_
  rotate_left 1
  (intro w hSw; (try dsimp only at hSw); go_simp; try (with_reducible rfl))
  (try simp only [List.getElem_toArray, List.getElem_cons_succ, List.getElem_cons_zero]); (try dsimp only [Act.put]); (try simp only [List.setIfInBounds_toArray, List.set_cons_zero, List.set_cons_succ])
  refine wpAnyK_take (i := 8) (v := ?_) rfl (by kernel_rfl) (by kernel_rfl) (by kernel_rfl) (by kernel_rfl) (fun _ _ _ h => h) hSd (Or.inl ⟨by rfl, ?_⟩) ?_
  rotate_left 1
  (intro w hSw; (try dsimp only at hSw); go_simp; try (with_reducible rfl))
  (try simp only [List.getElem_toArray, List.getElem_cons_succ, List.getElem_cons_zero]); (try dsimp only [Act.put]); (try simp only [List.setIfInBounds_toArray, List.set_cons_zero, List.set_cons_succ])
  refine wpAnyK_take (i := 9) (v := ?_) rfl (by kernel_rfl) (by kernel_rfl) (by kernel_rfl) (by kernel_rfl) (fun _ _ _ h => h) hSd (Or.inl ⟨by rfl, ?_⟩) ?_
  rotate_left 1
  (intro w hSw; (try dsimp only at hSw); go_simp; try (with_reducible rfl))
  (try simp only [List.getElem_toArray, List.getElem_cons_succ, List.getElem_cons_zero]); (try dsimp only [Act.put]); (try simp only [List.setIfInBounds_toArray, List.set_cons_zero, List.set_cons_succ])
  refine wpAnyK_one (i := 10) (by kernel_rfl) rfl (fun K hK => ?_)
  go_simp
  refine hK.out _ _ (fun _ => hSd) ?_
  clear hK
  refine wpAnyK_one (i := 11) (by kernel_rfl) rfl (fun K hK => ?_)
  go_simp
  refine hK.out _ _ (fun _ => hSd) ?_
  clear hK
  refine wpAnyK_one (i := 12) (by kernel_rfl) rfl (fun K hK => ?_)
  have b2 := (blk_cell HX.out 2).trans rfl
  have fb := fun i => blk_frozen HX.out i
  go_simp
  refine hK.out _ _ (fun h => absurd rfl h) ?_
  clear hK hSd b2 fb
  refine wpAnyK_done (by kernel_rfl) ?_ _
  obtain ⟨s3, hso⟩ : ∃ s3, bits BinOp.xor .u64 s2 (s2 / 128) = s3 := ⟨_, rfl⟩
  rw [hso]
  clear hso
  obtain ⟨W3, hwo⟩ : ∃ W3, X.setCell ⟨B, 2, none⟩ (.int .u64 s3) = W3 := ⟨_, rfl⟩
  have HB := Aside0.mk (show W3.heap[B]? = some (.cells #[.slice A n c, .int .i64 nx, .int .u64 s3] 109 (0, 0)) by rw [← hwo]; exact blk_put HX.out 2 _ rfl)
  have HF := Aside0.mk (show Fr (fun k => k = B) w W3 by rw [← hwo]; exact HG.out.setCell (p := ⟨B, 2, none⟩) (.inl rfl) _)
  rw [hwo]
  clear hwo HX HG
  go_upto_region 6 with fail
  obtain ⟨X, hX⟩ : ∃ X, World.drew W3 = X := ⟨_, rfl⟩
  have HX := Aside0.mk (show X.heap[B]? = some (.cells #[.slice A n c, .int .i64 nx, .int .u64 s3] 109 (0, 0)) by rw [← hX]; exact HB.out)
  have HG := Aside0.mk (show Fr (fun k => k = B) w X by rw [← hX]; exact HF.out.drew)
  have hSd : (fun W => SkS B (.slice A n c) (.int .i64 nx) (.int .u64 s3) W) X := SkS.of HX.out
  refine wp_region_K (S := fun W => SkS B (.slice A n c) (.int .i64 nx) (.int .u64 s3) W) (k := 12) (by kernel_rfl) ?_
  change wpAnyK _ _ _ _ _ _ 13 (Array.replicate 13 false) _ _
  rw [hX]
  clear hX
  refine wpAnyK_take (i := 0) (v := ?_) rfl (by kernel_rfl) (by kernel_rfl) (by kernel_rfl) (by kernel_rfl) (fun _ _ _ h => h) hSd (Or.inl ⟨by rfl, ?_⟩) ?_
  rotate_left 1
  (intro w hSw; (try dsimp only at hSw); go_simp; try (with_reducible rfl))
  (try simp only [List.getElem_toArray, List.getElem_cons_succ, List.getElem_cons_zero]); (try dsimp only [Act.put]); (try simp only [List.setIfInBounds_toArray, List.set_cons_zero, List.set_cons_succ])
  refine wpAnyK_take (i := 1) (v := ?_) rfl (by kernel_rfl) (by kernel_rfl) (by kernel_rfl) (by kernel_rfl) (fun _ _ _ h => h) hSd (Or.inl ⟨by rfl, ?_⟩) ?_
  rotate_left 1
  (intro w hSw; (try dsimp only at hSw); go_simp; try (with_reducible rfl))
  (try simp only [List.getElem_toArray, List.getElem_cons_succ, List.getElem_cons_zero]); (try dsimp only [Act.put]); (try simp only [List.setIfInBounds_toArray, List.set_cons_zero, List.set_cons_succ])
  refine wpAnyK_take (i := 2) (v := ?_) rfl (by kernel_rfl) (by kernel_rfl) (by kernel_rfl) (by kernel_rfl) (fun _ _ _ h => h) hSd (Or.inl ⟨by rfl, ?_⟩) ?_
  rotate_left 1
  (intro w hSw; (try dsimp only at hSw); go_simp; try (with_reducible rfl))
  (try simp only [List.getElem_toArray, List.getElem_cons_succ, List.getElem_cons_zero]); (try dsimp only [Act.put]); (try simp only [List.setIfInBounds_toArray, List.set_cons_zero, List.set_cons_succ])
  refine wpAnyK_take (i := 3) (v := ?_) rfl (by kernel_rfl) (by kernel_rfl) (by kernel_rfl) (by kernel_rfl) (fun _ _ _ h => h) hSd (Or.inl ⟨by rfl, ?_⟩) ?_
  rotate_left 1
  (intro w hSw; (try dsimp only at hSw); go_simp; try (with_reducible rfl))
  (try simp only [List.getElem_toArray, List.getElem_cons_succ, List.getElem_cons_zero]); (try dsimp only [Act.put]); (try simp only [List.setIfInBounds_toArray, List.set_cons_zero, List.set_cons_succ])
  refine wpAnyK_take (i := 4) (v := ?_) rfl (by kernel_rfl) (by kernel_rfl) (by kernel_rfl) (by kernel_rfl) (fun _ _ _ h => h) hSd (Or.inl ⟨by rfl, ?_⟩) ?_
  rotate_left 1
  (intro w hSw; (try dsimp only at hSw); go_simp; try (with_reducible rfl))
  (try simp only [List.getElem_toArray, List.getElem_cons_succ, List.getElem_cons_zero]); (try dsimp only [Act.put]); (try simp only [List.setIfInBounds_toArray, List.set_cons_zero, List.set_cons_succ])
  refine wpAnyK_take (i := 5) (v := ?_) rfl (by kernel_rfl) (by kernel_rfl) (by kernel_rfl) (by kernel_rfl) (fun _ _ _ h => h) hSd (Or.inl ⟨by rfl, ?_⟩) ?_
  rotate_left 1
  (intro w hSw; (try dsimp only at hSw); go_simp; try (with_reducible rfl))
  (try simp only [List.getElem_toArray, List.getElem_cons_succ, List.getElem_cons_zero]); (try dsimp only [Act.put]); (try simp only [List.setIfInBounds_toArray, List.set_cons_zero, List.set_cons_succ])
  refine wpAnyK_take (i := 6) (v := ?_) rfl (by kernel_rfl) (by kernel_rfl) (by kernel_rfl) (by kernel_rfl) (fun _ _ _ h => h) hSd (Or.inl ⟨by rfl, ?_⟩) ?_
  rotate_left 1
  (intro w hSw; (try dsimp only at hSw); go_simp; try (with_reducible rfl))
  (try simp only [List.getElem_toArray, List.getElem_cons_succ, List.getElem_cons_zero]); (try dsimp only [Act.put]); (try simp only [List.setIfInBounds_toArray, List.set_cons_zero, List.set_cons_succ])
  refine wpAnyK_take (i := 7) (v := ?_) rfl (by kernel_rfl) (by kernel_rfl) (by kernel_rfl) (by kernel_rfl) (fun _ _ _ h => h) hSd (Or.inl ⟨by rfl, ?_⟩) ?_
  rotate_left 1
  (intro w hSw; (try dsimp only at hSw); go_simp; try (with_reducible rfl))
  (try simp only [List.getElem_toArray, List.getElem_cons_succ, List.getElem_cons_zero]); (try dsimp only [Act.put]); (try simp only [List.setIfInBounds_toArray, List.set_cons_zero, List.set_cons_succ])
  refine wpAnyK_take (i := 8) (v := ?_) rfl (by kernel_rfl) (by kernel_rfl) (by kernel_rfl) (by kernel_rfl) (fun _ _ _ h => h) hSd (Or.inl ⟨by rfl, ?_⟩) ?_
  rotate_left 1
  (intro w hSw; (try dsimp only at hSw); go_simp; try (with_reducible rfl))
  (try simp only [List.getElem_toArray, List.getElem_cons_succ, List.getElem_cons_zero]); (try dsimp only [Act.put]); (try simp only [List.setIfInBounds_toArray, List.set_cons_zero, List.set_cons_succ])
  refine wpAnyK_take (i := 9) (v := ?_) rfl (by kernel_rfl) (by kernel_rfl) (by kernel_rfl) (by kernel_rfl) (fun _ _ _ h => h) hSd (Or.inl ⟨by rfl, ?_⟩) ?_
  rotate_left 1
  (intro w hSw; (try dsimp only at hSw); go_simp; try (with_reducible rfl))
  (try simp only [List.getElem_toArray, List.getElem_cons_succ, List.getElem_cons_zero]); (try dsimp only [Act.put]); (try simp only [List.setIfInBounds_toArray, List.set_cons_zero, List.set_cons_succ])
  refine wpAnyK_one (i := 10) (by kernel_rfl) rfl (fun K hK => ?_)
  go_simp
  refine hK.out _ _ (fun _ => hSd) ?_
  clear hK
  refine wpAnyK_one (i := 11) (by kernel_rfl) rfl (fun K hK => ?_)
  go_simp
  refine hK.out _ _ (fun _ => hSd) ?_
  clear hK
  refine wpAnyK_one (i := 12) (by kernel_rfl) rfl (fun K hK => ?_)
  have b2 := (blk_cell HX.out 2).trans rfl
  have fb := fun i => blk_frozen HX.out i
  go_simp
  refine hK.out _ _ (fun h => absurd rfl h) ?_
  clear hK hSd b2 fb
  refine wpAnyK_done (by kernel_rfl) ?_ _
  obtain ⟨s4, hso⟩ : ∃ s4, bits BinOp.xor .u64 s3 (IntKind.u64.wrap (s3 * 131072)) = s4 := ⟨_, rfl⟩
  rw [hso]
  clear hso
  obtain ⟨W4, hwo⟩ : ∃ W4, X.setCell ⟨B, 2, none⟩ (.int .u64 s4) = W4 := ⟨_, rfl⟩
  have HB := Aside0.mk (show W4.heap[B]? = some (.cells #[.slice A n c, .int .i64 nx, .int .u64 s4] 109 (0, 0)) by rw [← hwo]; exact blk_put HX.out 2 _ rfl)
  have HF := Aside0.mk (show Fr (fun k => k = B) w W4 by rw [← hwo]; exact HG.out.setCell (p := ⟨B, 2, none⟩) (.inl rfl) _)
  rw [hwo]
  clear hwo HX HG
  have b2 := (blk_cell HB.out 2).trans rfl
  go_wp2_with fail
  go_ret
  have hwr := wrap_u64 (s4 * 2685821657736338717)
  exact ⟨_, rfl, by omega, by omega, ⟨nx, s4, hnx, HB.out⟩, HF.out⟩
end Go.Proofs.YtacefdkfbpgedaaGreat.Mine
namespace Go.Proofs.YtacefdkfbpgedaaGreat.Mine
open Go.Proofs.YtacefdkfbpgedaaGreat.PProgSmall
open Go.RowKit Go.Shelf Go.Proofs.YtacefdkfbpgedaaGreatW.PrintWords Go.Proofs.YtacefdkfbpgedaaGreatW.PrintLast Go.Proofs.YtacefdkfbpgedaaGreatW.PrintMore
set_option linter.unusedVariables false
set_option linter.unusedSimpArgs false
attribute [local go_sem] max2_int min2_int max_two min_two
structure SackOk (B : Nat) (A : Option Addr) (n c : Nat) (zs : List Int) (W : World) : Prop where
 n : zs.length = n
 r : Kd.F (Kd.int .u8) W (fun k => k ≠ B) A zs.length zs
theorem SackOk.fr {B : Nat} {A : Option Addr} {n c : Nat} {zs : List Int} {W W' : World} (h : SackOk B A n c zs W) (hf : Fr (fun k => k = B) W W') : SackOk B A n c zs W' := ⟨h.n, Kd.F_step h.r (fun k hk hlt => hf.block k hlt hk)⟩
theorem SackOk.below {B : Nat} {A : Option Addr} {n c : Nat} {zs : List Int} {W W' : World} (h : SackOk B A n c zs W) (hb : Below W.heap.size W W') : SackOk B A n c zs W' := ⟨h.n, Kd.F_below h.r hb⟩
theorem Sack.below {B : Nat} {A : Option Addr} {n c m : Nat} {W W' : World} (h : Sack B A n c m W) (hb : Below W.heap.size W W') : Sack B A n c m W' := by
 obtain ⟨nx, st, h1, h2⟩ := h
 exact ⟨nx, st, h1, blk_below h2 hb⟩
theorem Sack.mono {B : Nat} {A : Option Addr} {n c m k : Nat} {W : World} (h : Sack B A n c m W) (hk : m ≤ k) : Sack B A n c k W := by
 obtain ⟨nx, st, h1, h2⟩ := h
 exact ⟨nx, st, Nat.le_trans h1 hk, h2⟩
set_option maxHeartbeats 2000000 in
theorem c_Below (B : Nat) (A : Option Addr) (n c m : Nat) (zs : List Int) (k : Nat) (w : World) (hs : Sack B A n c m w) (hz : SackOk B A n c zs w) (hm : m ≤ 1000000000000) (hk : 0 < k) (hk2 : k ≤ 1000000) :
  Calls Tryz.prog 130 #[.pointer (some ⟨B, 0, none⟩), .int .i64 (k : Int)] w fun en w' => ∃ r : Nat, en = .returned (.int .i64 (r : Int)) ∧ r < k ∧ Sack B A n c (m + 1) w' ∧ Fr (fun k => k = B) w w' := by
 have HC := Lib.hid (c_draw B A n c m zs w hs hz.n (Kd.F_now hz.r) hm)
 have hmax : max (1 : Int) (k : Int) = (k : Int) := by omega
 have hkz : ¬ ((k : Int) = 0) := by omega
 have hkn : ¬ (k = 0) := by omega
 have hw : IntKind.u64.wrap (k : Int) = (k : Int) := by simp only [IntKind.wrap, IntKind.signed, IntKind.bits]; simp; omega
 go_enter Tryz.func130, Tryz.ntmps130
 go_wp2_with fail
 refine HC.out.mono ?_
 rintro en w' ⟨r, rfl, hr0, hr1, hS, hF⟩
 go_wp2_with fail
 all_goals (try clear HC)
 case inl =>
  have g0 := Int.emod_nonneg r hkz
  have g1 := Int.emod_lt_of_pos r (show (0 : Int) < (k : Int) by omega)
  have g2 : wrap64 (r % (k : Int)) = (((r % (k : Int)).toNat : Nat) : Int) := by unfold wrap64; omega
  go_ret
  exact ⟨(r % (k : Int)).toNat, reti g2, by omega, hS, hF⟩
 case inr =>
  go_ret
  exact ⟨0, reti (by unfold wrap64; rfl), hk, hS, hF⟩
set_option maxHeartbeats 2000000 in
theorem c_Among2 (B : Nat) (A : Option Addr) (n c m : Nat) (zs : List Int) (w : World) (hs : Sack B A n c m w) (hz : SackOk B A n c zs w) (hm : m ≤ 1000000000000) :
  Calls Tryz.prog 74 #[.pointer (some ⟨B, 0, none⟩), .int .i64 0, .int .i64 2] w fun en w' => ∃ r : Nat, en = .returned (.int .i64 (r : Int)) ∧ r < 3 ∧ Sack B A n c (m + 1) w' ∧ Fr (fun k => k = B) w w' := by
 have HC := Lib.hid (c_Below B A n c m zs 3 w hs hz hm (by decide) (by decide))
 go_enter Tryz.func74, Tryz.ntmps74
 go_wp2_with fail
 refine HC.out.mono ?_
 rintro en w' ⟨r, rfl, hr, hS, hF⟩
 go_wp2_with fail
 go_ret
 exact ⟨r, reti (by first | rfl | simp | omega), hr, hS, hF⟩
theorem c_Fill (A : Option Addr) (zs : List Int) (c : Nat) (w : World) (hr : Kd.C (Kd.int .u8) w A zs.length zs) :
  Calls Tryz.prog 24 #[.slice A zs.length c] w fun en w' => en = .returned (.pointer (some ⟨w.heap.size, 0, none⟩)) ∧ Sack w.heap.size A zs.length c 0 w' ∧ SackOk w.heap.size A zs.length c zs w' ∧ Below w.heap.size w w' ∧ w.heap.size < w'.heap.size := by
 have hm := hr.2.1
 have hF := Kd.F_mono (Kd.C_F (show Kd.Heap (Kd.int .u8) from Kd.heap_int .u8) hr) (ok' := fun k => k ≠ w.heap.size) (fun k hk => by omega)
 have HF := Lib.hid hF
 clear hF hr
 go_enter Tryz.func24, Tryz.ntmps24
 go_wp2_with fail
 go_ret
 have q := below_alloc1 w (.cells #[.slice A zs.length c, .int .i64 0, .int .u64 (IntKind.u64.wrap (11400714819323198485 + (zs.length : Int)))] 109)
 exact ⟨rfl, ⟨0, _, Nat.le_refl _, alloc_at w _⟩, ⟨rfl, Kd.F_below HF.out q⟩, q, by rw [World.size_alloc]; omega⟩
end Go.Proofs.YtacefdkfbpgedaaGreat.Mine
namespace Go.Proofs.YtacefdkfbpgedaaGreat.Mine
open Go.Proofs.YtacefdkfbpgedaaGreat.PProgSmall
open Go.RowKit Go.Shelf Go.Proofs.YtacefdkfbpgedaaGreatW.PrintWords Go.Proofs.YtacefdkfbpgedaaGreatW.PrintLast Go.Proofs.YtacefdkfbpgedaaGreatW.PrintMore
set_option linter.unusedVariables false
set_option linter.unusedSimpArgs false
set_option maxHeartbeats 2000000 in
theorem c_Among16 (B : Nat) (A : Option Addr) (n c m : Nat) (zs : List Int) (w : World) (hs : Sack B A n c m w) (hz : SackOk B A n c zs w) (hm : m ≤ 1000000000000) :
  Calls Tryz.prog 74 #[.pointer (some ⟨B, 0, none⟩), .int .i64 1, .int .i64 6] w fun en w' => ∃ r : Nat, en = .returned (.int .i64 (r : Int)) ∧ 1 ≤ r ∧ r ≤ 6 ∧ Sack B A n c (m + 1) w' ∧ Fr (fun k => k = B) w w' := by
 have HC := Lib.hid (c_Below B A n c m zs 6 w hs hz hm (by decide) (by decide))
 go_enter Tryz.func74, Tryz.ntmps74
 go_wp2_with fail
 refine HC.out.mono ?_
 rintro en w' ⟨r, rfl, hr, hS, hF⟩
 have hw : IntKind.i64.wrap (1 + (r : Int)) = ((r + 1 : Nat) : Int) := by simp only [IntKind.wrap, IntKind.signed, IntKind.bits]; simp; omega
 go_wp2_with fail
 go_ret
 exact ⟨r + 1, by first | rfl | exact reti (by first | rfl | simp | omega), by omega, by omega, hS, hF⟩
set_option maxHeartbeats 2000000 in
theorem c_Rare2 (B : Nat) (A : Option Addr) (n c m : Nat) (zs : List Int) (w : World) (hs : Sack B A n c m w) (hz : SackOk B A n c zs w) (hm : m ≤ 1000000000000) :
  Calls Tryz.prog 77 #[.pointer (some ⟨B, 0, none⟩), .int .i64 2] w fun en w' => ∃ b : Bool, en = .returned (.bool b) ∧ Sack B A n c (m + 1) w' ∧ Fr (fun k => k = B) w w' := by
 have HC := Lib.hid (c_Below B A n c m zs 2 w hs hz hm (by decide) (by decide))
 go_enter Tryz.func77, Tryz.ntmps77
 go_wp2_with fail
 refine HC.out.mono ?_
 rintro en w' ⟨r, rfl, hr, hS, hF⟩
 go_wp2_with fail
 go_ret
 exact ⟨_, rfl, hS, hF⟩
set_option maxHeartbeats 2000000 in
theorem c_Rare3 (B : Nat) (A : Option Addr) (n c m : Nat) (zs : List Int) (w : World) (hs : Sack B A n c m w) (hz : SackOk B A n c zs w) (hm : m ≤ 1000000000000) :
  Calls Tryz.prog 77 #[.pointer (some ⟨B, 0, none⟩), .int .i64 3] w fun en w' => ∃ b : Bool, en = .returned (.bool b) ∧ Sack B A n c (m + 1) w' ∧ Fr (fun k => k = B) w w' := by
 have HC := Lib.hid (c_Below B A n c m zs 3 w hs hz hm (by decide) (by decide))
 go_enter Tryz.func77, Tryz.ntmps77
 go_wp2_with fail
 refine HC.out.mono ?_
 rintro en w' ⟨r, rfl, hr, hS, hF⟩
 go_wp2_with fail
 go_ret
 exact ⟨_, rfl, hS, hF⟩
def paramN (n : Nat) : ByteArray := ⟨#[117 + n.toUInt8]⟩
set_option maxRecDepth 100000 in
set_option maxHeartbeats 4000000 in
theorem c_param (n : Nat) (w : World) (hn : n < 6) :
  Calls Tryz.prog 76 #[.int .i64 (n : Int)] w fun en w' => en = .returned (.string (paramN n)) ∧ w' = w := by
 rcases (show n = 0 ∨ n = 1 ∨ n = 2 ∨ n = 3 ∨ n = 4 ∨ n = 5 by omega) with rfl | rfl | rfl | rfl | rfl | rfl
 ·have HC := Lib.hid (show Calls Tryz.prog 131 #[.int .i64 0, .int .i64 6] w fun en w' => en = .returned (.int .i64 0) ∧ w' = w from c_Mod 0 6 w (by decide) (by decide) (by decide))
  go_enter Tryz.func76, Tryz.ntmps76
  go_wp2_with fail
  refine HC.out.mono ?_
  rintro en w' ⟨rfl, rfl⟩
  go_wp2_with fail
  go_ret
  exact ⟨rfl, rfl⟩
 ·have HC := Lib.hid (show Calls Tryz.prog 131 #[.int .i64 1, .int .i64 6] w fun en w' => en = .returned (.int .i64 1) ∧ w' = w from c_Mod 1 6 w (by decide) (by decide) (by decide))
  go_enter Tryz.func76, Tryz.ntmps76
  go_wp2_with fail
  refine HC.out.mono ?_
  rintro en w' ⟨rfl, rfl⟩
  go_wp2_with fail
  go_ret
  exact ⟨rfl, rfl⟩
 ·have HC := Lib.hid (show Calls Tryz.prog 131 #[.int .i64 2, .int .i64 6] w fun en w' => en = .returned (.int .i64 2) ∧ w' = w from c_Mod 2 6 w (by decide) (by decide) (by decide))
  go_enter Tryz.func76, Tryz.ntmps76
  go_wp2_with fail
  refine HC.out.mono ?_
  rintro en w' ⟨rfl, rfl⟩
  go_wp2_with fail
  go_ret
  exact ⟨rfl, rfl⟩
 ·have HC := Lib.hid (show Calls Tryz.prog 131 #[.int .i64 3, .int .i64 6] w fun en w' => en = .returned (.int .i64 3) ∧ w' = w from c_Mod 3 6 w (by decide) (by decide) (by decide))
  go_enter Tryz.func76, Tryz.ntmps76
  go_wp2_with fail
  refine HC.out.mono ?_
  rintro en w' ⟨rfl, rfl⟩
  go_wp2_with fail
  go_ret
  exact ⟨rfl, rfl⟩
 ·have HC := Lib.hid (show Calls Tryz.prog 131 #[.int .i64 4, .int .i64 6] w fun en w' => en = .returned (.int .i64 4) ∧ w' = w from c_Mod 4 6 w (by decide) (by decide) (by decide))
  go_enter Tryz.func76, Tryz.ntmps76
  go_wp2_with fail
  refine HC.out.mono ?_
  rintro en w' ⟨rfl, rfl⟩
  go_wp2_with fail
  go_ret
  exact ⟨rfl, rfl⟩
 ·have HC := Lib.hid (show Calls Tryz.prog 131 #[.int .i64 5, .int .i64 6] w fun en w' => en = .returned (.int .i64 5) ∧ w' = w from c_Mod 5 6 w (by decide) (by decide) (by decide))
  go_enter Tryz.func76, Tryz.ntmps76
  go_wp2_with fail
  refine HC.out.mono ?_
  rintro en w' ⟨rfl, rfl⟩
  go_wp2_with fail
  go_ret
  exact ⟨rfl, rfl⟩
end Go.Proofs.YtacefdkfbpgedaaGreat.Mine
namespace Go.Proofs.YtacefdkfbpgedaaGreat.Mine
open Go.Proofs.YtacefdkfbpgedaaGreat.PProgSmall
open Go.RowKit Go.Shelf Go.Proofs.YtacefdkfbpgedaaGreatW.PrintWords Go.Proofs.YtacefdkfbpgedaaGreatW.PrintLast Go.Proofs.YtacefdkfbpgedaaGreatW.PrintMore
set_option linter.unusedVariables false
set_option linter.unusedSimpArgs false
def headOk (s : ByteArray) (n : Nat) : Prop :=
 (n = 0 ∧ (s = ⟨#[97]⟩ ∨ s = ⟨#[110, 105, 108]⟩)) ∨ (n = 1 ∧ (s = ⟨#[115]⟩ ∨ s = ⟨#[117]⟩)) ∨ (n = 2 ∧ (s = ⟨#[99, 111, 110, 115]⟩ ∨ s = ⟨#[112]⟩))
mutual
/-- What is made: variables of some names, nodes, and calls with the right numbers of arguments; within: in arguments of a call. -/
def GenE (vs : List ByteArray) (ars : List Nat) (nested : Bool) : Bool → Ex → Prop
 | within, ⟨k, s, l⟩ => (k = 1 ∧ l = [] ∧ s ∈ vs) ∨ (k = 2 ∧ headOk s l.length ∧ GenL vs ars nested within l) ∨
   (k = 3 ∧ (nested = true ∨ within = false) ∧ (∃ n, ars[n]? = some l.length ∧ s = nameN n) ∧ GenL vs ars nested true l)
def GenL (vs : List ByteArray) (ars : List Nat) (nested : Bool) : Bool → List Ex → Prop
 | _, [] => True
 | within, x :: xs => GenE vs ars nested within x ∧ GenL vs ars nested within xs
end
theorem genE_eq (vs : List ByteArray) (ars : List Nat) (nested within : Bool) (e : Ex) : GenE vs ars nested within e = ((e.f0 = 1 ∧ e.f2 = [] ∧ e.f1 ∈ vs) ∨ (e.f0 = 2 ∧ headOk e.f1 e.f2.length ∧ GenL vs ars nested within e.f2) ∨
   (e.f0 = 3 ∧ (nested = true ∨ within = false) ∧ (∃ n, ars[n]? = some e.f2.length ∧ e.f1 = nameN n) ∧ GenL vs ars nested true e.f2)) := by cases e; rw [GenE]
theorem genL_iff {vs : List ByteArray} {ars : List Nat} {nested within : Bool} : ∀ {l : List Ex}, GenL vs ars nested within l ↔ ∀ x ∈ l, GenE vs ars nested within x
 | [] => by simp [GenL]
 | x :: xs => by rw [GenL, genL_iff (l := xs)]; simp
theorem genL_snoc {vs : List ByteArray} {ars : List Nat} {nested within : Bool} {l : List Ex} {x : Ex} (h : GenL vs ars nested within l) (hx : GenE vs ars nested within x) : GenL vs ars nested within (l ++ [x]) := by
 rw [genL_iff] at h ⊢
 intro y hy
 rcases List.mem_append.1 hy with hy | hy
 ·exact h y hy
 ·rw [List.mem_singleton.1 hy]; exact hx
theorem szL_snoc (l : List Ex) (x : Ex) : szL (l ++ [x]) = szL l + szE x := by
 induction l with
 | nil => simp [szL]
 | cons y ys ih => rw [List.cons_append, szL, szL, ih]; omega
def exS : Nat → Nat
 | 0 => 1
 | d + 1 => 1 + 2 * exS d
def exD : Nat → Nat
 | 0 => 2
 | d + 1 => 3 + 2 * exD d
end Go.Proofs.YtacefdkfbpgedaaGreat.Mine
namespace Go.Proofs.YtacefdkfbpgedaaGreat.Mine
open Go.Proofs.YtacefdkfbpgedaaGreat.PProgSmall
open Go.RowKit Go.Shelf Go.Proofs.YtacefdkfbpgedaaGreatW.PrintWords Go.Proofs.YtacefdkfbpgedaaGreatW.PrintLast Go.Proofs.YtacefdkfbpgedaaGreatW.PrintMore
set_option linter.unusedVariables false
set_option linter.unusedSimpArgs false
def varsN (k : Nat) : List ByteArray := [(⟨#[104]⟩ : ByteArray), ⟨#[116]⟩].take k
def paramsN (k : Nat) : List ByteArray := (List.range k).map paramN
def six : List (ByteArray × Nat) := [(⟨#[97]⟩, 0), (⟨#[110, 105, 108]⟩, 0), (⟨#[115]⟩, 1), (⟨#[117]⟩, 1), (⟨#[99, 111, 110, 115]⟩, 2), (⟨#[112]⟩, 2)]
structure CaseOk (ars : List Nat) (nested : Bool) (ps : List ByteArray) (c : S62) : Prop where
 vs : c.f1 = varsN c.f1.length
 kl : c.f1.length ≤ 2
 body : GenE (ps ++ c.f1) ars nested false c.f2
 sz : szE c.f2 ≤ 7
structure CasesOk (ars : List Nat) (nested : Bool) (ps : List ByteArray) (q : Nat) (l : List (S62)) : Prop where
 sub : (l.map fun c => (c.f0, c.f1.length)).Sublist (six.take q)
 all : ∀ c ∈ l, CaseOk ars nested ps c
theorem CasesOk.nil (ars : List Nat) (nested : Bool) (ps : List ByteArray) : CasesOk ars nested ps 0 [] := ⟨by simp, fun c hc => by simp at hc⟩
theorem CasesOk.skip {ars : List Nat} {nested : Bool} {ps : List ByteArray} {q : Nat} {l : List (S62)} (h : CasesOk ars nested ps q l) : CasesOk ars nested ps (q + 1) l :=
 ⟨h.sub.trans (List.take_sublist_take_left (Nat.le_succ q)), h.all⟩
theorem CasesOk.snoc {ars : List Nat} {nested : Bool} {ps : List ByteArray} {q : Nat} {l : List (S62)} (h : CasesOk ars nested ps q l) {c : S62} (hq : six[q]? = some (c.f0, c.f1.length)) (hc : CaseOk ars nested ps c) : CasesOk ars nested ps (q + 1) (l ++ [c]) := by
 refine ⟨?_, fun x hx => ?_⟩
 ·rw [List.take_add_one, hq, List.map_append]
  exact h.sub.append (List.Sublist.refl _)
 ·rcases List.mem_append.1 hx with hx | hx
  ·exact h.all x hx
  ·rw [List.mem_singleton.1 hx]; exact hc
theorem CasesOk.len {ars : List Nat} {nested : Bool} {ps : List ByteArray} {q : Nat} {l : List (S62)} (h : CasesOk ars nested ps q l) : l.length ≤ q := by
 have := h.sub.length_le
 rw [List.length_map, List.length_take] at this
 omega
structure DefOk (ars : List Nat) (nested : Bool) (i : Nat) (d : S59) : Prop where
 name : d.f0 = nameN i
 ar : ∃ a, ars[i]? = some a ∧ d.f1 = paramsN a
 body : (d.f2 = [] ∧ GenE d.f1 ars nested false d.f3 ∧ szE d.f3 ≤ 7) ∨ (d.f2 ≠ [] ∧ d.f1 ≠ [] ∧ d.f3 = ⟨0, ⟨#[]⟩, []⟩ ∧ CasesOk ars nested d.f1 6 d.f2)
def DefsOk (ars : List Nat) (nested : Bool) (l : List (S59)) : Prop := ∀ (i : Nat) (d : S59), l[i]? = some d → DefOk ars nested i d
theorem DefsOk.snoc {ars : List Nat} {nested : Bool} {l : List (S59)} {d : S59} (h : DefsOk ars nested l) (hd : DefOk ars nested l.length d) : DefsOk ars nested (l ++ [d]) := by
 intro i x hx
 rcases Nat.lt_or_ge i l.length with hi | hi
 ·rw [List.getElem?_append_left hi] at hx
  exact h i x hx
 ·rw [List.getElem?_append_right hi] at hx
  obtain ⟨h0, h1⟩ := List.getElem?_eq_some_iff.1 hx
  have : i = l.length := by simp at h0; omega
  subst this
  simp at h1
  subst h1
  exact hd
structure MadeOk (ars : List Nat) (nested : Bool) (ps : List (S59)) : Prop where
 n0 : 1 ≤ ars.length
 n6 : ars.length ≤ 6
 a2 : ∀ a ∈ ars, a ≤ 2
 len : ps.length = ars.length
 defs : DefsOk ars nested ps
end Go.Proofs.YtacefdkfbpgedaaGreat.Mine
namespace Go.Proofs.YtacefdkfbpgedaaGreat.Mine
open Go.Proofs.YtacefdkfbpgedaaGreat.PProgSmall
open Go.RowKit Go.Shelf Go.Proofs.YtacefdkfbpgedaaGreatW.PrintWords Go.Proofs.YtacefdkfbpgedaaGreatW.PrintLast Go.Proofs.YtacefdkfbpgedaaGreatW.PrintMore
set_option linter.unusedVariables false
set_option linter.unusedSimpArgs false
theorem Sack.far3 {B : Nat} {A : Option Addr} {n c m g : Nat} {W : World} {x y z : Value} (h : Sack B A n c m W) (hg : B ≠ g) : Sack B A n c m (((W.setCell ⟨g, 0, none⟩ x).setCell ⟨g, 1, none⟩ y).setCell ⟨g, 2, none⟩ z) := by
 obtain ⟨nx, st, h1, h2⟩ := h
 exact ⟨nx, st, h1, blk_far (blk_far (blk_far h2 hg _) hg _) hg _⟩
theorem Sack.far1 {B : Nat} {A : Option Addr} {n c m : Nat} {W : World} {p : Addr} {x : Value} (h : Sack B A n c m W) (hg : B ≠ p.block) : Sack B A n c m (W.setCell p x) := by
 obtain ⟨nx, st, h1, h2⟩ := h
 exact ⟨nx, st, h1, blk_far h2 hg _⟩
theorem Sack.grown {B : Nat} {A : Option Addr} {n c m : Nat} {W W' : World} {row : Option Nat} (h : Sack B A n c m W) (hg : W.grownBy W' row) (hne : some B ≠ row) : Sack B A n c m W' := by
 obtain ⟨nx, st, h1, h2⟩ := h
 exact ⟨nx, st, h1, blk_grown h2 hg hne⟩
set_option maxRecDepth 100000 in
set_option maxHeartbeats 4000000 in
theorem c_Expr0 (B : Nat) (A : Option Addr) (n c m : Nat) (zs : List Int) (vars : List ByteArray) (Av : Option Addr) (cv : Nat) (ars : List Nat) (Aa : Option Addr) (na ca : Nat) (within nested : Bool) (w : World)
  (hs : Sack B A n c m w) (hz : SackOk B A n c zs w) (hm : m ≤ 100000000000) (hv : Kd.F Kd.string w (fun k => k ≠ B) Av vars.length vars) (hcv : vars.length ≤ cv) (hvl : vars.length ≤ 1000) :
  Calls Tryz.prog 78 #[.pointer (some ⟨B, 0, none⟩), .slice Av vars.length cv, .slice Aa na ca, .int .i64 0, .bool within, .bool nested] w fun en w' =>
   ∃ (e : Ex) (v : Value), en = .returned (.agg #[.int .i64 e.f0, .string e.f1, v]) ∧ OwnE w' w.heap.size v e.f2 ∧ GenE vars ars nested within e ∧ szE e ≤ 1 ∧ Sack B A n c (m + 2) w' ∧ Fr (fun k => k = B) w w' := by
 have hBl : B < w.heap.size := by obtain ⟨_, _, _, h⟩ := hs; exact blk_lt h
 have hm1 := (Kd.F_now hv).2.1
 obtain ⟨W1, hW1⟩ : ∃ W1, w.alloc (.cells #[.int .i64 0, .string ⟨#[]⟩, .slice none 0 0] 57) = W1 := ⟨_, rfl⟩
 have q1 : Below w.heap.size w W1 := by rw [← hW1]; exact below_alloc1 _ _
 have b1 : W1.heap[w.heap.size]? = some (.cells #[.int .i64 0, .string ⟨#[]⟩, .slice none 0 0] 57 (0, 0)) := by rw [← hW1]; exact alloc_at _ _
 have HC := Lib.hid (c_Below B A n c m zs 6 W1 (hs.below q1) (hz.below q1) (by omega) (by decide) (by decide))
 have Q := Aside0.mk (Fr.of_below (fun k => k = B) q1)
 have P := Aside0.mk b1
 have Z := Aside0.mk (hz.below q1)
 have V := Aside0.mk (Kd.F_below hv q1)
 have HW1 := Lib.hid hW1
 clear hs hz hv q1 b1 hW1
 cases t1 : decide (0 < vars.length) with
 | false =>
  go_enter Tryz.func78, Tryz.ntmps78
  go_wp2_with fail
  rw [HW1.out]
  refine HC.out.mono ?_
  rintro en w2 ⟨r, rfl, hr, hS, hF⟩
  go_wp2_with fail
  have Q2 := Aside0.mk (Q.out.trans hF)
  have P2 := Aside0.mk (hF.blk P.out (by omega))
  have Z2 := Aside0.mk (Z.out.fr hF)
  have hs2 := Q2.out.size
  obtain ⟨W3, hW3⟩ : ∃ W3, w2.alloc (.cells #[.string ⟨#[97]⟩, .string ⟨#[110, 105, 108]⟩] 9) = W3 := ⟨_, rfl⟩
  have q3 : Below w2.heap.size w2 W3 := by rw [← hW3]; exact below_alloc1 _ _
  have b3 : W3.heap[w2.heap.size]? = some (.cells #[.string ⟨#[97]⟩, .string ⟨#[110, 105, 108]⟩] 9 (0, 0)) := by rw [← hW3]; exact alloc_at _ _
  have HC2 := Lib.hid (c_Below B A n c (m + 1) zs 2 W3 (hS.below q3) (Z2.out.below q3) (by omega) (by decide) (by decide))
  have Q3 := Aside0.mk (Q2.out.after_below q3)
  have P3 := Aside0.mk (blk_below P2.out q3)
  have S3 := Aside0.mk b3
  have HW3 := Lib.hid hW3
  clear hS hF q3 b3 hW3
  rw [HW3.out]
  refine HC2.out.mono ?_
  rintro en w4 ⟨r2, rfl, hr2, hS, hF⟩
  have Q4 := Aside0.mk (Q3.out.trans hF)
  have P4 := Aside0.mk (hF.blk P3.out (by omega))
  have b4 := hF.blk S3.out (by omega)
  have y0 := (blk_cell b4 0).trans rfl
  have y1 := (blk_cell b4 1).trans rfl
  have hs4 := Q4.out.size
  clear hF b4
  obtain ⟨s, hsx, hhd⟩ : ∃ s : ByteArray, w4.cell? ⟨w2.heap.size, r2, none⟩ = some (.string s) ∧ headOk s 0 := by
   rcases (show r2 = 0 ∨ r2 = 1 by omega) with rfl | rfl
   ·exact ⟨_, y0, .inl ⟨rfl, .inl rfl⟩⟩
   ·exact ⟨_, y1, .inl ⟨rfl, .inr rfl⟩⟩
  have hr2z : (r2 : Int) < 2 := by omega
  clear y0 y1 HC2 HW3
  go_wp2_with fail
  refine (c_M _ _ _ _ _).mono ?_
  rintro en w5 ⟨rfl, hb⟩
  have b5 := blk_below P4.out hb
  have y0 := (blk_cell b5 0).trans rfl
  have y1 := (blk_cell b5 1).trans rfl
  have y2 := (blk_cell b5 2).trans rfl
  have fy := fun i => blk_frozen b5 i
  have B5 := Aside0.mk b5
  have Q5 := Aside0.mk (Q4.out.after_below hb)
  have S5 := Aside0.mk (hS.below hb)
  clear hb b5 hS hsx
  go_wp2_with fail
  have b6 := blk_put (blk_put (blk_put B5.out 0 (.int .i64 2) rfl) 1 (.string s) rfl) 2 (.slice none 0 0) rfl
  refine bodyPost_ret (results_cell_row rfl _ _ w.heap.size 57 #[.int .i64 2, .string s, .slice none 0 0] (0, 0) _ rfl b6 Tryz.underlying57 rfl (by kernel_rfl)) rfl ?_
  exact ⟨⟨2, s, []⟩, _, rfl, Kd.R_nil _ _ _ _ _, by rw [genE_eq]; exact .inr (.inl ⟨rfl, hhd, by simp [GenL]⟩), by simp [szE, szL], Sack.far3 S5.out (by omega), ((Q5.out.setCell (.inr (Nat.le_refl _)) _).setCell (.inr (Nat.le_refl _)) _).setCell (.inr (Nat.le_refl _)) _⟩
 | true =>
  have h1 : 0 < vars.length := of_decide_eq_true t1
  go_enter Tryz.func78, Tryz.ntmps78
  go_wp2_with fail
  rw [HW1.out]
  refine HC.out.mono ?_
  rintro en w2 ⟨r, rfl, hr, hS, hF⟩
  cases t3 : decide ((r : Int) < 4) with
  | true =>
   go_wp2_with fail
   have Q2 := Aside0.mk (Q.out.trans hF)
   have P2 := Aside0.mk (hF.blk P.out (by omega))
   have Z2 := Aside0.mk (Z.out.fr hF)
   have V2 := Aside0.mk (Kd.F_step V.out (fun k hk hlt => hF.block k hlt hk))
   have HC2 := Lib.hid (c_Below B A n c (m + 1) zs vars.length w2 hS Z2.out (by omega) h1 (by omega))
   clear hS hF
   refine HC2.out.mono ?_
   rintro en w4 ⟨r2, rfl, hr2, hS, hF⟩
   have Q4 := Aside0.mk (Q2.out.trans hF)
   have P4 := Aside0.mk (hF.blk P2.out (by omega))
   obtain ⟨ad, c0, rfl, hK, _, y0⟩ := gett1 rfl (Kd.F_now (Kd.F_step V2.out (fun k hk hlt => hF.block k hlt hk))) r2 hr2
   have hmem := List.getElem_mem hr2
   obtain ⟨s, hsx⟩ : ∃ s, vars[r2] = s := ⟨_, rfl⟩
   rw [hsx] at hK hmem
   obtain rfl : c0 = .string s := by simpa [Kd.string, Kd.scalar] using hK
   have hr2z : (r2 : Int) < (vars.length : Int) := by omega
   have hs4 := Q4.out.size
   clear hF hK hsx HC2
   go_wp2_with fail
   refine (c_V _ _).mono ?_
   rintro en w5 ⟨rfl, hb⟩
   simp only [encH, List.length_nil]
   have b5 := blk_below P4.out hb
   have y0' := (blk_cell b5 0).trans rfl
   have y1' := (blk_cell b5 1).trans rfl
   have y2' := (blk_cell b5 2).trans rfl
   have fy := fun i => blk_frozen b5 i
   have B5 := Aside0.mk b5
   have Q5 := Aside0.mk (Q4.out.after_below hb)
   have S5 := Aside0.mk (hS.below hb)
   clear hb b5 hS y0
   go_wp2_with fail
   have b6 := blk_put (blk_put (blk_put B5.out 0 (.int .i64 1) rfl) 1 (.string s) rfl) 2 (.slice none 0 0) rfl
   refine bodyPost_ret (results_cell_row rfl _ _ w.heap.size 57 #[.int .i64 1, .string s, .slice none 0 0] (0, 0) _ rfl b6 Tryz.underlying57 rfl (by kernel_rfl)) rfl ?_
   exact ⟨⟨1, s, []⟩, _, rfl, Kd.R_nil _ _ _ _ _, by rw [genE_eq]; exact .inl ⟨rfl, rfl, hmem⟩, by simp [szE, szL], Sack.far3 S5.out (by omega), ((Q5.out.setCell (.inr (Nat.le_refl _)) _).setCell (.inr (Nat.le_refl _)) _).setCell (.inr (Nat.le_refl _)) _⟩
  | false =>
   have t4 : decide ((r : Int) < 2) = false := decide_eq_false (by have := of_decide_eq_false t3; omega)
   go_wp2_with fail
   have Q2 := Aside0.mk (Q.out.trans hF)
   have P2 := Aside0.mk (hF.blk P.out (by omega))
   have Z2 := Aside0.mk (Z.out.fr hF)
   have hs2 := Q2.out.size
   obtain ⟨W3, hW3⟩ : ∃ W3, w2.alloc (.cells #[.string ⟨#[97]⟩, .string ⟨#[110, 105, 108]⟩] 9) = W3 := ⟨_, rfl⟩
   have q3 : Below w2.heap.size w2 W3 := by rw [← hW3]; exact below_alloc1 _ _
   have b3 : W3.heap[w2.heap.size]? = some (.cells #[.string ⟨#[97]⟩, .string ⟨#[110, 105, 108]⟩] 9 (0, 0)) := by rw [← hW3]; exact alloc_at _ _
   have HC2 := Lib.hid (c_Below B A n c (m + 1) zs 2 W3 (hS.below q3) (Z2.out.below q3) (by omega) (by decide) (by decide))
   have Q3 := Aside0.mk (Q2.out.after_below q3)
   have P3 := Aside0.mk (blk_below P2.out q3)
   have S3 := Aside0.mk b3
   have HW3 := Lib.hid hW3
   clear hS hF q3 b3 hW3
   rw [HW3.out]
   refine HC2.out.mono ?_
   rintro en w4 ⟨r2, rfl, hr2, hS, hF⟩
   have Q4 := Aside0.mk (Q3.out.trans hF)
   have P4 := Aside0.mk (hF.blk P3.out (by omega))
   have b4 := hF.blk S3.out (by omega)
   have y0 := (blk_cell b4 0).trans rfl
   have y1 := (blk_cell b4 1).trans rfl
   have hs4 := Q4.out.size
   clear hF b4
   obtain ⟨s, hsx, hhd⟩ : ∃ s : ByteArray, w4.cell? ⟨w2.heap.size, r2, none⟩ = some (.string s) ∧ headOk s 0 := by
    rcases (show r2 = 0 ∨ r2 = 1 by omega) with rfl | rfl
    ·exact ⟨_, y0, .inl ⟨rfl, .inl rfl⟩⟩
    ·exact ⟨_, y1, .inl ⟨rfl, .inr rfl⟩⟩
   have hr2z : (r2 : Int) < 2 := by omega
   clear y0 y1 HC2 HW3
   go_wp2_with fail
   refine (c_M _ _ _ _ _).mono ?_
   rintro en w5 ⟨rfl, hb⟩
   have b5 := blk_below P4.out hb
   have y0 := (blk_cell b5 0).trans rfl
   have y1 := (blk_cell b5 1).trans rfl
   have y2 := (blk_cell b5 2).trans rfl
   have fy := fun i => blk_frozen b5 i
   have B5 := Aside0.mk b5
   have Q5 := Aside0.mk (Q4.out.after_below hb)
   have S5 := Aside0.mk (hS.below hb)
   clear hb b5 hS hsx
   go_wp2_with fail
   have b6 := blk_put (blk_put (blk_put B5.out 0 (.int .i64 2) rfl) 1 (.string s) rfl) 2 (.slice none 0 0) rfl
   refine bodyPost_ret (results_cell_row rfl _ _ w.heap.size 57 #[.int .i64 2, .string s, .slice none 0 0] (0, 0) _ rfl b6 Tryz.underlying57 rfl (by kernel_rfl)) rfl ?_
   exact ⟨⟨2, s, []⟩, _, rfl, Kd.R_nil _ _ _ _ _, by rw [genE_eq]; exact .inr (.inl ⟨rfl, hhd, by simp [GenL]⟩), by simp [szE, szL], Sack.far3 S5.out (by omega), ((Q5.out.setCell (.inr (Nat.le_refl _)) _).setCell (.inr (Nat.le_refl _)) _).setCell (.inr (Nat.le_refl _)) _⟩
end Go.Proofs.YtacefdkfbpgedaaGreat.Mine
namespace Go.Proofs.YtacefdkfbpgedaaGreat.Mine
open Go.Proofs.YtacefdkfbpgedaaGreat.PProgSmall
open Go.RowKit Go.Shelf Go.Proofs.YtacefdkfbpgedaaGreatW.PrintWords Go.Proofs.YtacefdkfbpgedaaGreatW.PrintLast Go.Proofs.YtacefdkfbpgedaaGreatW.PrintMore
set_option linter.unusedVariables false
set_option linter.unusedSimpArgs false
set_option maxRecDepth 100000
theorem idx32 (r : Nat) (hr : r < 3) : ∃ a b : ByteArray, headOk a r ∧ headOk b r ∧ ∀ W : World, (Instr.index 71 (.agg #[.string ⟨#[97]⟩, .string ⟨#[110, 105, 108]⟩, .string ⟨#[115]⟩, .string ⟨#[117]⟩, .string ⟨#[99, 111, 110, 115]⟩, .string ⟨#[112]⟩]) (.int .i64 (r : Int))).run Tryz.prog W = .ok (.agg #[.string a, .string b]) W := by
 have hc : Tryz.prog.cellsOf 70 = 2 := by kernel_rfl
 have hc1 : Tryz.prog.cellsOf 9 = 1 := by kernel_rfl
 rcases (show r = 0 ∨ r = 1 ∨ r = 2 by omega) with rfl | rfl | rfl
 ·exact ⟨_, _, .inl ⟨rfl, .inl rfl⟩, .inl ⟨rfl, .inr rfl⟩, fun W => by simp [Instr.index, run_underlying Tryz.underlying71, asIntOf, part, isAgg, run_underlying Tryz.underlying70, go_sem, hc, hc1]⟩
 ·exact ⟨_, _, .inr (.inl ⟨rfl, .inl rfl⟩), .inr (.inl ⟨rfl, .inr rfl⟩), fun W => by simp [Instr.index, run_underlying Tryz.underlying71, asIntOf, part, isAgg, run_underlying Tryz.underlying70, go_sem, hc, hc1]⟩
 ·exact ⟨_, _, .inr (.inr ⟨rfl, .inl rfl⟩), .inr (.inr ⟨rfl, .inr rfl⟩), fun W => by simp [Instr.index, run_underlying Tryz.underlying71, asIntOf, part, isAgg, run_underlying Tryz.underlying70, go_sem, hc, hc1]⟩
theorem idx2 (a b : ByteArray) (k r : Nat) (ha : headOk a k) (hb : headOk b k) (hr : r < 2) : ∃ s : ByteArray, headOk s k ∧ ∀ W : World, (Instr.index 70 (.agg #[.string a, .string b]) (.int .i64 (r : Int))).run Tryz.prog W = .ok (.string s) W := by
 have hc1 : Tryz.prog.cellsOf 9 = 1 := by kernel_rfl
 rcases (show r = 0 ∨ r = 1 by omega) with rfl | rfl
 ·exact ⟨a, ha, fun W => by simp [Instr.index, run_underlying Tryz.underlying70, asIntOf, part, isAgg, run_underlying Tryz.underlying9, go_sem, hc1]⟩
 ·exact ⟨b, hb, fun W => by simp [Instr.index, run_underlying Tryz.underlying70, asIntOf, part, isAgg, run_underlying Tryz.underlying9, go_sem, hc1]⟩
theorem c_Below2 (B : Nat) (A : Option Addr) (n c m : Nat) (zs : List Int) (w : World) (hs : Sack B A n c m w) (hz : SackOk B A n c zs w) (hm : m ≤ 1000000000000) :
  Calls Tryz.prog 130 #[.pointer (some ⟨B, 0, none⟩), .int .i64 2] w fun en w' => ∃ r : Nat, en = .returned (.int .i64 (r : Int)) ∧ r < 2 ∧ Sack B A n c (m + 1) w' ∧ Fr (fun k => k = B) w w' :=
 c_Below B A n c m zs 2 w hs hz hm (by decide) (by decide)
def ExprC (B : Nat) (A : Option Addr) (n c : Nat) (zs : List Int) (vars : List ByteArray) (Av : Option Addr) (cv : Nat) (ars : List Nat) (Aa : Option Addr) (ca : Nat) (d : Nat) : Prop :=
 ∀ (m : Nat) (within nested : Bool) (w : World), Sack B A n c m w → SackOk B A n c zs w → m + exD d ≤ 100000000000 → Kd.F Kd.string w (fun k => k ≠ B) Av vars.length vars → Kd.F (Kd.int .i64) w (fun k => k ≠ B) Aa ars.length (ars.map fun (k : Nat) => (k : Int)) →
  Calls Tryz.prog 78 #[.pointer (some ⟨B, 0, none⟩), .slice Av vars.length cv, .slice Aa ars.length ca, .int .i64 (d : Int), .bool within, .bool nested] w fun en w' =>
   ∃ (e : Ex) (v : Value), en = .returned (.agg #[.int .i64 e.f0, .string e.f1, v]) ∧ OwnE w' w.heap.size v e.f2 ∧ GenE vars ars nested within e ∧ szE e ≤ exS d ∧ Sack B A n c (m + exD d) w' ∧ Fr (fun k => k = B) w w'
set_option maxHeartbeats 8000000 in
theorem c_Expr_succ (B : Nat) (A : Option Addr) (n c : Nat) (zs : List Int) (vars : List ByteArray) (Av : Option Addr) (cv : Nat) (ars : List Nat) (Aa : Option Addr) (ca : Nat) (hcv : vars.length ≤ cv) (hvl : vars.length ≤ 1000) (hca : ars.length ≤ ca) (hal : ars.length ≤ 26) (ha0 : 0 < ars.length) (har : ∀ a ∈ ars, a ≤ 2) (d : Nat) (hd : d ≤ 1000)
  (IH : ExprC B A n c zs vars Av cv ars Aa ca d) : ExprC B A n c zs vars Av cv ars Aa ca (d + 1) := by
 intro m within nested w hs hz hm hv ha
 rw [exD] at hm
 have hwd : IntKind.i64.wrap (d : Int) = (d : Int) := by simp only [IntKind.wrap, IntKind.signed, IntKind.bits]; simp; omega
 have hBl : B < w.heap.size := by obtain ⟨_, _, _, h⟩ := hs; exact blk_lt h
 have hm1 := (Kd.F_now hv).2.1
 obtain ⟨W1, hW1⟩ : ∃ W1, w.alloc (.cells #[.int .i64 0, .string ⟨#[]⟩, .slice none 0 0] 57) = W1 := ⟨_, rfl⟩
 have q1 : Below w.heap.size w W1 := by rw [← hW1]; exact below_alloc1 _ _
 have z1 : W1.heap.size = w.heap.size + 1 := by rw [← hW1]; simp
 have HP := Aside0.mk (show W1.heap[w.heap.size]? = some (.cells #[.int .i64 0, .string ⟨#[]⟩, .slice none 0 0] 57 (0, 0)) by rw [← hW1]; exact alloc_at _ _)
 have HC := Lib.hid (c_Below B A n c m zs 6 W1 (hs.below q1) (hz.below q1) (by omega) (by decide) (by decide))
 have HZ0 := Lib.hid hz
 have HV0 := Lib.hid hv
 have HA0 := Lib.hid ha
 have HQ := Aside0.mk (Fr.of_below (fun k => k = B) q1)
 have HW1 := Lib.hid hW1
 have hz1 := Nat.le_of_eq z1.symm
 clear hs hz hv ha q1 hW1 z1
 go_enter Tryz.func78, Tryz.ntmps78
 go_wp2_with fail
 rw [HW1.out]
 refine HC.out.mono ?_
 rintro en w2 ⟨r, rfl, hr, hS, hF⟩
 have HQ := Aside0.mk (HQ.out.trans hF)
 have HP := Aside0.mk (hF.blk HP.out (by omega))
 have HS := Aside0.mk hS
 have hs2 := hF.size
 clear hS hF HC HW1
 obtain ⟨b, hb⟩ : ∃ b, (decide (0 < vars.length) && decide ((r : Int) < 2)) = b := ⟨_, rfl⟩
 have hd0 : (((d : Int) + 1) == 0) = false := by simp; omega
 have hd1 : decide ((0 : Int) < (d : Int) + 1) = true := decide_eq_true (by omega)
 go_upto_region 2 with fail
 go_cut [20] (fun s20 wx => s20 = .bool b ∧ wx = w2)
 case first =>
  cases t1 : decide (0 < vars.length) with
  | false =>
   rw [t1, Bool.false_and] at hb
   subst hb
   go_wp2_with fail
   go_meet
   exact ⟨rfl, rfl⟩
  | true =>
   rw [t1, Bool.true_and] at hb
   cases t4 : decide ((r : Int) < 2) with
   | false =>
    rw [t4] at hb
    subst hb
    go_wp2_with fail
    go_meet
    exact ⟨rfl, rfl⟩
   | true =>
    rw [t4] at hb
    subst hb
    go_wp2_with fail
    go_meet
    exact ⟨rfl, rfl⟩
 case rest =>
  obtain ⟨rfl, hwc⟩ := hcut
  have hwc := hwc.symm
  subst hwc
  cases b with
  | true =>
   have h1 : 0 < vars.length := by simp only [Bool.and_eq_true, decide_eq_true_eq] at hb; exact hb.1
   clear hb
   have HZ2 := Aside0.mk (HZ0.out.fr HQ.out)
   have HC2 := Lib.hid (c_Below B A n c (m + 1) zs vars.length w2 HS.out HZ2.out (by omega) h1 (by omega))
   go_wp2_with fail
   refine HC2.out.mono ?_
   rintro en w4 ⟨r2, rfl, hr2, hS, hF⟩
   have HQ4 := Aside0.mk (HQ.out.trans hF)
   have HP4 := Aside0.mk (hF.blk HP.out (by omega))
   obtain ⟨ad, c0, rfl, hK, _, y0⟩ := gett1 rfl (Kd.F_now (Kd.F_step HV0.out (fun k hk hlt => HQ4.out.block k hlt hk))) r2 hr2
   have hmem := List.getElem_mem hr2
   obtain ⟨s, hsx⟩ : ∃ s, vars[r2] = s := ⟨_, rfl⟩
   rw [hsx] at hK hmem
   obtain rfl : c0 = .string s := by simpa [Kd.string, Kd.scalar] using hK
   have hr2z : (r2 : Int) < (vars.length : Int) := by omega
   have hs4 := HQ4.out.size
   have HS4 := Aside0.mk hS
   clear hF hK hsx HC2 hS
   go_wp2_with fail
   refine (c_V _ _).mono ?_
   rintro en w5 ⟨rfl, hb⟩
   simp only [encH, List.length_nil]
   have b5 := blk_below HP4.out hb
   have y0' := (blk_cell b5 0).trans rfl
   have y1' := (blk_cell b5 1).trans rfl
   have y2' := (blk_cell b5 2).trans rfl
   have fy := fun i => blk_frozen b5 i
   have B5 := Aside0.mk b5
   have Q5 := Aside0.mk (HQ4.out.after_below hb)
   have S5 := Aside0.mk (HS4.out.below hb)
   clear hb b5 y0
   go_wp2_with fail
   have b6 := blk_put (blk_put (blk_put B5.out 0 (.int .i64 1) rfl) 1 (.string s) rfl) 2 (.slice none 0 0) rfl
   refine bodyPost_ret (results_cell_row rfl _ _ w.heap.size 57 #[.int .i64 1, .string s, .slice none 0 0] (0, 0) _ rfl b6 Tryz.underlying57 rfl (by kernel_rfl)) rfl ?_
   exact ⟨⟨1, s, []⟩, _, rfl, Kd.R_nil _ _ _ _ _, by rw [genE_eq]; exact .inl ⟨rfl, rfl, hmem⟩, by simp [szE, szL, exS], (Sack.far3 S5.out (by omega)).mono (by rw [exD]; omega), ((Q5.out.setCell (.inr (Nat.le_refl _)) _).setCell (.inr (Nat.le_refl _)) _).setCell (.inr (Nat.le_refl _)) _⟩
  | false =>
   clear hb
   obtain ⟨b, hb⟩ : ∃ b, (((r : Int) == 5) && (nested || !within)) = b := ⟨_, rfl⟩
   go_upto_region 4 with fail
   go_cut [44] (fun s44 wx => s44 = .bool b ∧ wx = w2)
   case first =>
    cases t1 : ((r : Int) == 5) with
    | false =>
     rw [t1, Bool.false_and] at hb
     subst hb
     go_wp2_with fail
     go_meet
     exact ⟨rfl, rfl⟩
    | true =>
     rw [t1, Bool.true_and] at hb
     cases nested with
     | true =>
      rw [Bool.true_or] at hb
      subst hb
      go_wp2_with fail
      go_meet
      exact ⟨rfl, rfl⟩
     | false =>
      rw [Bool.false_or] at hb
      cases within <;> (simp only [Bool.not_true, Bool.not_false] at hb; subst hb; go_wp2_with fail; go_meet; exact ⟨rfl, rfl⟩)
   case rest =>
    obtain ⟨rfl, hwc⟩ := hcut
    have hwc := hwc.symm
    subst hwc
    cases b with
    | true =>
     have hnw : nested = true ∨ within = false := by
      simp only [Bool.and_eq_true, Bool.or_eq_true, Bool.not_eq_true'] at hb
      exact hb.2
     clear hb
     have HZ2 := Aside0.mk (HZ0.out.fr HQ.out)
     have HC2 := Lib.hid (c_Below B A n c (m + 1) zs ars.length w2 HS.out HZ2.out (by omega) ha0 (by omega))
     go_wp2_with fail
     refine HC2.out.mono ?_
     rintro en w3 ⟨r2, rfl, hr2, hS, hF⟩
     have HQ3 := Aside0.mk (HQ.out.trans hF)
     have HP3 := Aside0.mk (hF.blk HP.out (by omega))
     have HS3 := Aside0.mk hS
     have hs3 := HQ3.out.size
     clear hS hF HC2 HS HQ HP
     have HN := Lib.hid (c_name r2 w3 (by omega))
     go_wp2_with fail
     refine HN.out.mono ?_
     rintro en w4 ⟨rfl, hw4⟩
     have hw4 := hw4.symm
     subst hw4
     go_wp2_with fail
     refine (c_C _ _ _ _ _).mono ?_
     rintro en w4 ⟨rfl, hb⟩
     obtain ⟨g, hg⟩ : ∃ g, w4.heap.size = g := ⟨_, rfl⟩
     obtain ⟨W5, hW5⟩ : ∃ W5, w4.alloc (.cells #[.int .i64 3, .string (nameN r2), .slice none 0 0] 57) = W5 := ⟨_, rfl⟩
     have hb5 : Below w3.heap.size w3 W5 := by rw [← hW5]; exact hb.trans ((below_alloc1 _ _).mono hb.size)
     have GL := Aside0.mk (show W5.heap[g]? = some (.cells #[.int .i64 3, .string (nameN r2), .slice none 0 0] 57 (0, 0)) by rw [← hW5, ← hg]; exact alloc_at _ _)
     have hgs : g < W5.heap.size := by rw [← hW5, ← hg]; simp
     have hgw : w.heap.size < g := by have := hb.size; have := blk_lt HP3.out; omega
     have QL := Aside0.mk (HQ3.out.after_below hb5)
     have PL := Aside0.mk (blk_below HP3.out hb5)
     have SL := Aside0.mk (HS3.out.below hb5)
     have hrr : r2 < (ars.map fun (k : Nat) => (k : Int)).length := by rw [List.length_map]; exact hr2
     have HA5 := Kd.F_now (Kd.F_step HA0.out (fun k hk hlt => QL.out.block k hlt hk))
     rw [show ars.length = (ars.map fun (k : Nat) => (k : Int)).length by rw [List.length_map]] at HA5
     obtain ⟨ad, c0, rfl, hK, _, y0⟩ := gett1 rfl HA5 r2 hrr
     obtain ⟨na, hna⟩ : ∃ na, ars[r2] = na := ⟨_, rfl⟩
     obtain rfl : c0 = .int .i64 (na : Int) := by simpa [Kd.int, Kd.scalar, hna] using hK
     have hna2 : na ≤ 2 := by rw [← hna]; exact har _ (List.getElem_mem hr2)
     have HNa := Lib.hid (show ars[r2]? = some na by rw [List.getElem?_eq_getElem hr2, hna])
     have hr2z : (r2 : Int) < (ars.length : Int) := by omega
     have HW5 := Lib.hid hW5
     clear hb hb5 hW5 HA5 hK hna HN hrr
     go_upto_region 7 with fail
     rw [HW5.out]
     clear HW5 hg
     go_wp2_with fail
     go_loopg [69] na (fun gg sj wr => ∃ (kk : Nat) (l : List Ex) (v : Value), kk ≤ na ∧ na - kk ≤ gg ∧ sj = .int .i64 kk ∧ Aside0 (OwnE wr (g + 1) v l) ∧ Aside0 (GenL vars ars nested true l ∧ szL l ≤ kk * exS d) ∧ Aside0 (l.length = kk) ∧ Aside0 (Fr (fun k => k = B) w wr) ∧ Aside0 (wr.heap[g]? = some (.cells #[.int .i64 3, .string (nameN r2), v] 57 (0, 0))) ∧ Aside0 (wr.heap[w.heap.size]? = some (.cells #[.int .i64 0, .string ⟨#[]⟩, .slice none 0 0] 57 (0, 0))) ∧ Aside0 (Sack B A n c (m + 3 + kk * exD d) wr) ∧ g < wr.heap.size)
     case atStart => exact ⟨0, [], _, Nat.zero_le _, by omega, rfl, ⟨Kd.R_nil _ _ _ _ _⟩, ⟨by simp [GenL], by simp [szL]⟩, ⟨rfl⟩, QL, GL, PL, ⟨SL.out.mono (by omega)⟩, by omega⟩
     case round =>
      obtain ⟨kk, l, v, hkk, hg, rfl, HO, HL, HLL, HQ, HG, HP, HS, hZ⟩ := hrel
      have hwr := HQ.out.size
      have hl2 : l.length ≤ 2 := by rw [HLL.out]; omega
      by_cases hlt : kk < na
      ·have hltz : (kk : Int) < (na : Int) := by omega
       obtain ⟨Al, cl, rfl⟩ := Kd.R_slice HO.out
       have HBd := Lib.hid (show kk * exD d + exD d ≤ 2 * exD d by
        have h1 : kk + 1 ≤ 2 := by omega
        have h2 := Nat.mul_le_mul_right (exD d) h1
        rw [Nat.succ_mul] at h2
        exact h2)
       have HC := Lib.hid (IH (m + 3 + kk * exD d) true nested wr.drew (HS.out.below (below_drew (Below.refl _ _))) (HZ0.out.fr (HQ.out.drew)) (by have := HBd.out; omega) (Kd.F_step HV0.out (fun k hk hlt => (HQ.out.drew).block k hlt hk)) (Kd.F_step HA0.out (fun k hk hlt => (HQ.out.drew).block k hlt hk)))
       have HGd := Aside0.mk (show wr.drew.heap[g]? = _ from HG.out)
       have HOd := Aside0.mk (Kd.R_drew HO.out)
       have HPd := Aside0.mk (show wr.drew.heap[w.heap.size]? = _ from HP.out)
       have HQd := Aside0.mk (show Fr (fun k => k = B) w wr.drew from HQ.out.drew)
       have hzd : wr.drew.heap.size = wr.heap.size := rfl
       have hSd : (fun W => W.cell? ⟨g, 2, none⟩ = some (.slice Al l.length cl)) wr.drew := (blk_cell HGd.out 2).trans rfl
       have HNb := Lib.hid (fun (k : Nat) (hk : some k = (Value.slice Al l.length cl).ownBlock) => show g + 1 ≤ k ∧ k < wr.heap.size from ⟨((Kd.R_bound HO.out).1 _ hk.symm).2.1, ((Kd.R_bound HO.out).1 _ hk.symm).2.2.1⟩)
       clear HS
       go_upto_region 9 with fail
       refine wp_region_K (S := (fun W => W.cell? ⟨g, 2, none⟩ = some (.slice Al l.length cl))) (k := 12) (by kernel_rfl) ?_
       change wpAnyK _ _ _ _ _ _ 13 (Array.replicate 13 false) _ _
       refine wpAnyK_take (i := 0) (v := ?_) rfl (by kernel_rfl) (by kernel_rfl) (by kernel_rfl) (by kernel_rfl) (fun _ _ _ h => h) hSd (Or.inl ⟨by rfl, ?_⟩) ?_
       rotate_left 1
       (intro w hSw; (try dsimp only at hSw); go_simp; try (with_reducible rfl))
       (try simp only [List.getElem_toArray, List.getElem_cons_succ, List.getElem_cons_zero]); (try dsimp only [Act.put]); (try simp only [List.setIfInBounds_toArray, List.set_cons_zero, List.set_cons_succ])
       refine wpAnyK_take (i := 1) (v := ?_) rfl (by kernel_rfl) (by kernel_rfl) (by kernel_rfl) (by kernel_rfl) (fun _ _ _ h => h) hSd (Or.inl ⟨by rfl, ?_⟩) ?_
       rotate_left 1
       (intro w hSw; (try dsimp only at hSw); go_simp; try (with_reducible rfl))
       (try simp only [List.getElem_toArray, List.getElem_cons_succ, List.getElem_cons_zero]); (try dsimp only [Act.put]); (try simp only [List.setIfInBounds_toArray, List.set_cons_zero, List.set_cons_succ])
       refine wpAnyK_take (i := 2) (v := ?_) rfl (by kernel_rfl) (by kernel_rfl) (by kernel_rfl) (by kernel_rfl) (fun _ _ _ h => h) hSd (Or.inl ⟨by rfl, ?_⟩) ?_
       rotate_left 1
       (intro w hSw; (try dsimp only at hSw); go_simp; try (with_reducible rfl))
       (try simp only [List.getElem_toArray, List.getElem_cons_succ, List.getElem_cons_zero]); (try dsimp only [Act.put]); (try simp only [List.setIfInBounds_toArray, List.set_cons_zero, List.set_cons_succ])
       refine wpAnyK_take (i := 3) (v := ?_) rfl (by kernel_rfl) (by kernel_rfl) (by kernel_rfl) (by kernel_rfl) (fun _ _ _ h => h) hSd (Or.inl ⟨by rfl, ?_⟩) ?_
       rotate_left 1
       (intro w hSw; (try dsimp only at hSw); go_simp; try (with_reducible rfl))
       (try simp only [List.getElem_toArray, List.getElem_cons_succ, List.getElem_cons_zero]); (try dsimp only [Act.put]); (try simp only [List.setIfInBounds_toArray, List.set_cons_zero, List.set_cons_succ])
       refine wpAnyK_take (i := 4) (v := ?_) rfl (by kernel_rfl) (by kernel_rfl) (by kernel_rfl) (by kernel_rfl) (fun _ _ _ h => h) hSd (Or.inl ⟨by rfl, ?_⟩) ?_
       rotate_left 1
       (intro w hSw; (try dsimp only at hSw); go_simp; try (with_reducible rfl))
       (try simp only [List.getElem_toArray, List.getElem_cons_succ, List.getElem_cons_zero]); (try dsimp only [Act.put]); (try simp only [List.setIfInBounds_toArray, List.set_cons_zero, List.set_cons_succ])
       refine wpAnyK_take (i := 5) (v := ?_) rfl (by kernel_rfl) (by kernel_rfl) (by kernel_rfl) (by kernel_rfl) (fun _ _ _ h => h) hSd (Or.inl ⟨by rfl, ?_⟩) ?_
       rotate_left 1
       (intro w hSw; (try dsimp only at hSw); go_simp; try (with_reducible rfl))
       (try simp only [List.getElem_toArray, List.getElem_cons_succ, List.getElem_cons_zero]); (try dsimp only [Act.put]); (try simp only [List.setIfInBounds_toArray, List.set_cons_zero, List.set_cons_succ])
       refine wpAnyK_take (i := 6) (v := ?_) rfl (by kernel_rfl) (by kernel_rfl) (by kernel_rfl) (by kernel_rfl) (fun _ _ _ h => h) hSd (Or.inl ⟨by rfl, ?_⟩) ?_
       rotate_left 1
       (intro w hSw; (try dsimp only at hSw); go_simp; try (with_reducible rfl))
       (try simp only [List.getElem_toArray, List.getElem_cons_succ, List.getElem_cons_zero]); (try dsimp only [Act.put]); (try simp only [List.setIfInBounds_toArray, List.set_cons_zero, List.set_cons_succ])
       refine wpAnyK_take (i := 7) (v := ?_) rfl (by kernel_rfl) (by kernel_rfl) (by kernel_rfl) (by kernel_rfl) (fun _ _ _ h => h) hSd (Or.inl ⟨by rfl, ?_⟩) ?_
       rotate_left 1
       (intro w hSw; (try dsimp only at hSw); go_simp; try (with_reducible rfl))
       (try simp only [List.getElem_toArray, List.getElem_cons_succ, List.getElem_cons_zero]); (try dsimp only [Act.put]); (try simp only [List.setIfInBounds_toArray, List.set_cons_zero, List.set_cons_succ])
       refine wpAnyK_one (i := 8) (by kernel_rfl) rfl (fun K hK => ?_)
       go_simp
       go_at_call 78
       (with_reducible refine HC.out.mono ?_)
       rintro e wE ⟨x, vx, rfl, hO2, hG2, hz2, hS2, hF2⟩
       obtain ⟨Ax, cx, rfl⟩ := Kd.R_slice hO2
       have hsE := hF2.size
       have HGE := Aside0.mk (hF2.blk HGd.out (by omega))
       have HPE := Aside0.mk (hF2.blk HPd.out (by omega))
       have HOE := Aside0.mk (Kd.R_step (Kd.R_bound HOd.out) (w1 := wE) (fun k hk hkl => hF2.block k hkl (by have := hk.2.1; omega)))
       have HQE := Aside0.mk (HQd.out.trans hF2)
       have HSE := Aside0.mk hS2
       have HX := Lib.hid (And.intro hG2 hz2)
       have HM := Aside0.mk (k57_mkM wE (g + 1) (fun k => wr.heap.size ≤ k) x (Kd.R_lower (Kd.R_mono (Kd.R_bound hO2) (ok' := fun k => wr.heap.size ≤ k) (fun k hk => hk.2.1)) (show g + 1 ≤ wr.drew.heap.size by omega)))
       have hSd : (fun W => W.cell? ⟨g, 2, none⟩ = some (.slice Al l.length cl)) wE := (blk_cell HGE.out 2).trans rfl
       clear hO2 hG2 hz2 hS2 hF2
       refine hK.out _ _ (fun _ => hSd) ?_
       clear hK
       refine wpAnyK_one (i := 9) (by kernel_rfl) rfl (fun K hK => ?_)
       go_simp
       have hSd : (fun W => W.cell? ⟨g, 2, none⟩ = some (.slice Al l.length cl)) (wE.alloc (.cells #[.int .i64 x.f0, .string x.f1, .slice Ax x.f2.length cx] 57)) := pw_cell_below (below_alloc1 _ _) hSd
       refine hK.out _ _ (fun _ => hSd) ?_
       clear hK
       refine wpAnyK_one (i := 10) (by kernel_rfl) rfl (fun K hK => ?_)
       refine Kd.R_append_step k57 (w0 := wE) (W := wE) (g + 1) (by rfl) (.tmp 72) (.tmp 80) 55 57 _ 48 rfl Tryz.underlying55 infoEx rfl (by decide) (by decide) (.slice Al l.length cl) l x [.int .i64 x.f0, .string x.f1, .slice Ax x.f2.length cx] (fun _ => True) (fun k => wr.heap.size ≤ k) rfl rfl HM.out (fun k hk => ⟨trivial, fun he => by have := (HNb.out k he).2; omega⟩) (fun _ _ => trivial) (Kd.R_mono HOE.out (fun _ _ => trivial)) (Below.refl _ _) (by omega) (by omega) ?_
       intro v9 w9 hR9 hB9 hg9 hat9
       have HG9 := Aside0.mk (blk_grown HGE.out hg9 (fun he => by have := (HNb.out _ he).1; omega))
       have HP9 := Aside0.mk (blk_grown HPE.out hg9 (fun he => by have := (HNb.out _ he).1; omega))
       have HQ9 := Aside0.mk (HQE.out.grown hg9 (fun k hk => .inr (by have := (HNb.out _ hk.symm).1; omega)))
       have HS9 := Aside0.mk (show Sack B A n c _ w9 from Sack.grown HSE.out hg9 (fun he => by have := (HNb.out _ he).1; omega))
       obtain ⟨A9, c9, hv9⟩ := Kd.R_slice hR9
       rw [show (l ++ [x]).length = l.length + 1 from by simp] at hv9
       subst hv9
       have HR9 := Aside0.mk hR9
       have hs9 := hB9.size
       have hSd : (fun W => W.cell? ⟨g, 2, none⟩ = some (.slice Al l.length cl)) w9 := (blk_cell HG9.out 2).trans rfl
       clear hR9 hB9 hg9 hat9
       refine hK.out _ _ (fun _ => hSd) ?_
       clear hK
       refine wpAnyK_one (i := 11) (by kernel_rfl) rfl (fun K hK => ?_)
       go_simp
       refine hK.out _ _ (fun _ => hSd) ?_
       clear hK
       refine wpAnyK_one (i := 12) (by kernel_rfl) rfl (fun K hK => ?_)
       have k9 := (blk_cell HG9.out 2).trans rfl
       have f9 := blk_frozen HG9.out 2
       go_simp
       refine hK.out _ _ (fun h => absurd rfl h) ?_
       clear hK hSd
       refine wpAnyK_done (by kernel_rfl) ?_ _
       clear k9 f9
       go_wp2_with fail
       go_roundg (na - (kk + 1))
       case measure => omega
       case rel =>
        refine ⟨kk + 1, l ++ [x], _, hlt, Nat.le_refl _, by go_num, ⟨?_⟩, ⟨genL_snoc HL.out.1 HX.out.1, ?_⟩, ⟨by rw [List.length_append, HLL.out]; rfl⟩, ⟨HQ9.out.setCell (.inr (by simp only; omega)) _⟩, ⟨blk_put HG9.out 2 _ rfl⟩, ⟨blk_far HP9.out (by simp only; omega) _⟩, ⟨Sack.far1 (HS9.out.mono (by rw [Nat.succ_mul]; omega)) (by show B ≠ g; omega)⟩, by simp only [World.setCell, Array.size_modify]; omega⟩
        ·exact Kd.R_mono (Kd.R_far (Kd.R_mono (Kd.R_bound HR9.out) (ok' := fun k => g + 1 ≤ k) (fun k hk => hk.2.1)) (p := ⟨g, 2, none⟩) (fun k hk => by show k ≠ g; omega) _) (fun _ _ => trivial)
        ·rw [szL_snoc, Nat.succ_mul]; have h1 := HL.out.2; have h2 := HX.out.2; omega
      ·have hke : kk = na := by omega
       subst hke
       obtain ⟨Al, cl, rfl⟩ := Kd.R_slice HO.out
       have g0 := (blk_cell HG.out 0).trans rfl
       have g1 := (blk_cell HG.out 1).trans rfl
       have g2 := (blk_cell HG.out 2).trans rfl
       have y0 := (blk_cell HP.out 0).trans rfl
       have y1 := (blk_cell HP.out 1).trans rfl
       have y2 := (blk_cell HP.out 2).trans rfl
       have fy := fun i => blk_frozen HP.out i
       go_wp2_with fail
       have b6 := blk_put (blk_put (blk_put HP.out 0 (.int .i64 3) rfl) 1 (.string (nameN r2)) rfl) 2 (.slice Al l.length cl) rfl
       refine bodyPost_ret (results_cell_row rfl _ _ w.heap.size 57 #[.int .i64 3, .string (nameN r2), .slice Al l.length cl] (0, 0) _ rfl b6 Tryz.underlying57 rfl (by kernel_rfl)) rfl ?_
       have hne : ∀ k, g + 1 ≤ k → k ≠ w.heap.size := fun k hk => by omega
       refine ⟨⟨3, (nameN r2), l⟩, _, rfl, Kd.R_lower (Kd.R_mono (Kd.R_far (Kd.R_far (Kd.R_far (Kd.R_mono (Kd.R_bound HO.out) (ok' := fun k => g + 1 ≤ k) (fun k hk => hk.2.1)) hne _) hne _) hne _) (fun _ _ => trivial)) (by omega), ?_, ?_, Sack.far3 (HS.out.mono ?_) (by omega), ((HQ.out.setCell (.inr (Nat.le_refl _)) _).setCell (.inr (Nat.le_refl _)) _).setCell (.inr (Nat.le_refl _)) _⟩
       ·rw [genE_eq]; exact .inr (.inr ⟨rfl, hnw, ⟨r2, by rw [HNa.out, ← HLL.out], rfl⟩, HL.out.1⟩)
       ·have h1 := HL.out.2
        rw [← HLL.out] at h1
        have h2 : l.length * exS d ≤ 2 * exS d := Nat.mul_le_mul_right _ hl2
        rw [szE_eq, exS]
        dsimp only
        omega
       ·have h2 : l.length * exD d ≤ 2 * exD d := Nat.mul_le_mul_right _ hl2
        rw [← HLL.out]
        rw [exD]; omega
    | false =>
     clear hb
     have HZ2 := Aside0.mk (HZ0.out.fr HQ.out)
     have HC2 := Lib.hid (c_Among2 B A n c (m + 1) zs w2 HS.out HZ2.out (by omega))
     go_wp2_with fail
     refine HC2.out.mono ?_
     rintro en w3 ⟨r3, rfl, hr3, hS, hF⟩
     have HQ3 := Aside0.mk (HQ.out.trans hF)
     have HP3 := Aside0.mk (hF.blk HP.out (by omega))
     have HS3 := Aside0.mk hS
     have hs3 := HQ3.out.size
     clear hS hF HC2 HS HQ HP
     go_upto_region 15 with fail
     go_cut [17] (fun s17 wx => ∃ (g : Nat) (s : ByteArray), s17 = .pointer (some ⟨g, 0, none⟩) ∧ headOk s r3 ∧ w.heap.size < g ∧ g < wx.heap.size ∧ Aside0 (wx.heap[g]? = some (.cells #[.int .i64 2, .string s, .slice none 0 0] 57 (0, 0))) ∧ Aside0 (wx.heap[w.heap.size]? = some (.cells #[.int .i64 0, .string ⟨#[]⟩, .slice none 0 0] 57 (0, 0))) ∧ Aside0 (Sack B A n c (m + 3) wx) ∧ Aside0 (Fr (fun k => k = B) w wx))
     case first =>
      obtain ⟨a, b, ha, hb, hi⟩ := idx32 r3 hr3
      have hpick := fun r2 hr2 => idx2 a b r3 r2 ha hb hr2
      obtain ⟨X0, hX⟩ : ∃ X0, w3.drew = X0 := ⟨_, rfl⟩
      have HS := Aside0.mk (show Sack B A n c (m + 2) X0 by rw [← hX]; exact HS3.out.below (below_drew (Below.refl _ _)))
      have HQ := Aside0.mk (show Fr (fun k => k = B) w X0 by rw [← hX]; exact HQ3.out.drew)
      have HP := Aside0.mk (show X0.heap[w.heap.size]? = some (.cells #[.int .i64 0, .string ⟨#[]⟩, .slice none 0 0] 57 (0, 0)) by rw [← hX]; exact HP3.out)
      have hsz := HQ.out.size
      have hwl := blk_lt HP.out
      have hSd : (fun _ : World => True) X0 := trivial
      refine wp_region_K (S := fun _ => True) (k := 11) (by kernel_rfl) ?_
      change wpAnyK _ _ _ _ _ _ 12 (Array.replicate 12 false) _ _
      rw [hX]
      clear hX ha hb
      refine wpAnyK_take (i := 0) (v := ?_) rfl (by kernel_rfl) (by kernel_rfl) (by kernel_rfl) (by kernel_rfl) (fun _ _ _ h => h) hSd (Or.inl ⟨by rfl, ?_⟩) ?_
      rotate_left 1
      (intro w hSw; (try dsimp only at hSw); go_simp; try (with_reducible rfl))
      (try simp only [List.getElem_toArray, List.getElem_cons_succ, List.getElem_cons_zero]); (try dsimp only [Act.put]); (try simp only [List.setIfInBounds_toArray, List.set_cons_zero, List.set_cons_succ])
      refine wpAnyK_take (i := 1) (v := ?_) rfl (by kernel_rfl) (by kernel_rfl) (by kernel_rfl) (by kernel_rfl) (fun _ _ _ h => h) hSd (Or.inl ⟨by rfl, ?_⟩) ?_
      rotate_left 1
      (intro w hSw; (try dsimp only at hSw); go_simp; try (with_reducible rfl))
      (try simp only [List.getElem_toArray, List.getElem_cons_succ, List.getElem_cons_zero]); (try dsimp only [Act.put]); (try simp only [List.setIfInBounds_toArray, List.set_cons_zero, List.set_cons_succ])
      refine wpAnyK_take (i := 2) (v := ?_) rfl (by kernel_rfl) (by kernel_rfl) (by kernel_rfl) (by kernel_rfl) (fun _ _ _ h => h) hSd (Or.inl ⟨by rfl, ?_⟩) ?_
      rotate_left 1
      (intro w hSw; (try dsimp only at hSw); go_simp; try (with_reducible rfl))
      (try simp only [List.getElem_toArray, List.getElem_cons_succ, List.getElem_cons_zero]); (try dsimp only [Act.put]); (try simp only [List.setIfInBounds_toArray, List.set_cons_zero, List.set_cons_succ])
      refine wpAnyK_take (i := 3) (v := ?_) rfl (by kernel_rfl) (by kernel_rfl) (by kernel_rfl) (by kernel_rfl) (fun _ _ _ h => h) hSd (Or.inl ⟨by rfl, ?_⟩) ?_
      rotate_left 1
      (intro w hSw; (try dsimp only at hSw); go_simp; try (with_reducible rfl))
      (try simp only [List.getElem_toArray, List.getElem_cons_succ, List.getElem_cons_zero]); (try dsimp only [Act.put]); (try simp only [List.setIfInBounds_toArray, List.set_cons_zero, List.set_cons_succ])
      refine wpAnyK_take (i := 4) (v := ?_) rfl (by kernel_rfl) (by kernel_rfl) (by kernel_rfl) (by kernel_rfl) (fun _ _ _ h => h) hSd (Or.inl ⟨by rfl, ?_⟩) ?_
      rotate_left 1
      (intro w hSw; (try dsimp only at hSw); go_simp; try (with_reducible rfl))
      (try simp only [List.getElem_toArray, List.getElem_cons_succ, List.getElem_cons_zero]); (try dsimp only [Act.put]); (try simp only [List.setIfInBounds_toArray, List.set_cons_zero, List.set_cons_succ])
      refine wpAnyK_take (i := 5) (v := ?_) rfl (by kernel_rfl) (by kernel_rfl) (by kernel_rfl) (by kernel_rfl) (fun _ _ _ h => h) hSd (Or.inl ⟨by rfl, ?_⟩) ?_
      rotate_left 1
      (intro w hSw; (try dsimp only at hSw); go_simp; try (with_reducible rfl))
      (try simp only [List.getElem_toArray, List.getElem_cons_succ, List.getElem_cons_zero]); (try dsimp only [Act.put]); (try simp only [List.setIfInBounds_toArray, List.set_cons_zero, List.set_cons_succ])
      refine wpAnyK_take (i := 6) (v := ?_) rfl (by kernel_rfl) (by kernel_rfl) (by kernel_rfl) (by kernel_rfl) (fun _ _ _ h => h) hSd (Or.inl ⟨by rfl, ?_⟩) ?_
      rotate_left 1
      (intro w hSw; (try dsimp only at hSw); go_simp; try (with_reducible rfl))
      (try simp only [List.getElem_toArray, List.getElem_cons_succ, List.getElem_cons_zero]); (try dsimp only [Act.put]); (try simp only [List.setIfInBounds_toArray, List.set_cons_zero, List.set_cons_succ])
      refine wpAnyK_two (i := 7) (j := 10) (by kernel_rfl) rfl rfl (fun K hK => ?_) (fun K hK => ?_)
      ·skip
       go_simp
       go_at_call 130
       (with_reducible refine (c_Below2 B A n c (m + 2) zs X0 HS.out (HZ0.out.fr HQ.out) (by omega)).mono ?_)
       rintro e X1 ⟨r2, rfl, hr2, hS, hF⟩
       have HS := Aside0.mk hS
       have HQ := Aside0.mk (HQ.out.trans hF)
       have HP := Aside0.mk (hF.blk HP.out (by omega))
       have hsz := hF.size
       obtain ⟨s, hhd, hix⟩ := hpick r2 hr2
       clear hS hF
       refine hK.out _ _ (fun _ => trivial) ?_
       clear hK
       refine wpAnyK_two (i := 8) (j := 10) (by kernel_rfl) rfl rfl (fun K hK => ?_) (fun K hK => ?_)
       ·skip
        go_simp
        refine hK.out _ _ (fun _ => trivial) ?_
        clear hK
        refine wpAnyK_two (i := 9) (j := 10) (by kernel_rfl) rfl rfl (fun K hK => ?_) (fun K hK => ?_)
        ·skip
         go_simp
         go_at_call 57
         (with_reducible refine (c_M s none 0 0 X1).mono ?_)
         rintro e X2 ⟨rfl, hb⟩
         have HS := Aside0.mk (HS.out.below hb)
         have HQ := Aside0.mk (HQ.out.after_below hb)
         have HP := Aside0.mk (blk_below HP.out hb)
         have hsz := hb.size
         clear hb
         refine hK.out _ _ (fun _ => trivial) ?_
         clear hK
         refine wpAnyK_one (i := 10) (by kernel_rfl) rfl (fun K hK => ?_)
         go_simp
         obtain ⟨X3, hY⟩ : ∃ X3, X2.alloc (.cells #[.int .i64 0, .string ⟨#[]⟩, .slice none 0 0] 57) = X3 := ⟨_, rfl⟩
         obtain ⟨g, hg⟩ : ∃ g, X2.heap.size = g := ⟨_, rfl⟩
         have hb : Below X2.heap.size X2 X3 := by rw [← hY]; exact below_alloc1 _ _
         have HS := Aside0.mk (HS.out.below hb)
         have HQ := Aside0.mk (HQ.out.after_below hb)
         have HP := Aside0.mk (blk_below HP.out hb)
         have hsz := hb.size
         have G17 := Aside0.mk (show X3.heap[g]? = some (.cells #[.int .i64 0, .string ⟨#[]⟩, .slice none 0 0] 57 (0, 0)) by rw [← hY, ← hg]; exact alloc_at _ _)
         have hgs : g < X3.heap.size := by rw [← hY, ← hg]; simp
         have hgw : w.heap.size < g := by omega
         rw [hY, hg]
         clear hb hY hg
         refine hK.out _ _ (fun _ => trivial) ?_
         clear hK
         refine wpAnyK_one (i := 11) (by kernel_rfl) rfl (fun K hK => ?_)
         have g0 := (blk_cell G17.out 0).trans rfl
         have g1 := (blk_cell G17.out 1).trans rfl
         have g2 := (blk_cell G17.out 2).trans rfl
         have fg := fun i => blk_frozen G17.out i
         go_simp
         refine hK.out _ _ (fun h => absurd rfl h) ?_
         clear hK g0 g1 g2 fg
         refine wpAnyK_done (by kernel_rfl) ?_ _
         go_wp2_with fail
         go_meet
         exact ⟨g, s, rfl, hhd, hgw, by simp only [World.setCell, Array.size_modify]; omega, ⟨blk_put (blk_put (blk_put G17.out 0 (.int .i64 2) rfl) 1 (.string s) rfl) 2 (.slice none 0 0) rfl⟩, ⟨blk_far (blk_far (blk_far HP.out (by simp only; omega) _) (by simp only; omega) _) (by simp only; omega) _⟩, ⟨Sack.far3 HS.out (by omega)⟩, ⟨((HQ.out.setCell (.inr (by simp only; omega)) _).setCell (.inr (by simp only; omega)) _).setCell (.inr (by simp only; omega)) _⟩⟩
        ·skip
         go_simp
         obtain ⟨X2, hY⟩ : ∃ X2, X1.alloc (.cells #[.int .i64 0, .string ⟨#[]⟩, .slice none 0 0] 57) = X2 := ⟨_, rfl⟩
         obtain ⟨g, hg⟩ : ∃ g, X1.heap.size = g := ⟨_, rfl⟩
         have hb : Below X1.heap.size X1 X2 := by rw [← hY]; exact below_alloc1 _ _
         have HS := Aside0.mk (HS.out.below hb)
         have HQ := Aside0.mk (HQ.out.after_below hb)
         have HP := Aside0.mk (blk_below HP.out hb)
         have hsz := hb.size
         have G17 := Aside0.mk (show X2.heap[g]? = some (.cells #[.int .i64 0, .string ⟨#[]⟩, .slice none 0 0] 57 (0, 0)) by rw [← hY, ← hg]; exact alloc_at _ _)
         have hgs : g < X2.heap.size := by rw [← hY, ← hg]; simp
         have hgw : w.heap.size < g := by omega
         rw [hY, hg]
         clear hb hY hg
         refine hK.out _ _ (fun _ => trivial) ?_
         clear hK
         refine wpAnyK_one (i := 9) (by kernel_rfl) rfl (fun K hK => ?_)
         go_simp
         go_at_call 57
         (with_reducible refine (c_M s none 0 0 X2).mono ?_)
         rintro e X3 ⟨rfl, hb⟩
         have HS := Aside0.mk (HS.out.below hb)
         have HQ := Aside0.mk (HQ.out.after_below hb)
         have HP := Aside0.mk (blk_below HP.out hb)
         have G17 := Aside0.mk (blk_below G17.out hb)
         have hsz := hb.size
         clear hb
         refine hK.out _ _ (fun _ => trivial) ?_
         clear hK
         refine wpAnyK_one (i := 11) (by kernel_rfl) rfl (fun K hK => ?_)
         have g0 := (blk_cell G17.out 0).trans rfl
         have g1 := (blk_cell G17.out 1).trans rfl
         have g2 := (blk_cell G17.out 2).trans rfl
         have fg := fun i => blk_frozen G17.out i
         go_simp
         refine hK.out _ _ (fun h => absurd rfl h) ?_
         clear hK g0 g1 g2 fg
         refine wpAnyK_done (by kernel_rfl) ?_ _
         go_wp2_with fail
         go_meet
         exact ⟨g, s, rfl, hhd, hgw, by simp only [World.setCell, Array.size_modify]; omega, ⟨blk_put (blk_put (blk_put G17.out 0 (.int .i64 2) rfl) 1 (.string s) rfl) 2 (.slice none 0 0) rfl⟩, ⟨blk_far (blk_far (blk_far HP.out (by simp only; omega) _) (by simp only; omega) _) (by simp only; omega) _⟩, ⟨Sack.far3 HS.out (by omega)⟩, ⟨((HQ.out.setCell (.inr (by simp only; omega)) _).setCell (.inr (by simp only; omega)) _).setCell (.inr (by simp only; omega)) _⟩⟩
       ·skip
        go_simp
        obtain ⟨X2, hY⟩ : ∃ X2, X1.alloc (.cells #[.int .i64 0, .string ⟨#[]⟩, .slice none 0 0] 57) = X2 := ⟨_, rfl⟩
        obtain ⟨g, hg⟩ : ∃ g, X1.heap.size = g := ⟨_, rfl⟩
        have hb : Below X1.heap.size X1 X2 := by rw [← hY]; exact below_alloc1 _ _
        have HS := Aside0.mk (HS.out.below hb)
        have HQ := Aside0.mk (HQ.out.after_below hb)
        have HP := Aside0.mk (blk_below HP.out hb)
        have hsz := hb.size
        have G17 := Aside0.mk (show X2.heap[g]? = some (.cells #[.int .i64 0, .string ⟨#[]⟩, .slice none 0 0] 57 (0, 0)) by rw [← hY, ← hg]; exact alloc_at _ _)
        have hgs : g < X2.heap.size := by rw [← hY, ← hg]; simp
        have hgw : w.heap.size < g := by omega
        rw [hY, hg]
        clear hb hY hg
        refine hK.out _ _ (fun _ => trivial) ?_
        clear hK
        refine wpAnyK_one (i := 8) (by kernel_rfl) rfl (fun K hK => ?_)
        go_simp
        refine hK.out _ _ (fun _ => trivial) ?_
        clear hK
        refine wpAnyK_one (i := 9) (by kernel_rfl) rfl (fun K hK => ?_)
        go_simp
        go_at_call 57
        (with_reducible refine (c_M s none 0 0 X2).mono ?_)
        rintro e X3 ⟨rfl, hb⟩
        have HS := Aside0.mk (HS.out.below hb)
        have HQ := Aside0.mk (HQ.out.after_below hb)
        have HP := Aside0.mk (blk_below HP.out hb)
        have G17 := Aside0.mk (blk_below G17.out hb)
        have hsz := hb.size
        clear hb
        refine hK.out _ _ (fun _ => trivial) ?_
        clear hK
        refine wpAnyK_one (i := 11) (by kernel_rfl) rfl (fun K hK => ?_)
        have g0 := (blk_cell G17.out 0).trans rfl
        have g1 := (blk_cell G17.out 1).trans rfl
        have g2 := (blk_cell G17.out 2).trans rfl
        have fg := fun i => blk_frozen G17.out i
        go_simp
        refine hK.out _ _ (fun h => absurd rfl h) ?_
        clear hK g0 g1 g2 fg
        refine wpAnyK_done (by kernel_rfl) ?_ _
        go_wp2_with fail
        go_meet
        exact ⟨g, s, rfl, hhd, hgw, by simp only [World.setCell, Array.size_modify]; omega, ⟨blk_put (blk_put (blk_put G17.out 0 (.int .i64 2) rfl) 1 (.string s) rfl) 2 (.slice none 0 0) rfl⟩, ⟨blk_far (blk_far (blk_far HP.out (by simp only; omega) _) (by simp only; omega) _) (by simp only; omega) _⟩, ⟨Sack.far3 HS.out (by omega)⟩, ⟨((HQ.out.setCell (.inr (by simp only; omega)) _).setCell (.inr (by simp only; omega)) _).setCell (.inr (by simp only; omega)) _⟩⟩
      ·skip
       go_simp
       obtain ⟨X1, hY⟩ : ∃ X1, X0.alloc (.cells #[.int .i64 0, .string ⟨#[]⟩, .slice none 0 0] 57) = X1 := ⟨_, rfl⟩
       obtain ⟨g, hg⟩ : ∃ g, X0.heap.size = g := ⟨_, rfl⟩
       have hb : Below X0.heap.size X0 X1 := by rw [← hY]; exact below_alloc1 _ _
       have HS := Aside0.mk (HS.out.below hb)
       have HQ := Aside0.mk (HQ.out.after_below hb)
       have HP := Aside0.mk (blk_below HP.out hb)
       have hsz := hb.size
       have G17 := Aside0.mk (show X1.heap[g]? = some (.cells #[.int .i64 0, .string ⟨#[]⟩, .slice none 0 0] 57 (0, 0)) by rw [← hY, ← hg]; exact alloc_at _ _)
       have hgs : g < X1.heap.size := by rw [← hY, ← hg]; simp
       have hgw : w.heap.size < g := by omega
       rw [hY, hg]
       clear hb hY hg
       refine hK.out _ _ (fun _ => trivial) ?_
       clear hK
       refine wpAnyK_one (i := 7) (by kernel_rfl) rfl (fun K hK => ?_)
       go_simp
       go_at_call 130
       (with_reducible refine (c_Below2 B A n c (m + 2) zs X1 HS.out (HZ0.out.fr HQ.out) (by omega)).mono ?_)
       rintro e X2 ⟨r2, rfl, hr2, hS, hF⟩
       have HS := Aside0.mk hS
       have HQ := Aside0.mk (HQ.out.trans hF)
       have HP := Aside0.mk (hF.blk HP.out (by omega))
       have G17 := Aside0.mk (hF.blk G17.out (by omega))
       have hsz := hF.size
       obtain ⟨s, hhd, hix⟩ := hpick r2 hr2
       clear hS hF
       refine hK.out _ _ (fun _ => trivial) ?_
       clear hK
       refine wpAnyK_one (i := 8) (by kernel_rfl) rfl (fun K hK => ?_)
       go_simp
       refine hK.out _ _ (fun _ => trivial) ?_
       clear hK
       refine wpAnyK_one (i := 9) (by kernel_rfl) rfl (fun K hK => ?_)
       go_simp
       go_at_call 57
       (with_reducible refine (c_M s none 0 0 X2).mono ?_)
       rintro e X3 ⟨rfl, hb⟩
       have HS := Aside0.mk (HS.out.below hb)
       have HQ := Aside0.mk (HQ.out.after_below hb)
       have HP := Aside0.mk (blk_below HP.out hb)
       have G17 := Aside0.mk (blk_below G17.out hb)
       have hsz := hb.size
       clear hb
       refine hK.out _ _ (fun _ => trivial) ?_
       clear hK
       refine wpAnyK_one (i := 11) (by kernel_rfl) rfl (fun K hK => ?_)
       have g0 := (blk_cell G17.out 0).trans rfl
       have g1 := (blk_cell G17.out 1).trans rfl
       have g2 := (blk_cell G17.out 2).trans rfl
       have fg := fun i => blk_frozen G17.out i
       go_simp
       refine hK.out _ _ (fun h => absurd rfl h) ?_
       clear hK g0 g1 g2 fg
       refine wpAnyK_done (by kernel_rfl) ?_ _
       go_wp2_with fail
       go_meet
       exact ⟨g, s, rfl, hhd, hgw, by simp only [World.setCell, Array.size_modify]; omega, ⟨blk_put (blk_put (blk_put G17.out 0 (.int .i64 2) rfl) 1 (.string s) rfl) 2 (.slice none 0 0) rfl⟩, ⟨blk_far (blk_far (blk_far HP.out (by simp only; omega) _) (by simp only; omega) _) (by simp only; omega) _⟩, ⟨Sack.far3 HS.out (by omega)⟩, ⟨((HQ.out.setCell (.inr (by simp only; omega)) _).setCell (.inr (by simp only; omega)) _).setCell (.inr (by simp only; omega)) _⟩⟩
     case rest =>
      rename World => wd
      obtain ⟨g, s, rfl, hhd, hgw, hgs, GL, PL, SL, QL⟩ := hcut
      have hr32 : r3 ≤ 2 := by omega
      clear hr3
      go_wp2_with fail
      go_loopg [107] r3 (fun gg sj wr => ∃ (kk : Nat) (l : List Ex) (v : Value), kk ≤ r3 ∧ r3 - kk ≤ gg ∧ sj = .int .i64 kk ∧ Aside0 (OwnE wr (g + 1) v l) ∧ Aside0 (GenL vars ars nested within l ∧ szL l ≤ kk * exS d) ∧ Aside0 (l.length = kk) ∧ Aside0 (Fr (fun k => k = B) w wr) ∧ Aside0 (wr.heap[g]? = some (.cells #[.int .i64 2, .string s, v] 57 (0, 0))) ∧ Aside0 (wr.heap[w.heap.size]? = some (.cells #[.int .i64 0, .string ⟨#[]⟩, .slice none 0 0] 57 (0, 0))) ∧ Aside0 (Sack B A n c (m + 3 + kk * exD d) wr) ∧ g < wr.heap.size)
      case atStart => exact ⟨0, [], _, Nat.zero_le _, by omega, rfl, ⟨Kd.R_nil _ _ _ _ _⟩, ⟨by simp [GenL], by simp [szL]⟩, ⟨rfl⟩, QL, GL, PL, ⟨SL.out.mono (by omega)⟩, by omega⟩
      case round =>
       obtain ⟨kk, l, v, hkk, hg, rfl, HO, HL, HLL, HQ, HG, HP, HS, hZ⟩ := hrel
       have hwr := HQ.out.size
       have hl2 : l.length ≤ 2 := by rw [HLL.out]; omega
       by_cases hlt : kk < r3
       ·have hltz : (kk : Int) < (r3 : Int) := by omega
        obtain ⟨Al, cl, rfl⟩ := Kd.R_slice HO.out
        have HBd := Lib.hid (show kk * exD d + exD d ≤ 2 * exD d by
         have h1 : kk + 1 ≤ 2 := by omega
         have h2 := Nat.mul_le_mul_right (exD d) h1
         rw [Nat.succ_mul] at h2
         exact h2)
        have HC := Lib.hid (IH (m + 3 + kk * exD d) within nested wr.drew (HS.out.below (below_drew (Below.refl _ _))) (HZ0.out.fr (HQ.out.drew)) (by have := HBd.out; omega) (Kd.F_step HV0.out (fun k hk hlt => (HQ.out.drew).block k hlt hk)) (Kd.F_step HA0.out (fun k hk hlt => (HQ.out.drew).block k hlt hk)))
        have HGd := Aside0.mk (show wr.drew.heap[g]? = _ from HG.out)
        have HOd := Aside0.mk (Kd.R_drew HO.out)
        have HPd := Aside0.mk (show wr.drew.heap[w.heap.size]? = _ from HP.out)
        have HQd := Aside0.mk (show Fr (fun k => k = B) w wr.drew from HQ.out.drew)
        have hzd : wr.drew.heap.size = wr.heap.size := rfl
        have hSd : (fun W => W.cell? ⟨g, 2, none⟩ = some (.slice Al l.length cl)) wr.drew := (blk_cell HGd.out 2).trans rfl
        have HNb := Lib.hid (fun (k : Nat) (hk : some k = (Value.slice Al l.length cl).ownBlock) => show g + 1 ≤ k ∧ k < wr.heap.size from ⟨((Kd.R_bound HO.out).1 _ hk.symm).2.1, ((Kd.R_bound HO.out).1 _ hk.symm).2.2.1⟩)
        clear HS
        go_upto_region 18 with fail
        refine wp_region_K (S := (fun W => W.cell? ⟨g, 2, none⟩ = some (.slice Al l.length cl))) (k := 13) (by kernel_rfl) ?_
        change wpAnyK _ _ _ _ _ _ 14 (Array.replicate 14 false) _ _
        refine wpAnyK_take (i := 0) (v := ?_) rfl (by kernel_rfl) (by kernel_rfl) (by kernel_rfl) (by kernel_rfl) (fun _ _ _ h => h) hSd (Or.inl ⟨by rfl, ?_⟩) ?_
        rotate_left 1
        (intro w hSw; (try dsimp only at hSw); go_simp; try (with_reducible rfl))
        (try simp only [List.getElem_toArray, List.getElem_cons_succ, List.getElem_cons_zero]); (try dsimp only [Act.put]); (try simp only [List.setIfInBounds_toArray, List.set_cons_zero, List.set_cons_succ])
        refine wpAnyK_take (i := 1) (v := ?_) rfl (by kernel_rfl) (by kernel_rfl) (by kernel_rfl) (by kernel_rfl) (fun _ _ _ h => h) hSd (Or.inl ⟨by rfl, ?_⟩) ?_
        rotate_left 1
        (intro w hSw; (try dsimp only at hSw); go_simp; try (with_reducible rfl))
        (try simp only [List.getElem_toArray, List.getElem_cons_succ, List.getElem_cons_zero]); (try dsimp only [Act.put]); (try simp only [List.setIfInBounds_toArray, List.set_cons_zero, List.set_cons_succ])
        refine wpAnyK_take (i := 2) (v := ?_) rfl (by kernel_rfl) (by kernel_rfl) (by kernel_rfl) (by kernel_rfl) (fun _ _ _ h => h) hSd (Or.inl ⟨by rfl, ?_⟩) ?_
        rotate_left 1
        (intro w hSw; (try dsimp only at hSw); go_simp; try (with_reducible rfl))
        (try simp only [List.getElem_toArray, List.getElem_cons_succ, List.getElem_cons_zero]); (try dsimp only [Act.put]); (try simp only [List.setIfInBounds_toArray, List.set_cons_zero, List.set_cons_succ])
        refine wpAnyK_take (i := 3) (v := ?_) rfl (by kernel_rfl) (by kernel_rfl) (by kernel_rfl) (by kernel_rfl) (fun _ _ _ h => h) hSd (Or.inl ⟨by rfl, ?_⟩) ?_
        rotate_left 1
        (intro w hSw; (try dsimp only at hSw); go_simp; try (with_reducible rfl))
        (try simp only [List.getElem_toArray, List.getElem_cons_succ, List.getElem_cons_zero]); (try dsimp only [Act.put]); (try simp only [List.setIfInBounds_toArray, List.set_cons_zero, List.set_cons_succ])
        refine wpAnyK_take (i := 4) (v := ?_) rfl (by kernel_rfl) (by kernel_rfl) (by kernel_rfl) (by kernel_rfl) (fun _ _ _ h => h) hSd (Or.inl ⟨by rfl, ?_⟩) ?_
        rotate_left 1
        (intro w hSw; (try dsimp only at hSw); go_simp; try (with_reducible rfl))
        (try simp only [List.getElem_toArray, List.getElem_cons_succ, List.getElem_cons_zero]); (try dsimp only [Act.put]); (try simp only [List.setIfInBounds_toArray, List.set_cons_zero, List.set_cons_succ])
        refine wpAnyK_take (i := 5) (v := ?_) rfl (by kernel_rfl) (by kernel_rfl) (by kernel_rfl) (by kernel_rfl) (fun _ _ _ h => h) hSd (Or.inl ⟨by rfl, ?_⟩) ?_
        rotate_left 1
        (intro w hSw; (try dsimp only at hSw); go_simp; try (with_reducible rfl))
        (try simp only [List.getElem_toArray, List.getElem_cons_succ, List.getElem_cons_zero]); (try dsimp only [Act.put]); (try simp only [List.setIfInBounds_toArray, List.set_cons_zero, List.set_cons_succ])
        refine wpAnyK_take (i := 6) (v := ?_) rfl (by kernel_rfl) (by kernel_rfl) (by kernel_rfl) (by kernel_rfl) (fun _ _ _ h => h) hSd (Or.inl ⟨by rfl, ?_⟩) ?_
        rotate_left 1
        (intro w hSw; (try dsimp only at hSw); go_simp; try (with_reducible rfl))
        (try simp only [List.getElem_toArray, List.getElem_cons_succ, List.getElem_cons_zero]); (try dsimp only [Act.put]); (try simp only [List.setIfInBounds_toArray, List.set_cons_zero, List.set_cons_succ])
        refine wpAnyK_take (i := 7) (v := ?_) rfl (by kernel_rfl) (by kernel_rfl) (by kernel_rfl) (by kernel_rfl) (fun _ _ _ h => h) hSd (Or.inl ⟨by rfl, ?_⟩) ?_
        rotate_left 1
        (intro w hSw; (try dsimp only at hSw); go_simp; try (with_reducible rfl))
        (try simp only [List.getElem_toArray, List.getElem_cons_succ, List.getElem_cons_zero]); (try dsimp only [Act.put]); (try simp only [List.setIfInBounds_toArray, List.set_cons_zero, List.set_cons_succ])
        refine wpAnyK_take (i := 8) (v := ?_) rfl (by kernel_rfl) (by kernel_rfl) (by kernel_rfl) (by kernel_rfl) (fun _ _ _ h => h) hSd (Or.inl ⟨by rfl, ?_⟩) ?_
        rotate_left 1
        (intro w hSw; (try dsimp only at hSw); go_simp; try (with_reducible rfl))
        (try simp only [List.getElem_toArray, List.getElem_cons_succ, List.getElem_cons_zero]); (try dsimp only [Act.put]); (try simp only [List.setIfInBounds_toArray, List.set_cons_zero, List.set_cons_succ])
        refine wpAnyK_one (i := 9) (by kernel_rfl) rfl (fun K hK => ?_)
        go_simp
        go_at_call 78
        (with_reducible refine HC.out.mono ?_)
        rintro e wE ⟨x, vx, rfl, hO2, hG2, hz2, hS2, hF2⟩
        obtain ⟨Ax, cx, rfl⟩ := Kd.R_slice hO2
        have hsE := hF2.size
        have HGE := Aside0.mk (hF2.blk HGd.out (by omega))
        have HPE := Aside0.mk (hF2.blk HPd.out (by omega))
        have HOE := Aside0.mk (Kd.R_step (Kd.R_bound HOd.out) (w1 := wE) (fun k hk hkl => hF2.block k hkl (by have := hk.2.1; omega)))
        have HQE := Aside0.mk (HQd.out.trans hF2)
        have HSE := Aside0.mk hS2
        have HX := Lib.hid (And.intro hG2 hz2)
        have HM := Aside0.mk (k57_mkM wE (g + 1) (fun k => wr.heap.size ≤ k) x (Kd.R_lower (Kd.R_mono (Kd.R_bound hO2) (ok' := fun k => wr.heap.size ≤ k) (fun k hk => hk.2.1)) (show g + 1 ≤ wr.drew.heap.size by omega)))
        have hSd : (fun W => W.cell? ⟨g, 2, none⟩ = some (.slice Al l.length cl)) wE := (blk_cell HGE.out 2).trans rfl
        clear hO2 hG2 hz2 hS2 hF2
        refine hK.out _ _ (fun _ => hSd) ?_
        clear hK
        refine wpAnyK_one (i := 10) (by kernel_rfl) rfl (fun K hK => ?_)
        go_simp
        have hSd : (fun W => W.cell? ⟨g, 2, none⟩ = some (.slice Al l.length cl)) (wE.alloc (.cells #[.int .i64 x.f0, .string x.f1, .slice Ax x.f2.length cx] 57)) := pw_cell_below (below_alloc1 _ _) hSd
        refine hK.out _ _ (fun _ => hSd) ?_
        clear hK
        refine wpAnyK_one (i := 11) (by kernel_rfl) rfl (fun K hK => ?_)
        refine Kd.R_append_step k57 (w0 := wE) (W := wE) (g + 1) (by rfl) (.tmp 110) (.tmp 119) 55 57 _ 48 rfl Tryz.underlying55 infoEx rfl (by decide) (by decide) (.slice Al l.length cl) l x [.int .i64 x.f0, .string x.f1, .slice Ax x.f2.length cx] (fun _ => True) (fun k => wr.heap.size ≤ k) rfl rfl HM.out (fun k hk => ⟨trivial, fun he => by have := (HNb.out k he).2; omega⟩) (fun _ _ => trivial) (Kd.R_mono HOE.out (fun _ _ => trivial)) (Below.refl _ _) (by omega) (by omega) ?_
        intro v9 w9 hR9 hB9 hg9 hat9
        have HG9 := Aside0.mk (blk_grown HGE.out hg9 (fun he => by have := (HNb.out _ he).1; omega))
        have HP9 := Aside0.mk (blk_grown HPE.out hg9 (fun he => by have := (HNb.out _ he).1; omega))
        have HQ9 := Aside0.mk (HQE.out.grown hg9 (fun k hk => .inr (by have := (HNb.out _ hk.symm).1; omega)))
        have HS9 := Aside0.mk (show Sack B A n c _ w9 from Sack.grown HSE.out hg9 (fun he => by have := (HNb.out _ he).1; omega))
        obtain ⟨A9, c9, hv9⟩ := Kd.R_slice hR9
        rw [show (l ++ [x]).length = l.length + 1 from by simp] at hv9
        subst hv9
        have HR9 := Aside0.mk hR9
        have hs9 := hB9.size
        have hSd : (fun W => W.cell? ⟨g, 2, none⟩ = some (.slice Al l.length cl)) w9 := (blk_cell HG9.out 2).trans rfl
        clear hR9 hB9 hg9 hat9
        refine hK.out _ _ (fun _ => hSd) ?_
        clear hK
        refine wpAnyK_one (i := 12) (by kernel_rfl) rfl (fun K hK => ?_)
        go_simp
        refine hK.out _ _ (fun _ => hSd) ?_
        clear hK
        refine wpAnyK_one (i := 13) (by kernel_rfl) rfl (fun K hK => ?_)
        have k9 := (blk_cell HG9.out 2).trans rfl
        have f9 := blk_frozen HG9.out 2
        go_simp
        refine hK.out _ _ (fun h => absurd rfl h) ?_
        clear hK hSd
        refine wpAnyK_done (by kernel_rfl) ?_ _
        clear k9 f9
        go_wp2_with fail
        go_roundg (r3 - (kk + 1))
        case measure => omega
        case rel =>
         refine ⟨kk + 1, l ++ [x], _, hlt, Nat.le_refl _, by go_num, ⟨?_⟩, ⟨genL_snoc HL.out.1 HX.out.1, ?_⟩, ⟨by rw [List.length_append, HLL.out]; rfl⟩, ⟨HQ9.out.setCell (.inr (by simp only; omega)) _⟩, ⟨blk_put HG9.out 2 _ rfl⟩, ⟨blk_far HP9.out (by simp only; omega) _⟩, ⟨Sack.far1 (HS9.out.mono (by rw [Nat.succ_mul]; omega)) (by show B ≠ g; omega)⟩, by simp only [World.setCell, Array.size_modify]; omega⟩
         ·exact Kd.R_mono (Kd.R_far (Kd.R_mono (Kd.R_bound HR9.out) (ok' := fun k => g + 1 ≤ k) (fun k hk => hk.2.1)) (p := ⟨g, 2, none⟩) (fun k hk => by show k ≠ g; omega) _) (fun _ _ => trivial)
         ·rw [szL_snoc, Nat.succ_mul]; have h1 := HL.out.2; have h2 := HX.out.2; omega
       ·have hke : kk = r3 := by omega
        subst hke
        obtain ⟨Al, cl, rfl⟩ := Kd.R_slice HO.out
        have g0 := (blk_cell HG.out 0).trans rfl
        have g1 := (blk_cell HG.out 1).trans rfl
        have g2 := (blk_cell HG.out 2).trans rfl
        have y0 := (blk_cell HP.out 0).trans rfl
        have y1 := (blk_cell HP.out 1).trans rfl
        have y2 := (blk_cell HP.out 2).trans rfl
        have fy := fun i => blk_frozen HP.out i
        go_wp2_with fail
        have b6 := blk_put (blk_put (blk_put HP.out 0 (.int .i64 2) rfl) 1 (.string s) rfl) 2 (.slice Al l.length cl) rfl
        refine bodyPost_ret (results_cell_row rfl _ _ w.heap.size 57 #[.int .i64 2, .string s, .slice Al l.length cl] (0, 0) _ rfl b6 Tryz.underlying57 rfl (by kernel_rfl)) rfl ?_
        have hne : ∀ k, g + 1 ≤ k → k ≠ w.heap.size := fun k hk => by omega
        refine ⟨⟨2, s, l⟩, _, rfl, Kd.R_lower (Kd.R_mono (Kd.R_far (Kd.R_far (Kd.R_far (Kd.R_mono (Kd.R_bound HO.out) (ok' := fun k => g + 1 ≤ k) (fun k hk => hk.2.1)) hne _) hne _) hne _) (fun _ _ => trivial)) (by omega), ?_, ?_, Sack.far3 (HS.out.mono ?_) (by omega), ((HQ.out.setCell (.inr (Nat.le_refl _)) _).setCell (.inr (Nat.le_refl _)) _).setCell (.inr (Nat.le_refl _)) _⟩
        ·rw [genE_eq]; exact .inr (.inl ⟨rfl, by rw [HLL.out]; exact hhd, HL.out.1⟩)
        ·have h1 := HL.out.2
         rw [← HLL.out] at h1
         have h2 : l.length * exS d ≤ 2 * exS d := Nat.mul_le_mul_right _ hl2
         rw [szE_eq, exS]
         dsimp only
         omega
        ·have h2 : l.length * exD d ≤ 2 * exD d := Nat.mul_le_mul_right _ hl2
         rw [← HLL.out]
         rw [exD]; omega
theorem c_Expr (B : Nat) (A : Option Addr) (n c : Nat) (zs : List Int) (vars : List ByteArray) (Av : Option Addr) (cv : Nat) (ars : List Nat) (Aa : Option Addr) (ca : Nat) (hcv : vars.length ≤ cv) (hvl : vars.length ≤ 1000) (hca : ars.length ≤ ca) (hal : ars.length ≤ 26) (ha0 : 0 < ars.length) (har : ∀ a ∈ ars, a ≤ 2) :
  ∀ d : Nat, d ≤ 1000 → ExprC B A n c zs vars Av cv ars Aa ca d
 | 0, _ => fun m within nested w hs hz hm hv _ => c_Expr0 B A n c m zs vars Av cv ars Aa ars.length ca within nested w hs hz (by simp only [exD] at hm; omega) hv hcv hvl
 | d + 1, hd => c_Expr_succ B A n c zs vars Av cv ars Aa ca hcv hvl hca hal ha0 har d (by omega) (c_Expr B A n c zs vars Av cv ars Aa ca hcv hvl hca hal ha0 har d (by omega))
end Go.Proofs.YtacefdkfbpgedaaGreat.Mine
namespace Go.Proofs.YtacefdkfbpgedaaGreat.Mine
open Go.Proofs.YtacefdkfbpgedaaGreat.PProgSmall
open Go.RowKit Go.Shelf Go.Proofs.YtacefdkfbpgedaaGreatW.PrintWords Go.Proofs.YtacefdkfbpgedaaGreatW.PrintLast Go.Proofs.YtacefdkfbpgedaaGreatW.PrintMore
set_option linter.unusedVariables false
set_option linter.unusedSimpArgs false
set_option maxRecDepth 100000
theorem infoIn' : (Tryz.prog.info? 3).map (fun i => (i.zero, i.size, i.bytes)) = some (some (.int .i64 0), 1, 8) := by kernel_rfl
theorem Fr.low {M : Nat → Prop} {w W W' : World} {n : Nat} (h : Fr M w W) (hb : Below n W W') (hn : w.heap.size ≤ n) : Fr M w W' :=
 ⟨hb.os.trans h.os, hb.tape.trans h.tape, hb.output.trans h.output, Nat.le_trans h.size hb.size, fun k hk hm => (hb.block k (Nat.lt_of_lt_of_le hk hn)).trans (h.block k hk hm)⟩
theorem Fr.two {B gd : Nat} {w W W' : World} (h : Fr (fun k => k = B) w W) (h2 : Fr (fun k => k = B ∨ k = gd) W W') (hg : w.heap.size ≤ gd) : Fr (fun k => k = B) w W' :=
 ⟨h2.os.trans h.os, h2.tape.trans h.tape, h2.output.trans h.output, Nat.le_trans h.size h2.size, fun k hk hn => (h2.block k (Nat.lt_of_lt_of_le hk h.size) (fun hx => hx.elim hn (fun e => by omega))).trans (h.block k hk hn)⟩
theorem Sack.low {B : Nat} {A : Option Addr} {n c m k : Nat} {W W' : World} (h : Sack B A n c m W) (hb : Below k W W') (hB : B < k) : Sack B A n c m W' := by
 obtain ⟨nx, st, h1, h2⟩ := h
 exact ⟨nx, st, h1, (hb.block B hB).trans h2⟩
theorem paramsN_succ (k : Nat) : paramsN (k + 1) = paramsN k ++ [paramN k] := by rw [paramsN, List.range_succ, List.map_append]; rfl
theorem paramsN_len (k : Nat) : (paramsN k).length = k := by rw [paramsN, List.length_map, List.length_range]
theorem infoDe' : (Tryz.prog.info? 59).map (fun i => (i.zero, i.size, i.bytes)) = some (some (.agg #[.string ⟨#[]⟩, .slice none 0 0, .slice none 0 0, .int .i64 0, .string ⟨#[]⟩, .slice none 0 0]), 6, 112) := by kernel_rfl
theorem infoCa' : (Tryz.prog.info? 62).map (fun i => (i.zero, i.size, i.bytes)) = some (some (.agg #[.string ⟨#[]⟩, .slice none 0 0, .int .i64 0, .string ⟨#[]⟩, .slice none 0 0]), 5, 88) := by kernel_rfl
theorem idx6 (k : Nat) (hk : k < 3) : ∃ a b : ByteArray, six[2 * k]? = some (a, k) ∧ six[2 * k + 1]? = some (b, k) ∧ ∀ W : World, (Instr.index 71 (.agg #[.string ⟨#[97]⟩, .string ⟨#[110, 105, 108]⟩, .string ⟨#[115]⟩, .string ⟨#[117]⟩, .string ⟨#[99, 111, 110, 115]⟩, .string ⟨#[112]⟩]) (.int .i64 (k : Int))).run Tryz.prog W = .ok (.agg #[.string a, .string b]) W := by
 have hc : Tryz.prog.cellsOf 70 = 2 := by kernel_rfl
 have hc1 : Tryz.prog.cellsOf 9 = 1 := by kernel_rfl
 rcases (show k = 0 ∨ k = 1 ∨ k = 2 by omega) with rfl | rfl | rfl
 ·exact ⟨_, _, rfl, rfl, fun W => by simp [Instr.index, run_underlying Tryz.underlying71, asIntOf, part, isAgg, run_underlying Tryz.underlying70, go_sem, hc, hc1]⟩
 ·exact ⟨_, _, rfl, rfl, fun W => by simp [Instr.index, run_underlying Tryz.underlying71, asIntOf, part, isAgg, run_underlying Tryz.underlying70, go_sem, hc, hc1]⟩
 ·exact ⟨_, _, rfl, rfl, fun W => by simp [Instr.index, run_underlying Tryz.underlying71, asIntOf, part, isAgg, run_underlying Tryz.underlying70, go_sem, hc, hc1]⟩
theorem idxh (a b : ByteArray) (k j : Nat) (ha : six[2 * k]? = some (a, k)) (hb : six[2 * k + 1]? = some (b, k)) (hj : j < 2) : ∃ s : ByteArray, six[2 * k + j]? = some (s, k) ∧ ∀ W : World, (Instr.index 70 (.agg #[.string a, .string b]) (.int .i64 (j : Int))).run Tryz.prog W = .ok (.string s) W := by
 have hc1 : Tryz.prog.cellsOf 9 = 1 := by kernel_rfl
 rcases (show j = 0 ∨ j = 1 by omega) with rfl | rfl
 ·exact ⟨a, ha, fun W => by simp [Instr.index, run_underlying Tryz.underlying70, asIntOf, part, isAgg, run_underlying Tryz.underlying9, go_sem, hc1]⟩
 ·exact ⟨b, hb, fun W => by simp [Instr.index, run_underlying Tryz.underlying70, asIntOf, part, isAgg, run_underlying Tryz.underlying9, go_sem, hc1]⟩
theorem varsN_len {k : Nat} (h : k ≤ 2) : (varsN k).length = k := by rw [varsN, List.length_take]; simp; omega
theorem varsN_succ {k : Nat} (h : k < 2) : ∃ s : ByteArray, [(⟨#[104]⟩ : ByteArray), ⟨#[116]⟩][k]? = some s ∧ varsN (k + 1) = varsN k ++ [s] := by
 rcases (show k = 0 ∨ k = 1 by omega) with rfl | rfl
 ·exact ⟨_, rfl, rfl⟩
 ·exact ⟨_, rfl, rfl⟩
theorem vt_cell {W : World} {g mm ty : Nat} {s : ByteArray} (hb : W.heap[g]? = some (.cells #[.string ⟨#[104]⟩, .string ⟨#[116]⟩] ty (0, 0))) (hm : mm < 2) (hs : [(⟨#[104]⟩ : ByteArray), ⟨#[116]⟩][mm]? = some s) : W.cell? ⟨g, mm, none⟩ = some (.string s) := by
 rcases (show mm = 0 ∨ mm = 1 by omega) with rfl | rfl
 ·cases hs; exact (blk_cell hb 0).trans rfl
 ·cases hs; exact (blk_cell hb 1).trans rfl
set_option maxHeartbeats 8000000 in
theorem c_Made (B : Nat) (A : Option Addr) (n c : Nat) (zs : List Int) (nested : Bool) (w : World) (hs : Sack B A n c 0 w) (hz : SackOk B A n c zs w) :
  Calls Tryz.prog 23 #[.pointer (some ⟨B, 0, none⟩), .int .i64 6, .bool nested] w fun en w' => ∃ (ars : List Nat) (ps : List (S59)) (v : Value), en = .returned (.agg #[v]) ∧ Kd.R k59 59 w' w.heap.size (fun _ => True) v ps ∧ MadeOk ars nested ps ∧ Fr (fun k => k = B) w w' := by
 have hBl : B < w.heap.size := by obtain ⟨_, _, _, h⟩ := hs; exact blk_lt h
 obtain ⟨W1, hW1⟩ : ∃ W1, w.alloc (.cells #[.slice none 0 0] 24) = W1 := ⟨_, rfl⟩
 have q1 : Below w.heap.size w W1 := by rw [← hW1]; exact below_alloc1 _ _
 have z1 : W1.heap.size = w.heap.size + 1 := by rw [← hW1]; simp
 have B6 := Aside0.mk (show W1.heap[w.heap.size]? = some (.cells #[.slice none 0 0] 24 (0, 0)) by rw [← hW1]; exact alloc_at _ _)
 have HC := Lib.hid (c_Among16 B A n c 0 zs W1 (hs.below q1) (hz.below q1) (by decide))
 have HZ0 := Lib.hid hz
 have HQ := Aside0.mk (Fr.of_below (fun k => k = B) q1)
 have HW1 := Lib.hid hW1
 have hz1 := Nat.le_of_eq z1.symm
 clear hs hz q1 hW1 z1
 go_enter Tryz.func23, Tryz.ntmps23
 go_wp2_with fail
 rw [HW1.out]
 refine HC.out.mono ?_
 rintro en w2 ⟨r, rfl, hr1, hr6, hS, hF⟩
 have HQ := Aside0.mk (HQ.out.trans hF)
 have B6 := Aside0.mk (hF.blk B6.out (by omega))
 have HS := Aside0.mk hS
 have hs2 := hF.size
 clear hS hF HC HW1
 go_wp2_with (refine Kd.R_make (Kd.int .i64) (w0 := w2) (W := w2) w2.heap.size 3 rfl rfl 48 (.tmp 22) (.tmp 22) rfl (r : Int) rfl rfl Tryz.underlying48 (.int .i64 0) 8 infoIn' rfl (by decide) (by decide) (0 : Int) (ok := fun _ => True) (okp := fun _ => False) rfl (fun _ _ => trivial) trivial (by omega) (by omega) (Below.refl _ _) (Nat.le_refl _) ?_; intro v1 w3 hR3 hB3 hg3 hat3; rw [Int.toNat_natCast] at hR3; obtain ⟨g, cap, hv1, hgb, hgt, _⟩ := Kd.R_form hR3 (by rw [List.length_replicate]; omega); rw [List.length_replicate] at hv1; subst hv1; have HR3 := Aside0.mk hR3; have HB3 := Aside0.mk hB3; have hs3 := hB3.size; clear hR3 hB3 hg3 hat3)
 have HQ := Aside0.mk (HQ.out.after_below HB3.out)
 have B6 := Aside0.mk (blk_below B6.out HB3.out)
 have HS := Aside0.mk (HS.out.below HB3.out)
 go_loopg [26] r (fun gg s26 wr => ∃ (kk : Nat) (l : List Int), kk ≤ r ∧ r - kk ≤ gg ∧ s26 = .int .i64 kk ∧ Aside0 (l.length = r) ∧ Aside0 (∀ x ∈ l, 0 ≤ x ∧ x ≤ 2) ∧ Aside0 (Kd.R (Kd.int .i64) 3 wr w2.heap.size (fun _ => True) (.slice (some ⟨g, 0, none⟩) r cap) l) ∧ Aside0 (Fr (fun k => k = B) w wr) ∧ Aside0 (wr.heap[w.heap.size]? = some (.cells #[.slice none 0 0] 24 (0, 0))) ∧ Aside0 (Sack B A n c (1 + kk) wr) ∧ w3.heap.size ≤ wr.heap.size)
 case atStart => exact ⟨0, _, Nat.zero_le _, by omega, rfl, ⟨List.length_replicate⟩, ⟨fun x hx => by rw [List.eq_of_mem_replicate hx]; decide⟩, HR3, HQ, B6, ⟨HS.out.mono (by omega)⟩, Nat.le_refl _⟩
 case round =>
  obtain ⟨kk, l, hkk, hg, rfl, HLl, HLb, HR, HQ, B6, HS, hsr⟩ := hrel
  by_cases hlt : kk < r
  ·have hltz : (kk : Int) < (r : Int) := by omega
   have HC := Lib.hid (c_Among2 B A n c (1 + kk) zs wr HS.out (HZ0.out.fr HQ.out) (by omega))
   go_wp2_with fail
   refine HC.out.mono ?_
   rintro en w4 ⟨r3, rfl, hr3, hS, hF⟩
   have HR4 := Kd.R_mono (Kd.R_step (Kd.R_bound HR.out) (w1 := w4) (fun k hk hkl => hF.block k hkl (by have := hk.2.1; show ¬ k = B; omega))) (ok' := fun _ => True) (fun _ _ => trivial)
   obtain ⟨hc4, hf4⟩ := Kd.R_celln (0 : Int) HR4 (kk : Int) (by omega) hltz
   rw [Int.toNat_natCast] at hc4 hf4
   have HRp := Aside0.mk (Kd.R_putn HR4 (kk : Int) (r3 : Int))
   have HQ4 := Aside0.mk (HQ.out.trans hF)
   have B64 := Aside0.mk (hF.blk B6.out (by omega))
   have HS4 := Aside0.mk hS
   have hs4 := hF.size
   clear hS hF HC HR4
   go_wp2_with fail
   go_roundg (r - (kk + 1))
   case measure => omega
   case rel => exact ⟨kk + 1, l.set kk (r3 : Int), hlt, Nat.le_refl _, by go_num, ⟨by rw [List.length_set]; exact HLl.out⟩, ⟨fun x hx => by
    rcases List.mem_or_eq_of_mem_set hx with h | h
    ·exact HLb.out x h
    ·subst h; omega⟩, ⟨HRp.out⟩, ⟨HQ4.out.setCell (.inr (by simp only; omega)) _⟩, ⟨blk_far B64.out (by simp only; omega) _⟩, ⟨Sack.far1 HS4.out (by show B ≠ g; omega)⟩, by simp only [World.setCell, Array.size_modify]; omega⟩
  ·have hkr : kk = r := by omega
   subst hkr
   obtain ⟨ars, hars⟩ : ∃ ars : List Nat, ars.map (fun (k : Nat) => (k : Int)) = l := ⟨l.map Int.toNat, by
    rw [List.map_map]
    refine (List.map_congr_left (g := id) (fun x hx => ?_)).trans (List.map_id _)
    have := (HLb.out x hx).1
    simp only [Function.comp, id]
    omega⟩
   have hal : ars.length = kk := by rw [← HLl.out, ← hars, List.length_map]
   have har : ∀ a ∈ ars, a ≤ 2 := fun a ha => by
    have := (HLb.out (a : Int) (by rw [← hars]; exact List.mem_map.2 ⟨a, ha, rfl⟩)).2
    omega
   have HAr := Aside0.mk (show Kd.F (Kd.int .i64) wr (fun k => k = g) (some ⟨g, 0, none⟩) kk (ars.map fun (k : Nat) => (k : Int)) by
    rw [hars]
    have h1 := Kd.R_F (Kd.R_tight rfl HR.out)
    exact Kd.F_mono h1 (fun k hk => by simpa [Value.ownBlock] using hk))
   have HAl := Lib.hid hal
   have hcap : kk ≤ cap := (Kd.R_reads' HR.out).2.1
   clear HLl HLb HR hars hal
   obtain ⟨g9, hg9⟩ : ∃ g9, wr.heap.size = g9 := ⟨_, rfl⟩
   obtain ⟨W5, hW5⟩ : ∃ W5, wr.alloc (.cells #[.slice none 0 0] 24) = W5 := ⟨_, rfl⟩
   have q5 : Below wr.heap.size wr W5 := by rw [← hW5]; exact below_alloc1 _ _
   have z5 : W5.heap.size = g9 + 1 := by rw [← hW5, ← hg9]; simp
   have B9 := Aside0.mk (show W5.heap[g9]? = some (.cells #[.slice none 0 0] 24 (0, 0)) by rw [← hW5, ← hg9]; exact alloc_at _ _)
   have HAr := Aside0.mk (Kd.F_below HAr.out q5)
   have B6 := Aside0.mk (blk_below B6.out q5)
   have HQ := Aside0.mk (HQ.out.after_below q5)
   have HS := Aside0.mk (HS.out.below q5)
   have hz5a := Nat.le_of_eq z5
   have hz5b := Nat.le_of_eq z5.symm
   have hg9a := Nat.le_of_eq hg9
   have hg9b := Nat.le_of_eq hg9.symm
   have HW5 := Lib.hid hW5
   clear hW5 q5 z5
   go_upto_region 8 with fail
   rw [HW5.out]
   clear HW5 hg9
   go_wp2_with fail
   go_loopg [37] kk (fun gg s37 wx => ∃ (ii : Nat) (ds : List (S59)) (v : Value), ii ≤ kk ∧ kk - ii ≤ gg ∧ s37 = .int .i64 ii ∧ Aside0 (ds.length = ii) ∧ Aside0 (Kd.R k59 59 wx (g9 + 1) (fun _ => True) v ds) ∧ Aside0 (DefsOk ars nested ds) ∧ Aside0 (Fr (fun k => k = B) w wx) ∧ Aside0 (wx.heap[w.heap.size]? = some (.cells #[.slice none 0 0] 24 (0, 0))) ∧ Aside0 (wx.heap[g9]? = some (.cells #[v] 24 (0, 0))) ∧ Aside0 (Kd.F (Kd.int .i64) wx (fun k => k = g) (some ⟨g, 0, none⟩) kk (ars.map fun (k : Nat) => (k : Int))) ∧ Aside0 (Sack B A n c (10 + ii * 200) wx) ∧ g9 < wx.heap.size)
   case atStart => exact ⟨0, [], _, Nat.zero_le _, by omega, rfl, ⟨rfl⟩, ⟨Kd.R_nil _ _ _ _ _⟩, ⟨fun i d h => by simp at h⟩, HQ, B6, B9, HAr, ⟨HS.out.mono (by omega)⟩, by omega⟩
   case round =>
    rename World => wx
    obtain ⟨ii, ds, v, hii, hgg, rfl, HDl, HD, HDo, HQ, B6, B9, HAr, HS, hszx⟩ := hrel
    by_cases hil : ii < kk
    ·have hilz : (ii : Int) < (kk : Int) := by omega
     have hial : ii < ars.length := by rw [HAl.out]; exact hil
     have hC := Kd.F_now HAr.out
     rw [show kk = (ars.map fun (k : Nat) => (k : Int)).length by rw [List.length_map, HAl.out]] at hC
     obtain ⟨ad, u0, hA, hK, _, y0⟩ := gett1 rfl hC ii (by rw [List.length_map]; exact hial)
     cases hA
     obtain ⟨a, ha⟩ : ∃ a, ars[ii] = a := ⟨_, rfl⟩
     obtain rfl : u0 = .int .i64 (a : Int) := by simpa [Kd.int, Kd.scalar, ha] using hK
     have y0 : wx.cell? ⟨g, ii, none⟩ = some (.int .i64 (a : Int)) := by rw [← add_plain]; exact y0
     have ha2 : a ≤ 2 := by rw [← ha]; exact har _ (List.getElem_mem hial)
     have HA := Lib.hid (show ars[ii]? = some a by rw [List.getElem?_eq_getElem hial, ha])
     clear hC hK ha
     obtain ⟨Av, cv, rfl⟩ := Kd.R_slice HD.out
     have HN := Lib.hid (c_name ii wx (by omega))
     go_wp2_with fail
     refine HN.out.mono ?_
     rintro en wy ⟨rfl, hw⟩
     have hw := hw.symm
     subst hw
     obtain ⟨gd, hgd⟩ : ∃ gd, wx.heap.size = gd := ⟨_, rfl⟩
     obtain ⟨nm, hnm⟩ : ∃ nm, nameN ii = nm := ⟨_, rfl⟩
     rw [hnm]
     obtain ⟨Wd, hWd⟩ : ∃ Wd, wx.alloc (.cells #[.string nm, .slice none 0 0, .slice none 0 0, .int .i64 0, .string ⟨#[]⟩, .slice none 0 0] 59) = Wd := ⟨_, rfl⟩
     have qd : Below wx.heap.size wx Wd := by rw [← hWd]; exact below_alloc1 _ _
     have zd : Wd.heap.size = gd + 1 := by rw [← hWd, ← hgd]; simp
     have BD := Aside0.mk (show Wd.heap[gd]? = some (.cells #[.string nm, .slice none 0 0, .slice none 0 0, .int .i64 0, .string ⟨#[]⟩, .slice none 0 0] 59 (0, 0)) by rw [← hWd, ← hgd]; exact alloc_at _ _)
     have HNm := Lib.hid hnm
     have hgda := Nat.le_of_eq hgd
     have hgdb := Nat.le_of_eq hgd.symm
     have hzda := Nat.le_of_eq zd
     have hzdb := Nat.le_of_eq zd.symm
     have HQd := Aside0.mk (HQ.out.after_below qd)
     have B6d := Aside0.mk (blk_below B6.out qd)
     have B9d := Aside0.mk (blk_below B9.out qd)
     have HArd := Aside0.mk (Kd.F_below HAr.out qd)
     have HSd := Aside0.mk (HS.out.below qd)
     have HDd := Aside0.mk (Kd.R_mono (Kd.R_below (Kd.R_bound HD.out) qd) (ok' := fun k => g9 + 1 ≤ k ∧ k < gd) (fun k hk => ⟨hk.2.1, by have := hk.2.2.1; omega⟩))
     have HWd := Lib.hid hWd
     clear hWd qd zd hnm HN y0 HQ B6 B9 HAr HS HD
     go_upto_region 12 with fail
     rw [HWd.out]
     clear HWd hgd
     go_wp2_with fail
     go_loopg [46] a (fun gg s46 wy => ∃ (jj : Nat) (v1 : Value), jj ≤ a ∧ a - jj ≤ gg ∧ s46 = .int .i64 jj ∧ Aside0 (Kd.R Kd.string 9 wy (gd + 1) (fun _ => True) v1 (paramsN jj)) ∧ Aside0 (Below gd Wd wy) ∧ Aside0 (wy.heap[gd]? = some (.cells #[.string nm, v1, .slice none 0 0, .int .i64 0, .string ⟨#[]⟩, .slice none 0 0] 59 (0, 0))) ∧ gd < wy.heap.size)
     case atStart => exact ⟨0, _, Nat.zero_le _, by omega, rfl, ⟨Kd.R_nil _ _ _ _ _⟩, ⟨Below.refl _ _⟩, BD, by omega⟩
     case round =>
      rename World => wy
      obtain ⟨jj, v1, hjj, hgj, rfl, HP, HB, BDy, hszy⟩ := hrel
      by_cases hja : jj < a
      ·have hjaz : (jj : Int) < (a : Int) := by omega
       obtain ⟨A1, c1, rfl⟩ := Kd.R_slice HP.out
       have hpl : (paramsN jj).length = jj := by rw [paramsN, List.length_map, List.length_range]
       have HPl := Lib.hid hpl
       have hpl2 : (paramsN jj).length ≤ 2 := by omega
       have HNe := Lib.hid (fun (k : Nat) (hk : some k = (Value.slice A1 (paramsN jj).length c1).ownBlock) => show gd + 1 ≤ k ∧ k < wy.heap.size from ⟨((Kd.R_bound HP.out).1 _ hk.symm).2.1, ((Kd.R_bound HP.out).1 _ hk.symm).2.2.1⟩)
       obtain ⟨X, hX⟩ : ∃ X, wy.drew = X := ⟨_, rfl⟩
       have qX : Below wy.heap.size wy X := by rw [← hX]; exact below_drew (Below.refl _ _)
       have HPx := Aside0.mk (Kd.R_below HP.out qX)
       have HBx := Aside0.mk (HB.out.trans (qX.mono (by omega)))
       have BDx := Aside0.mk (blk_below BDy.out qX)
       have hzXa : X.heap.size ≤ wy.heap.size := by rw [← hX]; exact Nat.le_refl _
       have hzXb : wy.heap.size ≤ X.heap.size := by rw [← hX]; exact Nat.le_refl _
       have HC := Lib.hid (c_param jj X (by omega))
       have hSd : (fun W : World => W.cell? ⟨gd, 1, none⟩ = some (.slice A1 (paramsN jj).length c1)) X := (blk_cell BDx.out 1).trans rfl
       clear hpl qX
       go_upto_region 15 with fail
       refine wp_region_K (S := fun W : World => W.cell? ⟨gd, 1, none⟩ = some (.slice A1 (paramsN jj).length c1)) (k := 7) (by kernel_rfl) ?_
       change wpAnyK _ _ _ _ _ _ 8 (Array.replicate 8 false) _ _
       rw [hX]
       clear hX
       refine wpAnyK_take (i := 0) (v := ?_) rfl (by kernel_rfl) (by kernel_rfl) (by kernel_rfl) (by kernel_rfl) (fun _ _ _ h => h) hSd (Or.inl ⟨by rfl, ?_⟩) ?_
       rotate_left 1
       (intro w hSw; (try dsimp only at hSw); go_simp; try (with_reducible rfl))
       (try simp only [List.getElem_toArray, List.getElem_cons_succ, List.getElem_cons_zero]); (try dsimp only [Act.put]); (try simp only [List.setIfInBounds_toArray, List.set_cons_zero, List.set_cons_succ])
       refine wpAnyK_take (i := 1) (v := ?_) rfl (by kernel_rfl) (by kernel_rfl) (by kernel_rfl) (by kernel_rfl) (fun _ _ _ h => h) hSd (Or.inl ⟨by rfl, ?_⟩) ?_
       rotate_left 1
       (intro w hSw; (try dsimp only at hSw); go_simp; try (with_reducible rfl))
       (try simp only [List.getElem_toArray, List.getElem_cons_succ, List.getElem_cons_zero]); (try dsimp only [Act.put]); (try simp only [List.setIfInBounds_toArray, List.set_cons_zero, List.set_cons_succ])
       refine wpAnyK_take (i := 2) (v := ?_) rfl (by kernel_rfl) (by kernel_rfl) (by kernel_rfl) (by kernel_rfl) (fun _ _ _ h => h) hSd (Or.inl ⟨by rfl, ?_⟩) ?_
       rotate_left 1
       (intro w hSw; (try dsimp only at hSw); go_simp; try (with_reducible rfl))
       (try simp only [List.getElem_toArray, List.getElem_cons_succ, List.getElem_cons_zero]); (try dsimp only [Act.put]); (try simp only [List.setIfInBounds_toArray, List.set_cons_zero, List.set_cons_succ])
       refine wpAnyK_one (i := 3) (by kernel_rfl) rfl (fun K hK => ?_)
       go_simp
       go_at_call 76
       (with_reducible refine HC.out.mono ?_)
       rintro en wq ⟨rfl, hwq⟩
       have hwq := hwq.symm
       subst hwq
       refine hK.out _ _ (fun _ => hSd) ?_
       clear hK
       refine wpAnyK_one (i := 4) (by kernel_rfl) rfl (fun K hK => ?_)
       go_simp
       have hSd2 : (fun W : World => W.cell? ⟨gd, 1, none⟩ = some (.slice A1 (paramsN jj).length c1)) (X.alloc (.cells #[.string (paramN jj)] 9)) := pw_cell_below (below_alloc1 _ _) hSd
       refine hK.out _ _ (fun _ => hSd2) ?_
       clear hK
       refine wpAnyK_one (i := 5) (by kernel_rfl) rfl (fun K hK => ?_)
       refine Kd.R_append_step Kd.string (w0 := X) (W := X) (gd + 1) (by rfl) (.tmp 50) (.tmp 53) 30 9 _ 16 rfl Tryz.underlying30 infoTx rfl (by decide) (by decide) (.slice A1 (paramsN jj).length c1) (paramsN jj) (paramN jj) [.string (paramN jj)] (fun _ => True) (fun _ => False) rfl rfl rfl (fun _ h => h.elim) (fun _ _ => trivial) HPx.out (Below.refl _ _) (by omega) (by omega) ?_
       intro v9 w9 hR9 hB9 hg9 hat9
       rw [← paramsN_succ] at hR9
       have BD9 := Aside0.mk (blk_grown BDx.out hg9 (fun he => by have := (HNe.out _ he).1; omega))
       have HB9 := Aside0.mk (HBx.out.trans (hB9.mono (by omega)))
       have HR9 := Aside0.mk hR9
       obtain ⟨A9, c9, hv9⟩ := Kd.R_slice hR9
       subst hv9
       have hs9 := hB9.size
       have hSd : (fun W : World => W.cell? ⟨gd, 1, none⟩ = some (.slice A1 (paramsN jj).length c1)) w9 := (blk_cell BD9.out 1).trans rfl
       clear hR9 hB9 hg9 hat9 hSd2
       refine hK.out _ _ (fun _ => hSd) ?_
       clear hK
       refine wpAnyK_one (i := 6) (by kernel_rfl) rfl (fun K hK => ?_)
       go_simp
       refine hK.out _ _ (fun _ => hSd) ?_
       clear hK
       refine wpAnyK_one (i := 7) (by kernel_rfl) rfl (fun K hK => ?_)
       have k9 := (blk_cell BD9.out 1).trans rfl
       have f9 := blk_frozen BD9.out 1
       go_simp
       refine hK.out _ _ (fun h => absurd rfl h) ?_
       clear hK hSd k9 f9
       refine wpAnyK_done (by kernel_rfl) ?_ _
       go_wp2_with fail
       go_roundg (a - (jj + 1))
       case measure => omega
       case rel => exact ⟨jj + 1, _, hja, Nat.le_refl _, by go_num, ⟨Kd.R_mono (Kd.R_far (Kd.R_mono (Kd.R_bound HR9.out) (ok' := fun k => gd + 1 ≤ k) (fun k hk => hk.2.1)) (p := ⟨gd, 1, none⟩) (fun k hk => by show k ≠ gd; omega) _) (fun _ _ => trivial)⟩, ⟨HB9.out.setCell (Nat.le_refl _) _⟩, ⟨blk_put BD9.out 1 _ rfl⟩, by simp only [World.setCell, Array.size_modify]; omega⟩
      ·have hjj2 : jj = a := by omega
       subst hjj2
       obtain ⟨A1, c1, rfl, hc1, _⟩ := Kd.R_reads HP.out
       have hpl := paramsN_len jj
       have hpl2 : (paramsN jj).length ≤ 2 := by omega
       have HPl := Lib.hid hpl
       have HPy := Aside0.mk (Kd.R_mono (Kd.R_bound HP.out) (ok' := fun k => gd + 1 ≤ k ∧ k < wy.heap.size) (fun k hk => ⟨hk.2.1, hk.2.2.1⟩))
       have HQy := Aside0.mk (HQd.out.low HB.out (by have := hszx; omega))
       have B6y := Aside0.mk ((HB.out.block _ (by omega)).trans B6d.out)
       have B9y := Aside0.mk ((HB.out.block _ (by omega)).trans B9d.out)
       have HAy := Aside0.mk (Kd.F_step HArd.out (W1 := wy) (fun k hk hkl => HB.out.block k (by have h0 : k = g := hk; omega)))
       have HSy := Aside0.mk (HSd.out.low HB.out (by omega))
       have HDy := Aside0.mk (Kd.R_step HDd.out (w1 := wy) (fun k hk hkl => HB.out.block k hk.2))
       clear hpl HP HB HQd B6d B9d HArd HSd HDd
       go_upto_region 17 with fail
       go_cut [62] (fun s62 wz => ∃ b : Bool, s62 = .bool b ∧ (b = false → 0 < jj) ∧ Aside0 (Sack B A n c (11 + ii * 200) wz) ∧ Aside0 (Fr (fun k => k = B) wy wz))
       case first =>
        cases t0 : ((jj : Int) == 0) with
        | true =>
         go_wp2_with fail
         go_meet
         exact ⟨true, rfl, fun h => absurd h (by decide), ⟨HSy.out.mono (by omega)⟩, ⟨Fr.refl _ _⟩⟩
        | false =>
         have hj0 : 0 < jj := by
          have h0 : ¬ ((jj : Int) = 0) := by simpa using t0
          omega
         have HC := Lib.hid (c_Rare2 B A n c (10 + ii * 200) zs wy HSy.out (HZ0.out.fr HQy.out) (by omega))
         go_wp2_with fail
         refine HC.out.mono ?_
         rintro en wz ⟨b, rfl, hS, hF⟩
         have HSz := Aside0.mk hS
         have HFz := Aside0.mk hF
         clear hS hF HC
         go_wp2_with fail
         go_meet
         exact ⟨b, rfl, fun _ => hj0, ⟨HSz.out.mono (by omega)⟩, HFz⟩
       case rest =>
        rename World => wz
        obtain ⟨b, rfl, hb0, HSz, HFz⟩ := hcut
        have hszz := HFz.out.size
        have HQz := Aside0.mk (HQy.out.trans HFz.out)
        have B6z := Aside0.mk (HFz.out.blk B6y.out (by omega))
        have B9z := Aside0.mk (HFz.out.blk B9y.out (by omega))
        have BDz := Aside0.mk (HFz.out.blk BDy.out (by omega))
        have HAz := Aside0.mk (Kd.F_step HAy.out (W1 := wz) (fun k hk hkl => HFz.out.block k hkl (by have h0 : k = g := hk; show ¬ k = B; omega)))
        have HDz := Aside0.mk (Kd.R_step HDy.out (w1 := wz) (fun k hk hkl => HFz.out.block k hkl (by have h0 := hk.1; show ¬ k = B; omega)))
        have HPz := Aside0.mk (Kd.R_step HPy.out (w1 := wz) (fun k hk hkl => HFz.out.block k hkl (by have h0 := hk.1; show ¬ k = B; omega)))
        clear HQy B6y B9y BDy HAy HDy HPy HSy HFz
        cases b with
        | true =>
         clear hb0
         have HE := Lib.hid (show Calls Tryz.prog 78 #[.pointer (some ⟨B, 0, none⟩), .slice A1 (paramsN jj).length c1, .slice (some ⟨g, 0, none⟩) kk cap, .int .i64 2, .bool false, .bool nested] wz (fun en w' => ∃ (e : Ex) (v : Value), en = .returned (.agg #[.int .i64 e.f0, .string e.f1, v]) ∧ OwnE w' wz.heap.size v e.f2 ∧ GenE (paramsN jj) ars nested false e ∧ szE e ≤ 7 ∧ Sack B A n c (11 + ii * 200 + 17) w' ∧ Fr (fun k => k = B) wz w') from by
          rw [← HAl.out]
          exact c_Expr B A n c zs (paramsN jj) A1 c1 ars (some ⟨g, 0, none⟩) cap hc1 (by omega) (by rw [HAl.out]; exact hcap) (by rw [HAl.out]; omega) (by rw [HAl.out]; omega) har 2 (by decide) (11 + ii * 200) false nested wz HSz.out (HZ0.out.fr HQz.out) (by simp only [exD]; omega) (Kd.F_mono (Kd.R_F HPz.out) (fun k hk => by have h0 := hk.1; show k ≠ B; omega)) (by rw [HAl.out]; exact Kd.F_mono HAz.out (fun k hk => by have h0 : k = g := hk; show k ≠ B; omega)))
         have y1 := (blk_cell BDz.out 1).trans rfl
         go_wp2_with fail
         refine HE.out.mono ?_
         rintro en we ⟨e, v5, rfl, hO, hG, hz5, hS, hF⟩
         obtain ⟨A5, c5, rfl⟩ := Kd.R_slice hO
         have hse := hF.size
         have E5 := Aside0.mk (Kd.R_mono (Kd.R_bound hO) (ok' := fun k => wz.heap.size ≤ k) (fun k hk => hk.2.1))
         have BDe := Aside0.mk (hF.blk BDz.out (by omega))
         have B6e := Aside0.mk (hF.blk B6z.out (by omega))
         have B9e := Aside0.mk (hF.blk B9z.out (by omega))
         have HAe := Aside0.mk (Kd.F_step HAz.out (W1 := we) (fun k hk hkl => hF.block k hkl (by have h0 : k = g := hk; show ¬ k = B; omega)))
         have HDe := Aside0.mk (Kd.R_step HDz.out (w1 := we) (fun k hk hkl => hF.block k hkl (by have h0 := hk.1; show ¬ k = B; omega)))
         have HPe := Aside0.mk (Kd.R_step HPz.out (w1 := we) (fun k hk hkl => hF.block k hkl (by have h0 := hk.1; show ¬ k = B; omega)))
         have HQe := Aside0.mk (HQz.out.trans hF)
         have HSe := Aside0.mk hS
         have HG := Lib.hid (And.intro hG hz5)
         clear hO hG hz5 hS hF HE y1 BDz B6z B9z HAz HDz HPz HQz HSz
         have y3 := (blk_cell BDe.out 3).trans rfl
         have y4 := (blk_cell BDe.out 4).trans rfl
         have y5 := (blk_cell BDe.out 5).trans rfl
         have fy := fun i => blk_frozen BDe.out i
         obtain ⟨Wf, hWf⟩ : ∃ Wf, ((we.setCell ⟨gd, 3, none⟩ (.int .i64 e.f0)).setCell ⟨gd, 4, none⟩ (.string e.f1)).setCell ⟨gd, 5, none⟩ (.slice A5 e.f2.length c5) = Wf := ⟨_, rfl⟩
         have hst : ∀ k, k ≠ gd → Wf.heap[k]? = we.heap[k]? := fun k hk => by rw [← hWf]; exact (Below.heap_setCell _ _ _ _ hk).trans ((Below.heap_setCell _ _ _ _ hk).trans (Below.heap_setCell _ _ _ _ hk))
         have zf : Wf.heap.size = we.heap.size := by rw [← hWf]; simp only [World.setCell, Array.size_modify]
         have hbd := blk_put (blk_put (blk_put BDe.out 3 (.int .i64 e.f0) rfl) 4 (.string e.f1) rfl) 5 (.slice A5 e.f2.length c5) rfl
         rw [hWf] at hbd
         have BDf := Aside0.mk (show Wf.heap[gd]? = some (.cells #[.string nm, .slice A1 (paramsN jj).length c1, .slice none 0 0, .int .i64 e.f0, .string e.f1, .slice A5 e.f2.length c5] 59 (0, 0)) from hbd)
         have hwf : Fr (fun k => k = B) w Wf := by rw [← hWf]; exact ((HQe.out.setCell (.inr (by simp only; omega)) _).setCell (.inr (by simp only; omega)) _).setCell (.inr (by simp only; omega)) _
         have HQf := Aside0.mk hwf
         have B6f := Aside0.mk ((hst _ (by omega)).trans B6e.out)
         have B9f := Aside0.mk ((hst _ (by omega)).trans B9e.out)
         have HSf := Aside0.mk (show Sack B A n c (11 + ii * 200 + 17) Wf by
          obtain ⟨nx, st, h1, h2⟩ := HSe.out
          exact ⟨nx, st, h1, (hst _ (by omega)).trans h2⟩)
         have HAf := Aside0.mk (Kd.F_step HAe.out (W1 := Wf) (fun k hk hkl => hst k (by have h0 : k = g := hk; omega)))
         have HDf := Aside0.mk (Kd.R_step HDe.out (w1 := Wf) (fun k hk hkl => hst k (by have h0 := hk.2; omega)))
         have HPf := Aside0.mk (Kd.R_step HPe.out (w1 := Wf) (fun k hk hkl => hst k (by have h0 := hk.1; omega)))
         have E5f := Aside0.mk (Kd.R_step E5.out (w1 := Wf) (fun k hk hkl => hst k (by have h0 : wz.heap.size ≤ k := hk; omega)))
         have hzfa := Nat.le_of_eq zf
         have hzfb := Nat.le_of_eq zf.symm
         have HWf := Lib.hid hWf
         clear hWf hst zf hbd hwf BDe B6e B9e HAe HDe HPe HQe HSe E5
         go_upto_region 19 with fail
         rw [HWf.out]
         clear HWf y3 y4 y5 fy
         have HDn := Lib.hid (fun (k : Nat) (hk : some k = (Value.slice Av ds.length cv).ownBlock) => show g9 + 1 ≤ k ∧ k < gd from ((Kd.R_bound HDf.out).1 _ hk.symm).1)
         have hdl6 : ds.length ≤ 6 := by rw [HDl.out]; omega
         have HM := Aside0.mk (k59_mkM Wf (g9 + 1) (fun k => gd + 1 ≤ k) (⟨nm, paramsN jj, [], e⟩ : S59) (Kd.R_lower (Kd.R_mono HPf.out (fun k hk => hk.1)) (by omega)) (Kd.R_nil _ _ _ _ _) (Kd.R_lower (Kd.R_mono (Kd.R_bound E5f.out) (ok' := fun k => gd + 1 ≤ k) (fun k hk => by have h0 := hk.2.1; omega)) (by omega)))
         have k9 := (blk_cell B9f.out 0).trans rfl
         have x0 := (blk_cell BDf.out 0).trans rfl
         have x1 := (blk_cell BDf.out 1).trans rfl
         have x2 := (blk_cell BDf.out 2).trans rfl
         have x3 := (blk_cell BDf.out 3).trans rfl
         have x4 := (blk_cell BDf.out 4).trans rfl
         have x5 := (blk_cell BDf.out 5).trans rfl
         go_wp2_with (at_builtin; refine Kd.R_append k59 (w0 := Wf) (W := Wf) (g9 + 1) rfl (.tmp 71) (.tmp 73) 22 59 _ 112 rfl Tryz.underlying22 infoDe' rfl (by decide) (by decide) (.slice Av ds.length cv) ds (⟨nm, paramsN jj, [], e⟩ : S59) [.string nm, .slice A1 (paramsN jj).length c1, (.slice none 0 0), .int .i64 e.f0, .string e.f1, .slice A5 e.f2.length c5] (fun _ => True) (fun k => gd + 1 ≤ k) rfl rfl HM.out (fun k hk => ⟨trivial, fun he => by have h0 : gd + 1 ≤ k := hk; have := (HDn.out k he).2; omega⟩) (fun _ _ => trivial) (Kd.R_mono HDf.out (fun _ _ => trivial)) (Below.refl _ _) (by omega) (by omega) ?_; intro v9 w9 hR9 hB9 hg9 hat9; obtain ⟨A9, c9, hv9⟩ := Kd.R_slice hR9; rw [show (ds ++ [(⟨nm, paramsN jj, [], e⟩ : S59)]).length = ds.length + 1 from by simp] at hv9; subst hv9; have B99 := Aside0.mk (blk_grown B9f.out hg9 (fun he => by have := (HDn.out _ he).1; omega)); have k99 := (blk_cell B99.out 0).trans rfl; have f99 := blk_frozen B99.out 0; have HR9 := Aside0.mk hR9; have B69 := Aside0.mk ((hB9.block _ (by omega)).trans B6f.out); have HA9 := Aside0.mk (Kd.F_step HAf.out (W1 := w9) (fun k hk hkl => hB9.block k (by have h0 : k = g := hk; omega))); have HS9 := Aside0.mk (HSf.out.low hB9 (by omega)); have HQ9 := Aside0.mk (HQf.out.low hB9 (by omega)); have hs9 := hB9.size; clear hR9 hB9 hg9 hat9)
         go_roundg (kk - (ii + 1))
         case measure => omega
         case rel => exact ⟨ii + 1, ds ++ [(⟨nm, paramsN jj, [], e⟩ : S59)], _, hil, Nat.le_refl _, by go_num, ⟨by rw [List.length_append, HDl.out]; rfl⟩, ⟨Kd.R_mono (Kd.R_far (Kd.R_mono (Kd.R_bound HR9.out) (ok' := fun k => g9 + 1 ≤ k) (fun k hk => hk.2.1)) (p := ⟨g9, 0, none⟩) (fun k hk => by show k ≠ g9; omega) _) (fun _ _ => trivial)⟩, ⟨HDo.out.snoc (by rw [HDl.out]; exact ⟨HNm.out.symm, ⟨jj, HA.out, rfl⟩, (.inl ⟨rfl, HG.out.1, HG.out.2⟩)⟩)⟩, ⟨HQ9.out.setCell (.inr (by simp only; omega)) _⟩, ⟨blk_far B69.out (by simp only; omega) _⟩, ⟨blk_put B99.out 0 _ rfl⟩, ⟨Kd.F_step HA9.out (fun k hk hkl => Below.heap_setCell _ _ _ _ (by have h0 : k = g := hk; show k ≠ g9; omega))⟩, ⟨Sack.far1 (HS9.out.mono (by omega)) (by show B ≠ g9; omega)⟩, by simp only [World.setCell, Array.size_modify]; omega⟩
        | false =>
         have hj0 := hb0 rfl
         clear hb0
         go_wp2_with fail
         go_loopg [80] 3 (fun gg s80 wv => ∃ (k : Nat) (l : List (S62)) (v2 : Value), k ≤ 3 ∧ 3 - k ≤ gg ∧ s80 = .int .i64 k ∧ Aside0 (CasesOk ars nested (paramsN jj) (2 * k) l) ∧ Aside0 (0 < 2 * k → 0 < l.length) ∧ Aside0 (Kd.R k62 62 wv wz.heap.size (fun _ => True) v2 l) ∧ Aside0 (wv.heap[gd]? = some (.cells #[.string nm, .slice A1 (paramsN jj).length c1, v2, .int .i64 0, .string ⟨#[]⟩, .slice none 0 0] 59 (0, 0))) ∧ Aside0 (Fr (fun k => k = B ∨ k = gd) wz wv) ∧ Aside0 (Sack B A n c (11 + ii * 200 + (2 * k) * 20) wv))
         case atStart => exact ⟨0, [], _, Nat.zero_le _, by omega, rfl, ⟨CasesOk.nil _ _ _⟩, ⟨fun h => absurd h (by decide)⟩, ⟨Kd.R_nil _ _ _ _ _⟩, BDz, ⟨Fr.refl _ _⟩, HSz⟩
         case round =>
          rename World => wv
          obtain ⟨k, l, v2, hk3, hgk, rfl, HCs, HL0, HC, BDv, HFv, HSv⟩ := hrel
          have hszv := HFv.out.size
          by_cases hk : k < 3
          ·have hkz : (k : Int) < 3 := by omega
           obtain ⟨ha, hb, h6a, h6b, hi⟩ := idx6 k hk
           obtain ⟨gh, hgh⟩ : ∃ gh, wv.heap.size = gh := ⟨_, rfl⟩
           obtain ⟨Wh, hWh⟩ : ∃ Wh, wv.alloc (.cells #[.string ha, .string hb] 70) = Wh := ⟨_, rfl⟩
           have qh : Below wv.heap.size wv Wh := by rw [← hWh]; exact below_alloc1 _ _
           have zh : Wh.heap.size = gh + 1 := by rw [← hWh, ← hgh]; simp
           have BH := Aside0.mk (show Wh.heap[gh]? = some (.cells #[.string ha, .string hb] 70 (0, 0)) by rw [← hWh, ← hgh]; exact alloc_at _ _)
           have HCh := Aside0.mk (Kd.R_below HC.out qh)
           have BDh := Aside0.mk (blk_below BDv.out qh)
           have HFh := Aside0.mk (HFv.out.after_below qh)
           have HSh := Aside0.mk (HSv.out.below qh)
           have hgha := Nat.le_of_eq hgh
           have hzha := Nat.le_of_eq zh
           have hzhb := Nat.le_of_eq zh.symm
           have HWh := Lib.hid hWh
           have H6 := Lib.hid (And.intro h6a h6b)
           clear hWh qh zh h6a h6b HC BDv HFv HSv
           go_upto_region 23 with fail
           rw [HWh.out]
           clear HWh hgh hi
           have x0 := (blk_cell BH.out 0).trans rfl
           have x1 := (blk_cell BH.out 1).trans rfl
           go_wp2_with fail
           clear x0 x1 BH
           go_loopg [85] 2 (fun gg s85 wv => ∃ (j : Nat) (l : List (S62)) (v2 : Value), j ≤ 2 ∧ 2 - j ≤ gg ∧ s85 = .int .i64 j ∧ Aside0 (CasesOk ars nested (paramsN jj) (2 * k + j) l) ∧ Aside0 (0 < 2 * k + j → 0 < l.length) ∧ Aside0 (Kd.R k62 62 wv wz.heap.size (fun _ => True) v2 l) ∧ Aside0 (wv.heap[gd]? = some (.cells #[.string nm, .slice A1 (paramsN jj).length c1, v2, .int .i64 0, .string ⟨#[]⟩, .slice none 0 0] 59 (0, 0))) ∧ Aside0 (Fr (fun k => k = B ∨ k = gd) wz wv) ∧ Aside0 (Sack B A n c (11 + ii * 200 + (2 * k + j) * 20) wv))
           case atStart => exact ⟨0, l, _, Nat.zero_le _, by omega, rfl, HCs, HL0, HCh, BDh, HFh, HSh⟩
           case round =>
            clear HCs HL0 HCh BDh HFh HSh
            rename World => wv
            obtain ⟨j, l, v2, hj2, hgj2, rfl, HCs, HL0, HC, BDv, HFv, HSv⟩ := hrel
            have hszv2 := HFv.out.size
            by_cases hj : j < 2
            ·have hjz : (j : Int) < 2 := by omega
             obtain ⟨hd, h6, hi⟩ := idxh ha hb k j H6.out.1 H6.out.2 hj
             obtain ⟨A2, c2, rfl⟩ := Kd.R_slice HC.out
             have H6j := Lib.hid h6
             have hll := HCs.out.len
             have HQv := Lib.hid (show Fr (fun k => k = B) w wv from Fr.two HQz.out HFv.out (by omega))
             clear h6
             go_upto_region 26 with fail
             clear hi
             go_cut [95] (fun s95 wu => ∃ b : Bool, s95 = .bool b ∧ (b = true → 0 < l.length) ∧ Aside0 (Sack B A n c (11 + ii * 200 + (2 * k + j) * 20 + 1) wu) ∧ Aside0 (Fr (fun k => k = B) wv wu))
             case first =>
              have y2 := (blk_cell BDv.out 2).trans rfl
              cases t0 : decide (0 < l.length) with
              | false =>
               go_wp2_with fail
               go_meet
               exact ⟨false, rfl, fun h => absurd h (by decide), ⟨HSv.out.mono (by omega)⟩, ⟨Fr.refl _ _⟩⟩
              | true =>
               have hl0 : 0 < l.length := of_decide_eq_true t0
               have HR := Lib.hid (c_Rare3 B A n c _ zs wv HSv.out (HZ0.out.fr HQv.out) (by omega))
               go_wp2_with fail
               refine HR.out.mono ?_
               rintro en wu ⟨b, rfl, hS, hF⟩
               have HSu := Aside0.mk hS
               have HFu := Aside0.mk hF
               clear hS hF HR
               go_wp2_with fail
               go_meet
               exact ⟨b, rfl, fun _ => hl0, HSu, HFu⟩
             case rest =>
              rename World => wu
              obtain ⟨b, rfl, hbl, HSu, HFu⟩ := hcut
              have HCu := Aside0.mk (Kd.R_step (Kd.R_bound HC.out) (w1 := wu) (fun k hk hkl => HFu.out.block k hkl (by have h0 := hk.2.1; show ¬ k = B; omega)))
              have BDu := Aside0.mk (HFu.out.blk BDv.out (by omega))
              have HFz := Aside0.mk (HFv.out.trans (HFu.out.mono (fun k hk => .inl hk)))
              have hszu := HFu.out.size
              clear HC BDv HFv HSv
              cases b with
              | true =>
               have hl0 := hbl rfl
               go_wp2_with fail
               go_roundg (2 - (j + 1))
               case measure => omega
               case rel => exact ⟨j + 1, l, _, hj, Nat.le_refl _, by go_num, ⟨HCs.out.skip⟩, ⟨fun _ => hl0⟩, ⟨Kd.R_mono HCu.out (fun _ _ => trivial)⟩, BDu, HFz, ⟨HSu.out.mono (by omega)⟩⟩
              | false =>
               clear hbl
               obtain ⟨gc, hgc⟩ : ∃ gc, wu.heap.size = gc := ⟨_, rfl⟩
               obtain ⟨Wc, hWc⟩ : ∃ Wc, wu.alloc (.cells #[.string hd, .slice none 0 0, .int .i64 0, .string ⟨#[]⟩, .slice none 0 0] 62) = Wc := ⟨_, rfl⟩
               have qc : Below wu.heap.size wu Wc := by rw [← hWc]; exact below_alloc1 _ _
               have zc : Wc.heap.size = gc + 1 := by rw [← hWc, ← hgc]; simp
               have BC := Aside0.mk (show Wc.heap[gc]? = some (.cells #[.string hd, .slice none 0 0, .int .i64 0, .string ⟨#[]⟩, .slice none 0 0] 62 (0, 0)) by rw [← hWc, ← hgc]; exact alloc_at _ _)
               have HCc := Aside0.mk (Kd.R_mono (Kd.R_below (Kd.R_bound HCu.out) qc) (ok' := fun k => wz.heap.size ≤ k ∧ k < gc) (fun k hk => ⟨hk.2.1, by have := hk.2.2.1; omega⟩))
               have BDc := Aside0.mk (blk_below BDu.out qc)
               have HFc := Aside0.mk (HFz.out.after_below qc)
               have HSc := Aside0.mk (HSu.out.below qc)
               have hgca := Nat.le_of_eq hgc
               have hgcb := Nat.le_of_eq hgc.symm
               have hzca := Nat.le_of_eq zc
               have hzcb := Nat.le_of_eq zc.symm
               have HWc := Lib.hid hWc
               have hk2 : k ≤ 2 := by omega
               clear hWc qc zc HCu BDu HFz HSu HFu
               go_upto_region 28 with fail
               rw [HWc.out]
               clear HWc hgc
               go_wp2_with fail
               go_loopg [99] k (fun gg s99 wq => ∃ (mm : Nat) (v3 : Value), mm ≤ k ∧ k - mm ≤ gg ∧ s99 = .int .i64 mm ∧ Aside0 (Kd.R Kd.string 9 wq (gc + 1) (fun _ => True) v3 (varsN mm)) ∧ Aside0 (Below gc Wc wq) ∧ Aside0 (wq.heap[gc]? = some (.cells #[.string hd, v3, .int .i64 0, .string ⟨#[]⟩, .slice none 0 0] 62 (0, 0))) ∧ gc < wq.heap.size)
               case atStart => exact ⟨0, _, Nat.zero_le _, by omega, rfl, ⟨Kd.R_nil _ _ _ _ _⟩, ⟨Below.refl _ _⟩, BC, by omega⟩
               case round =>
                rename World => wq
                obtain ⟨mm, v3, hmm, hgm, rfl, HV, HB, BCq, hszq⟩ := hrel
                obtain ⟨A3, c3, rfl, hc3, _⟩ := Kd.R_reads HV.out
                have hvl := varsN_len (show mm ≤ 2 by omega)
                have hvl2 : (varsN mm).length ≤ 2 := by omega
                have HVl := Lib.hid hvl
                clear hvl
                by_cases hmk : mm < k
                ·have hmkz : (mm : Int) < (k : Int) := by omega
                 have hm2z : (mm : Int) < 2 := by omega
                 have hm0z : (0 : Int) ≤ (mm : Int) := by omega
                 obtain ⟨s, hs, hvs⟩ := varsN_succ (show mm < 2 by omega)
                 have HNe := Lib.hid (fun (k : Nat) (hk : some k = (Value.slice A3 (varsN mm).length c3).ownBlock) => show gc + 1 ≤ k ∧ k < wq.heap.size from ⟨((Kd.R_bound HV.out).1 _ hk.symm).2.1, ((Kd.R_bound HV.out).1 _ hk.symm).2.2.1⟩)
                 obtain ⟨X, hX⟩ : ∃ X, wq.drew = X := ⟨_, rfl⟩
                 have qX : Below wq.heap.size wq X := by rw [← hX]; exact below_drew (Below.refl _ _)
                 have HVx := Aside0.mk (Kd.R_below HV.out qX)
                 have HBx := Aside0.mk (HB.out.trans (qX.mono (by omega)))
                 have BCx := Aside0.mk (blk_below BCq.out qX)
                 have hzXa : X.heap.size ≤ wq.heap.size := by rw [← hX]; exact Nat.le_refl _
                 have hzXb : wq.heap.size ≤ X.heap.size := by rw [← hX]; exact Nat.le_refl _
                 have hSd : (fun W : World => W.cell? ⟨gc, 1, none⟩ = some (.slice A3 (varsN mm).length c3)) X := (blk_cell BCx.out 1).trans rfl
                 have Hs := Lib.hid (And.intro hs hvs)
                 clear qX hs hvs
                 go_upto_region 31 with fail
                 refine wp_region_K (S := (fun W : World => W.cell? ⟨gc, 1, none⟩ = some (.slice A3 (varsN mm).length c3))) (k := 9) (by kernel_rfl) ?_
                 change wpAnyK _ _ _ _ _ _ 10 (Array.replicate 10 false) _ _
                 rw [hX]
                 clear hX
                 refine wpAnyK_take (i := 0) (v := ?_) rfl (by kernel_rfl) (by kernel_rfl) (by kernel_rfl) (by kernel_rfl) (fun _ _ _ h => h) hSd (Or.inl ⟨by rfl, ?_⟩) ?_
                 rotate_left 1
                 (intro w hSw; (try dsimp only at hSw); go_simp; try (with_reducible rfl))
                 (try simp only [List.getElem_toArray, List.getElem_cons_succ, List.getElem_cons_zero]); (try dsimp only [Act.put]); (try simp only [List.setIfInBounds_toArray, List.set_cons_zero, List.set_cons_succ])
                 refine wpAnyK_take (i := 1) (v := ?_) rfl (by kernel_rfl) (by kernel_rfl) (by kernel_rfl) (by kernel_rfl) (fun _ _ _ h => h) hSd (Or.inl ⟨by rfl, ?_⟩) ?_
                 rotate_left 1
                 (intro w hSw; (try dsimp only at hSw); go_simp; try (with_reducible rfl))
                 (try simp only [List.getElem_toArray, List.getElem_cons_succ, List.getElem_cons_zero]); (try dsimp only [Act.put]); (try simp only [List.setIfInBounds_toArray, List.set_cons_zero, List.set_cons_succ])
                 refine wpAnyK_take (i := 3) (v := ?_) rfl (by kernel_rfl) (by kernel_rfl) (by kernel_rfl) (by kernel_rfl) (fun _ _ _ h => h) hSd (Or.inl ⟨by rfl, ?_⟩) ?_
                 rotate_left 1
                 (intro w hSw; (try dsimp only at hSw); go_simp; try (with_reducible rfl))
                 (try simp only [List.getElem_toArray, List.getElem_cons_succ, List.getElem_cons_zero]); (try dsimp only [Act.put]); (try simp only [List.setIfInBounds_toArray, List.set_cons_zero, List.set_cons_succ])
                 refine wpAnyK_one (i := 2) (by kernel_rfl) rfl (fun K hK => ?_)
                 go_simp
                 obtain ⟨X1, hX1⟩ : ∃ X1, X.alloc (.cells #[.string ⟨#[104]⟩, .string ⟨#[116]⟩] 9) = X1 := ⟨_, rfl⟩
                 obtain ⟨gl, hgl⟩ : ∃ gl, X.heap.size = gl := ⟨_, rfl⟩
                 have q1 : Below X.heap.size X X1 := by rw [← hX1]; exact below_alloc1 _ _
                 have BL := Aside0.mk (show X1.heap[gl]? = some (.cells #[.string ⟨#[104]⟩, .string ⟨#[116]⟩] 9 (0, 0)) by rw [← hX1, ← hgl]; exact alloc_at _ _)
                 have HVx := Aside0.mk (Kd.R_below HVx.out q1)
                 have HBx := Aside0.mk (HBx.out.trans (q1.mono (by omega)))
                 have BCx := Aside0.mk (blk_below BCx.out q1)
                 have hs1 := q1.size
                 have hgla := Nat.le_of_eq hgl
                 rw [hX1, hgl]
                 have hSd : (fun W : World => W.cell? ⟨gc, 1, none⟩ = some (.slice A3 (varsN mm).length c3)) X1 := (blk_cell BCx.out 1).trans rfl
                 refine hK.out _ _ (fun _ => hSd) ?_
                 clear hK hX1 q1 hgl
                 have hy := vt_cell BL.out (show mm < 2 by omega) Hs.out.1
                 refine wpAnyK_one (i := 4) (by kernel_rfl) rfl (fun K hK => ?_)
                 go_simp
                 refine hK.out _ _ (fun _ => hSd) ?_
                 clear hK
                 refine wpAnyK_one (i := 5) (by kernel_rfl) rfl (fun K hK => ?_)
                 go_simp
                 refine hK.out _ _ (fun _ => hSd) ?_
                 clear hK
                 clear hy
                 refine wpAnyK_one (i := 6) (by kernel_rfl) rfl (fun K hK => ?_)
                 go_simp
                 have hSd2 : (fun W : World => W.cell? ⟨gc, 1, none⟩ = some (.slice A3 (varsN mm).length c3)) (X1.alloc (.cells #[.string s] 9)) := pw_cell_below (below_alloc1 _ _) hSd
                 refine hK.out _ _ (fun _ => hSd2) ?_
                 clear hK
                 refine wpAnyK_one (i := 7) (by kernel_rfl) rfl (fun K hK => ?_)
                 refine Kd.R_append_step Kd.string (w0 := X1) (W := X1) (gc + 1) (by rfl) (.tmp 103) (.tmp 108) 30 9 _ 16 rfl Tryz.underlying30 infoTx rfl (by decide) (by decide) (.slice A3 (varsN mm).length c3) (varsN mm) s [.string s] (fun _ => True) (fun _ => False) rfl rfl rfl (fun _ h => h.elim) (fun _ _ => trivial) HVx.out (Below.refl _ _) (by omega) (by omega) ?_
                 intro v9 w9 hR9 hB9 hg9 hat9
                 rw [← Hs.out.2] at hR9
                 have BC9 := Aside0.mk (blk_grown BCx.out hg9 (fun he => by have := (HNe.out _ he).1; omega))
                 have HB9 := Aside0.mk (HBx.out.trans (hB9.mono (by omega)))
                 have HR9 := Aside0.mk hR9
                 obtain ⟨A9, c9, hv9⟩ := Kd.R_slice hR9
                 subst hv9
                 have hs9 := hB9.size
                 have hSd : (fun W : World => W.cell? ⟨gc, 1, none⟩ = some (.slice A3 (varsN mm).length c3)) w9 := (blk_cell BC9.out 1).trans rfl
                 clear hR9 hB9 hg9 hat9 hSd2
                 refine hK.out _ _ (fun _ => hSd) ?_
                 clear hK
                 refine wpAnyK_one (i := 8) (by kernel_rfl) rfl (fun K hK => ?_)
                 go_simp
                 refine hK.out _ _ (fun _ => hSd) ?_
                 clear hK
                 refine wpAnyK_one (i := 9) (by kernel_rfl) rfl (fun K hK => ?_)
                 have k9 := (blk_cell BC9.out 1).trans rfl
                 have f9 := blk_frozen BC9.out 1
                 go_simp
                 refine hK.out _ _ (fun h => absurd rfl h) ?_
                 clear hK hSd k9 f9
                 refine wpAnyK_done (by kernel_rfl) ?_ _
                 go_wp2_with fail
                 go_roundg (k - (mm + 1))
                 case measure => omega
                 case rel => exact ⟨mm + 1, _, hmk, Nat.le_refl _, by go_num, ⟨Kd.R_mono (Kd.R_far (Kd.R_mono (Kd.R_bound HR9.out) (ok' := fun k => gc + 1 ≤ k) (fun k hk => hk.2.1)) (p := ⟨gc, 1, none⟩) (fun k hk => by show k ≠ gc; omega) _) (fun _ _ => trivial)⟩, ⟨HB9.out.setCell (Nat.le_refl _) _⟩, ⟨blk_put BC9.out 1 _ rfl⟩, by simp only [World.setCell, Array.size_modify]; omega⟩
                ·have hmk2 : mm = k := by omega
                 subst hmk2
                 have HFq := Aside0.mk (HFc.out.low HB.out (by omega))
                 have HSq := Aside0.mk (HSc.out.low HB.out (by omega))
                 have BDq := Aside0.mk ((HB.out.block _ (by omega)).trans BDc.out)
                 have HCq := Aside0.mk (Kd.R_step HCc.out (w1 := wq) (fun k hk hkl => HB.out.block k hk.2))
                 have HPq := Aside0.mk (Kd.R_step HPz.out (w1 := wq) (fun k hk hkl => HFq.out.block k hkl (by have h0 := hk.1; rintro (h | h) <;> omega)))
                 have HAq := Aside0.mk (Kd.F_step HAz.out (W1 := wq) (fun k hk hkl => HFq.out.block k hkl (by have h0 : k = g := hk; rintro (h | h) <;> omega)))
                 have HQq := Aside0.mk (Fr.two HQz.out HFq.out (by omega))
                 clear HFc HSc BDc HCc HB
                 obtain ⟨X, hX⟩ : ∃ X, wq.drew = X := ⟨_, rfl⟩
                 have qX : Below wq.heap.size wq X := by rw [← hX]; exact below_drew (Below.refl _ _)
                 have hzXb := qX.size
                 have hzXa : X.heap.size ≤ wq.heap.size := by rw [← hX]; exact Nat.le_refl _
                 have HVx := Aside0.mk (Kd.R_mono (Kd.R_below (Kd.R_bound HV.out) qX) (ok' := fun k => gc + 1 ≤ k ∧ k < X.heap.size) (fun k hk => ⟨hk.2.1, by have := hk.2.2.1; omega⟩))
                 have HPx := Aside0.mk (Kd.R_below HPq.out qX)
                 have HAx := Aside0.mk (Kd.F_below HAq.out qX)
                 have HCx := Aside0.mk (Kd.R_below HCq.out qX)
                 have BCx := Aside0.mk (blk_below BCq.out qX)
                 have BDx := Aside0.mk (blk_below BDq.out qX)
                 have HSx := Aside0.mk (HSq.out.below qX)
                 have HQx := Aside0.mk (HQq.out.after_below qX)
                 have HFx := Aside0.mk (HFq.out.after_below qX)
                 have hSd : (fun W : World => W.cell? ⟨gd, 1, none⟩ = some (.slice A1 (paramsN jj).length c1) ∧ W.cell? ⟨gc, 1, none⟩ = some (.slice A3 (varsN mm).length c3)) X := ⟨(blk_cell BDx.out 1).trans rfl, (blk_cell BCx.out 1).trans rfl⟩
                 have HCD := Lib.hid (c_Dup A1 c1 (paramsN jj) X (Kd.R_reads' HPx.out).2.2 hc1 (by omega))
                 clear HFq HSq BDq HCq HPq HAq HQq HV BCq qX
                 go_upto_region 33 with fail
                 refine wp_region_K (S := (fun W : World => W.cell? ⟨gd, 1, none⟩ = some (.slice A1 (paramsN jj).length c1) ∧ W.cell? ⟨gc, 1, none⟩ = some (.slice A3 (varsN mm).length c3))) (k := 11) (by kernel_rfl) ?_
                 change wpAnyK _ _ _ _ _ _ 12 (Array.replicate 12 false) _ _
                 rw [hX]
                 clear hX
                 refine wpAnyK_take (i := 0) (v := ?_) rfl (by kernel_rfl) (by kernel_rfl) (by kernel_rfl) (by kernel_rfl) (fun _ _ _ h => h) hSd (Or.inl ⟨by rfl, ?_⟩) ?_
                 rotate_left 1
                 (intro w hSw; (try dsimp only at hSw); go_simp; try (with_reducible rfl))
                 (try simp only [List.getElem_toArray, List.getElem_cons_succ, List.getElem_cons_zero]); (try dsimp only [Act.put]); (try simp only [List.setIfInBounds_toArray, List.set_cons_zero, List.set_cons_succ])
                 refine wpAnyK_take (i := 1) (v := ?_) rfl (by kernel_rfl) (by kernel_rfl) (by kernel_rfl) (by kernel_rfl) (fun _ _ _ h => h) hSd (Or.inl ⟨by rfl, ?_⟩) ?_
                 rotate_left 1
                 (intro w hSw; (try dsimp only at hSw); go_simp; try (with_reducible rfl))
                 (try simp only [List.getElem_toArray, List.getElem_cons_succ, List.getElem_cons_zero]); (try dsimp only [Act.put]); (try simp only [List.setIfInBounds_toArray, List.set_cons_zero, List.set_cons_succ])
                 refine wpAnyK_take (i := 2) (v := ?_) rfl (by kernel_rfl) (by kernel_rfl) (by kernel_rfl) (by kernel_rfl) (fun _ _ _ h => h) hSd (Or.inl ⟨by rfl, ?_⟩) ?_
                 rotate_left 1
                 (intro w hSw; (try dsimp only at hSw); go_simp; try (with_reducible rfl))
                 (try simp only [List.getElem_toArray, List.getElem_cons_succ, List.getElem_cons_zero]); (try dsimp only [Act.put]); (try simp only [List.setIfInBounds_toArray, List.set_cons_zero, List.set_cons_succ])
                 refine wpAnyK_take (i := 4) (v := ?_) rfl (by kernel_rfl) (by kernel_rfl) (by kernel_rfl) (by kernel_rfl) (fun _ _ _ h => h) hSd (Or.inl ⟨by rfl, ?_⟩) ?_
                 rotate_left 1
                 (intro w hSw; (try dsimp only at hSw); go_simp; try (with_reducible rfl))
                 (try simp only [List.getElem_toArray, List.getElem_cons_succ, List.getElem_cons_zero]); (try dsimp only [Act.put]); (try simp only [List.setIfInBounds_toArray, List.set_cons_zero, List.set_cons_succ])
                 refine wpAnyK_take (i := 5) (v := ?_) rfl (by kernel_rfl) (by kernel_rfl) (by kernel_rfl) (by kernel_rfl) (fun _ _ _ h => h) hSd (Or.inl ⟨by rfl, ?_⟩) ?_
                 rotate_left 1
                 (intro w hSw; (try dsimp only at hSw); go_simp; try (with_reducible rfl))
                 (try simp only [List.getElem_toArray, List.getElem_cons_succ, List.getElem_cons_zero]); (try dsimp only [Act.put]); (try simp only [List.setIfInBounds_toArray, List.set_cons_zero, List.set_cons_succ])
                 refine wpAnyK_take (i := 7) (v := ?_) rfl (by kernel_rfl) (by kernel_rfl) (by kernel_rfl) (by kernel_rfl) (fun _ _ _ h => h) hSd (Or.inl ⟨by rfl, ?_⟩) ?_
                 rotate_left 1
                 (intro w hSw; (try dsimp only at hSw); go_simp; try (with_reducible rfl))
                 (try simp only [List.getElem_toArray, List.getElem_cons_succ, List.getElem_cons_zero]); (try dsimp only [Act.put]); (try simp only [List.setIfInBounds_toArray, List.set_cons_zero, List.set_cons_succ])
                 refine wpAnyK_take (i := 8) (v := ?_) rfl (by kernel_rfl) (by kernel_rfl) (by kernel_rfl) (by kernel_rfl) (fun _ _ _ h => h) hSd (Or.inl ⟨by rfl, ?_⟩) ?_
                 rotate_left 1
                 (intro w hSw; (try dsimp only at hSw); go_simp; try (with_reducible rfl))
                 (try simp only [List.getElem_toArray, List.getElem_cons_succ, List.getElem_cons_zero]); (try dsimp only [Act.put]); (try simp only [List.setIfInBounds_toArray, List.set_cons_zero, List.set_cons_succ])
                 refine wpAnyK_one (i := 3) (by kernel_rfl) rfl (fun K hK => ?_)
                 go_simp
                 go_at_call 79
                 (with_reducible refine HCD.out.mono ?_)
                 rintro en X1 ⟨v4, rfl, hO4, hb⟩
                 obtain ⟨A4, c4, rfl⟩ := Kd.R_slice hO4
                 have HO4 := Aside0.mk hO4
                 have hs1 := hb.size
                 have HVx := Aside0.mk (Kd.R_below HVx.out hb)
                 have HPx := Aside0.mk (Kd.R_below HPx.out hb)
                 have HAx := Aside0.mk (Kd.F_below HAx.out hb)
                 have HCx := Aside0.mk (Kd.R_below HCx.out hb)
                 have BCx := Aside0.mk (blk_below BCx.out hb)
                 have BDx := Aside0.mk (blk_below BDx.out hb)
                 have HSx := Aside0.mk (HSx.out.below hb)
                 have HQx := Aside0.mk (HQx.out.after_below hb)
                 have HFx := Aside0.mk (HFx.out.after_below hb)
                 have hSd : (fun W : World => W.cell? ⟨gd, 1, none⟩ = some (.slice A1 (paramsN jj).length c1) ∧ W.cell? ⟨gc, 1, none⟩ = some (.slice A3 (varsN mm).length c3)) X1 := ⟨(blk_cell BDx.out 1).trans rfl, (blk_cell BCx.out 1).trans rfl⟩
                 clear hO4 hb HCD
                 refine hK.out _ _ (fun _ => hSd) ?_
                 clear hK
                 refine wpAnyK_one (i := 6) (by kernel_rfl) rfl (fun K hK => ?_)
                 refine Kd.R_append_rows_step Kd.string (w0 := X1) (W := X1) X.heap.size (by rfl) (.tmp 115) (.tmp 117) 30 9 (.string ⟨#[]⟩) 16 rfl Tryz.underlying30 infoTx rfl (by decide) (by decide) (.slice A4 (paramsN jj).length c4) (paramsN jj) (varsN mm) A3 (varsN mm).length c3 (fun _ => True) (fun _ => False) rfl rfl HO4.out (Kd.R_reads' HVx.out).2.2 (fun _ _ h => h) (fun _ h => h.elim) (fun _ _ => trivial) (Below.refl _ _) hs1 (by omega) ?_
                 intro v6 X2 hR6 hB6 hg6 hat6
                 obtain ⟨A6, c6, rfl, hc6, _⟩ := Kd.R_reads hR6
                 have HNb := fun (k : Nat) (hk : some k = (Value.slice A4 (paramsN jj).length c4).ownBlock) => show X.heap.size ≤ k from ((Kd.R_bound HO4.out).1 _ hk.symm).2.1
                 have HR6 := Aside0.mk hR6
                 have hs2 := hB6.size
                 have HVx := Aside0.mk (Kd.R_step HVx.out (w1 := X2) (fun k hk hkl => hB6.block k hk.2))
                 have HPx := Aside0.mk (Kd.R_step HPx.out (w1 := X2) (fun k hk hkl => hB6.block k (by have h0 := hk.2; omega)))
                 have HAx := Aside0.mk (Kd.F_step HAx.out (W1 := X2) (fun k hk hkl => hB6.block k (by have h0 : k = g := hk; omega)))
                 have HCx := Aside0.mk (Kd.R_step HCx.out (w1 := X2) (fun k hk hkl => hB6.block k (by have h0 := hk.2; omega)))
                 have BCx := Aside0.mk ((hB6.block _ (by omega)).trans BCx.out)
                 have BDx := Aside0.mk ((hB6.block _ (by omega)).trans BDx.out)
                 have HSx := Aside0.mk (HSx.out.low hB6 (by omega))
                 have HQx := Aside0.mk (HQx.out.low hB6 (by omega))
                 have HFx := Aside0.mk (HFx.out.low hB6 (by omega))
                 have hSd : (fun W : World => W.cell? ⟨gd, 1, none⟩ = some (.slice A1 (paramsN jj).length c1) ∧ W.cell? ⟨gc, 1, none⟩ = some (.slice A3 (varsN mm).length c3)) X2 := ⟨(blk_cell BDx.out 1).trans rfl, (blk_cell BCx.out 1).trans rfl⟩
                 have hlen6 : (paramsN jj ++ varsN mm).length ≤ 4 := by rw [List.length_append]; omega
                 have HE := Lib.hid (show Calls Tryz.prog 78 #[.pointer (some ⟨B, 0, none⟩), .slice A6 (paramsN jj ++ varsN mm).length c6, .slice (some ⟨g, 0, none⟩) kk cap, .int .i64 2, .bool false, .bool nested] X2 (fun en w' => ∃ (e : Ex) (v : Value), en = .returned (.agg #[.int .i64 e.f0, .string e.f1, v]) ∧ OwnE w' X2.heap.size v e.f2 ∧ GenE (paramsN jj ++ varsN mm) ars nested false e ∧ szE e ≤ 7 ∧ Sack B A n c (11 + ii * 200 + (2 * mm + j) * 20 + 1 + 17) w' ∧ Fr (fun k => k = B) X2 w') from by
                  rw [← HAl.out]
                  exact c_Expr B A n c zs (paramsN jj ++ varsN mm) A6 c6 ars (some ⟨g, 0, none⟩) cap hc6 (by omega) (by rw [HAl.out]; exact hcap) (by rw [HAl.out]; omega) (by rw [HAl.out]; omega) har 2 (by decide) (11 + ii * 200 + (2 * mm + j) * 20 + 1) false nested X2 HSx.out (HZ0.out.fr HQx.out) (by simp only [exD]; omega) (Kd.F_mono (Kd.R_F (Kd.R_bound HR6.out)) (fun k hk => by have h0 := hk.2.1; show k ≠ B; omega)) (by rw [HAl.out]; exact Kd.F_mono HAx.out (fun k hk => by have h0 : k = g := hk; show k ≠ B; omega)))
                 clear hR6 hB6 hg6 hat6 HNb
                 obtain ⟨ln, hln⟩ : ∃ ln, (paramsN jj ++ varsN mm).length = ln := ⟨_, rfl⟩
                 rw [hln] at HE
                 refine hK.out _ _ (fun _ => hSd) ?_
                 clear hK
                 refine wpAnyK_one (i := 9) (by kernel_rfl) rfl (fun K hK => ?_)
                 go_simp
                 go_at_call 78
                 (with_reducible refine HE.out.mono ?_)
                 rintro en X3 ⟨e, v5, rfl, hO, hG, hz5, hS, hF⟩
                 obtain ⟨A5, c5, rfl⟩ := Kd.R_slice hO
                 have hs3 := hF.size
                 have E5 := Aside0.mk (Kd.R_mono (Kd.R_bound hO) (ok' := fun k => X2.heap.size ≤ k) (fun k hk => hk.2.1))
                 have HVx := Aside0.mk (Kd.R_step HVx.out (w1 := X3) (fun k hk hkl => hF.block k hkl (by have h0 := hk.1; show ¬ k = B; omega)))
                 have HPx := Aside0.mk (Kd.R_step HPx.out (w1 := X3) (fun k hk hkl => hF.block k hkl (by have h0 := hk.1; show ¬ k = B; omega)))
                 have HAx := Aside0.mk (Kd.F_step HAx.out (W1 := X3) (fun k hk hkl => hF.block k hkl (by have h0 : k = g := hk; show ¬ k = B; omega)))
                 have HCx := Aside0.mk (Kd.R_step HCx.out (w1 := X3) (fun k hk hkl => hF.block k hkl (by have h0 := hk.1; show ¬ k = B; omega)))
                 have BCx := Aside0.mk (hF.blk BCx.out (by omega))
                 have BDx := Aside0.mk (hF.blk BDx.out (by omega))
                 have HSx := Aside0.mk hS
                 have HQx := Aside0.mk (HQx.out.trans hF)
                 have HFx := Aside0.mk (HFx.out.trans (hF.mono (fun k hk => .inl hk)))
                 have HG := Lib.hid (And.intro hG hz5)
                 have hSd : (fun W : World => W.cell? ⟨gd, 1, none⟩ = some (.slice A1 (paramsN jj).length c1) ∧ W.cell? ⟨gc, 1, none⟩ = some (.slice A3 (varsN mm).length c3)) X3 := ⟨(blk_cell BDx.out 1).trans rfl, (blk_cell BCx.out 1).trans rfl⟩
                 clear hO hG hz5 hS hF HE
                 refine hK.out _ _ (fun _ => hSd) ?_
                 clear hK
                 refine wpAnyK_one (i := 10) (by kernel_rfl) rfl (fun K hK => ?_)
                 go_simp
                 refine hK.out _ _ (fun _ => hSd) ?_
                 clear hK
                 refine wpAnyK_one (i := 11) (by kernel_rfl) rfl (fun K hK => ?_)
                 have y2 := (blk_cell BCx.out 2).trans rfl
                 have y3 := (blk_cell BCx.out 3).trans rfl
                 have y4 := (blk_cell BCx.out 4).trans rfl
                 have fy := fun i => blk_frozen BCx.out i
                 go_simp
                 refine hK.out _ _ (fun h => absurd rfl h) ?_
                 clear hK hSd y2 y3 y4 fy
                 refine wpAnyK_done (by kernel_rfl) ?_ _
                 obtain ⟨Wg, hWg⟩ : ∃ Wg, ((X3.setCell ⟨gc, 2, none⟩ (.int .i64 e.f0)).setCell ⟨gc, 3, none⟩ (.string e.f1)).setCell ⟨gc, 4, none⟩ (.slice A5 e.f2.length c5) = Wg := ⟨_, rfl⟩
                 have hst : ∀ k, k ≠ gc → Wg.heap[k]? = X3.heap[k]? := fun k hk => by rw [← hWg]; exact (Below.heap_setCell _ _ _ _ hk).trans ((Below.heap_setCell _ _ _ _ hk).trans (Below.heap_setCell _ _ _ _ hk))
                 have zg : Wg.heap.size = X3.heap.size := by rw [← hWg]; simp only [World.setCell, Array.size_modify]
                 have hbc := blk_put (blk_put (blk_put BCx.out 2 (.int .i64 e.f0) rfl) 3 (.string e.f1) rfl) 4 (.slice A5 e.f2.length c5) rfl
                 have hwq := ((HQx.out.setCell (p := ⟨gc, 2, none⟩) (.inr (by simp only; omega)) (.int .i64 e.f0)).setCell (p := ⟨gc, 3, none⟩) (.inr (by simp only; omega)) (.string e.f1)).setCell (p := ⟨gc, 4, none⟩) (.inr (by simp only; omega)) (.slice A5 e.f2.length c5)
                 have hwf := ((HFx.out.setCell (p := ⟨gc, 2, none⟩) (.inr (by simp only; omega)) (.int .i64 e.f0)).setCell (p := ⟨gc, 3, none⟩) (.inr (by simp only; omega)) (.string e.f1)).setCell (p := ⟨gc, 4, none⟩) (.inr (by simp only; omega)) (.slice A5 e.f2.length c5)
                 rw [hWg] at hbc hwq hwf ⊢
                 have BCg := Aside0.mk (show Wg.heap[gc]? = some (.cells #[.string hd, .slice A3 (varsN mm).length c3, .int .i64 e.f0, .string e.f1, .slice A5 e.f2.length c5] 62 (0, 0)) from hbc)
                 have BDg := Aside0.mk ((hst _ (by omega)).trans BDx.out)
                 have HFg := Aside0.mk hwf
                 have HSg := Aside0.mk (show Sack B A n c (11 + ii * 200 + (2 * mm + j) * 20 + 1 + 17) Wg by
                  obtain ⟨nx, st, h1, h2⟩ := HSx.out
                  exact ⟨nx, st, h1, (hst _ (by omega)).trans h2⟩)
                 have HCg := Aside0.mk (Kd.R_step HCx.out (w1 := Wg) (fun k hk hkl => hst k (by have h0 := hk.2; omega)))
                 have HVg := Aside0.mk (Kd.R_step HVx.out (w1 := Wg) (fun k hk hkl => hst k (by have h0 := hk.1; omega)))
                 have E5g := Aside0.mk (Kd.R_step E5.out (w1 := Wg) (fun k hk hkl => hst k (by have h0 : X2.heap.size ≤ k := hk; omega)))
                 have hzga := Nat.le_of_eq zg
                 have hzgb := Nat.le_of_eq zg.symm
                 clear hWg hst zg hbc hwq hwf BCx BDx HFx HSx HCx HVx HPx HAx HQx E5
                 have HCn := Lib.hid (fun (k : Nat) (hk : some k = (Value.slice A2 l.length c2).ownBlock) => show wz.heap.size ≤ k ∧ k < gc from ((Kd.R_bound HCg.out).1 _ hk.symm).1)
                 have HM := Aside0.mk (k62_mkM Wg wz.heap.size (fun k => gc + 1 ≤ k) (⟨hd, varsN mm, e⟩ : S62) (Kd.R_lower (Kd.R_mono HVg.out (fun k hk => hk.1)) (by omega)) (Kd.R_lower (Kd.R_mono (Kd.R_bound E5g.out) (ok' := fun k => gc + 1 ≤ k) (fun k hk => by have h0 := hk.2.1; omega)) (by omega)))
                 have k2 := (blk_cell BDg.out 2).trans rfl
                 have x0 := (blk_cell BCg.out 0).trans rfl
                 have x1 := (blk_cell BCg.out 1).trans rfl
                 have x2 := (blk_cell BCg.out 2).trans rfl
                 have x3 := (blk_cell BCg.out 3).trans rfl
                 have x4 := (blk_cell BCg.out 4).trans rfl
                 go_wp2_with (at_builtin; refine Kd.R_append k62 (w0 := Wg) (W := Wg) wz.heap.size rfl (.tmp 124) (.tmp 126) 54 62 _ 88 rfl Tryz.underlying54 infoCa' rfl (by decide) (by decide) (.slice A2 l.length c2) l (⟨hd, varsN mm, e⟩ : S62) [.string hd, .slice A3 (varsN mm).length c3, .int .i64 e.f0, .string e.f1, .slice A5 e.f2.length c5] (fun _ => True) (fun k => gc + 1 ≤ k) rfl rfl HM.out (fun k hk => ⟨trivial, fun he => by have h0 : gc + 1 ≤ k := hk; have := (HCn.out k he).2; omega⟩) (fun _ _ => trivial) (Kd.R_mono HCg.out (fun _ _ => trivial)) (Below.refl _ _) (by omega) (by omega) ?_; intro v9 w9 hR9 hB9 hg9 hat9; obtain ⟨A9, c9, hv9⟩ := Kd.R_slice hR9; rw [show (l ++ [(⟨hd, varsN mm, e⟩ : S62)]).length = l.length + 1 from by simp] at hv9; subst hv9; have BD9 := Aside0.mk ((hB9.block _ (by omega)).trans BDg.out); have k29 := (blk_cell BD9.out 2).trans rfl; have f29 := blk_frozen BD9.out 2; have HR9 := Aside0.mk hR9; have HS9 := Aside0.mk (HSg.out.low hB9 (by omega)); have HF9 := Aside0.mk (HFg.out.low hB9 (Nat.le_refl _)); have hs9 := hB9.size; clear hR9 hB9 hg9 hat9)
                 go_roundg (2 - (j + 1))
                 case measure => omega
                 case rel => exact ⟨j + 1, l ++ [(⟨hd, varsN mm, e⟩ : S62)], _, hj, Nat.le_refl _, by go_num, ⟨HCs.out.snoc (by rw [H6j.out]; exact congrArg some (congrArg (Prod.mk hd) HVl.out.symm)) ⟨by rw [HVl.out], hvl2, HG.out.1, HG.out.2⟩⟩, ⟨fun _ => by rw [List.length_append]; simp⟩, ⟨Kd.R_mono (Kd.R_far (Kd.R_mono (Kd.R_bound HR9.out) (ok' := fun k => wz.heap.size ≤ k) (fun k hk => hk.2.1)) (p := ⟨gd, 2, none⟩) (fun k hk => by show k ≠ gd; omega) _) (fun _ _ => trivial)⟩, ⟨blk_put BD9.out 2 _ rfl⟩, ⟨HF9.out.setCell (.inl (.inr rfl)) _⟩, ⟨Sack.far1 (HS9.out.mono (by omega)) (by show B ≠ gd; omega)⟩⟩
            ·have hj22 : j = 2 := by omega
             subst hj22
             go_wp2_with fail
             go_roundg (3 - (k + 1))
             case measure => omega
             case rel => exact ⟨k + 1, l, v2, hk, Nat.le_refl _, by go_num, HCs, HL0, HC, BDv, HFv, HSv⟩
          ·have hk33 : k = 3 := by omega
           subst hk33
           obtain ⟨A2, c2, rfl⟩ := Kd.R_slice HC.out
           obtain ⟨e, he0⟩ : ∃ e : S57, e = ⟨0, ⟨#[]⟩, []⟩ := ⟨_, rfl⟩
           obtain ⟨A5, hA5⟩ : ∃ A5 : Option Addr, A5 = none := ⟨_, rfl⟩
           obtain ⟨c5, hc5⟩ : ∃ c5 : Nat, c5 = 0 := ⟨_, rfl⟩
           have BDf := Aside0.mk (show wv.heap[gd]? = some (.cells #[.string nm, .slice A1 (paramsN jj).length c1, .slice A2 l.length c2, .int .i64 e.f0, .string e.f1, .slice A5 e.f2.length c5] 59 (0, 0)) by rw [he0, hA5, hc5]; exact BDv.out)
           have E5f := Aside0.mk (show Kd.R k57 57 wv wz.heap.size (fun _ => True) (.slice A5 e.f2.length c5) e.f2 by rw [he0, hA5, hc5]; exact Kd.R_nil _ _ _ _ _)
           have HQf := Aside0.mk (Fr.two HQz.out HFv.out (by omega))
           have B6f := Aside0.mk (HFv.out.blk B6z.out (by rintro (h | h) <;> omega))
           have B9f := Aside0.mk (HFv.out.blk B9z.out (by rintro (h | h) <;> omega))
           have HSf := HSv
           have HAf := Aside0.mk (Kd.F_step HAz.out (W1 := wv) (fun k hk hkl => HFv.out.block k hkl (by have h0 : k = g := hk; rintro (h | h) <;> omega)))
           have HDf := Aside0.mk (Kd.R_step HDz.out (w1 := wv) (fun k hk hkl => HFv.out.block k hkl (by have h0 := hk; rintro (h | h) <;> omega)))
           have HPf := Aside0.mk (Kd.R_step HPz.out (w1 := wv) (fun k hk hkl => HFv.out.block k hkl (by have h0 := hk.1; rintro (h | h) <;> omega)))
           have HE0 := Lib.hid he0
           have hl0 := HL0.out (by decide)
           clear he0 hA5 hc5 BDv HFv HSv HQz B6z B9z HAz HDz HPz HSz BDz
           go_upto_region 37 with fail
           have HDn := Lib.hid (fun (k : Nat) (hk : some k = (Value.slice Av ds.length cv).ownBlock) => show g9 + 1 ≤ k ∧ k < gd from ((Kd.R_bound HDf.out).1 _ hk.symm).1)
           have hdl6 : ds.length ≤ 6 := by rw [HDl.out]; omega
           have HM := Aside0.mk (k59_mkM wv (g9 + 1) (fun k => gd + 1 ≤ k) (⟨nm, paramsN jj, l, e⟩ : S59) (Kd.R_lower (Kd.R_mono HPf.out (fun k hk => hk.1)) (by omega)) (Kd.R_lower (Kd.R_mono (Kd.R_bound HC.out) (ok' := fun k => gd + 1 ≤ k) (fun k hk => by have h0 := hk.2.1; omega)) (by omega)) (Kd.R_lower (Kd.R_mono (Kd.R_bound E5f.out) (ok' := fun k => gd + 1 ≤ k) (fun k hk => by have h0 := hk.2.1; omega)) (by omega)))
           have k9 := (blk_cell B9f.out 0).trans rfl
           have x0 := (blk_cell BDf.out 0).trans rfl
           have x1 := (blk_cell BDf.out 1).trans rfl
           have x2 := (blk_cell BDf.out 2).trans rfl
           have x3 := (blk_cell BDf.out 3).trans rfl
           have x4 := (blk_cell BDf.out 4).trans rfl
           have x5 := (blk_cell BDf.out 5).trans rfl
           go_wp2_with (at_builtin; refine Kd.R_append k59 (w0 := wv) (W := wv) (g9 + 1) rfl (.tmp 132) (.tmp 134) 22 59 _ 112 rfl Tryz.underlying22 infoDe' rfl (by decide) (by decide) (.slice Av ds.length cv) ds (⟨nm, paramsN jj, l, e⟩ : S59) [.string nm, .slice A1 (paramsN jj).length c1, (.slice A2 l.length c2), .int .i64 e.f0, .string e.f1, .slice A5 e.f2.length c5] (fun _ => True) (fun k => gd + 1 ≤ k) rfl rfl HM.out (fun k hk => ⟨trivial, fun he => by have h0 : gd + 1 ≤ k := hk; have := (HDn.out k he).2; omega⟩) (fun _ _ => trivial) (Kd.R_mono HDf.out (fun _ _ => trivial)) (Below.refl _ _) (by omega) (by omega) ?_; intro v9 w9 hR9 hB9 hg9 hat9; obtain ⟨A9, c9, hv9⟩ := Kd.R_slice hR9; rw [show (ds ++ [(⟨nm, paramsN jj, l, e⟩ : S59)]).length = ds.length + 1 from by simp] at hv9; subst hv9; have B99 := Aside0.mk (blk_grown B9f.out hg9 (fun he => by have := (HDn.out _ he).1; omega)); have k99 := (blk_cell B99.out 0).trans rfl; have f99 := blk_frozen B99.out 0; have HR9 := Aside0.mk hR9; have B69 := Aside0.mk ((hB9.block _ (by omega)).trans B6f.out); have HA9 := Aside0.mk (Kd.F_step HAf.out (W1 := w9) (fun k hk hkl => hB9.block k (by have h0 : k = g := hk; omega))); have HS9 := Aside0.mk (HSf.out.low hB9 (by omega)); have HQ9 := Aside0.mk (HQf.out.low hB9 (by omega)); have hs9 := hB9.size; clear hR9 hB9 hg9 hat9)
           go_roundg (kk - (ii + 1))
           case measure => omega
           case rel => exact ⟨ii + 1, ds ++ [(⟨nm, paramsN jj, l, e⟩ : S59)], _, hil, Nat.le_refl _, by go_num, ⟨by rw [List.length_append, HDl.out]; rfl⟩, ⟨Kd.R_mono (Kd.R_far (Kd.R_mono (Kd.R_bound HR9.out) (ok' := fun k => g9 + 1 ≤ k) (fun k hk => hk.2.1)) (p := ⟨g9, 0, none⟩) (fun k hk => by show k ≠ g9; omega) _) (fun _ _ => trivial)⟩, ⟨HDo.out.snoc (by rw [HDl.out]; exact ⟨HNm.out.symm, ⟨jj, HA.out, rfl⟩, (.inr ⟨fun h => by have h1 : l = [] := h; rw [h1] at hl0; exact absurd hl0 (by decide), fun h => by have h1 := paramsN_len jj; have h2 : paramsN jj = [] := h; rw [h2] at h1; simp at h1; omega, HE0.out, HCs.out⟩)⟩)⟩, ⟨HQ9.out.setCell (.inr (by simp only; omega)) _⟩, ⟨blk_far B69.out (by simp only; omega) _⟩, ⟨blk_put B99.out 0 _ rfl⟩, ⟨Kd.F_step HA9.out (fun k hk hkl => Below.heap_setCell _ _ _ _ (by have h0 : k = g := hk; show k ≠ g9; omega))⟩, ⟨Sack.far1 (HS9.out.mono (by omega)) (by show B ≠ g9; omega)⟩, by simp only [World.setCell, Array.size_modify]; omega⟩
    ·have hik : ii = kk := by omega
     subst hik
     obtain ⟨Ad, cd, rfl⟩ := Kd.R_slice HD.out
     have k9 := (blk_cell B9.out 0).trans rfl
     have k6 := (blk_cell B6.out 0).trans rfl
     have f6 := blk_frozen B6.out 0
     go_wp2_with fail
     have b6 := blk_put B6.out 0 (.slice Ad ds.length cd) rfl
     refine bodyPost_ret (results_cell_row rfl _ _ w.heap.size 24 #[.slice Ad ds.length cd] (0, 0) _ rfl b6 Tryz.underlying24 rfl (by kernel_rfl)) rfl ?_
     exact ⟨ars, ds, _, rfl, Kd.R_lower (Kd.R_mono (Kd.R_far (Kd.R_mono (Kd.R_bound HD.out) (ok' := fun k => g9 + 1 ≤ k) (fun k hk => hk.2.1)) (p := ⟨w.heap.size, 0, none⟩) (fun k hk => by show k ≠ w.heap.size; omega) _) (fun _ _ => trivial)) (by omega), ⟨by rw [HAl.out]; exact hr1, by rw [HAl.out]; exact hr6, har, by rw [HDl.out, HAl.out], HDo.out⟩, HQ.out.setCell (.inr (Nat.le_refl _)) _⟩
end Go.Proofs.YtacefdkfbpgedaaGreat.Mine
