/- ProgPut, the law: the walk (printed by mky9.py). -/
import Derived.Test.YtacefdkfbpgedaaCP9
import Derived.Test.YtacefdkfbpgedaaCP10
import Derived.Test.YtacefdkfbpgedaaCP4
import Derived.Test.YtacefdkfbpgedaaCP3
import Derived.Deep.RegionHeld3
namespace Go.Proofs.Ytacefdkfbpgedaa.Mine
open Go.Proofs.Ytacefdkfbpgedaa.PProgExprs
open Go.RowKit Go.Shelf Go.Proofs.YtacefdkfbpgedaaW.PrintWords Go.Proofs.YtacefdkfbpgedaaW.PrintLast Go.Proofs.YtacefdkfbpgedaaW.PrintMore
set_option linter.unusedVariables false
set_option linter.unusedSimpArgs false
set_option maxRecDepth 100000
abbrev tx : ByteArray := ⟨#[120]⟩
abbrev ty : ByteArray := ⟨#[121]⟩
abbrev tz : ByteArray := ⟨#[122]⟩
abbrev xyz : List ByteArray := [tx, ty, tz]
theorem strK {W : World} {ok : Nat → Prop} (s : ByteArray) : Kd.FK Kd.string W ok s [.string s] := fun _ _ => rfl
theorem intK {W : World} {ok : Nat → Prop} (k : Int) : Kd.FK (Kd.int .i64) W ok k [.int .i64 k] := fun _ _ => rfl
theorem Sack.other {B B' : Nat} {A : Option Addr} {n c m : Nat} {W W' : World} (h : Sack B A n c m W) (hf : Fr (fun k => k = B') W W') (hne : B ≠ B') : Sack B A n c m W' := by
  obtain ⟨nx, st, h1, h2⟩ := h
  exact ⟨nx, st, h1, hf.blk h2 hne⟩
abbrev XBox (B : Nat) (e : Ex) (A : Option Addr) (c : Nat) (W : World) : Prop := W.heap[B]? = some (.cells #[.int .i64 e.f0, .string e.f1, .slice A e.f2.length c] 24 (0, 0))
abbrev PpS (W0 : World) (p : Nat) (e : Ex) (A : Option Addr) (c : Nat) (g : Nat) (b0 : Ex) (A0 : Option Addr) (c0 : Nat) (b1 : Ex) (A1 : Option Addr) (c1 : Nat) (W : World) : Prop :=
  Below W0.heap.size W0 W ∧ W.cell? ⟨p, 0, none⟩ = some (.int .i64 e.f0) ∧ W.cell? ⟨p, 1, none⟩ = some (.string e.f1) ∧ W.cell? ⟨p, 2, none⟩ = some (.slice A e.f2.length c) ∧
  W.cell? ⟨g, 0, none⟩ = some (.int .i64 b0.f0) ∧ W.cell? ⟨g, 1, none⟩ = some (.string b0.f1) ∧ W.cell? ⟨g, 2, none⟩ = some (.slice A0 b0.f2.length c0) ∧
  W.cell? ⟨g, 3, none⟩ = some (.int .i64 b1.f0) ∧ W.cell? ⟨g, 4, none⟩ = some (.string b1.f1) ∧ W.cell? ⟨g, 5, none⟩ = some (.slice A1 b1.f2.length c1)
theorem PpS.step {W0 : World} {p : Nat} {e : Ex} {A : Option Addr} {c g : Nat} {b0 : Ex} {A0 : Option Addr} {c0 : Nat} {b1 : Ex} {A1 : Option Addr} {c1 : Nat} {W W' : World} (h : PpS W0 p e A c g b0 A0 c0 b1 A1 c1 W) (hb : Below W.heap.size W W') : PpS W0 p e A c g b0 A0 c0 b1 A1 c1 W' := by
  obtain ⟨h0, h1, h2, h3, h4, h5, h6, h7, h8, h9⟩ := h
  exact ⟨h0.trans (hb.mono h0.size), pw_cell_below hb h1, pw_cell_below hb h2, pw_cell_below hb h3, pw_cell_below hb h4, pw_cell_below hb h5, pw_cell_below hb h6, pw_cell_below hb h7, pw_cell_below hb h8, pw_cell_below hb h9⟩
theorem keepQ {S : World → Prop} (st : ∀ {W W' : World}, S W → Below W.heap.size W W' → S W') {f : Nat} {args : Array Value} {W : World} {v v' : Value} (hS : S W) (hv : v = v') (h : Calls Try.prog f args W fun e W' => e = .returned v ∧ Below W.heap.size W W') : Calls Try.prog f args W fun e W' => e = .returned v' ∧ S W' :=
  h.mono (by rintro e W' ⟨rfl, h2⟩; exact ⟨by rw [hv], st hS h2⟩)
theorem wrapI (x : Int) (h0 : -1000000 ≤ x) (h1 : x ≤ 1000000) : IntKind.i64.wrap x = x := by
  simp only [IntKind.wrap, IntKind.signed, IntKind.bits]; simp; omega
theorem prod_small {a b : Nat} (ha : a ≤ 100) (hb0 : 1 ≤ b) (hb : b ≤ 100) : 0 ≤ (a : Int) * ((b : Int) - 1) ∧ (a : Int) * ((b : Int) - 1) ≤ 10000 := by
  obtain ⟨k, rfl⟩ : ∃ k, b = k + 1 := ⟨b - 1, by omega⟩
  have h : a * k ≤ 100 * 100 := Nat.mul_le_mul ha (by omega)
  have e : (a : Int) * (((k + 1 : Nat) : Int) - 1) = ((a * k : Nat) : Int) := by simp
  rw [e]
  omega
theorem want_eq {s cx a cy b : Nat} (hs : s ≤ 100) (hcx : cx ≤ 100) (hcy : cy ≤ 100) (ha0 : 1 ≤ a) (ha : a ≤ 100) (hb0 : 1 ≤ b) (hb : b ≤ 100) :
    IntKind.i64.wrap (IntKind.i64.wrap ((s : Int) + IntKind.i64.wrap ((cx : Int) * IntKind.i64.wrap ((a : Int) - 1))) + IntKind.i64.wrap ((cy : Int) * IntKind.i64.wrap ((b : Int) - 1))) = (s : Int) + cx * ((a : Int) - 1) + cy * ((b : Int) - 1) := by
  obtain ⟨p0, p1⟩ := prod_small hcx ha0 ha
  obtain ⟨q0, q1⟩ := prod_small hcy hb0 hb
  rw [wrapI ((a : Int) - 1) (by omega) (by omega), wrapI ((b : Int) - 1) (by omega) (by omega)]
  generalize (cx : Int) * ((a : Int) - 1) = P at *
  generalize (cy : Int) * ((b : Int) - 1) = R at *
  rw [wrapI P (by omega) (by omega), wrapI R (by omega) (by omega), wrapI ((s : Int) + P) (by omega) (by omega), wrapI ((s : Int) + P + R) (by omega) (by omega)]
theorem prod2_small {a b : Nat} (ha : a ≤ 100) (hb : b ≤ 100) : 0 ≤ (a : Int) * (b : Int) ∧ (a : Int) * (b : Int) ≤ 10000 := by
  have h : a * b ≤ 100 * 100 := Nat.mul_le_mul ha hb
  have e : (a : Int) * (b : Int) = ((a * b : Nat) : Int) := by simp
  rw [e]
  omega
theorem sum_eq {s cx a cy b : Nat} (hs : s ≤ 100) (hcx : cx ≤ 100) (hcy : cy ≤ 100) (ha : a ≤ 100) (hb : b ≤ 100) :
    IntKind.i64.wrap (IntKind.i64.wrap ((s : Int) + IntKind.i64.wrap ((cx : Int) * (a : Int))) + IntKind.i64.wrap ((cy : Int) * (b : Int))) = (s : Int) + cx * (a : Int) + cy * (b : Int) := by
  obtain ⟨p0, p1⟩ := prod2_small hcx ha
  obtain ⟨q0, q1⟩ := prod2_small hcy hb
  generalize (cx : Int) * (a : Int) = P at *
  generalize (cy : Int) * (b : Int) = R at *
  rw [wrapI P (by omega) (by omega), wrapI R (by omega) (by omega), wrapI ((s : Int) + P) (by omega) (by omega), wrapI ((s : Int) + P + R) (by omega) (by omega)]
theorem varK (W : World) {ok : Nat → Prop} (s : ByteArray) : Kd.FK k24 W ok ⟨1, s, []⟩ [.int .i64 1, .string s, .slice none 0 0] := k24_mkF W ok ⟨1, s, []⟩ (Nat.le_refl _) (Kd.F_nil _ _ _)
abbrev BoS (p : Nat) (e : Ex) (A : Option Addr) (c : Nat) (W : World) : Prop := W.cell? ⟨p, 0, none⟩ = some (.int .i64 e.f0) ∧ W.cell? ⟨p, 1, none⟩ = some (.string e.f1) ∧ W.cell? ⟨p, 2, none⟩ = some (.slice A e.f2.length c)
theorem BoS.of {p : Nat} {e : Ex} {A : Option Addr} {c : Nat} {W : World} (h : XBox p e A c W) : BoS p e A c W := ⟨(blk_cell h 0).trans rfl, (blk_cell h 1).trans rfl, (blk_cell h 2).trans rfl⟩
abbrev P9S (W0 : World) (p : Nat) (e : Ex) (A : Option Addr) (c : Nat) (g : Nat) (b0 : Ex) (A0 : Option Addr) (c0 : Nat) (b1 : Ex) (A1 : Option Addr) (c1 : Nat) (q : Nat) (x : Ex) (Ax : Option Addr) (cx : Nat) (W : World) : Prop :=
  Below W0.heap.size W0 W ∧ W.cell? ⟨p, 0, none⟩ = some (.int .i64 e.f0) ∧ W.cell? ⟨p, 1, none⟩ = some (.string e.f1) ∧ W.cell? ⟨p, 2, none⟩ = some (.slice A e.f2.length c) ∧
  W.cell? ⟨g, 0, none⟩ = some (.int .i64 b0.f0) ∧ W.cell? ⟨g, 1, none⟩ = some (.string b0.f1) ∧ W.cell? ⟨g, 2, none⟩ = some (.slice A0 b0.f2.length c0) ∧
  W.cell? ⟨g, 3, none⟩ = some (.int .i64 b1.f0) ∧ W.cell? ⟨g, 4, none⟩ = some (.string b1.f1) ∧ W.cell? ⟨g, 5, none⟩ = some (.slice A1 b1.f2.length c1) ∧
  W.cell? ⟨q, 0, none⟩ = some (.int .i64 x.f0) ∧ W.cell? ⟨q, 1, none⟩ = some (.string x.f1) ∧ W.cell? ⟨q, 2, none⟩ = some (.slice Ax x.f2.length cx)
theorem P9S.step {W0 : World} {p : Nat} {e : Ex} {A : Option Addr} {c g : Nat} {b0 : Ex} {A0 : Option Addr} {c0 : Nat} {b1 : Ex} {A1 : Option Addr} {c1 q : Nat} {x : Ex} {Ax : Option Addr} {cx : Nat} {W W' : World} (h : P9S W0 p e A c g b0 A0 c0 b1 A1 c1 q x Ax cx W) (hb : Below W.heap.size W W') : P9S W0 p e A c g b0 A0 c0 b1 A1 c1 q x Ax cx W' := by
  obtain ⟨h0, h1, h2, h3, h4, h5, h6, h7, h8, h9, k1, k2, k3⟩ := h
  exact ⟨h0.trans (hb.mono h0.size), pw_cell_below hb h1, pw_cell_below hb h2, pw_cell_below hb h3, pw_cell_below hb h4, pw_cell_below hb h5, pw_cell_below hb h6, pw_cell_below hb h7, pw_cell_below hb h8, pw_cell_below hb h9, pw_cell_below hb k1, pw_cell_below hb k2, pw_cell_below hb k3⟩
abbrev LoS (W0 : World) (q : Nat) (x : Ex) (Ax : Option Addr) (cx : Nat) (W : World) : Prop := Below W0.heap.size W0 W ∧ W.cell? ⟨q, 0, none⟩ = some (.int .i64 x.f0) ∧ W.cell? ⟨q, 1, none⟩ = some (.string x.f1) ∧ W.cell? ⟨q, 2, none⟩ = some (.slice Ax x.f2.length cx)
theorem LoS.step {W0 : World} {q : Nat} {x : Ex} {Ax : Option Addr} {cx : Nat} {W W' : World} (h : LoS W0 q x Ax cx W) (hb : Below W.heap.size W W') : LoS W0 q x Ax cx W' := by
  obtain ⟨h0, k1, k2, k3⟩ := h
  exact ⟨h0.trans (hb.mono h0.size), pw_cell_below hb k1, pw_cell_below hb k2, pw_cell_below hb k3⟩
abbrev L3S (W0 : World) (p : Nat) (e : Ex) (A : Option Addr) (c : Nat) (g : Nat) (b0 : Ex) (A0 : Option Addr) (c0 : Nat) (q : Nat) (x : Ex) (Ax : Option Addr) (cx : Nat) (W : World) : Prop :=
  Below W0.heap.size W0 W ∧ W.cell? ⟨p, 0, none⟩ = some (.int .i64 e.f0) ∧ W.cell? ⟨p, 1, none⟩ = some (.string e.f1) ∧ W.cell? ⟨p, 2, none⟩ = some (.slice A e.f2.length c) ∧
  W.cell? ⟨g, 0, none⟩ = some (.int .i64 b0.f0) ∧ W.cell? ⟨g, 1, none⟩ = some (.string b0.f1) ∧ W.cell? ⟨g, 2, none⟩ = some (.slice A0 b0.f2.length c0) ∧
  W.cell? ⟨q, 0, none⟩ = some (.int .i64 x.f0) ∧ W.cell? ⟨q, 1, none⟩ = some (.string x.f1) ∧ W.cell? ⟨q, 2, none⟩ = some (.slice Ax x.f2.length cx)
theorem L3S.step {W0 : World} {p : Nat} {e : Ex} {A : Option Addr} {c g : Nat} {b0 : Ex} {A0 : Option Addr} {c0 q : Nat} {x : Ex} {Ax : Option Addr} {cx : Nat} {W W' : World} (h : L3S W0 p e A c g b0 A0 c0 q x Ax cx W) (hb : Below W.heap.size W W') : L3S W0 p e A c g b0 A0 c0 q x Ax cx W' := by
  obtain ⟨h0, h1, h2, h3, h4, h5, h6, k1, k2, k3⟩ := h
  exact ⟨h0.trans (hb.mono h0.size), pw_cell_below hb h1, pw_cell_below hb h2, pw_cell_below hb h3, pw_cell_below hb h4, pw_cell_below hb h5, pw_cell_below hb h6, pw_cell_below hb k1, pw_cell_below hb k2, pw_cell_below hb k3⟩
set_option maxHeartbeats 8000000 in
theorem c_lawPut (zs ys : List Int) (A B : Option Addr) (c d : Nat) (w : World) (hr : Kd.C (Kd.int .u8) w A zs.length zs) (hr2 : Kd.C (Kd.int .u8) w B ys.length ys) :
    Calls Try.prog 4 #[.slice A zs.length c, .slice B ys.length d] w fun en w' => en = .returned (.bool true) ∧ Below w.heap.size w w' := by
  have HF1 := Lib.hid (c_Fill A zs c w hr)
  have HR2 := Lib.hid hr2
  clear hr hr2
  go_enter Try.func4, Try.ntmps4
  go_wp2_with fail
  refine HF1.out.mono ?_
  rintro en w1 ⟨rfl, hS, hZ, hb, hlt⟩
  obtain ⟨b1, hb1⟩ : ∃ b1, w.heap.size = b1 := ⟨_, rfl⟩
  rw [hb1] at hS hZ ⊢
  have HF2 := Lib.hid (c_Fill B ys d w1 (Kd.C_below HR2.out hb))
  have HY := Aside0.mk (Kd.F_below (Kd.C_F (show Kd.Heap (Kd.int .u8) from Kd.heap_int .u8) HR2.out) hb)
  have S1 := Aside0.mk hS
  have Z1 := Aside0.mk hZ
  have Q := Aside0.mk hb
  clear hS hZ hb HF1 HR2
  go_wp2_with fail
  refine HF2.out.mono ?_
  rintro en w2 ⟨rfl, hS, hZ, hb, hlt2⟩
  obtain ⟨b2, hb2⟩ : ∃ b2, w1.heap.size = b2 := ⟨_, rfl⟩
  rw [hb2] at hS hZ ⊢
  have S1 := Aside0.mk (S1.out.below hb)
  have Z1 := Aside0.mk (Z1.out.below hb)
  have S2 := Aside0.mk hS
  have HY := Aside0.mk (Kd.F_below HY.out hb)
  have Q := Aside0.mk (Q.out.trans (hb.mono Q.out.size))
  have hw1 : w.heap.size ≤ b1 := Nat.le_of_eq hb1
  have h12 : b1 < b2 := by omega
  have h22 : b2 < w2.heap.size := by omega
  have HB1 := Lib.hid hb1
  have HB2 := Lib.hid hb2
  clear hS hZ hb HF2 hb1 hb2 hlt hlt2
  -- the names, and numbers of parameters
  obtain ⟨W3, hW3⟩ : ∃ W3, w2.alloc (.cells #[.string tx, .string ty, .string tz] 9) = W3 := ⟨_, rfl⟩
  obtain ⟨gv, hgv⟩ : ∃ gv, w2.heap.size = gv := ⟨_, rfl⟩
  have q3 : Below w2.heap.size w2 W3 := by rw [← hW3]; exact below_alloc1 _ _
  have h2g : b2 < gv := by omega
  have z3 : W3.heap.size = gv + 1 := by rw [← hW3, ← hgv]; simp
  have V := Aside0.mk (show Kd.F Kd.string W3 (fun k => k = gv) (some ⟨gv, 0, none⟩) xyz.length xyz by
    rw [← hW3]
    subst hgv
    exact F_lit3 (W := w2) (ok := fun k => k = w2.heap.size) rfl 9 (strK tx) rfl (strK ty) rfl (strK tz) rfl)
  have S1 := Aside0.mk (S1.out.below q3)
  have Z1 := Aside0.mk (Z1.out.below q3)
  have S2 := Aside0.mk (S2.out.below q3)
  have HY := Aside0.mk (Kd.F_below HY.out q3)
  have Q := Aside0.mk (Q.out.trans (q3.mono Q.out.size))
  obtain ⟨W4, hW4⟩ : ∃ W4, W3.alloc (.cells #[.int .i64 1, .int .i64 0] 3) = W4 := ⟨_, rfl⟩
  have q4 : Below W3.heap.size W3 W4 := by rw [← hW4]; exact below_alloc1 _ _
  have z4 : W4.heap.size = gv + 1 + 1 := by rw [← hW4, World.size_alloc, z3]
  have HA := Aside0.mk (show Kd.F (Kd.int .i64) W4 (fun k => k = gv + 1) (some ⟨gv + 1, 0, none⟩) 2 ([1, 0].map fun (k : Nat) => (k : Int)) by
    rw [← hW4, ← z3]
    exact F_lit2 (W := W3) (ok := fun k => k = W3.heap.size) rfl 3 (intK 1) rfl (intK 0) rfl)
  have V := Aside0.mk (Kd.F_below V.out q4)
  have S1 := Aside0.mk (S1.out.below q4)
  have Z1 := Aside0.mk (Z1.out.below q4)
  have S2 := Aside0.mk (S2.out.below q4)
  have HY := Aside0.mk (Kd.F_below HY.out q4)
  have Q := Aside0.mk (Q.out.trans (q4.mono Q.out.size))
  have HE := Lib.hid (show Calls Try.prog 28 #[.pointer (some ⟨b1, 0, none⟩), .slice (some ⟨gv, 0, none⟩) 3 3, .slice (some ⟨gv + 1, 0, none⟩) 2 2, .int .i64 3, .bool false, .bool true] W4 _ from
    c_Expr b1 A zs.length c zs xyz (some ⟨gv, 0, none⟩) 3 [1, 0] (some ⟨gv + 1, 0, none⟩) 2 (by decide) (by decide) (by decide) (by decide) (by decide) (by decide) 3 (by decide) 0 false true W4 S1.out Z1.out (by decide) (Kd.F_mono V.out (fun k hk => by have h0 : k = gv := hk; show k ≠ _; omega)) (Kd.F_mono HA.out (fun k hk => by have h0 : k = gv + 1 := hk; show k ≠ _; omega)))
  have hz4a := Nat.le_of_eq z4
  have hz4b := Nat.le_of_eq z4.symm
  have HW34 := Lib.hid (show (w2.alloc (.cells #[.string tx, .string ty, .string tz] 9)).alloc (.cells #[.int .i64 1, .int .i64 0] 3) = W4 by rw [hW3, hW4])
  clear hW3 hW4 q3 q4 z3 z4
  go_wp2_with fail
  rw [HW34.out]
  clear HW34 hgv
  refine HE.out.mono ?_
  rintro en w5 ⟨e, v, rfl, hO, hG, hz, hS1, hF⟩
  have hz : szE e ≤ 15 := hz
  obtain ⟨Ae, ce, rfl, hce, _⟩ := Kd.R_reads hO
  have E := Aside0.mk (Kd.F_mono (Kd.R_F (Kd.R_bound hO)) (ok' := fun k => W4.heap.size ≤ k) (fun k hk => hk.2.1))
  have S2 := Aside0.mk (S2.out.other hF (by omega))
  have HY := Aside0.mk (Kd.F_step HY.out (fun k hk hkl => hF.block k hkl (by have h0 : k < w.heap.size := hk; show ¬ k = _; omega)))
  have V := Aside0.mk (Kd.F_step V.out (fun k hk hkl => hF.block k hkl (by have h0 : k = gv := hk; show ¬ k = _; omega)))
  have Q := Aside0.mk (Q.out.trans (hF.below Q.out.size (fun k hk => by show ¬ k = _; omega)))
  have hs5 := hF.size
  have HG := Lib.hid hG
  clear hO hG hS1 hF HE HA S1 Z1
  obtain ⟨W6, hW6⟩ : ∃ W6, w5.alloc (.cells #[.int .i64 e.f0, .string e.f1, .slice Ae e.f2.length ce] 24) = W6 := ⟨_, rfl⟩
  obtain ⟨ge, hge⟩ : ∃ ge, w5.heap.size = ge := ⟨_, rfl⟩
  have hge1 := Nat.le_of_eq hge
  have q6 : Below w5.heap.size w5 W6 := by rw [← hW6]; exact below_alloc1 _ _
  have z6 : W6.heap.size = ge + 1 := by rw [← hW6, ← hge]; simp
  have BE := Aside0.mk (show XBox ge e Ae ce W6 by rw [← hW6, ← hge]; exact alloc_at _ _)
  obtain ⟨W7, hW7⟩ : ∃ W7, W6.alloc (.cells #[.int .i64 1] 3) = W7 := ⟨_, rfl⟩
  have q7a : Below W6.heap.size W6 W7 := by rw [← hW7]; exact below_alloc1 _ _
  have q7 : Below w5.heap.size w5 W7 := q6.trans (q7a.mono q6.size)
  have z7 : W7.heap.size = ge + 1 + 1 := by rw [← hW7, World.size_alloc, z6]
  have HA := Aside0.mk (show Kd.F (Kd.int .i64) W7 (fun k => k = ge + 1) (some ⟨ge + 1, 0, none⟩) 1 ([1].map fun (k : Nat) => (k : Int)) by
    rw [← hW7, ← z6]
    exact F_lit1 (W := W6) (ok := fun k => k = W6.heap.size) rfl 3 (intK 1) rfl)
  have BE := Aside0.mk (blk_below BE.out q7a)
  have E := Aside0.mk (Kd.F_below E.out q7)
  have S2 := Aside0.mk (S2.out.below q7)
  have HY := Aside0.mk (Kd.F_below HY.out q7)
  have V := Aside0.mk (Kd.F_below V.out q7)
  have Q := Aside0.mk (Q.out.trans (q7.mono Q.out.size))
  have hz7a := Nat.le_of_eq z7
  have hz7b := Nat.le_of_eq z7.symm
  have HE := Lib.hid (show Calls Try.prog 28 #[.pointer (some ⟨b2, 0, none⟩), .slice (some ⟨gv, 0, none⟩) 3 3, .slice (some ⟨ge + 1, 0, none⟩) 1 1, .int .i64 2, .bool false, .bool true] W7 _ from
    c_Expr b2 B ys.length d ys xyz (some ⟨gv, 0, none⟩) 3 [1] (some ⟨ge + 1, 0, none⟩) 1 (by decide) (by decide) (by decide) (by decide) (by decide) (by decide) 2 (by decide) 0 false true W7 S2.out ⟨rfl, Kd.F_mono HY.out (fun k hk => by have h0 : k < w.heap.size := hk; show k ≠ _; omega)⟩ (by decide) (Kd.F_mono V.out (fun k hk => by have h0 : k = gv := hk; show k ≠ _; omega)) (Kd.F_mono HA.out (fun k hk => by have h0 : k = ge + 1 := hk; show k ≠ _; omega)))
  have HW7 := Lib.hid (show (w5.alloc (.cells #[.int .i64 e.f0, .string e.f1, .slice Ae e.f2.length ce] 24)).alloc (.cells #[.int .i64 1] 3) = W7 by rw [hW6, hW7])
  clear hW6 hW7 q6 q7a q7 z6 z7
  go_wp2_with fail
  rw [HW7.out]
  clear HW7 hge
  refine HE.out.mono ?_
  rintro en w8 ⟨x0, v, rfl, hO, hG, hz0, hS2, hF⟩
  have hz0 : szE x0 ≤ 7 := hz0
  obtain ⟨A0, c0, rfl, hc0, _⟩ := Kd.R_reads hO
  have E0 := Aside0.mk (Kd.F_mono (Kd.R_F (Kd.R_bound hO)) (ok' := fun k => W7.heap.size ≤ k) (fun k hk => hk.2.1))
  have BE := Aside0.mk (hF.blk BE.out (by omega))
  have E := Aside0.mk (Kd.F_step E.out (fun k hk hkl => hF.block k hkl (by have h0 : W4.heap.size ≤ k := hk; show ¬ k = _; omega)))
  have HY := Aside0.mk (Kd.F_step HY.out (fun k hk hkl => hF.block k hkl (by have h0 : k < w.heap.size := hk; show ¬ k = _; omega)))
  have V := Aside0.mk (Kd.F_step V.out (fun k hk hkl => hF.block k hkl (by have h0 : k = gv := hk; show ¬ k = _; omega)))
  have Q := Aside0.mk (Q.out.trans (hF.below Q.out.size (fun k hk => by show ¬ k = _; omega)))
  have hs8 := hF.size
  have S2 := Aside0.mk hS2
  have HG0 := Lib.hid hG
  clear hO hG hS2 hF HE HA
  obtain ⟨W9, hW9⟩ : ∃ W9, w8.alloc (.cells #[.int .i64 0] 3) = W9 := ⟨_, rfl⟩
  have q9 : Below w8.heap.size w8 W9 := by rw [← hW9]; exact below_alloc1 _ _
  have z9 : W9.heap.size = w8.heap.size + 1 := by rw [← hW9]; simp
  have HA := Aside0.mk (show Kd.F (Kd.int .i64) W9 (fun k => k = w8.heap.size) (some ⟨w8.heap.size, 0, none⟩) 1 ([0].map fun (k : Nat) => (k : Int)) by
    rw [← hW9]
    exact F_lit1 (W := w8) (ok := fun k => k = w8.heap.size) rfl 3 (intK 0) rfl)
  have BE := Aside0.mk (blk_below BE.out q9)
  have E := Aside0.mk (Kd.F_below E.out q9)
  have E0 := Aside0.mk (Kd.F_below E0.out q9)
  have S2 := Aside0.mk (S2.out.below q9)
  have HY := Aside0.mk (Kd.F_below HY.out q9)
  have V := Aside0.mk (Kd.F_below V.out q9)
  have Q := Aside0.mk (Q.out.trans (q9.mono Q.out.size))
  have hz9a := Nat.le_of_eq z9
  have hz9b := Nat.le_of_eq z9.symm
  have HE := Lib.hid (show Calls Try.prog 28 #[.pointer (some ⟨b2, 0, none⟩), .slice (some ⟨gv, 0, none⟩) 3 3, .slice (some ⟨w8.heap.size, 0, none⟩) 1 1, .int .i64 1, .bool false, .bool true] W9 _ from
    c_Expr b2 B ys.length d ys xyz (some ⟨gv, 0, none⟩) 3 [0] (some ⟨w8.heap.size, 0, none⟩) 1 (by decide) (by decide) (by decide) (by decide) (by decide) (by decide) 1 (by decide) (0 + exD 2) false true W9 S2.out ⟨rfl, Kd.F_mono HY.out (fun k hk => by have h0 : k < w.heap.size := hk; show k ≠ _; omega)⟩ (by decide) (Kd.F_mono V.out (fun k hk => by have h0 : k = gv := hk; show k ≠ _; omega)) (Kd.F_mono HA.out (fun k hk => by have h0 : k = w8.heap.size := hk; show k ≠ _; omega)))
  have HW9 := Lib.hid hW9
  clear hW9 q9 z9
  go_wp2_with fail
  rw [HW9.out]
  clear HW9
  refine HE.out.mono ?_
  rintro en w10 ⟨x1, v, rfl, hO, hG, hz1, hS2, hF⟩
  have hz1 : szE x1 ≤ 3 := hz1
  obtain ⟨A1, c1, rfl, hc1, _⟩ := Kd.R_reads hO
  have E1 := Aside0.mk (Kd.F_mono (Kd.R_F (Kd.R_bound hO)) (ok' := fun k => W9.heap.size ≤ k) (fun k hk => hk.2.1))
  have BE := Aside0.mk (hF.blk BE.out (by omega))
  have E := Aside0.mk (Kd.F_step E.out (fun k hk hkl => hF.block k hkl (by have h0 : W4.heap.size ≤ k := hk; show ¬ k = _; omega)))
  have E0 := Aside0.mk (Kd.F_step E0.out (fun k hk hkl => hF.block k hkl (by have h0 : W7.heap.size ≤ k := hk; show ¬ k = _; omega)))
  have V := Aside0.mk (Kd.F_step V.out (fun k hk hkl => hF.block k hkl (by have h0 : k = gv := hk; show ¬ k = _; omega)))
  have Q := Aside0.mk (Q.out.trans (hF.below Q.out.size (fun k hk => by show ¬ k = _; omega)))
  have hs10 := hF.size
  have HG1 := Lib.hid hG
  clear hO hG hS2 hF HE HA S2 HY
  obtain ⟨W11, hW11⟩ : ∃ W11, w10.alloc (.cells #[.int .i64 x0.f0, .string x0.f1, .slice A0 x0.f2.length c0, .int .i64 x1.f0, .string x1.f1, .slice A1 x1.f2.length c1] 24) = W11 := ⟨_, rfl⟩
  obtain ⟨gb, hgb⟩ : ∃ gb, w10.heap.size = gb := ⟨_, rfl⟩
  have q11 : Below w10.heap.size w10 W11 := by rw [← hW11]; exact below_alloc1 _ _
  have z11 : W11.heap.size = gb + 1 := by rw [← hW11, ← hgb]; simp
  have BY := Aside0.mk (show W11.heap[gb]? = some (.cells #[.int .i64 x0.f0, .string x0.f1, .slice A0 x0.f2.length c0, .int .i64 x1.f0, .string x1.f1, .slice A1 x1.f2.length c1] 24 (0, 0)) by rw [← hW11, ← hgb]; exact alloc_at _ _)
  have LY := Aside0.mk (show Kd.C k24 W11 (some ⟨gb, 0, none⟩) 2 [x0, x1] by
    rw [← hW11, ← hgb]
    exact Kd.F_now (F_lit2 (W := w10) (ok := fun k => True) trivial 24 (k24_mkF w10 _ x0 hc0 (Kd.F_mono E0.out (fun _ _ => trivial))) rfl (k24_mkF w10 _ x1 hc1 (Kd.F_mono E1.out (fun _ _ => trivial))) rfl))
  have BE := Aside0.mk (blk_below BE.out q11)
  have CE := Aside0.mk (Kd.F_now (Kd.F_below E.out q11))
  have C0 := Aside0.mk (Kd.F_now (Kd.F_below E0.out q11))
  have C1 := Aside0.mk (Kd.F_now (Kd.F_below E1.out q11))
  have V := Aside0.mk (Kd.F_now (Kd.F_below V.out q11))
  have Q := Aside0.mk (Q.out.trans (q11.mono Q.out.size))
  have HW11 := Lib.hid hW11
  clear hW11 q11 z11 E E0 E1 HB1 HB2 hw1 h12 h22 hz4a hz4b hs5 hz7a hz7b hs8 hz9a hz9b hs10
  go_upto_region 5 with fail
  rw [HW11.out]
  clear HW11 hgb
  obtain ⟨want, hwant⟩ : ∃ want : Int, (szE e : Int) + cntV tx e * ((szE x0 : Int) - 1) + cntV ty e * ((szE x1 : Int) - 1) = want := ⟨_, rfl⟩
  have HWt := Lib.hid hwant
  clear hwant
  go_cut [10] (fun s10 wx => s10 = .int .i64 want ∧ Aside0 (Below W11.heap.size W11 wx))
  case first =>
    have hS0 : PpS W11 ge e Ae ce gb x0 A0 c0 x1 A1 c1 W11 := ⟨Below.refl _ _, (blk_cell BE.out 0).trans rfl, (blk_cell BE.out 1).trans rfl, (blk_cell BE.out 2).trans rfl, (blk_cell BY.out 0).trans rfl, (blk_cell BY.out 1).trans rfl, (blk_cell BY.out 2).trans rfl, (blk_cell BY.out 3).trans rfl, (blk_cell BY.out 4).trans rfl, (blk_cell BY.out 5).trans rfl⟩
    have hcx := cntV_le tx e
    have hcy := cntV_le ty e
    have hs0 := szE_pos x0
    have hs1 := szE_pos x1
    have HZe := Lib.hid (fun W (h : PpS W11 ge e Ae ce gb x0 A0 c0 x1 A1 c1 W) => keepQ PpS.step (v' := .int .i64 (szE e : Int)) h rfl (c_Size _ e Ae ce W (Nat.le_refl _) (by omega) (Kd.C_below CE.out h.1) hce))
    have HZ0 := Lib.hid (fun W (h : PpS W11 ge e Ae ce gb x0 A0 c0 x1 A1 c1 W) => keepQ PpS.step (v' := .int .i64 (szE x0 : Int)) h rfl (c_Size _ x0 A0 c0 W (Nat.le_refl _) (by omega) (Kd.C_below C0.out h.1) hc0))
    have HZ1 := Lib.hid (fun W (h : PpS W11 ge e Ae ce gb x0 A0 c0 x1 A1 c1 W) => keepQ PpS.step (v' := .int .i64 (szE x1 : Int)) h rfl (c_Size _ x1 A1 c1 W (Nat.le_refl _) (by omega) (Kd.C_below C1.out h.1) hc1))
    have HKx := Lib.hid (fun W (h : PpS W11 ge e Ae ce gb x0 A0 c0 x1 A1 c1 W) => keepQ PpS.step (v' := .int .i64 (cntV tx e : Int)) h rfl (c_count tx _ e Ae ce W (Nat.le_refl _) (by omega) (Kd.C_below CE.out h.1) hce))
    have HKy := Lib.hid (fun W (h : PpS W11 ge e Ae ce gb x0 A0 c0 x1 A1 c1 W) => keepQ PpS.step (v' := .int .i64 (cntV ty e : Int)) h rfl (c_count ty _ e Ae ce W (Nat.le_refl _) (by omega) (Kd.C_below CE.out h.1) hce))
    go_region_held3 (fun W => PpS W11 ge e Ae ce gb x0 A0 c0 x1 A1 c1 W) (first | assumption | exact hS0.step (below_drew (Below.refl _ _))) (first | (go_at_call 17; (with_reducible refine (HZe.out _ (by assumption)).mono ?_); rintro e' w' ⟨rfl, hS⟩) | (go_at_call 17; (with_reducible refine (HZ0.out _ (by assumption)).mono ?_); rintro e' w' ⟨rfl, hS⟩) | (go_at_call 17; (with_reducible refine (HZ1.out _ (by assumption)).mono ?_); rintro e' w' ⟨rfl, hS⟩) | (go_at_call 29; (with_reducible refine (HKx.out _ (by assumption)).mono ?_); rintro e' w' ⟨rfl, hS⟩) | (go_at_call 29; (with_reducible refine (HKy.out _ (by assumption)).mono ?_); rintro e' w' ⟨rfl, hS⟩))
    all_goals
      have hlast : Below W11.heap.size W11 _ := (by assumption : PpS W11 ge e Ae ce gb x0 A0 c0 x1 A1 c1 _).1
      go_wp2_with fail
      go_meet
      exact ⟨by rw [want_eq (by omega) (by omega) (by omega) (by omega) (by omega) (by omega) (by omega), HWt.out], ⟨hlast⟩⟩
  case rest =>
    obtain ⟨rfl, HW⟩ := hcut
    have hb := HW.out
    have BE := Aside0.mk (blk_below BE.out hb)
    have BY := Aside0.mk (blk_below BY.out hb)
    have LY := Aside0.mk (Kd.C_below LY.out hb)
    have CE := Aside0.mk (Kd.C_below CE.out hb)
    have V := Aside0.mk (Kd.C_below V.out hb)
    have Q := Aside0.mk (Q.out.trans (hb.mono Q.out.size))
    have HX := Lib.hid (And.intro HG0.out HG1.out)
    have C0 := Aside0.mk (Kd.C_below C0.out hb)
    have C1 := Aside0.mk (Kd.C_below C1.out hb)
    clear hb HW HG0 HG1
    have hge := blk_lt BE.out
    obtain ⟨sp, hsp⟩ : ∃ sp, subP [tx, ty] [x0, x1] e = sp := ⟨_, rfl⟩
    have HSp := Lib.hid hsp
    have V2 := Aside0.mk (show Kd.C Kd.string wc (some ⟨gv, 0, none⟩) 2 [tx, ty] from Kd.C_take V.out (m := 2) (by decide))
    have HC := Lib.hid (fun X (h : Below wc.heap.size wc X) => show Calls Try.prog 15 #[.agg #[.int .i64 e.f0, .string e.f1, .slice Ae e.f2.length ce], .slice (some ⟨gv, 0, none⟩) 2 3, .slice (some ⟨gb, 0, none⟩) 2 2] X (fun en w' => ∃ v, en = .returned (.tuple #[.agg #[.int .i64 sp.1.f0, .string sp.1.f1, v], .int .i64 sp.2]) ∧ OwnE w' X.heap.size v sp.1.f2 ∧ Below X.heap.size X w') from by
      rw [← hsp]
      exact c_Subst e Ae ce [tx, ty] (some ⟨gv, 0, none⟩) 3 [x0, x1] (some ⟨gb, 0, none⟩) 2 X (Kd.C_below CE.out h) hce (Kd.C_below V2.out h) (by decide) (Kd.C_below LY.out h) (Nat.le_refl _) (by omega) (by simp only [List.mem_cons, List.not_mem_nil, or_false, forall_eq_or_imp, forall_eq]; omega) (by decide) (by decide))
    clear hsp
    go_upto_region 6 with fail
    go_cut [11, 12] (fun s11 s12 wx => ∃ (gx : Nat) (Ax : Option Addr) (cx : Nat), s11 = .pointer (some ⟨gx, 0, none⟩) ∧ s12 = .int .i64 sp.2 ∧ Aside0 (XBox gx sp.1 Ax cx wx) ∧ Aside0 (sp.1.f2.length ≤ cx ∧ Kd.C k24 wx Ax sp.1.f2.length sp.1.f2) ∧ Aside0 (Below wc.heap.size wc wx))
    case first =>
      obtain ⟨X0, hX⟩ : ∃ X0, wc.drew = X0 := ⟨_, rfl⟩
      have HW := Aside0.mk (show Below wc.heap.size wc X0 by rw [← hX]; exact below_drew (Below.refl _ _))
      have BE := Aside0.mk (blk_below BE.out HW.out)
      have hsz := HW.out.size
      have hSd : (fun W => BoS ge e Ae ce W) X0 := BoS.of BE.out
      refine wp_region_K (S := fun W => BoS ge e Ae ce W) (k := 99) (by kernel_rfl) ?_
      change wpAnyK _ _ _ _ _ _ 11 (Array.replicate 11 false) _ _
      rw [hX]
      clear hX
      refine wpAnyK_takeS (i := 0) (v := ?_) rfl (by kernel_rfl) (by kernel_rfl) (by kernel_rfl) (by kernel_rfl) (fun _ _ _ h => h) hSd (Or.inl ⟨by rfl, ?_⟩) ?_
      rotate_left 1
      (intro w hSw; (try dsimp only at hSw); go_simp; try (with_reducible rfl))
      (try simp only [List.getElem_toArray, List.getElem_cons_succ, List.getElem_cons_zero]); (try dsimp only [Act.put]); (try simp only [List.setIfInBounds_toArray, List.set_cons_zero, List.set_cons_succ])
      refine wpAnyK_takeS (i := 1) (v := ?_) rfl (by kernel_rfl) (by kernel_rfl) (by kernel_rfl) (by kernel_rfl) (fun _ _ _ h => h) hSd (Or.inl ⟨by rfl, ?_⟩) ?_
      rotate_left 1
      (intro w hSw; (try dsimp only at hSw); go_simp; try (with_reducible rfl))
      (try simp only [List.getElem_toArray, List.getElem_cons_succ, List.getElem_cons_zero]); (try dsimp only [Act.put]); (try simp only [List.setIfInBounds_toArray, List.set_cons_zero, List.set_cons_succ])
      refine wpAnyK_takeS (i := 2) (v := ?_) rfl (by kernel_rfl) (by kernel_rfl) (by kernel_rfl) (by kernel_rfl) (fun _ _ _ h => h) hSd (Or.inl ⟨by rfl, ?_⟩) ?_
      rotate_left 1
      (intro w hSw; (try dsimp only at hSw); go_simp; try (with_reducible rfl))
      (try simp only [List.getElem_toArray, List.getElem_cons_succ, List.getElem_cons_zero]); (try dsimp only [Act.put]); (try simp only [List.setIfInBounds_toArray, List.set_cons_zero, List.set_cons_succ])
      refine wpAnyK_takeS (i := 3) (v := ?_) rfl (by kernel_rfl) (by kernel_rfl) (by kernel_rfl) (by kernel_rfl) (fun _ _ _ h => h) hSd (Or.inl ⟨by rfl, ?_⟩) ?_
      rotate_left 1
      (intro w hSw; (try dsimp only at hSw); go_simp; try (with_reducible rfl))
      (try simp only [List.getElem_toArray, List.getElem_cons_succ, List.getElem_cons_zero]); (try dsimp only [Act.put]); (try simp only [List.setIfInBounds_toArray, List.set_cons_zero, List.set_cons_succ])
      refine wpAnyK_two (i := 4) (j := 8) (by kernel_rfl) rfl rfl (fun K hK => ?_) (fun K hK => ?_)
      · skip
        go_simp
        go_at_call 15
        (with_reducible refine (HC.out X0 HW.out).mono ?_)
        rintro e' X1 ⟨v, rfl, ho, hb⟩
        obtain ⟨Ax, cx, rfl, hcx, _⟩ := Kd.R_reads ho
        have FX := Aside0.mk (Kd.F_mono (Kd.R_F ho) (ok' := fun k => True) (fun _ _ => trivial))
        have HW := Aside0.mk (HW.out.trans (hb.mono HW.out.size))
        have BE := Aside0.mk (blk_below BE.out hb)
        have hsz := hb.size
        clear ho
        clear hb
        have hSd := BoS.of BE.out
        refine hK.out _ _ (fun _ => hSd) ?_
        clear hK
        refine wpAnyK_takeS (i := 5) (v := ?_) rfl (by kernel_rfl) (by kernel_rfl) (by kernel_rfl) (by kernel_rfl) (fun _ _ _ h => h) hSd (Or.inl ⟨by rfl, ?_⟩) ?_
        rotate_left 1
        (intro w hSw; (try dsimp only at hSw); go_simp; try (with_reducible rfl))
        (try simp only [List.getElem_toArray, List.getElem_cons_succ, List.getElem_cons_zero]); (try dsimp only [Act.put]); (try simp only [List.setIfInBounds_toArray, List.set_cons_zero, List.set_cons_succ])
        refine wpAnyK_takeS (i := 6) (v := ?_) rfl (by kernel_rfl) (by kernel_rfl) (by kernel_rfl) (by kernel_rfl) (fun _ _ _ h => h) hSd (Or.inl ⟨by rfl, ?_⟩) ?_
        rotate_left 1
        (intro w hSw; (try dsimp only at hSw); go_simp; try (with_reducible rfl))
        (try simp only [List.getElem_toArray, List.getElem_cons_succ, List.getElem_cons_zero]); (try dsimp only [Act.put]); (try simp only [List.setIfInBounds_toArray, List.set_cons_zero, List.set_cons_succ])
        refine wpAnyK_takeS (i := 7) (v := ?_) rfl (by kernel_rfl) (by kernel_rfl) (by kernel_rfl) (by kernel_rfl) (fun _ _ _ h => h) hSd (Or.inl ⟨by rfl, ?_⟩) ?_
        rotate_left 1
        (intro w hSw; (try dsimp only at hSw); go_simp; try (with_reducible rfl))
        (try simp only [List.getElem_toArray, List.getElem_cons_succ, List.getElem_cons_zero]); (try dsimp only [Act.put]); (try simp only [List.setIfInBounds_toArray, List.set_cons_zero, List.set_cons_succ])
        refine wpAnyK_one (i := 8) (by kernel_rfl) rfl (fun K hK => ?_)
        go_simp
        obtain ⟨X2, hY⟩ : ∃ X2, X1.alloc (.cells #[.int .i64 0, .string ⟨#[]⟩, .slice none 0 0] 24) = X2 := ⟨_, rfl⟩
        obtain ⟨gx, hg⟩ : ∃ gx, X1.heap.size = gx := ⟨_, rfl⟩
        have hb : Below X1.heap.size X1 X2 := by rw [← hY]; exact below_alloc1 _ _
        have HW := Aside0.mk (HW.out.trans (hb.mono HW.out.size))
        have BE := Aside0.mk (blk_below BE.out hb)
        have hsz := hb.size
        have FX := Aside0.mk (Kd.F_below (Kd.F_mono (Kd.F_bound FX.out) (ok' := fun k => k ≠ gx) (fun k hk => by have h0 := hk.2; show k ≠ gx; omega)) hb)
        have GX := Aside0.mk (show X2.heap[gx]? = some (.cells #[.int .i64 0, .string ⟨#[]⟩, .slice none 0 0] 24 (0, 0)) by rw [← hY, ← hg]; exact alloc_at _ _)
        have hgs : gx < X2.heap.size := by rw [← hY, ← hg]; simp
        have hgw : wc.heap.size ≤ gx := by rw [← hg]; omega
        rw [hY, hg]
        clear hb hY hg
        have hSd := BoS.of BE.out
        refine hK.out _ _ (fun _ => hSd) ?_
        clear hK
        refine wpAnyK_one (i := 9) (by kernel_rfl) rfl (fun K hK => ?_)
        have g0 := (blk_cell GX.out 0).trans rfl
        have g1 := (blk_cell GX.out 1).trans rfl
        have g2 := (blk_cell GX.out 2).trans rfl
        have fg := fun i => blk_frozen GX.out i
        go_simp
        obtain ⟨Z, hY⟩ : ∃ Z, ((X2.setCell ⟨gx, 0, none⟩ (.int .i64 sp.1.f0)).setCell ⟨gx, 1, none⟩ (.string sp.1.f1)).setCell ⟨gx, 2, none⟩ (.slice Ax sp.1.f2.length cx) = Z := ⟨_, rfl⟩
        have hst : ∀ k, k ≠ gx → Z.heap[k]? = X2.heap[k]? := fun k hk => by rw [← hY]; exact (Below.heap_setCell _ _ _ _ hk).trans ((Below.heap_setCell _ _ _ _ hk).trans (Below.heap_setCell _ _ _ _ hk))
        have hg := blk_put (blk_put (blk_put GX.out 0 (.int .i64 sp.1.f0) rfl) 1 (.string sp.1.f1) rfl) 2 (.slice Ax sp.1.f2.length cx) rfl
        have hw := ((HW.out.setCell (p := ⟨gx, 0, none⟩) (by simp only; omega) (.int .i64 sp.1.f0)).setCell (p := ⟨gx, 1, none⟩) (by simp only; omega) (.string sp.1.f1)).setCell (p := ⟨gx, 2, none⟩) (by simp only; omega) (.slice Ax sp.1.f2.length cx)
        rw [hY] at hg hw ⊢
        have BE := Aside0.mk ((hst ge (by omega)).trans BE.out)
        have hfx := Kd.F_now (Kd.F_step FX.out (W1 := Z) (fun k hk _ => hst k hk))
        have hSd := BoS.of BE.out
        refine hK.out _ _ (fun _ => hSd) ?_
        clear hK g0 g1 g2 fg hY
        refine wpAnyK_one (i := 10) (by kernel_rfl) rfl (fun K hK => ?_)
        go_simp
        refine hK.out _ _ (fun _ => hSd) ?_
        clear hK hSd
        refine wpAnyK_done (by kernel_rfl) ?_ _
        go_wp2_with fail
        go_meet
        exact ⟨gx, Ax, cx, rfl, rfl, ⟨by simpa using hg⟩, ⟨hcx, hfx⟩, ⟨hw⟩⟩
      · skip
        go_simp
        obtain ⟨X1, hY⟩ : ∃ X1, X0.alloc (.cells #[.int .i64 0, .string ⟨#[]⟩, .slice none 0 0] 24) = X1 := ⟨_, rfl⟩
        obtain ⟨gx, hg⟩ : ∃ gx, X0.heap.size = gx := ⟨_, rfl⟩
        have hb : Below X0.heap.size X0 X1 := by rw [← hY]; exact below_alloc1 _ _
        have HW := Aside0.mk (HW.out.trans (hb.mono HW.out.size))
        have BE := Aside0.mk (blk_below BE.out hb)
        have hsz := hb.size
        have GX := Aside0.mk (show X1.heap[gx]? = some (.cells #[.int .i64 0, .string ⟨#[]⟩, .slice none 0 0] 24 (0, 0)) by rw [← hY, ← hg]; exact alloc_at _ _)
        have hgs : gx < X1.heap.size := by rw [← hY, ← hg]; simp
        have hgw : wc.heap.size ≤ gx := by rw [← hg]; omega
        rw [hY, hg]
        clear hb hY hg
        have hSd := BoS.of BE.out
        refine hK.out _ _ (fun _ => hSd) ?_
        clear hK
        refine wpAnyK_one (i := 4) (by kernel_rfl) rfl (fun K hK => ?_)
        go_simp
        go_at_call 15
        (with_reducible refine (HC.out X1 HW.out).mono ?_)
        rintro e' X2 ⟨v, rfl, ho, hb⟩
        obtain ⟨Ax, cx, rfl, hcx, _⟩ := Kd.R_reads ho
        have FX := Aside0.mk (Kd.F_mono (Kd.R_F (Kd.R_bound ho)) (ok' := fun k => k ≠ gx) (fun k hk => by have h0 := hk.2.1; show k ≠ gx; omega))
        have HW := Aside0.mk (HW.out.trans (hb.mono HW.out.size))
        have BE := Aside0.mk (blk_below BE.out hb)
        have hsz := hb.size
        have GX := Aside0.mk (blk_below GX.out hb)
        clear ho
        clear hb
        have hSd := BoS.of BE.out
        refine hK.out _ _ (fun _ => hSd) ?_
        clear hK
        refine wpAnyK_takeS (i := 5) (v := ?_) rfl (by kernel_rfl) (by kernel_rfl) (by kernel_rfl) (by kernel_rfl) (fun _ _ _ h => h) hSd (Or.inl ⟨by rfl, ?_⟩) ?_
        rotate_left 1
        (intro w hSw; (try dsimp only at hSw); go_simp; try (with_reducible rfl))
        (try simp only [List.getElem_toArray, List.getElem_cons_succ, List.getElem_cons_zero]); (try dsimp only [Act.put]); (try simp only [List.setIfInBounds_toArray, List.set_cons_zero, List.set_cons_succ])
        refine wpAnyK_takeS (i := 6) (v := ?_) rfl (by kernel_rfl) (by kernel_rfl) (by kernel_rfl) (by kernel_rfl) (fun _ _ _ h => h) hSd (Or.inl ⟨by rfl, ?_⟩) ?_
        rotate_left 1
        (intro w hSw; (try dsimp only at hSw); go_simp; try (with_reducible rfl))
        (try simp only [List.getElem_toArray, List.getElem_cons_succ, List.getElem_cons_zero]); (try dsimp only [Act.put]); (try simp only [List.setIfInBounds_toArray, List.set_cons_zero, List.set_cons_succ])
        refine wpAnyK_takeS (i := 7) (v := ?_) rfl (by kernel_rfl) (by kernel_rfl) (by kernel_rfl) (by kernel_rfl) (fun _ _ _ h => h) hSd (Or.inl ⟨by rfl, ?_⟩) ?_
        rotate_left 1
        (intro w hSw; (try dsimp only at hSw); go_simp; try (with_reducible rfl))
        (try simp only [List.getElem_toArray, List.getElem_cons_succ, List.getElem_cons_zero]); (try dsimp only [Act.put]); (try simp only [List.setIfInBounds_toArray, List.set_cons_zero, List.set_cons_succ])
        refine wpAnyK_one (i := 9) (by kernel_rfl) rfl (fun K hK => ?_)
        have g0 := (blk_cell GX.out 0).trans rfl
        have g1 := (blk_cell GX.out 1).trans rfl
        have g2 := (blk_cell GX.out 2).trans rfl
        have fg := fun i => blk_frozen GX.out i
        go_simp
        obtain ⟨Z, hY⟩ : ∃ Z, ((X2.setCell ⟨gx, 0, none⟩ (.int .i64 sp.1.f0)).setCell ⟨gx, 1, none⟩ (.string sp.1.f1)).setCell ⟨gx, 2, none⟩ (.slice Ax sp.1.f2.length cx) = Z := ⟨_, rfl⟩
        have hst : ∀ k, k ≠ gx → Z.heap[k]? = X2.heap[k]? := fun k hk => by rw [← hY]; exact (Below.heap_setCell _ _ _ _ hk).trans ((Below.heap_setCell _ _ _ _ hk).trans (Below.heap_setCell _ _ _ _ hk))
        have hg := blk_put (blk_put (blk_put GX.out 0 (.int .i64 sp.1.f0) rfl) 1 (.string sp.1.f1) rfl) 2 (.slice Ax sp.1.f2.length cx) rfl
        have hw := ((HW.out.setCell (p := ⟨gx, 0, none⟩) (by simp only; omega) (.int .i64 sp.1.f0)).setCell (p := ⟨gx, 1, none⟩) (by simp only; omega) (.string sp.1.f1)).setCell (p := ⟨gx, 2, none⟩) (by simp only; omega) (.slice Ax sp.1.f2.length cx)
        rw [hY] at hg hw ⊢
        have BE := Aside0.mk ((hst ge (by omega)).trans BE.out)
        have hfx := Kd.F_now (Kd.F_step FX.out (W1 := Z) (fun k hk _ => hst k hk))
        have hSd := BoS.of BE.out
        refine hK.out _ _ (fun _ => hSd) ?_
        clear hK g0 g1 g2 fg hY
        refine wpAnyK_one (i := 10) (by kernel_rfl) rfl (fun K hK => ?_)
        go_simp
        refine hK.out _ _ (fun _ => hSd) ?_
        clear hK hSd
        refine wpAnyK_done (by kernel_rfl) ?_ _
        go_wp2_with fail
        go_meet
        exact ⟨gx, Ax, cx, rfl, rfl, ⟨by simpa using hg⟩, ⟨hcx, hfx⟩, ⟨hw⟩⟩
    case rest =>
      rename World => wd
      obtain ⟨gx, Ax, cx, rfl, rfl, BX, LX, HW⟩ := hcut
      have hb := HW.out
      have BE := Aside0.mk (blk_below BE.out hb)
      have BY := Aside0.mk (blk_below BY.out hb)
      have LY := Aside0.mk (Kd.C_below LY.out hb)
      have CE := Aside0.mk (Kd.C_below CE.out hb)
      have C0 := Aside0.mk (Kd.C_below C0.out hb)
      have C1 := Aside0.mk (Kd.C_below C1.out hb)
      have V := Aside0.mk (Kd.C_below V.out hb)
      have Q := Aside0.mk (Q.out.trans (hb.mono Q.out.size))
      clear hb HW HC
      obtain ⟨pe, hpe⟩ : ∃ pe, putE [tx, ty] [x0, x1] e = pe := ⟨_, rfl⟩
      have hput := put_count (b0 := x0) (b1 := x1) (show tx ≠ ty by decide) _ e (Nat.le_refl _) (leaf_of_gen _ _ e (Nat.le_refl _) HG.out)
      rw [hpe] at hput
      have hwp : want = (szE pe : Int) := by rw [← HWt.out]; exact hput.1.symm
      have hsub : sp = if szE pe ≤ 24 then (pe, 0) else (noE, 2) := by rw [← HSp.out, subP_eq, if_pos (show [tx, ty].length = [x0, x1].length from rfl), if_neg (show ¬ twB [tx, ty] = true by decide), hpe]
      have HPut := Lib.hid hput
      have hht := hput.2.2
      clear hput hpe
      by_cases h24 : szE pe ≤ 24
      · rw [if_pos h24] at hsub
        have hw24 : decide ((24 : Int) < want) = false := decide_eq_false (by omega)
        have hsw : ((szE pe : Int) != want) = false := by rw [hwp]; simp
        have HWp := Lib.hid hwp
        subst hsub
        clear hwp
        dsimp only at BX LX
        have hcx := LX.out.1
        have CX := Aside0.mk LX.out.2
        have hct := cntV_le tx e
        have hcy := cntV_le ty e
        have hcz := cntV_le tz e
        have hz0' := cntV_le tz x0
        have hz1' := cntV_le tz x1
        have hcp := cntV_le tz pe
        have hsm : ((cntV tz pe : Int) != IntKind.i64.wrap (IntKind.i64.wrap ((cntV tz e : Int) + IntKind.i64.wrap ((cntV tx e : Int) * (cntV tz x0 : Int))) + IntKind.i64.wrap ((cntV ty e : Int) * (cntV tz x1 : Int)))) = false := by
          rw [sum_eq (by omega) (by omega) (by omega) (by omega) (by omega), HPut.out.2.1 tz (by decide) (by decide)]
          simp
        have hS0 : P9S wd ge e Ae ce gb x0 A0 c0 x1 A1 c1 gx pe Ax cx wd := ⟨Below.refl _ _, (blk_cell BE.out 0).trans rfl, (blk_cell BE.out 1).trans rfl, (blk_cell BE.out 2).trans rfl, (blk_cell BY.out 0).trans rfl, (blk_cell BY.out 1).trans rfl, (blk_cell BY.out 2).trans rfl, (blk_cell BY.out 3).trans rfl, (blk_cell BY.out 4).trans rfl, (blk_cell BY.out 5).trans rfl, (blk_cell BX.out 0).trans rfl, (blk_cell BX.out 1).trans rfl, (blk_cell BX.out 2).trans rfl⟩
        have HZp := Lib.hid (fun W (h : P9S wd ge e Ae ce gb x0 A0 c0 x1 A1 c1 gx pe Ax cx W) => keepQ P9S.step (v' := .int .i64 (szE pe : Int)) h rfl (c_Size _ pe Ax cx W (Nat.le_refl _) (by omega) (Kd.C_below CX.out h.1) hcx))
        have HKp := Lib.hid (fun W (h : P9S wd ge e Ae ce gb x0 A0 c0 x1 A1 c1 gx pe Ax cx W) => keepQ P9S.step (v' := .int .i64 (cntV tz pe : Int)) h rfl (c_count tz _ pe Ax cx W (Nat.le_refl _) (by omega) (Kd.C_below CX.out h.1) hcx))
        have HKz := Lib.hid (fun W (h : P9S wd ge e Ae ce gb x0 A0 c0 x1 A1 c1 gx pe Ax cx W) => keepQ P9S.step (v' := .int .i64 (cntV tz e : Int)) h rfl (c_count tz _ e Ae ce W (Nat.le_refl _) (by omega) (Kd.C_below CE.out h.1) hce))
        have HKx := Lib.hid (fun W (h : P9S wd ge e Ae ce gb x0 A0 c0 x1 A1 c1 gx pe Ax cx W) => keepQ P9S.step (v' := .int .i64 (cntV tx e : Int)) h rfl (c_count tx _ e Ae ce W (Nat.le_refl _) (by omega) (Kd.C_below CE.out h.1) hce))
        have HKy := Lib.hid (fun W (h : P9S wd ge e Ae ce gb x0 A0 c0 x1 A1 c1 gx pe Ax cx W) => keepQ P9S.step (v' := .int .i64 (cntV ty e : Int)) h rfl (c_count ty _ e Ae ce W (Nat.le_refl _) (by omega) (Kd.C_below CE.out h.1) hce))
        have HK0 := Lib.hid (fun W (h : P9S wd ge e Ae ce gb x0 A0 c0 x1 A1 c1 gx pe Ax cx W) => keepQ P9S.step (v' := .int .i64 (cntV tz x0 : Int)) h rfl (c_count tz _ x0 A0 c0 W (Nat.le_refl _) (by omega) (Kd.C_below C0.out h.1) hc0))
        have HK1 := Lib.hid (fun W (h : P9S wd ge e Ae ce gb x0 A0 c0 x1 A1 c1 gx pe Ax cx W) => keepQ P9S.step (v' := .int .i64 (cntV tz x1 : Int)) h rfl (c_count tz _ x1 A1 c1 W (Nat.le_refl _) (by omega) (Kd.C_below C1.out h.1) hc1))
        clear hct hcy hcz hz0' hz1' hcp
        go_wp2_with fail
        go_region_held3 (fun W => P9S wd ge e Ae ce gb x0 A0 c0 x1 A1 c1 gx pe Ax cx W) (first | assumption | exact hS0.step (below_drew (Below.refl _ _))) (first | (go_at_call 17; (with_reducible refine (HZp.out _ (by assumption)).mono ?_); rintro e' w' ⟨rfl, hS⟩) | (go_at_call 29; (with_reducible refine (HKp.out _ (by assumption)).mono ?_); rintro e' w' ⟨rfl, hS⟩) | (go_at_call 29; (with_reducible refine (HKz.out _ (by assumption)).mono ?_); rintro e' w' ⟨rfl, hS⟩) | (go_at_call 29; (with_reducible refine (HKx.out _ (by assumption)).mono ?_); rintro e' w' ⟨rfl, hS⟩) | (go_at_call 29; (with_reducible refine (HKy.out _ (by assumption)).mono ?_); rintro e' w' ⟨rfl, hS⟩) | (go_at_call 29; (with_reducible refine (HK0.out _ (by assumption)).mono ?_); rintro e' w' ⟨rfl, hS⟩) | (go_at_call 29; (with_reducible refine (HK1.out _ (by assumption)).mono ?_); rintro e' w' ⟨rfl, hS⟩))
        have hb : Below wd.heap.size wd w' := hS.1
        have BE := Aside0.mk (blk_below BE.out hb)
        have BX := Aside0.mk (blk_below BX.out hb)
        have CE := Aside0.mk (Kd.C_below CE.out hb)
        have CX := Aside0.mk (Kd.C_below CX.out hb)
        have V := Aside0.mk (Kd.C_below V.out hb)
        have Q := Aside0.mk (Q.out.trans (hb.mono Q.out.size))
        rename World => wf
        clear hb HZp HKp HKz HKx HKy HK0 HK1 hS hS0 hsm hsw hw24 C0 C1 BY LY
        have hge := blk_lt BE.out
        have hgx := blk_lt BX.out
        obtain ⟨sq, hsq⟩ : ∃ sq, subP xyz [⟨1, tx, []⟩, ⟨1, ty, []⟩, ⟨1, tz, []⟩] e = sq := ⟨_, rfl⟩
        have hputs := put_same (vs := xyz) _ e (Nat.le_refl _) (leaf_of_gen _ _ e (Nat.le_refl _) HG.out)
        have HSq := Lib.hid (show sq = (e, 0) by
          rw [← hsq, subP_eq, if_pos (show xyz.length = ([⟨1, tx, []⟩, ⟨1, ty, []⟩, ⟨1, tz, []⟩] : List Ex).length from rfl), if_neg (show ¬ twB xyz = true by decide)]
          have h1 : putE xyz [⟨1, tx, []⟩, ⟨1, ty, []⟩, ⟨1, tz, []⟩] e = e := hputs
          rw [h1, if_pos (by omega)])
        have HC := Lib.hid (fun X (h : Below wf.heap.size wf X) (gl : Nat) (hl : Kd.C k24 X (some ⟨gl, 0, none⟩) 3 [⟨1, tx, []⟩, ⟨1, ty, []⟩, ⟨1, tz, []⟩]) => show Calls Try.prog 15 #[.agg #[.int .i64 e.f0, .string e.f1, .slice Ae e.f2.length ce], .slice (some ⟨gv, 0, none⟩) 3 3, .slice (some ⟨gl, 0, none⟩) 3 3] X (fun en w' => ∃ v, en = .returned (.tuple #[.agg #[.int .i64 sq.1.f0, .string sq.1.f1, v], .int .i64 sq.2]) ∧ OwnE w' X.heap.size v sq.1.f2 ∧ Below X.heap.size X w') from by
          rw [← hsq]
          exact c_Subst e Ae ce xyz (some ⟨gv, 0, none⟩) 3 [⟨1, tx, []⟩, ⟨1, ty, []⟩, ⟨1, tz, []⟩] (some ⟨gl, 0, none⟩) 3 X (Kd.C_below CE.out h) hce (Kd.C_below V.out h) (by decide) hl (Nat.le_refl _) (by omega) (by simp only [List.mem_cons, List.not_mem_nil, or_false, forall_eq_or_imp, forall_eq]; decide) (by decide) (by decide))
        clear hsq hputs
        go_upto_region 11 with fail
        go_cut [12, 13] (fun s12 s13 wx => ∃ (gs : Nat) (As : Option Addr) (cs : Nat), s12 = .int .i64 sq.2 ∧ s13 = .pointer (some ⟨gs, 0, none⟩) ∧ Aside0 (XBox gs sq.1 As cs wx) ∧ Aside0 (sq.1.f2.length ≤ cs ∧ Kd.C k24 wx As sq.1.f2.length sq.1.f2) ∧ Aside0 (Below wf.heap.size wf wx))
        case first =>
          obtain ⟨X0, hX⟩ : ∃ X0, wf.drew = X0 := ⟨_, rfl⟩
          have HW := Aside0.mk (show Below wf.heap.size wf X0 by rw [← hX]; exact below_drew (Below.refl _ _))
          have BE := Aside0.mk (blk_below BE.out HW.out)
          have hsz := HW.out.size
          have hSd : (fun W => BoS ge e Ae ce W) X0 := BoS.of BE.out
          clear BX CX LX hcx hgx
          refine wp_region_K (S := fun W => BoS ge e Ae ce W) (k := 99) (by kernel_rfl) ?_
          change wpAnyK _ _ _ _ _ _ 13 (Array.replicate 13 false) _ _
          rw [hX]
          clear hX
          refine wpAnyK_takeS (i := 0) (v := ?_) rfl (by kernel_rfl) (by kernel_rfl) (by kernel_rfl) (by kernel_rfl) (fun _ _ _ h => h) hSd (Or.inl ⟨by rfl, ?_⟩) ?_
          rotate_left 1
          (intro w hSw; (try dsimp only at hSw); go_simp; try (with_reducible rfl))
          (try simp only [List.getElem_toArray, List.getElem_cons_succ, List.getElem_cons_zero]); (try dsimp only [Act.put]); (try simp only [List.setIfInBounds_toArray, List.set_cons_zero, List.set_cons_succ])
          refine wpAnyK_takeS (i := 1) (v := ?_) rfl (by kernel_rfl) (by kernel_rfl) (by kernel_rfl) (by kernel_rfl) (fun _ _ _ h => h) hSd (Or.inl ⟨by rfl, ?_⟩) ?_
          rotate_left 1
          (intro w hSw; (try dsimp only at hSw); go_simp; try (with_reducible rfl))
          (try simp only [List.getElem_toArray, List.getElem_cons_succ, List.getElem_cons_zero]); (try dsimp only [Act.put]); (try simp only [List.setIfInBounds_toArray, List.set_cons_zero, List.set_cons_succ])
          refine wpAnyK_two (i := 2) (j := 10) (by kernel_rfl) rfl rfl (fun K hK => ?_) (fun K hK => ?_)
          · skip
            go_simp
            go_at_call 30
            (with_reducible refine (c_V tx X0).mono ?_)
            rintro e' X1 ⟨rfl, hb⟩
            simp only [encH, List.length_nil]
            have HW := Aside0.mk (HW.out.trans (hb.mono HW.out.size))
            have BE := Aside0.mk (blk_below BE.out hb)
            have hsz := hb.size
            clear hb
            have hSd := BoS.of BE.out
            refine hK.out _ _ (fun _ => hSd) ?_
            clear hK
            refine wpAnyK_two (i := 3) (j := 10) (by kernel_rfl) rfl rfl (fun K hK => ?_) (fun K hK => ?_)
            · skip
              go_simp
              go_at_call 30
              (with_reducible refine (c_V ty X1).mono ?_)
              rintro e' X2 ⟨rfl, hb⟩
              simp only [encH, List.length_nil]
              have HW := Aside0.mk (HW.out.trans (hb.mono HW.out.size))
              have BE := Aside0.mk (blk_below BE.out hb)
              have hsz := hb.size
              clear hb
              have hSd := BoS.of BE.out
              refine hK.out _ _ (fun _ => hSd) ?_
              clear hK
              refine wpAnyK_two (i := 4) (j := 10) (by kernel_rfl) rfl rfl (fun K hK => ?_) (fun K hK => ?_)
              · skip
                go_simp
                go_at_call 30
                (with_reducible refine (c_V tz X2).mono ?_)
                rintro e' X3 ⟨rfl, hb⟩
                simp only [encH, List.length_nil]
                have HW := Aside0.mk (HW.out.trans (hb.mono HW.out.size))
                have BE := Aside0.mk (blk_below BE.out hb)
                have hsz := hb.size
                clear hb
                have hSd := BoS.of BE.out
                refine hK.out _ _ (fun _ => hSd) ?_
                clear hK
                refine wpAnyK_two (i := 5) (j := 10) (by kernel_rfl) rfl rfl (fun K hK => ?_) (fun K hK => ?_)
                · skip
                  go_simp
                  obtain ⟨X4, hY⟩ : ∃ X4, X3.alloc (.cells #[.int .i64 1, .string tx, .slice none 0 0, .int .i64 1, .string ty, .slice none 0 0, .int .i64 1, .string tz, .slice none 0 0] 24) = X4 := ⟨_, rfl⟩
                  obtain ⟨gl, hg⟩ : ∃ gl, X3.heap.size = gl := ⟨_, rfl⟩
                  have hb : Below X3.heap.size X3 X4 := by rw [← hY]; exact below_alloc1 _ _
                  have LB := Aside0.mk (show Kd.F k24 X4 (fun _ => True) (some ⟨gl, 0, none⟩) 3 [⟨1, tx, []⟩, ⟨1, ty, []⟩, ⟨1, tz, []⟩] by rw [← hY, ← hg]; exact F_lit3 (W := X3) (ok := fun _ => True) trivial 24 (varK X3 tx) rfl (varK X3 ty) rfl (varK X3 tz) rfl)
                  have HW := Aside0.mk (HW.out.trans (hb.mono HW.out.size))
                  have BE := Aside0.mk (blk_below BE.out hb)
                  have hsz := hb.size
                  rw [hY, hg]
                  clear hY hg
                  clear hb
                  have hSd := BoS.of BE.out
                  refine hK.out _ _ (fun _ => hSd) ?_
                  clear hK
                  refine wpAnyK_two (i := 6) (j := 10) (by kernel_rfl) rfl rfl (fun K hK => ?_) (fun K hK => ?_)
                  · skip
                    go_simp
                    go_at_call 15
                    (with_reducible refine (HC.out X4 HW.out gl (Kd.F_now LB.out)).mono ?_)
                    rintro e' X5 ⟨v, rfl, ho, hb⟩
                    obtain ⟨Ax, cx, rfl, hcx, _⟩ := Kd.R_reads ho
                    have FX := Aside0.mk (Kd.F_mono (Kd.R_F ho) (ok' := fun k => True) (fun _ _ => trivial))
                    have HW := Aside0.mk (HW.out.trans (hb.mono HW.out.size))
                    have BE := Aside0.mk (blk_below BE.out hb)
                    have hsz := hb.size
                    have LB := Aside0.mk (Kd.F_below LB.out hb)
                    clear ho
                    clear hb
                    have hSd := BoS.of BE.out
                    refine hK.out _ _ (fun _ => hSd) ?_
                    clear hK
                    refine wpAnyK_takeS (i := 7) (v := ?_) rfl (by kernel_rfl) (by kernel_rfl) (by kernel_rfl) (by kernel_rfl) (fun _ _ _ h => h) hSd (Or.inl ⟨by rfl, ?_⟩) ?_
                    rotate_left 1
                    (intro w hSw; (try dsimp only at hSw); go_simp; try (with_reducible rfl))
                    (try simp only [List.getElem_toArray, List.getElem_cons_succ, List.getElem_cons_zero]); (try dsimp only [Act.put]); (try simp only [List.setIfInBounds_toArray, List.set_cons_zero, List.set_cons_succ])
                    refine wpAnyK_takeS (i := 8) (v := ?_) rfl (by kernel_rfl) (by kernel_rfl) (by kernel_rfl) (by kernel_rfl) (fun _ _ _ h => h) hSd (Or.inl ⟨by rfl, ?_⟩) ?_
                    rotate_left 1
                    (intro w hSw; (try dsimp only at hSw); go_simp; try (with_reducible rfl))
                    (try simp only [List.getElem_toArray, List.getElem_cons_succ, List.getElem_cons_zero]); (try dsimp only [Act.put]); (try simp only [List.setIfInBounds_toArray, List.set_cons_zero, List.set_cons_succ])
                    refine wpAnyK_takeS (i := 9) (v := ?_) rfl (by kernel_rfl) (by kernel_rfl) (by kernel_rfl) (by kernel_rfl) (fun _ _ _ h => h) hSd (Or.inl ⟨by rfl, ?_⟩) ?_
                    rotate_left 1
                    (intro w hSw; (try dsimp only at hSw); go_simp; try (with_reducible rfl))
                    (try simp only [List.getElem_toArray, List.getElem_cons_succ, List.getElem_cons_zero]); (try dsimp only [Act.put]); (try simp only [List.setIfInBounds_toArray, List.set_cons_zero, List.set_cons_succ])
                    refine wpAnyK_one (i := 10) (by kernel_rfl) rfl (fun K hK => ?_)
                    go_simp
                    obtain ⟨X6, hY⟩ : ∃ X6, X5.alloc (.cells #[.int .i64 0, .string ⟨#[]⟩, .slice none 0 0] 24) = X6 := ⟨_, rfl⟩
                    obtain ⟨gx, hg⟩ : ∃ gx, X5.heap.size = gx := ⟨_, rfl⟩
                    have hb : Below X5.heap.size X5 X6 := by rw [← hY]; exact below_alloc1 _ _
                    have HW := Aside0.mk (HW.out.trans (hb.mono HW.out.size))
                    have BE := Aside0.mk (blk_below BE.out hb)
                    have hsz := hb.size
                    have LB := Aside0.mk (Kd.F_below LB.out hb)
                    have FX := Aside0.mk (Kd.F_below (Kd.F_mono (Kd.F_bound FX.out) (ok' := fun k => k ≠ gx) (fun k hk => by have h0 := hk.2; show k ≠ gx; omega)) hb)
                    have GX := Aside0.mk (show X6.heap[gx]? = some (.cells #[.int .i64 0, .string ⟨#[]⟩, .slice none 0 0] 24 (0, 0)) by rw [← hY, ← hg]; exact alloc_at _ _)
                    have hgs : gx < X6.heap.size := by rw [← hY, ← hg]; simp
                    have hgw : wf.heap.size ≤ gx := by rw [← hg]; omega
                    rw [hY, hg]
                    clear hb hY hg
                    have hSd := BoS.of BE.out
                    refine hK.out _ _ (fun _ => hSd) ?_
                    clear hK
                    refine wpAnyK_one (i := 11) (by kernel_rfl) rfl (fun K hK => ?_)
                    have g0 := (blk_cell GX.out 0).trans rfl
                    have g1 := (blk_cell GX.out 1).trans rfl
                    have g2 := (blk_cell GX.out 2).trans rfl
                    have fg := fun i => blk_frozen GX.out i
                    go_simp
                    obtain ⟨Z, hY⟩ : ∃ Z, ((X6.setCell ⟨gx, 0, none⟩ (.int .i64 sq.1.f0)).setCell ⟨gx, 1, none⟩ (.string sq.1.f1)).setCell ⟨gx, 2, none⟩ (.slice Ax sq.1.f2.length cx) = Z := ⟨_, rfl⟩
                    have hst : ∀ k, k ≠ gx → Z.heap[k]? = X6.heap[k]? := fun k hk => by rw [← hY]; exact (Below.heap_setCell _ _ _ _ hk).trans ((Below.heap_setCell _ _ _ _ hk).trans (Below.heap_setCell _ _ _ _ hk))
                    have hg := blk_put (blk_put (blk_put GX.out 0 (.int .i64 sq.1.f0) rfl) 1 (.string sq.1.f1) rfl) 2 (.slice Ax sq.1.f2.length cx) rfl
                    have hw := ((HW.out.setCell (p := ⟨gx, 0, none⟩) (by simp only; omega) (.int .i64 sq.1.f0)).setCell (p := ⟨gx, 1, none⟩) (by simp only; omega) (.string sq.1.f1)).setCell (p := ⟨gx, 2, none⟩) (by simp only; omega) (.slice Ax sq.1.f2.length cx)
                    rw [hY] at hg hw ⊢
                    have BE := Aside0.mk ((hst ge (by omega)).trans BE.out)
                    have hfx := Kd.F_now (Kd.F_step FX.out (W1 := Z) (fun k hk _ => hst k hk))
                    have hSd := BoS.of BE.out
                    refine hK.out _ _ (fun _ => hSd) ?_
                    clear hK g0 g1 g2 fg hY
                    refine wpAnyK_one (i := 12) (by kernel_rfl) rfl (fun K hK => ?_)
                    go_simp
                    refine hK.out _ _ (fun _ => hSd) ?_
                    clear hK hSd
                    refine wpAnyK_done (by kernel_rfl) ?_ _
                    go_wp2_with fail
                    go_meet
                    exact ⟨gx, Ax, cx, rfl, rfl, ⟨by simpa using hg⟩, ⟨hcx, hfx⟩, ⟨hw⟩⟩
                  · skip
                    go_simp
                    obtain ⟨X5, hY⟩ : ∃ X5, X4.alloc (.cells #[.int .i64 0, .string ⟨#[]⟩, .slice none 0 0] 24) = X5 := ⟨_, rfl⟩
                    obtain ⟨gx, hg⟩ : ∃ gx, X4.heap.size = gx := ⟨_, rfl⟩
                    have hb : Below X4.heap.size X4 X5 := by rw [← hY]; exact below_alloc1 _ _
                    have HW := Aside0.mk (HW.out.trans (hb.mono HW.out.size))
                    have BE := Aside0.mk (blk_below BE.out hb)
                    have hsz := hb.size
                    have LB := Aside0.mk (Kd.F_below LB.out hb)
                    have GX := Aside0.mk (show X5.heap[gx]? = some (.cells #[.int .i64 0, .string ⟨#[]⟩, .slice none 0 0] 24 (0, 0)) by rw [← hY, ← hg]; exact alloc_at _ _)
                    have hgs : gx < X5.heap.size := by rw [← hY, ← hg]; simp
                    have hgw : wf.heap.size ≤ gx := by rw [← hg]; omega
                    rw [hY, hg]
                    clear hb hY hg
                    have hSd := BoS.of BE.out
                    refine hK.out _ _ (fun _ => hSd) ?_
                    clear hK
                    refine wpAnyK_one (i := 6) (by kernel_rfl) rfl (fun K hK => ?_)
                    go_simp
                    go_at_call 15
                    (with_reducible refine (HC.out X5 HW.out gl (Kd.F_now LB.out)).mono ?_)
                    rintro e' X6 ⟨v, rfl, ho, hb⟩
                    obtain ⟨Ax, cx, rfl, hcx, _⟩ := Kd.R_reads ho
                    have FX := Aside0.mk (Kd.F_mono (Kd.R_F (Kd.R_bound ho)) (ok' := fun k => k ≠ gx) (fun k hk => by have h0 := hk.2.1; show k ≠ gx; omega))
                    have HW := Aside0.mk (HW.out.trans (hb.mono HW.out.size))
                    have BE := Aside0.mk (blk_below BE.out hb)
                    have hsz := hb.size
                    have GX := Aside0.mk (blk_below GX.out hb)
                    have LB := Aside0.mk (Kd.F_below LB.out hb)
                    clear ho
                    clear hb
                    have hSd := BoS.of BE.out
                    refine hK.out _ _ (fun _ => hSd) ?_
                    clear hK
                    refine wpAnyK_takeS (i := 7) (v := ?_) rfl (by kernel_rfl) (by kernel_rfl) (by kernel_rfl) (by kernel_rfl) (fun _ _ _ h => h) hSd (Or.inl ⟨by rfl, ?_⟩) ?_
                    rotate_left 1
                    (intro w hSw; (try dsimp only at hSw); go_simp; try (with_reducible rfl))
                    (try simp only [List.getElem_toArray, List.getElem_cons_succ, List.getElem_cons_zero]); (try dsimp only [Act.put]); (try simp only [List.setIfInBounds_toArray, List.set_cons_zero, List.set_cons_succ])
                    refine wpAnyK_takeS (i := 8) (v := ?_) rfl (by kernel_rfl) (by kernel_rfl) (by kernel_rfl) (by kernel_rfl) (fun _ _ _ h => h) hSd (Or.inl ⟨by rfl, ?_⟩) ?_
                    rotate_left 1
                    (intro w hSw; (try dsimp only at hSw); go_simp; try (with_reducible rfl))
                    (try simp only [List.getElem_toArray, List.getElem_cons_succ, List.getElem_cons_zero]); (try dsimp only [Act.put]); (try simp only [List.setIfInBounds_toArray, List.set_cons_zero, List.set_cons_succ])
                    refine wpAnyK_takeS (i := 9) (v := ?_) rfl (by kernel_rfl) (by kernel_rfl) (by kernel_rfl) (by kernel_rfl) (fun _ _ _ h => h) hSd (Or.inl ⟨by rfl, ?_⟩) ?_
                    rotate_left 1
                    (intro w hSw; (try dsimp only at hSw); go_simp; try (with_reducible rfl))
                    (try simp only [List.getElem_toArray, List.getElem_cons_succ, List.getElem_cons_zero]); (try dsimp only [Act.put]); (try simp only [List.setIfInBounds_toArray, List.set_cons_zero, List.set_cons_succ])
                    refine wpAnyK_one (i := 11) (by kernel_rfl) rfl (fun K hK => ?_)
                    have g0 := (blk_cell GX.out 0).trans rfl
                    have g1 := (blk_cell GX.out 1).trans rfl
                    have g2 := (blk_cell GX.out 2).trans rfl
                    have fg := fun i => blk_frozen GX.out i
                    go_simp
                    obtain ⟨Z, hY⟩ : ∃ Z, ((X6.setCell ⟨gx, 0, none⟩ (.int .i64 sq.1.f0)).setCell ⟨gx, 1, none⟩ (.string sq.1.f1)).setCell ⟨gx, 2, none⟩ (.slice Ax sq.1.f2.length cx) = Z := ⟨_, rfl⟩
                    have hst : ∀ k, k ≠ gx → Z.heap[k]? = X6.heap[k]? := fun k hk => by rw [← hY]; exact (Below.heap_setCell _ _ _ _ hk).trans ((Below.heap_setCell _ _ _ _ hk).trans (Below.heap_setCell _ _ _ _ hk))
                    have hg := blk_put (blk_put (blk_put GX.out 0 (.int .i64 sq.1.f0) rfl) 1 (.string sq.1.f1) rfl) 2 (.slice Ax sq.1.f2.length cx) rfl
                    have hw := ((HW.out.setCell (p := ⟨gx, 0, none⟩) (by simp only; omega) (.int .i64 sq.1.f0)).setCell (p := ⟨gx, 1, none⟩) (by simp only; omega) (.string sq.1.f1)).setCell (p := ⟨gx, 2, none⟩) (by simp only; omega) (.slice Ax sq.1.f2.length cx)
                    rw [hY] at hg hw ⊢
                    have BE := Aside0.mk ((hst ge (by omega)).trans BE.out)
                    have hfx := Kd.F_now (Kd.F_step FX.out (W1 := Z) (fun k hk _ => hst k hk))
                    have hSd := BoS.of BE.out
                    refine hK.out _ _ (fun _ => hSd) ?_
                    clear hK g0 g1 g2 fg hY
                    refine wpAnyK_one (i := 12) (by kernel_rfl) rfl (fun K hK => ?_)
                    go_simp
                    refine hK.out _ _ (fun _ => hSd) ?_
                    clear hK hSd
                    refine wpAnyK_done (by kernel_rfl) ?_ _
                    go_wp2_with fail
                    go_meet
                    exact ⟨gx, Ax, cx, rfl, rfl, ⟨by simpa using hg⟩, ⟨hcx, hfx⟩, ⟨hw⟩⟩
                · skip
                  go_simp
                  obtain ⟨X4, hY⟩ : ∃ X4, X3.alloc (.cells #[.int .i64 0, .string ⟨#[]⟩, .slice none 0 0] 24) = X4 := ⟨_, rfl⟩
                  obtain ⟨gx, hg⟩ : ∃ gx, X3.heap.size = gx := ⟨_, rfl⟩
                  have hb : Below X3.heap.size X3 X4 := by rw [← hY]; exact below_alloc1 _ _
                  have HW := Aside0.mk (HW.out.trans (hb.mono HW.out.size))
                  have BE := Aside0.mk (blk_below BE.out hb)
                  have hsz := hb.size
                  have GX := Aside0.mk (show X4.heap[gx]? = some (.cells #[.int .i64 0, .string ⟨#[]⟩, .slice none 0 0] 24 (0, 0)) by rw [← hY, ← hg]; exact alloc_at _ _)
                  have hgs : gx < X4.heap.size := by rw [← hY, ← hg]; simp
                  have hgw : wf.heap.size ≤ gx := by rw [← hg]; omega
                  rw [hY, hg]
                  clear hb hY hg
                  have hSd := BoS.of BE.out
                  refine hK.out _ _ (fun _ => hSd) ?_
                  clear hK
                  refine wpAnyK_one (i := 5) (by kernel_rfl) rfl (fun K hK => ?_)
                  go_simp
                  obtain ⟨X5, hY⟩ : ∃ X5, X4.alloc (.cells #[.int .i64 1, .string tx, .slice none 0 0, .int .i64 1, .string ty, .slice none 0 0, .int .i64 1, .string tz, .slice none 0 0] 24) = X5 := ⟨_, rfl⟩
                  obtain ⟨gl, hg⟩ : ∃ gl, X4.heap.size = gl := ⟨_, rfl⟩
                  have hb : Below X4.heap.size X4 X5 := by rw [← hY]; exact below_alloc1 _ _
                  have LB := Aside0.mk (show Kd.F k24 X5 (fun _ => True) (some ⟨gl, 0, none⟩) 3 [⟨1, tx, []⟩, ⟨1, ty, []⟩, ⟨1, tz, []⟩] by rw [← hY, ← hg]; exact F_lit3 (W := X4) (ok := fun _ => True) trivial 24 (varK X4 tx) rfl (varK X4 ty) rfl (varK X4 tz) rfl)
                  have HW := Aside0.mk (HW.out.trans (hb.mono HW.out.size))
                  have BE := Aside0.mk (blk_below BE.out hb)
                  have hsz := hb.size
                  have GX := Aside0.mk (blk_below GX.out hb)
                  rw [hY, hg]
                  clear hY hg
                  clear hb
                  have hSd := BoS.of BE.out
                  refine hK.out _ _ (fun _ => hSd) ?_
                  clear hK
                  refine wpAnyK_one (i := 6) (by kernel_rfl) rfl (fun K hK => ?_)
                  go_simp
                  go_at_call 15
                  (with_reducible refine (HC.out X5 HW.out gl (Kd.F_now LB.out)).mono ?_)
                  rintro e' X6 ⟨v, rfl, ho, hb⟩
                  obtain ⟨Ax, cx, rfl, hcx, _⟩ := Kd.R_reads ho
                  have FX := Aside0.mk (Kd.F_mono (Kd.R_F (Kd.R_bound ho)) (ok' := fun k => k ≠ gx) (fun k hk => by have h0 := hk.2.1; show k ≠ gx; omega))
                  have HW := Aside0.mk (HW.out.trans (hb.mono HW.out.size))
                  have BE := Aside0.mk (blk_below BE.out hb)
                  have hsz := hb.size
                  have GX := Aside0.mk (blk_below GX.out hb)
                  have LB := Aside0.mk (Kd.F_below LB.out hb)
                  clear ho
                  clear hb
                  have hSd := BoS.of BE.out
                  refine hK.out _ _ (fun _ => hSd) ?_
                  clear hK
                  refine wpAnyK_takeS (i := 7) (v := ?_) rfl (by kernel_rfl) (by kernel_rfl) (by kernel_rfl) (by kernel_rfl) (fun _ _ _ h => h) hSd (Or.inl ⟨by rfl, ?_⟩) ?_
                  rotate_left 1
                  (intro w hSw; (try dsimp only at hSw); go_simp; try (with_reducible rfl))
                  (try simp only [List.getElem_toArray, List.getElem_cons_succ, List.getElem_cons_zero]); (try dsimp only [Act.put]); (try simp only [List.setIfInBounds_toArray, List.set_cons_zero, List.set_cons_succ])
                  refine wpAnyK_takeS (i := 8) (v := ?_) rfl (by kernel_rfl) (by kernel_rfl) (by kernel_rfl) (by kernel_rfl) (fun _ _ _ h => h) hSd (Or.inl ⟨by rfl, ?_⟩) ?_
                  rotate_left 1
                  (intro w hSw; (try dsimp only at hSw); go_simp; try (with_reducible rfl))
                  (try simp only [List.getElem_toArray, List.getElem_cons_succ, List.getElem_cons_zero]); (try dsimp only [Act.put]); (try simp only [List.setIfInBounds_toArray, List.set_cons_zero, List.set_cons_succ])
                  refine wpAnyK_takeS (i := 9) (v := ?_) rfl (by kernel_rfl) (by kernel_rfl) (by kernel_rfl) (by kernel_rfl) (fun _ _ _ h => h) hSd (Or.inl ⟨by rfl, ?_⟩) ?_
                  rotate_left 1
                  (intro w hSw; (try dsimp only at hSw); go_simp; try (with_reducible rfl))
                  (try simp only [List.getElem_toArray, List.getElem_cons_succ, List.getElem_cons_zero]); (try dsimp only [Act.put]); (try simp only [List.setIfInBounds_toArray, List.set_cons_zero, List.set_cons_succ])
                  refine wpAnyK_one (i := 11) (by kernel_rfl) rfl (fun K hK => ?_)
                  have g0 := (blk_cell GX.out 0).trans rfl
                  have g1 := (blk_cell GX.out 1).trans rfl
                  have g2 := (blk_cell GX.out 2).trans rfl
                  have fg := fun i => blk_frozen GX.out i
                  go_simp
                  obtain ⟨Z, hY⟩ : ∃ Z, ((X6.setCell ⟨gx, 0, none⟩ (.int .i64 sq.1.f0)).setCell ⟨gx, 1, none⟩ (.string sq.1.f1)).setCell ⟨gx, 2, none⟩ (.slice Ax sq.1.f2.length cx) = Z := ⟨_, rfl⟩
                  have hst : ∀ k, k ≠ gx → Z.heap[k]? = X6.heap[k]? := fun k hk => by rw [← hY]; exact (Below.heap_setCell _ _ _ _ hk).trans ((Below.heap_setCell _ _ _ _ hk).trans (Below.heap_setCell _ _ _ _ hk))
                  have hg := blk_put (blk_put (blk_put GX.out 0 (.int .i64 sq.1.f0) rfl) 1 (.string sq.1.f1) rfl) 2 (.slice Ax sq.1.f2.length cx) rfl
                  have hw := ((HW.out.setCell (p := ⟨gx, 0, none⟩) (by simp only; omega) (.int .i64 sq.1.f0)).setCell (p := ⟨gx, 1, none⟩) (by simp only; omega) (.string sq.1.f1)).setCell (p := ⟨gx, 2, none⟩) (by simp only; omega) (.slice Ax sq.1.f2.length cx)
                  rw [hY] at hg hw ⊢
                  have BE := Aside0.mk ((hst ge (by omega)).trans BE.out)
                  have hfx := Kd.F_now (Kd.F_step FX.out (W1 := Z) (fun k hk _ => hst k hk))
                  have hSd := BoS.of BE.out
                  refine hK.out _ _ (fun _ => hSd) ?_
                  clear hK g0 g1 g2 fg hY
                  refine wpAnyK_one (i := 12) (by kernel_rfl) rfl (fun K hK => ?_)
                  go_simp
                  refine hK.out _ _ (fun _ => hSd) ?_
                  clear hK hSd
                  refine wpAnyK_done (by kernel_rfl) ?_ _
                  go_wp2_with fail
                  go_meet
                  exact ⟨gx, Ax, cx, rfl, rfl, ⟨by simpa using hg⟩, ⟨hcx, hfx⟩, ⟨hw⟩⟩
              · skip
                go_simp
                obtain ⟨X3, hY⟩ : ∃ X3, X2.alloc (.cells #[.int .i64 0, .string ⟨#[]⟩, .slice none 0 0] 24) = X3 := ⟨_, rfl⟩
                obtain ⟨gx, hg⟩ : ∃ gx, X2.heap.size = gx := ⟨_, rfl⟩
                have hb : Below X2.heap.size X2 X3 := by rw [← hY]; exact below_alloc1 _ _
                have HW := Aside0.mk (HW.out.trans (hb.mono HW.out.size))
                have BE := Aside0.mk (blk_below BE.out hb)
                have hsz := hb.size
                have GX := Aside0.mk (show X3.heap[gx]? = some (.cells #[.int .i64 0, .string ⟨#[]⟩, .slice none 0 0] 24 (0, 0)) by rw [← hY, ← hg]; exact alloc_at _ _)
                have hgs : gx < X3.heap.size := by rw [← hY, ← hg]; simp
                have hgw : wf.heap.size ≤ gx := by rw [← hg]; omega
                rw [hY, hg]
                clear hb hY hg
                have hSd := BoS.of BE.out
                refine hK.out _ _ (fun _ => hSd) ?_
                clear hK
                refine wpAnyK_one (i := 4) (by kernel_rfl) rfl (fun K hK => ?_)
                go_simp
                go_at_call 30
                (with_reducible refine (c_V tz X3).mono ?_)
                rintro e' X4 ⟨rfl, hb⟩
                simp only [encH, List.length_nil]
                have HW := Aside0.mk (HW.out.trans (hb.mono HW.out.size))
                have BE := Aside0.mk (blk_below BE.out hb)
                have hsz := hb.size
                have GX := Aside0.mk (blk_below GX.out hb)
                clear hb
                have hSd := BoS.of BE.out
                refine hK.out _ _ (fun _ => hSd) ?_
                clear hK
                refine wpAnyK_one (i := 5) (by kernel_rfl) rfl (fun K hK => ?_)
                go_simp
                obtain ⟨X5, hY⟩ : ∃ X5, X4.alloc (.cells #[.int .i64 1, .string tx, .slice none 0 0, .int .i64 1, .string ty, .slice none 0 0, .int .i64 1, .string tz, .slice none 0 0] 24) = X5 := ⟨_, rfl⟩
                obtain ⟨gl, hg⟩ : ∃ gl, X4.heap.size = gl := ⟨_, rfl⟩
                have hb : Below X4.heap.size X4 X5 := by rw [← hY]; exact below_alloc1 _ _
                have LB := Aside0.mk (show Kd.F k24 X5 (fun _ => True) (some ⟨gl, 0, none⟩) 3 [⟨1, tx, []⟩, ⟨1, ty, []⟩, ⟨1, tz, []⟩] by rw [← hY, ← hg]; exact F_lit3 (W := X4) (ok := fun _ => True) trivial 24 (varK X4 tx) rfl (varK X4 ty) rfl (varK X4 tz) rfl)
                have HW := Aside0.mk (HW.out.trans (hb.mono HW.out.size))
                have BE := Aside0.mk (blk_below BE.out hb)
                have hsz := hb.size
                have GX := Aside0.mk (blk_below GX.out hb)
                rw [hY, hg]
                clear hY hg
                clear hb
                have hSd := BoS.of BE.out
                refine hK.out _ _ (fun _ => hSd) ?_
                clear hK
                refine wpAnyK_one (i := 6) (by kernel_rfl) rfl (fun K hK => ?_)
                go_simp
                go_at_call 15
                (with_reducible refine (HC.out X5 HW.out gl (Kd.F_now LB.out)).mono ?_)
                rintro e' X6 ⟨v, rfl, ho, hb⟩
                obtain ⟨Ax, cx, rfl, hcx, _⟩ := Kd.R_reads ho
                have FX := Aside0.mk (Kd.F_mono (Kd.R_F (Kd.R_bound ho)) (ok' := fun k => k ≠ gx) (fun k hk => by have h0 := hk.2.1; show k ≠ gx; omega))
                have HW := Aside0.mk (HW.out.trans (hb.mono HW.out.size))
                have BE := Aside0.mk (blk_below BE.out hb)
                have hsz := hb.size
                have GX := Aside0.mk (blk_below GX.out hb)
                have LB := Aside0.mk (Kd.F_below LB.out hb)
                clear ho
                clear hb
                have hSd := BoS.of BE.out
                refine hK.out _ _ (fun _ => hSd) ?_
                clear hK
                refine wpAnyK_takeS (i := 7) (v := ?_) rfl (by kernel_rfl) (by kernel_rfl) (by kernel_rfl) (by kernel_rfl) (fun _ _ _ h => h) hSd (Or.inl ⟨by rfl, ?_⟩) ?_
                rotate_left 1
                (intro w hSw; (try dsimp only at hSw); go_simp; try (with_reducible rfl))
                (try simp only [List.getElem_toArray, List.getElem_cons_succ, List.getElem_cons_zero]); (try dsimp only [Act.put]); (try simp only [List.setIfInBounds_toArray, List.set_cons_zero, List.set_cons_succ])
                refine wpAnyK_takeS (i := 8) (v := ?_) rfl (by kernel_rfl) (by kernel_rfl) (by kernel_rfl) (by kernel_rfl) (fun _ _ _ h => h) hSd (Or.inl ⟨by rfl, ?_⟩) ?_
                rotate_left 1
                (intro w hSw; (try dsimp only at hSw); go_simp; try (with_reducible rfl))
                (try simp only [List.getElem_toArray, List.getElem_cons_succ, List.getElem_cons_zero]); (try dsimp only [Act.put]); (try simp only [List.setIfInBounds_toArray, List.set_cons_zero, List.set_cons_succ])
                refine wpAnyK_takeS (i := 9) (v := ?_) rfl (by kernel_rfl) (by kernel_rfl) (by kernel_rfl) (by kernel_rfl) (fun _ _ _ h => h) hSd (Or.inl ⟨by rfl, ?_⟩) ?_
                rotate_left 1
                (intro w hSw; (try dsimp only at hSw); go_simp; try (with_reducible rfl))
                (try simp only [List.getElem_toArray, List.getElem_cons_succ, List.getElem_cons_zero]); (try dsimp only [Act.put]); (try simp only [List.setIfInBounds_toArray, List.set_cons_zero, List.set_cons_succ])
                refine wpAnyK_one (i := 11) (by kernel_rfl) rfl (fun K hK => ?_)
                have g0 := (blk_cell GX.out 0).trans rfl
                have g1 := (blk_cell GX.out 1).trans rfl
                have g2 := (blk_cell GX.out 2).trans rfl
                have fg := fun i => blk_frozen GX.out i
                go_simp
                obtain ⟨Z, hY⟩ : ∃ Z, ((X6.setCell ⟨gx, 0, none⟩ (.int .i64 sq.1.f0)).setCell ⟨gx, 1, none⟩ (.string sq.1.f1)).setCell ⟨gx, 2, none⟩ (.slice Ax sq.1.f2.length cx) = Z := ⟨_, rfl⟩
                have hst : ∀ k, k ≠ gx → Z.heap[k]? = X6.heap[k]? := fun k hk => by rw [← hY]; exact (Below.heap_setCell _ _ _ _ hk).trans ((Below.heap_setCell _ _ _ _ hk).trans (Below.heap_setCell _ _ _ _ hk))
                have hg := blk_put (blk_put (blk_put GX.out 0 (.int .i64 sq.1.f0) rfl) 1 (.string sq.1.f1) rfl) 2 (.slice Ax sq.1.f2.length cx) rfl
                have hw := ((HW.out.setCell (p := ⟨gx, 0, none⟩) (by simp only; omega) (.int .i64 sq.1.f0)).setCell (p := ⟨gx, 1, none⟩) (by simp only; omega) (.string sq.1.f1)).setCell (p := ⟨gx, 2, none⟩) (by simp only; omega) (.slice Ax sq.1.f2.length cx)
                rw [hY] at hg hw ⊢
                have BE := Aside0.mk ((hst ge (by omega)).trans BE.out)
                have hfx := Kd.F_now (Kd.F_step FX.out (W1 := Z) (fun k hk _ => hst k hk))
                have hSd := BoS.of BE.out
                refine hK.out _ _ (fun _ => hSd) ?_
                clear hK g0 g1 g2 fg hY
                refine wpAnyK_one (i := 12) (by kernel_rfl) rfl (fun K hK => ?_)
                go_simp
                refine hK.out _ _ (fun _ => hSd) ?_
                clear hK hSd
                refine wpAnyK_done (by kernel_rfl) ?_ _
                go_wp2_with fail
                go_meet
                exact ⟨gx, Ax, cx, rfl, rfl, ⟨by simpa using hg⟩, ⟨hcx, hfx⟩, ⟨hw⟩⟩
            · skip
              go_simp
              obtain ⟨X2, hY⟩ : ∃ X2, X1.alloc (.cells #[.int .i64 0, .string ⟨#[]⟩, .slice none 0 0] 24) = X2 := ⟨_, rfl⟩
              obtain ⟨gx, hg⟩ : ∃ gx, X1.heap.size = gx := ⟨_, rfl⟩
              have hb : Below X1.heap.size X1 X2 := by rw [← hY]; exact below_alloc1 _ _
              have HW := Aside0.mk (HW.out.trans (hb.mono HW.out.size))
              have BE := Aside0.mk (blk_below BE.out hb)
              have hsz := hb.size
              have GX := Aside0.mk (show X2.heap[gx]? = some (.cells #[.int .i64 0, .string ⟨#[]⟩, .slice none 0 0] 24 (0, 0)) by rw [← hY, ← hg]; exact alloc_at _ _)
              have hgs : gx < X2.heap.size := by rw [← hY, ← hg]; simp
              have hgw : wf.heap.size ≤ gx := by rw [← hg]; omega
              rw [hY, hg]
              clear hb hY hg
              have hSd := BoS.of BE.out
              refine hK.out _ _ (fun _ => hSd) ?_
              clear hK
              refine wpAnyK_one (i := 3) (by kernel_rfl) rfl (fun K hK => ?_)
              go_simp
              go_at_call 30
              (with_reducible refine (c_V ty X2).mono ?_)
              rintro e' X3 ⟨rfl, hb⟩
              simp only [encH, List.length_nil]
              have HW := Aside0.mk (HW.out.trans (hb.mono HW.out.size))
              have BE := Aside0.mk (blk_below BE.out hb)
              have hsz := hb.size
              have GX := Aside0.mk (blk_below GX.out hb)
              clear hb
              have hSd := BoS.of BE.out
              refine hK.out _ _ (fun _ => hSd) ?_
              clear hK
              refine wpAnyK_one (i := 4) (by kernel_rfl) rfl (fun K hK => ?_)
              go_simp
              go_at_call 30
              (with_reducible refine (c_V tz X3).mono ?_)
              rintro e' X4 ⟨rfl, hb⟩
              simp only [encH, List.length_nil]
              have HW := Aside0.mk (HW.out.trans (hb.mono HW.out.size))
              have BE := Aside0.mk (blk_below BE.out hb)
              have hsz := hb.size
              have GX := Aside0.mk (blk_below GX.out hb)
              clear hb
              have hSd := BoS.of BE.out
              refine hK.out _ _ (fun _ => hSd) ?_
              clear hK
              refine wpAnyK_one (i := 5) (by kernel_rfl) rfl (fun K hK => ?_)
              go_simp
              obtain ⟨X5, hY⟩ : ∃ X5, X4.alloc (.cells #[.int .i64 1, .string tx, .slice none 0 0, .int .i64 1, .string ty, .slice none 0 0, .int .i64 1, .string tz, .slice none 0 0] 24) = X5 := ⟨_, rfl⟩
              obtain ⟨gl, hg⟩ : ∃ gl, X4.heap.size = gl := ⟨_, rfl⟩
              have hb : Below X4.heap.size X4 X5 := by rw [← hY]; exact below_alloc1 _ _
              have LB := Aside0.mk (show Kd.F k24 X5 (fun _ => True) (some ⟨gl, 0, none⟩) 3 [⟨1, tx, []⟩, ⟨1, ty, []⟩, ⟨1, tz, []⟩] by rw [← hY, ← hg]; exact F_lit3 (W := X4) (ok := fun _ => True) trivial 24 (varK X4 tx) rfl (varK X4 ty) rfl (varK X4 tz) rfl)
              have HW := Aside0.mk (HW.out.trans (hb.mono HW.out.size))
              have BE := Aside0.mk (blk_below BE.out hb)
              have hsz := hb.size
              have GX := Aside0.mk (blk_below GX.out hb)
              rw [hY, hg]
              clear hY hg
              clear hb
              have hSd := BoS.of BE.out
              refine hK.out _ _ (fun _ => hSd) ?_
              clear hK
              refine wpAnyK_one (i := 6) (by kernel_rfl) rfl (fun K hK => ?_)
              go_simp
              go_at_call 15
              (with_reducible refine (HC.out X5 HW.out gl (Kd.F_now LB.out)).mono ?_)
              rintro e' X6 ⟨v, rfl, ho, hb⟩
              obtain ⟨Ax, cx, rfl, hcx, _⟩ := Kd.R_reads ho
              have FX := Aside0.mk (Kd.F_mono (Kd.R_F (Kd.R_bound ho)) (ok' := fun k => k ≠ gx) (fun k hk => by have h0 := hk.2.1; show k ≠ gx; omega))
              have HW := Aside0.mk (HW.out.trans (hb.mono HW.out.size))
              have BE := Aside0.mk (blk_below BE.out hb)
              have hsz := hb.size
              have GX := Aside0.mk (blk_below GX.out hb)
              have LB := Aside0.mk (Kd.F_below LB.out hb)
              clear ho
              clear hb
              have hSd := BoS.of BE.out
              refine hK.out _ _ (fun _ => hSd) ?_
              clear hK
              refine wpAnyK_takeS (i := 7) (v := ?_) rfl (by kernel_rfl) (by kernel_rfl) (by kernel_rfl) (by kernel_rfl) (fun _ _ _ h => h) hSd (Or.inl ⟨by rfl, ?_⟩) ?_
              rotate_left 1
              (intro w hSw; (try dsimp only at hSw); go_simp; try (with_reducible rfl))
              (try simp only [List.getElem_toArray, List.getElem_cons_succ, List.getElem_cons_zero]); (try dsimp only [Act.put]); (try simp only [List.setIfInBounds_toArray, List.set_cons_zero, List.set_cons_succ])
              refine wpAnyK_takeS (i := 8) (v := ?_) rfl (by kernel_rfl) (by kernel_rfl) (by kernel_rfl) (by kernel_rfl) (fun _ _ _ h => h) hSd (Or.inl ⟨by rfl, ?_⟩) ?_
              rotate_left 1
              (intro w hSw; (try dsimp only at hSw); go_simp; try (with_reducible rfl))
              (try simp only [List.getElem_toArray, List.getElem_cons_succ, List.getElem_cons_zero]); (try dsimp only [Act.put]); (try simp only [List.setIfInBounds_toArray, List.set_cons_zero, List.set_cons_succ])
              refine wpAnyK_takeS (i := 9) (v := ?_) rfl (by kernel_rfl) (by kernel_rfl) (by kernel_rfl) (by kernel_rfl) (fun _ _ _ h => h) hSd (Or.inl ⟨by rfl, ?_⟩) ?_
              rotate_left 1
              (intro w hSw; (try dsimp only at hSw); go_simp; try (with_reducible rfl))
              (try simp only [List.getElem_toArray, List.getElem_cons_succ, List.getElem_cons_zero]); (try dsimp only [Act.put]); (try simp only [List.setIfInBounds_toArray, List.set_cons_zero, List.set_cons_succ])
              refine wpAnyK_one (i := 11) (by kernel_rfl) rfl (fun K hK => ?_)
              have g0 := (blk_cell GX.out 0).trans rfl
              have g1 := (blk_cell GX.out 1).trans rfl
              have g2 := (blk_cell GX.out 2).trans rfl
              have fg := fun i => blk_frozen GX.out i
              go_simp
              obtain ⟨Z, hY⟩ : ∃ Z, ((X6.setCell ⟨gx, 0, none⟩ (.int .i64 sq.1.f0)).setCell ⟨gx, 1, none⟩ (.string sq.1.f1)).setCell ⟨gx, 2, none⟩ (.slice Ax sq.1.f2.length cx) = Z := ⟨_, rfl⟩
              have hst : ∀ k, k ≠ gx → Z.heap[k]? = X6.heap[k]? := fun k hk => by rw [← hY]; exact (Below.heap_setCell _ _ _ _ hk).trans ((Below.heap_setCell _ _ _ _ hk).trans (Below.heap_setCell _ _ _ _ hk))
              have hg := blk_put (blk_put (blk_put GX.out 0 (.int .i64 sq.1.f0) rfl) 1 (.string sq.1.f1) rfl) 2 (.slice Ax sq.1.f2.length cx) rfl
              have hw := ((HW.out.setCell (p := ⟨gx, 0, none⟩) (by simp only; omega) (.int .i64 sq.1.f0)).setCell (p := ⟨gx, 1, none⟩) (by simp only; omega) (.string sq.1.f1)).setCell (p := ⟨gx, 2, none⟩) (by simp only; omega) (.slice Ax sq.1.f2.length cx)
              rw [hY] at hg hw ⊢
              have BE := Aside0.mk ((hst ge (by omega)).trans BE.out)
              have hfx := Kd.F_now (Kd.F_step FX.out (W1 := Z) (fun k hk _ => hst k hk))
              have hSd := BoS.of BE.out
              refine hK.out _ _ (fun _ => hSd) ?_
              clear hK g0 g1 g2 fg hY
              refine wpAnyK_one (i := 12) (by kernel_rfl) rfl (fun K hK => ?_)
              go_simp
              refine hK.out _ _ (fun _ => hSd) ?_
              clear hK hSd
              refine wpAnyK_done (by kernel_rfl) ?_ _
              go_wp2_with fail
              go_meet
              exact ⟨gx, Ax, cx, rfl, rfl, ⟨by simpa using hg⟩, ⟨hcx, hfx⟩, ⟨hw⟩⟩
          · skip
            go_simp
            obtain ⟨X1, hY⟩ : ∃ X1, X0.alloc (.cells #[.int .i64 0, .string ⟨#[]⟩, .slice none 0 0] 24) = X1 := ⟨_, rfl⟩
            obtain ⟨gx, hg⟩ : ∃ gx, X0.heap.size = gx := ⟨_, rfl⟩
            have hb : Below X0.heap.size X0 X1 := by rw [← hY]; exact below_alloc1 _ _
            have HW := Aside0.mk (HW.out.trans (hb.mono HW.out.size))
            have BE := Aside0.mk (blk_below BE.out hb)
            have hsz := hb.size
            have GX := Aside0.mk (show X1.heap[gx]? = some (.cells #[.int .i64 0, .string ⟨#[]⟩, .slice none 0 0] 24 (0, 0)) by rw [← hY, ← hg]; exact alloc_at _ _)
            have hgs : gx < X1.heap.size := by rw [← hY, ← hg]; simp
            have hgw : wf.heap.size ≤ gx := by rw [← hg]; omega
            rw [hY, hg]
            clear hb hY hg
            have hSd := BoS.of BE.out
            refine hK.out _ _ (fun _ => hSd) ?_
            clear hK
            refine wpAnyK_one (i := 2) (by kernel_rfl) rfl (fun K hK => ?_)
            go_simp
            go_at_call 30
            (with_reducible refine (c_V tx X1).mono ?_)
            rintro e' X2 ⟨rfl, hb⟩
            simp only [encH, List.length_nil]
            have HW := Aside0.mk (HW.out.trans (hb.mono HW.out.size))
            have BE := Aside0.mk (blk_below BE.out hb)
            have hsz := hb.size
            have GX := Aside0.mk (blk_below GX.out hb)
            clear hb
            have hSd := BoS.of BE.out
            refine hK.out _ _ (fun _ => hSd) ?_
            clear hK
            refine wpAnyK_one (i := 3) (by kernel_rfl) rfl (fun K hK => ?_)
            go_simp
            go_at_call 30
            (with_reducible refine (c_V ty X2).mono ?_)
            rintro e' X3 ⟨rfl, hb⟩
            simp only [encH, List.length_nil]
            have HW := Aside0.mk (HW.out.trans (hb.mono HW.out.size))
            have BE := Aside0.mk (blk_below BE.out hb)
            have hsz := hb.size
            have GX := Aside0.mk (blk_below GX.out hb)
            clear hb
            have hSd := BoS.of BE.out
            refine hK.out _ _ (fun _ => hSd) ?_
            clear hK
            refine wpAnyK_one (i := 4) (by kernel_rfl) rfl (fun K hK => ?_)
            go_simp
            go_at_call 30
            (with_reducible refine (c_V tz X3).mono ?_)
            rintro e' X4 ⟨rfl, hb⟩
            simp only [encH, List.length_nil]
            have HW := Aside0.mk (HW.out.trans (hb.mono HW.out.size))
            have BE := Aside0.mk (blk_below BE.out hb)
            have hsz := hb.size
            have GX := Aside0.mk (blk_below GX.out hb)
            clear hb
            have hSd := BoS.of BE.out
            refine hK.out _ _ (fun _ => hSd) ?_
            clear hK
            refine wpAnyK_one (i := 5) (by kernel_rfl) rfl (fun K hK => ?_)
            go_simp
            obtain ⟨X5, hY⟩ : ∃ X5, X4.alloc (.cells #[.int .i64 1, .string tx, .slice none 0 0, .int .i64 1, .string ty, .slice none 0 0, .int .i64 1, .string tz, .slice none 0 0] 24) = X5 := ⟨_, rfl⟩
            obtain ⟨gl, hg⟩ : ∃ gl, X4.heap.size = gl := ⟨_, rfl⟩
            have hb : Below X4.heap.size X4 X5 := by rw [← hY]; exact below_alloc1 _ _
            have LB := Aside0.mk (show Kd.F k24 X5 (fun _ => True) (some ⟨gl, 0, none⟩) 3 [⟨1, tx, []⟩, ⟨1, ty, []⟩, ⟨1, tz, []⟩] by rw [← hY, ← hg]; exact F_lit3 (W := X4) (ok := fun _ => True) trivial 24 (varK X4 tx) rfl (varK X4 ty) rfl (varK X4 tz) rfl)
            have HW := Aside0.mk (HW.out.trans (hb.mono HW.out.size))
            have BE := Aside0.mk (blk_below BE.out hb)
            have hsz := hb.size
            have GX := Aside0.mk (blk_below GX.out hb)
            rw [hY, hg]
            clear hY hg
            clear hb
            have hSd := BoS.of BE.out
            refine hK.out _ _ (fun _ => hSd) ?_
            clear hK
            refine wpAnyK_one (i := 6) (by kernel_rfl) rfl (fun K hK => ?_)
            go_simp
            go_at_call 15
            (with_reducible refine (HC.out X5 HW.out gl (Kd.F_now LB.out)).mono ?_)
            rintro e' X6 ⟨v, rfl, ho, hb⟩
            obtain ⟨Ax, cx, rfl, hcx, _⟩ := Kd.R_reads ho
            have FX := Aside0.mk (Kd.F_mono (Kd.R_F (Kd.R_bound ho)) (ok' := fun k => k ≠ gx) (fun k hk => by have h0 := hk.2.1; show k ≠ gx; omega))
            have HW := Aside0.mk (HW.out.trans (hb.mono HW.out.size))
            have BE := Aside0.mk (blk_below BE.out hb)
            have hsz := hb.size
            have GX := Aside0.mk (blk_below GX.out hb)
            have LB := Aside0.mk (Kd.F_below LB.out hb)
            clear ho
            clear hb
            have hSd := BoS.of BE.out
            refine hK.out _ _ (fun _ => hSd) ?_
            clear hK
            refine wpAnyK_takeS (i := 7) (v := ?_) rfl (by kernel_rfl) (by kernel_rfl) (by kernel_rfl) (by kernel_rfl) (fun _ _ _ h => h) hSd (Or.inl ⟨by rfl, ?_⟩) ?_
            rotate_left 1
            (intro w hSw; (try dsimp only at hSw); go_simp; try (with_reducible rfl))
            (try simp only [List.getElem_toArray, List.getElem_cons_succ, List.getElem_cons_zero]); (try dsimp only [Act.put]); (try simp only [List.setIfInBounds_toArray, List.set_cons_zero, List.set_cons_succ])
            refine wpAnyK_takeS (i := 8) (v := ?_) rfl (by kernel_rfl) (by kernel_rfl) (by kernel_rfl) (by kernel_rfl) (fun _ _ _ h => h) hSd (Or.inl ⟨by rfl, ?_⟩) ?_
            rotate_left 1
            (intro w hSw; (try dsimp only at hSw); go_simp; try (with_reducible rfl))
            (try simp only [List.getElem_toArray, List.getElem_cons_succ, List.getElem_cons_zero]); (try dsimp only [Act.put]); (try simp only [List.setIfInBounds_toArray, List.set_cons_zero, List.set_cons_succ])
            refine wpAnyK_takeS (i := 9) (v := ?_) rfl (by kernel_rfl) (by kernel_rfl) (by kernel_rfl) (by kernel_rfl) (fun _ _ _ h => h) hSd (Or.inl ⟨by rfl, ?_⟩) ?_
            rotate_left 1
            (intro w hSw; (try dsimp only at hSw); go_simp; try (with_reducible rfl))
            (try simp only [List.getElem_toArray, List.getElem_cons_succ, List.getElem_cons_zero]); (try dsimp only [Act.put]); (try simp only [List.setIfInBounds_toArray, List.set_cons_zero, List.set_cons_succ])
            refine wpAnyK_one (i := 11) (by kernel_rfl) rfl (fun K hK => ?_)
            have g0 := (blk_cell GX.out 0).trans rfl
            have g1 := (blk_cell GX.out 1).trans rfl
            have g2 := (blk_cell GX.out 2).trans rfl
            have fg := fun i => blk_frozen GX.out i
            go_simp
            obtain ⟨Z, hY⟩ : ∃ Z, ((X6.setCell ⟨gx, 0, none⟩ (.int .i64 sq.1.f0)).setCell ⟨gx, 1, none⟩ (.string sq.1.f1)).setCell ⟨gx, 2, none⟩ (.slice Ax sq.1.f2.length cx) = Z := ⟨_, rfl⟩
            have hst : ∀ k, k ≠ gx → Z.heap[k]? = X6.heap[k]? := fun k hk => by rw [← hY]; exact (Below.heap_setCell _ _ _ _ hk).trans ((Below.heap_setCell _ _ _ _ hk).trans (Below.heap_setCell _ _ _ _ hk))
            have hg := blk_put (blk_put (blk_put GX.out 0 (.int .i64 sq.1.f0) rfl) 1 (.string sq.1.f1) rfl) 2 (.slice Ax sq.1.f2.length cx) rfl
            have hw := ((HW.out.setCell (p := ⟨gx, 0, none⟩) (by simp only; omega) (.int .i64 sq.1.f0)).setCell (p := ⟨gx, 1, none⟩) (by simp only; omega) (.string sq.1.f1)).setCell (p := ⟨gx, 2, none⟩) (by simp only; omega) (.slice Ax sq.1.f2.length cx)
            rw [hY] at hg hw ⊢
            have BE := Aside0.mk ((hst ge (by omega)).trans BE.out)
            have hfx := Kd.F_now (Kd.F_step FX.out (W1 := Z) (fun k hk _ => hst k hk))
            have hSd := BoS.of BE.out
            refine hK.out _ _ (fun _ => hSd) ?_
            clear hK g0 g1 g2 fg hY
            refine wpAnyK_one (i := 12) (by kernel_rfl) rfl (fun K hK => ?_)
            go_simp
            refine hK.out _ _ (fun _ => hSd) ?_
            clear hK hSd
            refine wpAnyK_done (by kernel_rfl) ?_ _
            go_wp2_with fail
            go_meet
            exact ⟨gx, Ax, cx, rfl, rfl, ⟨by simpa using hg⟩, ⟨hcx, hfx⟩, ⟨hw⟩⟩
        case rest =>
          rename World => wg
          obtain ⟨gs, As, cs, rfl, rfl, BS, LS, HW⟩ := hcut
          have hsq := HSq.out
          subst hsq
          dsimp only at BS LS
          have hcs := LS.out.1
          have CS := Aside0.mk LS.out.2
          have hb := HW.out
          have BE := Aside0.mk (blk_below BE.out hb)
          have BX := Aside0.mk (blk_below BX.out hb)
          have CE := Aside0.mk (Kd.C_below CE.out hb)
          have CX := Aside0.mk (Kd.C_below CX.out hb)
          have V := Aside0.mk (Kd.C_below V.out hb)
          have Q := Aside0.mk (Q.out.trans (hb.mono Q.out.size))
          clear hb HW HC LS LX HSq
          have y0 := (blk_cell BX.out 0).trans rfl
          have y1 := (blk_cell BX.out 1).trans rfl
          have y2 := (blk_cell BX.out 2).trans rfl
          have HC := Lib.hid (c_Vars pe Ax cx wg CX.out hcx (by omega))
          go_wp2_with fail
          refine HC.out.mono ?_
          rintro en w12 ⟨v, rfl, ho, hb⟩
          obtain ⟨l, hl⟩ : ∃ l, varsL (plE pe) = l := ⟨_, rfl⟩
          rw [hl] at ho
          have HL := Lib.hid hl
          obtain ⟨Al, cl, rfl, hcl, hCl⟩ := OwnS.reads ho
          have CL := Aside0.mk hCl
          have BE := Aside0.mk (blk_below BE.out hb)
          have BX := Aside0.mk (blk_below BX.out hb)
          have BS := Aside0.mk (blk_below BS.out hb)
          have CE := Aside0.mk (Kd.C_below CE.out hb)
          have CX := Aside0.mk (Kd.C_below CX.out hb)
          have CS := Aside0.mk (Kd.C_below CS.out hb)
          have V := Aside0.mk (Kd.C_below V.out hb)
          have Q := Aside0.mk (Q.out.trans (hb.mono Q.out.size))
          clear hb HC ho hCl hl y0 y1 y2
          go_wp2_with fail
          go_loopg [119] 3 (fun gg s119 wr => ∃ kk : Nat, kk ≤ 3 ∧ 3 - kk ≤ gg ∧ s119 = .int .i64 kk ∧ Aside0 (Below w12.heap.size w12 wr))
          case atStart => exact ⟨0, Nat.zero_le _, by omega, rfl, ⟨Below.refl _ _⟩⟩
          case round =>
            obtain ⟨kk, hkk, hg, rfl, HB⟩ := hrel
            have BXr := Aside0.mk (blk_below BX.out HB.out)
            by_cases hlt : kk < 3
            · have hltz : (kk : Int) < 3 := by omega
              obtain ⟨s, hsm, y0⟩ : ∃ s : ByteArray, s ∈ xyz ∧ wr.cell? ⟨gv, kk, none⟩ = some (.string s) := by
                obtain ⟨ad, u0, hA, hK, _, y0⟩ := gett1 rfl (Kd.C_below V.out HB.out) kk hlt
                obtain rfl : u0 = .string xyz[kk] := by simpa [Kd.string, Kd.scalar] using hK
                cases hA
                exact ⟨_, List.getElem_mem hlt, by rw [← add_plain]; exact y0⟩
              have hne : ((l.any fun x => decide (x = s)) == decide (0 < cntV s pe)) = true := by
                have h := varsL_mem (plE pe) s
                rw [HL.out] at h
                rw [h]
                exact beq_self_eq_true _
              have hS0 : LoS w12 gx pe Ax cx wr := ⟨HB.out, (blk_cell BXr.out 0).trans rfl, (blk_cell BXr.out 1).trans rfl, (blk_cell BXr.out 2).trans rfl⟩
              have HCo := Lib.hid (fun W (h : LoS w12 gx pe Ax cx W) => (c_ContS Al cl l s W (Kd.C_below CL.out h.1) hcl).mono (R' := fun en W' => en = .returned (.bool (l.any fun x => decide (x = s))) ∧ LoS w12 gx pe Ax cx W') (by rintro en W' ⟨rfl, rfl⟩; exact ⟨rfl, h⟩))
              have HKs := Lib.hid (fun W (h : LoS w12 gx pe Ax cx W) => keepQ LoS.step (v' := .int .i64 (cntV s pe : Int)) h rfl (c_count s _ pe Ax cx W (Nat.le_refl _) (by omega) (Kd.C_below CX.out h.1) hcx))
              go_upto_region 16 with fail
              go_region_held3 (fun W => LoS w12 gx pe Ax cx W) (first | assumption | exact hS0.step (below_drew (Below.refl _ _))) (first | (go_at_call 31; (with_reducible refine (HCo.out _ (by assumption)).mono ?_); rintro e' w' ⟨rfl, hS⟩) | (go_at_call 29; (with_reducible refine (HKs.out _ (by assumption)).mono ?_); rintro e' w' ⟨rfl, hS⟩))
              have hb := hS.1
              rename World => wq
              go_wp2_with fail
              go_roundg (3 - (kk + 1))
              case measure => omega
              case rel => exact ⟨kk + 1, by omega, by omega, by go_num, ⟨hb⟩⟩
            · have hltz : ¬ (kk : Int) < 3 := by omega
              have hk3 : kk = 3 := by omega
              subst hk3
              have hb := HB.out
              have BE := Aside0.mk (blk_below BE.out hb)
              have BX := Aside0.mk (blk_below BX.out hb)
              have BS := Aside0.mk (blk_below BS.out hb)
              have CE := Aside0.mk (Kd.C_below CE.out hb)
              have CX := Aside0.mk (Kd.C_below CX.out hb)
              have CS := Aside0.mk (Kd.C_below CS.out hb)
              have Q := Aside0.mk (Q.out.trans (hb.mono Q.out.size))
              clear hb HB
              have hS0 : L3S wr gs e As cs ge e Ae ce gx pe Ax cx wr := ⟨Below.refl _ _, (blk_cell BS.out 0).trans rfl, (blk_cell BS.out 1).trans rfl, (blk_cell BS.out 2).trans rfl, (blk_cell BE.out 0).trans rfl, (blk_cell BE.out 1).trans rfl, (blk_cell BE.out 2).trans rfl, (blk_cell BX.out 0).trans rfl, (blk_cell BX.out 1).trans rfl, (blk_cell BX.out 2).trans rfl⟩
              have hgeq : decide ((htE e : Int) ≤ (htE pe : Int)) = true := decide_eq_true (by omega)
              have hh1 := htE_sz _ e (Nat.le_refl _)
              have hh2 := htE_sz _ pe (Nat.le_refl _)
              have HSm := Lib.hid (fun W (h : L3S wr gs e As cs ge e Ae ce gx pe Ax cx W) => keepQ L3S.step (v' := .bool true) h (by rw [sameE_iff.2 rfl]) (c_SameExpr e e As Ae cs ce W (Kd.C_below CS.out h.1) hcs (Kd.C_below CE.out h.1) hce (by omega) (by omega)))
              have HHe := Lib.hid (fun W (h : L3S wr gs e As cs ge e Ae ce gx pe Ax cx W) => keepQ L3S.step (v' := .int .i64 (htE e : Int)) h rfl (c_Height _ e Ae ce W (Nat.le_refl _) (by omega) (Kd.C_below CE.out h.1) hce))
              have HHp := Lib.hid (fun W (h : L3S wr gs e As cs ge e Ae ce gx pe Ax cx W) => keepQ L3S.step (v' := .int .i64 (htE pe : Int)) h rfl (c_Height _ pe Ax cx W (Nat.le_refl _) (by omega) (Kd.C_below CX.out h.1) hcx))
              have HAw := Lib.hid (fun W (h : L3S wr gs e As cs ge e Ae ce gx pe Ax cx W) => keepQ L3S.step h rfl (c_awake W))
              go_upto_region 19 with fail
              obtain ⟨X0, hX⟩ : ∃ X0, wr.drew = X0 := ⟨_, rfl⟩
              have hSd : (fun W => L3S wr gs e As cs ge e Ae ce gx pe Ax cx W) X0 := by rw [← hX]; exact hS0.step (below_drew (Below.refl _ _))
              refine wp_region_K (S := fun W => L3S wr gs e As cs ge e Ae ce gx pe Ax cx W) (k := 99) (by kernel_rfl) ?_
              change wpAnyK _ _ _ _ _ _ 27 (Array.replicate 27 false) _ _
              rw [hX]
              clear hX hS0
              refine wpAnyK_takeS (i := 0) (v := ?_) rfl (by kernel_rfl) (by kernel_rfl) (by kernel_rfl) (by kernel_rfl) (fun _ _ _ h => h) hSd (Or.inl ⟨by rfl, ?_⟩) ?_
              rotate_left 1
              (intro w hSw; (try dsimp only at hSw); go_simp; try (with_reducible rfl))
              (try simp only [List.getElem_toArray, List.getElem_cons_succ, List.getElem_cons_zero]); (try dsimp only [Act.put]); (try simp only [List.setIfInBounds_toArray, List.set_cons_zero, List.set_cons_succ])
              refine wpAnyK_takeS (i := 1) (v := ?_) rfl (by kernel_rfl) (by kernel_rfl) (by kernel_rfl) (by kernel_rfl) (fun _ _ _ h => h) hSd (Or.inl ⟨by rfl, ?_⟩) ?_
              rotate_left 1
              (intro w hSw; (try dsimp only at hSw); go_simp; try (with_reducible rfl))
              (try simp only [List.getElem_toArray, List.getElem_cons_succ, List.getElem_cons_zero]); (try dsimp only [Act.put]); (try simp only [List.setIfInBounds_toArray, List.set_cons_zero, List.set_cons_succ])
              refine wpAnyK_takeS (i := 2) (v := ?_) rfl (by kernel_rfl) (by kernel_rfl) (by kernel_rfl) (by kernel_rfl) (fun _ _ _ h => h) hSd (Or.inl ⟨by rfl, ?_⟩) ?_
              rotate_left 1
              (intro w hSw; (try dsimp only at hSw); go_simp; try (with_reducible rfl))
              (try simp only [List.getElem_toArray, List.getElem_cons_succ, List.getElem_cons_zero]); (try dsimp only [Act.put]); (try simp only [List.setIfInBounds_toArray, List.set_cons_zero, List.set_cons_succ])
              refine wpAnyK_takeS (i := 3) (v := undef) rfl (by kernel_rfl) (by kernel_rfl) (by kernel_rfl) (by kernel_rfl) (fun _ _ _ h => h) hSd (Or.inr ⟨by rfl, rfl⟩) ?_
              (try simp only [List.getElem_toArray, List.getElem_cons_succ, List.getElem_cons_zero]); (try dsimp only [Act.put]); (try simp only [List.setIfInBounds_toArray, List.set_cons_zero, List.set_cons_succ])
              refine wpAnyK_takeS (i := 4) (v := undef) rfl (by kernel_rfl) (by kernel_rfl) (by kernel_rfl) (by kernel_rfl) (fun _ _ _ h => h) hSd (Or.inr ⟨by rfl, rfl⟩) ?_
              (try simp only [List.getElem_toArray, List.getElem_cons_succ, List.getElem_cons_zero]); (try dsimp only [Act.put]); (try simp only [List.setIfInBounds_toArray, List.set_cons_zero, List.set_cons_succ])
              refine wpAnyK_takeS (i := 5) (v := undef) rfl (by kernel_rfl) (by kernel_rfl) (by kernel_rfl) (by kernel_rfl) (fun _ _ _ h => h) hSd (Or.inr ⟨by rfl, rfl⟩) ?_
              (try simp only [List.getElem_toArray, List.getElem_cons_succ, List.getElem_cons_zero]); (try dsimp only [Act.put]); (try simp only [List.setIfInBounds_toArray, List.set_cons_zero, List.set_cons_succ])
              refine wpAnyK_takeS (i := 6) (v := ?_) rfl (by kernel_rfl) (by kernel_rfl) (by kernel_rfl) (by kernel_rfl) (fun _ _ _ h => h) hSd (Or.inl ⟨by rfl, ?_⟩) ?_
              rotate_left 1
              (intro w hSw; (try dsimp only at hSw); go_simp; try (with_reducible rfl))
              (try simp only [List.getElem_toArray, List.getElem_cons_succ, List.getElem_cons_zero]); (try dsimp only [Act.put]); (try simp only [List.setIfInBounds_toArray, List.set_cons_zero, List.set_cons_succ])
              refine wpAnyK_takeS (i := 7) (v := ?_) rfl (by kernel_rfl) (by kernel_rfl) (by kernel_rfl) (by kernel_rfl) (fun _ _ _ h => h) hSd (Or.inl ⟨by rfl, ?_⟩) ?_
              rotate_left 1
              (intro w hSw; (try dsimp only at hSw); go_simp; try (with_reducible rfl))
              (try simp only [List.getElem_toArray, List.getElem_cons_succ, List.getElem_cons_zero]); (try dsimp only [Act.put]); (try simp only [List.setIfInBounds_toArray, List.set_cons_zero, List.set_cons_succ])
              refine wpAnyK_takeS (i := 8) (v := ?_) rfl (by kernel_rfl) (by kernel_rfl) (by kernel_rfl) (by kernel_rfl) (fun _ _ _ h => h) hSd (Or.inl ⟨by rfl, ?_⟩) ?_
              rotate_left 1
              (intro w hSw; (try dsimp only at hSw); go_simp; try (with_reducible rfl))
              (try simp only [List.getElem_toArray, List.getElem_cons_succ, List.getElem_cons_zero]); (try dsimp only [Act.put]); (try simp only [List.setIfInBounds_toArray, List.set_cons_zero, List.set_cons_succ])
              refine wpAnyK_takeS (i := 9) (v := ?_) rfl (by kernel_rfl) (by kernel_rfl) (by kernel_rfl) (by kernel_rfl) (fun _ _ _ h => h) hSd (Or.inl ⟨by rfl, ?_⟩) ?_
              rotate_left 1
              (intro w hSw; (try dsimp only at hSw); go_simp; try (with_reducible rfl))
              (try simp only [List.getElem_toArray, List.getElem_cons_succ, List.getElem_cons_zero]); (try dsimp only [Act.put]); (try simp only [List.setIfInBounds_toArray, List.set_cons_zero, List.set_cons_succ])
              refine wpAnyK_takeS (i := 10) (v := ?_) rfl (by kernel_rfl) (by kernel_rfl) (by kernel_rfl) (by kernel_rfl) (fun _ _ _ h => h) hSd (Or.inl ⟨by rfl, ?_⟩) ?_
              rotate_left 1
              (intro w hSw; (try dsimp only at hSw); go_simp; try (with_reducible rfl))
              (try simp only [List.getElem_toArray, List.getElem_cons_succ, List.getElem_cons_zero]); (try dsimp only [Act.put]); (try simp only [List.setIfInBounds_toArray, List.set_cons_zero, List.set_cons_succ])
              refine wpAnyK_takeS (i := 11) (v := ?_) rfl (by kernel_rfl) (by kernel_rfl) (by kernel_rfl) (by kernel_rfl) (fun _ _ _ h => h) hSd (Or.inl ⟨by rfl, ?_⟩) ?_
              rotate_left 1
              (intro w hSw; (try dsimp only at hSw); go_simp; try (with_reducible rfl))
              (try simp only [List.getElem_toArray, List.getElem_cons_succ, List.getElem_cons_zero]); (try dsimp only [Act.put]); (try simp only [List.setIfInBounds_toArray, List.set_cons_zero, List.set_cons_succ])
              refine wpAnyK_takeS (i := 12) (v := ?_) rfl (by kernel_rfl) (by kernel_rfl) (by kernel_rfl) (by kernel_rfl) (fun _ _ _ h => h) hSd (Or.inl ⟨by rfl, ?_⟩) ?_
              rotate_left 1
              (intro w hSw; (try dsimp only at hSw); go_simp; try (with_reducible rfl))
              (try simp only [List.getElem_toArray, List.getElem_cons_succ, List.getElem_cons_zero]); (try dsimp only [Act.put]); (try simp only [List.setIfInBounds_toArray, List.set_cons_zero, List.set_cons_succ])
              refine wpAnyK_one (i := 13) (by kernel_rfl) rfl (fun K hK => ?_)
              go_simp
              go_at_call 24
              (with_reducible refine (HSm.out _ hSd).mono ?_)
              rintro e' w1' ⟨rfl, hS⟩
              have hSd := hS
              refine hK.out _ _ (fun _ => hSd) ?_
              clear hK
              refine wpAnyK_takeS (i := 14) (v := ?_) rfl (by kernel_rfl) (by kernel_rfl) (by kernel_rfl) (by kernel_rfl) (fun _ _ _ h => h) hSd (Or.inl ⟨by rfl, ?_⟩) ?_
              rotate_left 1
              (intro w hSw; (try dsimp only at hSw); go_simp; try (with_reducible rfl))
              (try simp only [List.getElem_toArray, List.getElem_cons_succ, List.getElem_cons_zero]); (try dsimp only [Act.put]); (try simp only [List.setIfInBounds_toArray, List.set_cons_zero, List.set_cons_succ])
              refine wpAnyK_takeS (i := 15) (v := ?_) rfl (by kernel_rfl) (by kernel_rfl) (by kernel_rfl) (by kernel_rfl) (fun _ _ _ h => h) hSd (Or.inl ⟨by rfl, ?_⟩) ?_
              rotate_left 1
              (intro w hSw; (try dsimp only at hSw); go_simp; try (with_reducible rfl))
              (try simp only [List.getElem_toArray, List.getElem_cons_succ, List.getElem_cons_zero]); (try dsimp only [Act.put]); (try simp only [List.setIfInBounds_toArray, List.set_cons_zero, List.set_cons_succ])
              refine wpAnyK_takeS (i := 16) (v := ?_) rfl (by kernel_rfl) (by kernel_rfl) (by kernel_rfl) (by kernel_rfl) (fun _ _ _ h => h) hSd (Or.inl ⟨by rfl, ?_⟩) ?_
              rotate_left 1
              (intro w hSw; (try dsimp only at hSw); go_simp; try (with_reducible rfl))
              (try simp only [List.getElem_toArray, List.getElem_cons_succ, List.getElem_cons_zero]); (try dsimp only [Act.put]); (try simp only [List.setIfInBounds_toArray, List.set_cons_zero, List.set_cons_succ])
              refine wpAnyK_takeS (i := 17) (v := ?_) rfl (by kernel_rfl) (by kernel_rfl) (by kernel_rfl) (by kernel_rfl) (fun _ _ _ h => h) hSd (Or.inl ⟨by rfl, ?_⟩) ?_
              rotate_left 1
              (intro w hSw; (try dsimp only at hSw); go_simp; try (with_reducible rfl))
              (try simp only [List.getElem_toArray, List.getElem_cons_succ, List.getElem_cons_zero]); (try dsimp only [Act.put]); (try simp only [List.setIfInBounds_toArray, List.set_cons_zero, List.set_cons_succ])
              refine wpAnyK_takeS (i := 19) (v := ?_) rfl (by kernel_rfl) (by kernel_rfl) (by kernel_rfl) (by kernel_rfl) (fun _ _ _ h => h) hSd (Or.inl ⟨by rfl, ?_⟩) ?_
              rotate_left 1
              (intro w hSw; (try dsimp only at hSw); go_simp; try (with_reducible rfl))
              (try simp only [List.getElem_toArray, List.getElem_cons_succ, List.getElem_cons_zero]); (try dsimp only [Act.put]); (try simp only [List.setIfInBounds_toArray, List.set_cons_zero, List.set_cons_succ])
              refine wpAnyK_one (i := 18) (by kernel_rfl) rfl (fun K hK => ?_)
              go_simp
              go_at_call 19
              (with_reducible refine (HHp.out _ hSd).mono ?_)
              rintro e' w2' ⟨rfl, hS⟩
              have hSd := hS
              refine hK.out _ _ (fun _ => hSd) ?_
              clear hK
              refine wpAnyK_one (i := 20) (by kernel_rfl) rfl (fun K hK => ?_)
              go_simp
              go_at_call 19
              (with_reducible refine (HHe.out _ hSd).mono ?_)
              rintro e' w3' ⟨rfl, hS⟩
              have hSd := hS
              refine hK.out _ _ (fun _ => hSd) ?_
              clear hK
              refine wpAnyK_takeS (i := 21) (v := ?_) rfl (by kernel_rfl) (by kernel_rfl) (by kernel_rfl) (by kernel_rfl) (fun _ _ _ h => h) hSd (Or.inl ⟨by rfl, ?_⟩) ?_
              rotate_left 1
              (intro w hSw; (try dsimp only at hSw); go_simp; try (with_reducible rfl))
              (try simp only [List.getElem_toArray, List.getElem_cons_succ, List.getElem_cons_zero]); (try dsimp only [Act.put]); (try simp only [List.setIfInBounds_toArray, List.set_cons_zero, List.set_cons_succ])
              refine wpAnyK_takeS (i := 22) (v := ?_) rfl (by kernel_rfl) (by kernel_rfl) (by kernel_rfl) (by kernel_rfl) (fun _ _ _ h => h) hSd (Or.inl ⟨by rfl, ?_⟩) ?_
              rotate_left 1
              (intro w hSw; (try dsimp only at hSw); go_simp; try (with_reducible rfl))
              (try simp only [List.getElem_toArray, List.getElem_cons_succ, List.getElem_cons_zero]); (try dsimp only [Act.put]); (try simp only [List.setIfInBounds_toArray, List.set_cons_zero, List.set_cons_succ])
              refine wpAnyK_takeS (i := 23) (v := ?_) rfl (by kernel_rfl) (by kernel_rfl) (by kernel_rfl) (by kernel_rfl) (fun _ _ _ h => h) hSd (Or.inl ⟨by rfl, ?_⟩) ?_
              rotate_left 1
              (intro w hSw; (try dsimp only at hSw); go_simp; try (with_reducible rfl))
              (try simp only [List.getElem_toArray, List.getElem_cons_succ, List.getElem_cons_zero]); (try dsimp only [Act.put]); (try simp only [List.setIfInBounds_toArray, List.set_cons_zero, List.set_cons_succ])
              refine wpAnyK_one (i := 24) (by kernel_rfl) rfl (fun K hK => ?_)
              go_simp
              go_at_call 11
              (with_reducible refine (HAw.out _ hSd).mono ?_)
              rintro e' w4' ⟨rfl, hS⟩
              have hSd := hS
              refine hK.out _ _ (fun _ => hSd) ?_
              clear hK
              refine wpAnyK_takeS (i := 25) (v := ?_) rfl (by kernel_rfl) (by kernel_rfl) (by kernel_rfl) (by kernel_rfl) (fun _ _ _ h => h) hSd (Or.inl ⟨by rfl, ?_⟩) ?_
              rotate_left 1
              (intro w hSw; (try dsimp only at hSw); go_simp; try (with_reducible rfl))
              (try simp only [List.getElem_toArray, List.getElem_cons_succ, List.getElem_cons_zero]); (try dsimp only [Act.put]); (try simp only [List.setIfInBounds_toArray, List.set_cons_zero, List.set_cons_succ])
              refine wpAnyK_one (i := 26) (by kernel_rfl) rfl (fun K hK => ?_)
              go_simp
              refine hK.out _ _ (fun _ => hSd) ?_
              clear hK
              refine wpAnyK_done (by kernel_rfl) ?_ _
              have hb := hS.1
              rename World => wq
              go_wp2
              go_ret
              exact ⟨rfl, Q.out.trans (hb.mono Q.out.size)⟩
      · rw [if_neg h24] at hsub
        have hw24 : decide ((24 : Int) < want) = true := decide_eq_true (by omega)
        subst hsub
        clear hwp h24
        go_wp2_with fail
        refine (c_awake _).mono ?_
        rintro en w12 ⟨rfl, hb⟩
        go_wp2
        go_ret
        exact ⟨rfl, Q.out.trans (hb.mono Q.out.size)⟩
end Go.Proofs.Ytacefdkfbpgedaa.Mine
