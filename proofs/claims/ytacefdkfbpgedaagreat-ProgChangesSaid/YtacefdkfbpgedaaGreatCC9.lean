/- The law's ownDef and Own. -/
import Derived.Test.YtacefdkfbpgedaaGreatCC6
import Derived.Test.YtacefdkfbpgedaaGreatCC8
import Derived.Deep.DeepCutAuto
import Derived.Test.YtacefdkfbpgedaaGreatCC1
import Derived.Test.YtacefdkfbpgedaaGreatCC5
import Derived.Test.YtacefdkfbpgedaaGreatCC7
import Derived.Test.YtacefdkfbpgedaaGreatCC2
namespace Go.Proofs.YtacefdkfbpgedaaGreat.Mine
open Go.Proofs.YtacefdkfbpgedaaGreat.PProgSmall
open Go.RowKit Go.Shelf Go.Proofs.YtacefdkfbpgedaaGreatW.PrintWords Go.Proofs.YtacefdkfbpgedaaGreatW.PrintLast Go.Proofs.YtacefdkfbpgedaaGreatW.PrintMore
set_option linter.unusedVariables false
set_option linter.unusedSimpArgs false
theorem infoCa : (Tryz.prog.info? 62).map (fun i => (i.zero, i.size, i.bytes)) = some (some (.agg #[.string ⟨#[]⟩, .slice none 0 0, .int .i64 0, .string ⟨#[]⟩, .slice none 0 0]), 5, 88) := by kernel_rfl
abbrev OwnC (W : World) (base : Nat) (v : Value) (l : List Ca) : Prop := Kd.R k62 62 W base (fun _ => True) v l
abbrev OwnD (W : World) (base : Nat) (v : Value) (l : List De) : Prop := Kd.R k59 59 W base (fun _ => True) v l
abbrev OdS (W0 : World) (B : Nat) (g0 g1 g3 g4 g5 : Value) (W : World) : Prop := Below W0.heap.size W0 W ∧ W.cell? ⟨B, 0, none⟩ = some g0 ∧ W.cell? ⟨B, 1, none⟩ = some g1 ∧ W.cell? ⟨B, 3, none⟩ = some g3 ∧ W.cell? ⟨B, 4, none⟩ = some g4 ∧ W.cell? ⟨B, 5, none⟩ = some g5
theorem OdS.step {W0 : World} {B : Nat} {g0 g1 g3 g4 g5 : Value} {W W' : World} (h : OdS W0 B g0 g1 g3 g4 g5 W) (hB : B < W0.heap.size) (hb : Below W0.heap.size W W') : OdS W0 B g0 g1 g3 g4 g5 W' := by
 obtain ⟨h0, h1, h2, h3, h4, h5⟩ := h
 exact ⟨h0.trans hb, cell_keep hb hB h1, cell_keep hb hB h2, cell_keep hb hB h3, cell_keep hb hB h4, cell_keep hb hB h5⟩
theorem OdS.alloc {W0 : World} {B : Nat} {g0 g1 g3 g4 g5 : Value} {W : World} {o : Obj} (h : OdS W0 B g0 g1 g3 g4 g5 W) (hB : B < W0.heap.size) : OdS W0 B g0 g1 g3 g4 g5 (W.alloc o) := h.step hB ((below_alloc1 _ _).mono h.1.size)
theorem OdS.put {W0 : World} {B : Nat} {g0 g1 g3 g4 g5 : Value} {W : World} {p : Addr} {u : Value} (h : OdS W0 B g0 g1 g3 g4 g5 W) (hB : B < W0.heap.size) (hp : W0.heap.size ≤ p.block) : OdS W0 B g0 g1 g3 g4 g5 (W.setCell p u) := h.step hB ((Below.refl _ _).setCell hp _)
theorem OdS.put6 {W0 : World} {B : Nat} {g0 g1 g3 g4 g5 : Value} {W : World} {b : Nat} {u0 u1 u2 u3 u4 u5 : Value} (h : OdS W0 B g0 g1 g3 g4 g5 W) (hB : B < W0.heap.size) (hp : W0.heap.size ≤ b) : OdS W0 B g0 g1 g3 g4 g5 ((((((W.setCell ⟨b, 0, none⟩ u0).setCell ⟨b, 1, none⟩ u1).setCell ⟨b, 2, none⟩ u2).setCell ⟨b, 3, none⟩ u3).setCell ⟨b, 4, none⟩ u4).setCell ⟨b, 5, none⟩ u5) :=
 OdS.put (OdS.put (OdS.put (OdS.put (OdS.put (OdS.put h hB hp) hB hp) hB hp) hB hp) hB hp) hB hp
theorem OdS.b {W0 : World} {B : Nat} {g0 g1 g3 g4 g5 : Value} {W : World} (h : OdS W0 B g0 g1 g3 g4 g5 W) : Below W0.heap.size W0 W := h.1
theorem put6R {α : Type} {dk : Kd α} {e base : Nat} {ok : Nat → Prop} {W : World} {v : Value} {xs : List α} {b : Nat} {u0 u1 u2 u3 u4 u5 : Value} (h : Kd.R dk e W base ok v xs) (hne : ∀ k, ok k → k ≠ b) : Kd.R dk e ((((((W.setCell ⟨b, 0, none⟩ u0).setCell ⟨b, 1, none⟩ u1).setCell ⟨b, 2, none⟩ u2).setCell ⟨b, 3, none⟩ u3).setCell ⟨b, 4, none⟩ u4).setCell ⟨b, 5, none⟩ u5) base (fun k => k ≠ b) v xs :=
 Kd.R_mono (Kd.R_far (Kd.R_far (Kd.R_far (Kd.R_far (Kd.R_far (Kd.R_far h (p := ⟨b, 0, none⟩) hne _) (p := ⟨b, 1, none⟩) hne _) (p := ⟨b, 2, none⟩) hne _) (p := ⟨b, 3, none⟩) hne _) (p := ⟨b, 4, none⟩) hne _) (p := ⟨b, 5, none⟩) hne _) hne
theorem sz_ad (w : World) (o : Obj) : (w.alloc o).drew.heap.size = w.heap.size + 1 := World.size_alloc w o
theorem alloc_drew_at (w : World) (o : Obj) : (w.alloc o).drew.heap[w.heap.size]? = some o := alloc_at w o
abbrev OcS (n : Nat) (W0 : World) (B : Nat) (u0 u1 u2 u3 u4 : Value) (W : World) : Prop := Below n W0 W ∧ W0.heap.size ≤ W.heap.size ∧ W.cell? ⟨B, 0, none⟩ = some u0 ∧ W.cell? ⟨B, 1, none⟩ = some u1 ∧ W.cell? ⟨B, 2, none⟩ = some u2 ∧ W.cell? ⟨B, 3, none⟩ = some u3 ∧ W.cell? ⟨B, 4, none⟩ = some u4
section
variable {n : Nat} {W0 : World} {B : Nat} {u0 u1 u2 u3 u4 : Value} {W W' : World}
theorem OcS.step (h : OcS n W0 B u0 u1 u2 u3 u4 W) (hn : n ≤ W0.heap.size) (hb : Below W.heap.size W W') : OcS n W0 B u0 u1 u2 u3 u4 W' := by
 obtain ⟨h0, h1, h2, h3, h4, h5, h6⟩ := h
 exact ⟨h0.trans (hb.mono (by omega)), Nat.le_trans h1 hb.size, pw_cell_below hb h2, pw_cell_below hb h3, pw_cell_below hb h4, pw_cell_below hb h5, pw_cell_below hb h6⟩
theorem OcS.alloc {o : Obj} (h : OcS n W0 B u0 u1 u2 u3 u4 W) (hn : n ≤ W0.heap.size) : OcS n W0 B u0 u1 u2 u3 u4 (W.alloc o) := h.step hn (below_alloc1 _ _)
theorem OcS.put {b j : Nat} {u : Value} (h : OcS n W0 B u0 u1 u2 u3 u4 W) (hn : n ≤ b) (hne : b ≠ B) : OcS n W0 B u0 u1 u2 u3 u4 (W.setCell ⟨b, j, none⟩ u) := by
 obtain ⟨h0, h1, h2, h3, h4, h5, h6⟩ := h
 have key : ∀ i v, W.cell? ⟨B, i, none⟩ = some v → (W.setCell ⟨b, j, none⟩ u).cell? ⟨B, i, none⟩ = some v := fun i v hv => (World.cell?_of_block (Below.heap_setCell _ _ _ _ (by simp only; omega))).trans hv
 exact ⟨h0.setCell (by simp only; omega) _, by simpa [World.setCell] using h1, key _ _ h2, key _ _ h3, key _ _ h4, key _ _ h5, key _ _ h6⟩
theorem OcS.of {t : Nat} (hb : Below n W0 W) (hs : W0.heap.size ≤ W.heap.size) (h : W.heap[B]? = some (.cells #[u0, u1, u2, u3, u4] t (0, 0))) : OcS n W0 B u0 u1 u2 u3 u4 W := ⟨hb, hs, (blk_cell h 0).trans rfl, (blk_cell h 1).trans rfl, (blk_cell h 2).trans rfl, (blk_cell h 3).trans rfl, (blk_cell h 4).trans rfl⟩
end
set_option maxRecDepth 100000 in
set_option maxHeartbeats 8000000 in
theorem c_ownDef (d : De) (cs : List Value) (w : World) (hd : Kd.FK k59 w (fun k => k < w.heap.size) d cs) (hl : d.f2.length ≤ 100000) (hp : d.f1.length ≤ 100000) (hv : ∀ c ∈ d.f2, c.f1.length ≤ 100000) (hz3 : szE d.f3 ≤ 1000000) (hz : ∀ c ∈ d.f2, szE c.f2 ≤ 1000000) :
  Calls Tryz.prog 49 #[.agg cs.toArray] w fun en w' => ∃ v1 v2 v5, en = .returned (.agg #[.string d.f0, v1, v2, .int .i64 d.f3.f0, .string d.f3.f1, v5]) ∧ OwnT w' w.heap.size v1 d.f1 ∧ OwnC w' w.heap.size v2 d.f2 ∧ OwnE w' w.heap.size v5 d.f3.f2 ∧ Below w.heap.size w w' := by
 obtain ⟨A1, c1, A2, c2, A5, c5, rfl, l1, F1, l2, F2, l5, F5⟩ := k59_openF hd
 have hm2 := (Kd.F_now F2).2.1
 obtain ⟨W1, hW1⟩ : ∃ W1, (w.alloc (.cells #[.string d.f0, .slice A1 d.f1.length c1, .slice A2 d.f2.length c2, .int .i64 d.f3.f0, .string d.f3.f1, .slice A5 d.f3.f2.length c5] 59)).alloc (.cells #[.string ⟨#[]⟩, .slice none 0 0, .slice none 0 0, .int .i64 0, .string ⟨#[]⟩, .slice none 0 0] 59) = W1 := ⟨_, rfl⟩
 have q1 : Below w.heap.size w W1 := by rw [← hW1]; exact below_alloc2 _ _ _
 have b0 : W1.heap[w.heap.size]? = some (.cells #[.string d.f0, .slice A1 d.f1.length c1, .slice A2 d.f2.length c2, .int .i64 d.f3.f0, .string d.f3.f1, .slice A5 d.f3.f2.length c5] 59 (0, 0)) := by rw [← hW1]; exact blk_alloc (alloc_at _ _) _
 have b1 : W1.heap[w.heap.size + 1]? = some (.cells #[.string ⟨#[]⟩, .slice none 0 0, .slice none 0 0, .int .i64 0, .string ⟨#[]⟩, .slice none 0 0] 59 (0, 0)) := by rw [← hW1]; have := alloc_at (w.alloc (.cells #[.string d.f0, .slice A1 d.f1.length c1, .slice A2 d.f2.length c2, .int .i64 d.f3.f0, .string d.f3.f1, .slice A5 d.f3.f2.length c5] 59)) (.cells #[.string ⟨#[]⟩, .slice none 0 0, .slice none 0 0, .int .i64 0, .string ⟨#[]⟩, .slice none 0 0] 59); rw [World.size_alloc] at this; exact this
 have z1 : W1.heap.size = w.heap.size + 1 + 1 := by rw [← hW1]; simp
 have HDup := Lib.hid (fun W (h : Below W1.heap.size W1 W) => c_Dup A1 c1 d.f1 W (Kd.C_below (Kd.F_now F1) (q1.trans (h.mono q1.size))) l1 (by omega))
 have HOwn := Lib.hid (fun W (h : Below W1.heap.size W1 W) => c_OwnExpr _ d.f3 A5 c5 W (Nat.le_refl _) hz3 (Kd.C_below (Kd.F_now F5) (q1.trans (h.mono q1.size))) l5)
 have HF2 := Aside0.mk F2
 have HL2 := Lib.hid l2
 have Q := Aside0.mk q1
 have B0 := Aside0.mk b0
 have B1 := Aside0.mk b1
 have HW1 := Lib.hid hW1
 have HZ1 := Lib.hid z1
 have hlt0 := blk_lt b0
 have hS0 : OdS W1 w.heap.size (.string d.f0) (.slice A1 d.f1.length c1) (.int .i64 d.f3.f0) (.string d.f3.f1) (.slice A5 d.f3.f2.length c5) W1 := ⟨Below.refl _ _, (blk_cell b0 0).trans rfl, (blk_cell b0 1).trans rfl, (blk_cell b0 3).trans rfl, (blk_cell b0 4).trans rfl, (blk_cell b0 5).trans rfl⟩
 have HS0 := Lib.hid hS0
 have HDupS := Lib.hid (fun W (hS : OdS W1 w.heap.size (.string d.f0) (.slice A1 d.f1.length c1) (.int .i64 d.f3.f0) (.string d.f3.f1) (.slice A5 d.f3.f2.length c5) W) => (HDup.out W hS.1).mono (R' := fun e W' => ∃ v, e = .returned v ∧ Kd.R Kd.string 9 W' W1.heap.size (fun k => W.heap.size ≤ k ∧ k < W'.heap.size) v d.f1 ∧ Below W.heap.size W W' ∧ OdS W1 w.heap.size (.string d.f0) (.slice A1 d.f1.length c1) (.int .i64 d.f3.f0) (.string d.f3.f1) (.slice A5 d.f3.f2.length c5) W') (by rintro e W' ⟨v, h1, h2, h3⟩; exact ⟨v, h1, Kd.R_lower (Kd.R_mono (Kd.R_bound h2) (fun k hk => ⟨hk.2.1, hk.2.2.1⟩)) hS.1.size, h3, hS.step hlt0 (h3.mono hS.1.size)⟩))
 have HOwnS := Lib.hid (fun W (hS : OdS W1 w.heap.size (.string d.f0) (.slice A1 d.f1.length c1) (.int .i64 d.f3.f0) (.string d.f3.f1) (.slice A5 d.f3.f2.length c5) W) => (HOwn.out W hS.1).mono (R' := fun e W' => ∃ v, e = .returned (.agg #[.int .i64 d.f3.f0, .string d.f3.f1, v]) ∧ Kd.R k57 57 W' W1.heap.size (fun k => W.heap.size ≤ k ∧ k < W'.heap.size) v d.f3.f2 ∧ Below W.heap.size W W' ∧ OdS W1 w.heap.size (.string d.f0) (.slice A1 d.f1.length c1) (.int .i64 d.f3.f0) (.string d.f3.f1) (.slice A5 d.f3.f2.length c5) W') (by rintro e W' ⟨v, h1, h2, h3⟩; exact ⟨v, h1, Kd.R_lower (Kd.R_mono (Kd.R_bound h2) (fun k hk => ⟨hk.2.1, hk.2.2.1⟩)) hS.1.size, h3, hS.step hlt0 (h3.mono hS.1.size)⟩))
 clear hd F1 F2 F5 q1 b0 b1 hW1 z1 hS0 HDup HOwn l1 l2 l5
 go_enter Tryz.func49, Tryz.ntmps49
 go_upto_region 1 with fail
 rw [HW1.out]
 go_cut [3] (fun s3 wx => ∃ b3 v1 v5, s3 = .pointer (some ⟨b3, 0, none⟩) ∧ Aside0 (Below W1.heap.size W1 wx) ∧ Aside0 (W1.heap.size ≤ b3) ∧ Aside0 (wx.heap[b3]? = some (.cells #[.string d.f0, v1, .slice none 0 0, .int .i64 d.f3.f0, .string d.f3.f1, v5] 59 (0, 0))) ∧ Aside0 (Kd.R Kd.string 9 wx W1.heap.size (fun k => k ≠ b3) v1 d.f1 ∧ Kd.R k57 57 wx W1.heap.size (fun k => k ≠ b3) v5 d.f3.f2))
 case first =>
  have hszW : W1.heap.size ≤ W1.heap.size := Nat.le_refl _
  go_region_held3 (fun W => OdS W1 w.heap.size (.string d.f0) (.slice A1 d.f1.length c1) (.int .i64 d.f3.f0) (.string d.f3.f1) (.slice A5 d.f3.f2.length c5) W)
   (first | (with_reducible assumption) | ((with_reducible refine OdS.put6 (by assumption) hlt0 (by assumption))) | (with_reducible exact OdS.alloc (by assumption) hlt0) | (with_reducible exact HS0.out.step hlt0 (below_drew (Below.refl _ _))) | (with_reducible exact HS0.out.step hlt0 (below_drew (below_alloc1 _ _))))
   (first | (go_at_call 79; (with_reducible refine (HDupS.out _ (by assumption)).mono ?_); rintro e wD ⟨v1, rfl, hT, hbD, hSD⟩; have hszD := hSD.1.size; (first | (with_reducible have HE := Aside0.mk (Kd.R_below HE.out hbD)) | (with_reducible have HE := Aside0.mk (Kd.R_below (Kd.R_below HE.out (below_alloc1 _ _)) hbD)) | skip); (first | (with_reducible have B3 := Aside0.mk (blk_below B3.out hbD)) | (with_reducible have B3 := Aside0.mk (blk_below (alloc_at _ _) hbD)) | (with_reducible have B3 := Aside0.mk (blk_below (alloc_drew_at _ _) hbD)) | skip); (try have f3 := fun i => blk_frozen B3.out i); (try have hlB := blk_lt B3.out); (try have c30 : World.cell? _ ⟨_, 0, none⟩ = some (.string ⟨#[]⟩) := (blk_cell B3.out 0).trans rfl); (try have c31 : World.cell? _ ⟨_, 1, none⟩ = some (.slice none 0 0) := (blk_cell B3.out 1).trans rfl); (try have c32 : World.cell? _ ⟨_, 2, none⟩ = some (.slice none 0 0) := (blk_cell B3.out 2).trans rfl); (try have c33 : World.cell? _ ⟨_, 3, none⟩ = some (.int .i64 0) := (blk_cell B3.out 3).trans rfl); (try have c34 : World.cell? _ ⟨_, 4, none⟩ = some (.string ⟨#[]⟩) := (blk_cell B3.out 4).trans rfl); (try have c35 : World.cell? _ ⟨_, 5, none⟩ = some (.slice none 0 0) := (blk_cell B3.out 5).trans rfl); obtain ⟨Ad, cd, hv1⟩ := Kd.R_slice hT; subst hv1; have HT := Aside0.mk hT; clear hT hbD) | (go_at_call 108; (with_reducible refine (HOwnS.out _ (by assumption)).mono ?_); rintro e wE ⟨v5, rfl, hE, hbE, hSE⟩; have hszE := hSE.1.size; have hszB := hbE.size; (first | (with_reducible have HT := Aside0.mk (Kd.R_below HT.out hbE)) | (with_reducible have HT := Aside0.mk (Kd.R_below (Kd.R_below HT.out (below_alloc1 _ _)) hbE)) | skip); (first | (with_reducible have B3 := Aside0.mk (blk_below B3.out hbE)) | (with_reducible have B3 := Aside0.mk (blk_below (alloc_at _ _) hbE)) | (with_reducible have B3 := Aside0.mk (blk_below (alloc_drew_at _ _) hbE)) | skip); (try have f3 := fun i => blk_frozen B3.out i); (try have hlB := blk_lt B3.out); (try have c30 : World.cell? _ ⟨_, 0, none⟩ = some (.string ⟨#[]⟩) := (blk_cell B3.out 0).trans rfl); (try have c31 : World.cell? _ ⟨_, 1, none⟩ = some (.slice none 0 0) := (blk_cell B3.out 1).trans rfl); (try have c32 : World.cell? _ ⟨_, 2, none⟩ = some (.slice none 0 0) := (blk_cell B3.out 2).trans rfl); (try have c33 : World.cell? _ ⟨_, 3, none⟩ = some (.int .i64 0) := (blk_cell B3.out 3).trans rfl); (try have c34 : World.cell? _ ⟨_, 4, none⟩ = some (.string ⟨#[]⟩) := (blk_cell B3.out 4).trans rfl); (try have c35 : World.cell? _ ⟨_, 5, none⟩ = some (.slice none 0 0) := (blk_cell B3.out 5).trans rfl); obtain ⟨Ae, ce, hv5⟩ := Kd.R_slice hE; subst hv5; have HE := Aside0.mk hE; clear hE hbE))
  all_goals (go_wp2_with fail; go_meet)
  ·exact ⟨_, _, _, rfl, ⟨OdS.b (B := w.heap.size) (g0 := .string d.f0) (g1 := .slice A1 d.f1.length c1) (g3 := .int .i64 d.f3.f0) (g4 := .string d.f3.f1) (g5 := .slice A5 d.f3.f2.length c5) (by assumption)⟩, ⟨by assumption⟩, ⟨alloc_at _ _⟩, ⟨Kd.R_mono (Kd.R_below HT.out (below_alloc1 _ _)) (fun k hk => by obtain ⟨h1, h2⟩ := hk; omega), Kd.R_mono (Kd.R_below HE.out (below_alloc1 _ _)) (fun k hk => by obtain ⟨h1, h2⟩ := hk; omega)⟩⟩
  ·exact ⟨_, _, _, rfl, ⟨OdS.b (B := w.heap.size) (g0 := .string d.f0) (g1 := .slice A1 d.f1.length c1) (g3 := .int .i64 d.f3.f0) (g4 := .string d.f3.f1) (g5 := .slice A5 d.f3.f2.length c5) (by assumption)⟩, ⟨by assumption⟩, ⟨blk_put (blk_put (blk_put (blk_put (blk_put (blk_put B3.out 0 _ rfl) 1 _ rfl) 2 _ rfl) 3 _ rfl) 4 _ rfl) 5 _ rfl⟩, ⟨put6R HT.out (fun k hk => by obtain ⟨h1, h2⟩ := hk; omega), put6R HE.out (fun k hk => by obtain ⟨h1, h2⟩ := hk; rw [World.size_alloc] at h1; omega)⟩⟩
  ·exact ⟨_, _, _, rfl, ⟨OdS.b (B := w.heap.size) (g0 := .string d.f0) (g1 := .slice A1 d.f1.length c1) (g3 := .int .i64 d.f3.f0) (g4 := .string d.f3.f1) (g5 := .slice A5 d.f3.f2.length c5) (by assumption)⟩, ⟨by assumption⟩, ⟨blk_put (blk_put (blk_put (blk_put (blk_put (blk_put B3.out 0 _ rfl) 1 _ rfl) 2 _ rfl) 3 _ rfl) 4 _ rfl) 5 _ rfl⟩, ⟨put6R HT.out (fun k hk => by obtain ⟨h1, h2⟩ := hk; rw [sz_ad] at h1; omega), put6R HE.out (fun k hk => by obtain ⟨h1, h2⟩ := hk; omega)⟩⟩
 case rest =>
  obtain ⟨b3, v1, v5, rfl, HW, hb3', H3, HTE⟩ := hcut
  have hb3 := hb3'.out
  have hl3 := blk_lt H3.out
  obtain ⟨Ad, cd, rfl⟩ := Kd.R_slice HTE.out.1
  obtain ⟨Ae, ce, rfl⟩ := Kd.R_slice HTE.out.2
  have hz1 := HZ1.out
  have hsW := HW.out.size
  have C0 := Aside0.mk (blk_below B0.out HW.out)
  have k2 := (blk_cell C0.out 2).trans rfl
  have HQ := Aside0.mk (Q.out.trans (HW.out.mono Q.out.size))
  have HTE2 := Aside0.mk (And.intro (Kd.R_mono (Kd.R_bound HTE.out.1) (ok' := fun k => k < wc.heap.size ∧ k ≠ b3) (fun k hk => ⟨hk.2.2.1, hk.1⟩)) (Kd.R_mono (Kd.R_bound HTE.out.2) (ok' := fun k => k < wc.heap.size ∧ k ≠ b3) (fun k hk => ⟨hk.2.2.1, hk.1⟩)))
  have HB1w := Aside0.mk (blk_below B1.out HW.out)
  clear HTE C0 HDupS HOwnS HS0 hb3'
  go_wp2
  clear k2
  go_loopg [18] d.f2.length (fun gg s18 wr => ∃ (kk : Nat) (v2 : Value), kk ≤ d.f2.length ∧ d.f2.length - kk ≤ gg ∧ s18 = .int .i64 kk ∧ Aside0 (OwnC wr wc.heap.size v2 (d.f2.take kk)) ∧ Aside0 (Below W1.heap.size wc wr) ∧ wc.heap.size ≤ wr.heap.size ∧ Aside0 (wr.heap[b3]? = some (.cells #[.string d.f0, .slice Ad d.f1.length cd, v2, .int .i64 d.f3.f0, .string d.f3.f1, .slice Ae d.f3.f2.length ce] 59 (0, 0))) ∧ Aside0 (Kd.R Kd.string 9 wr W1.heap.size (fun k => k < wc.heap.size ∧ k ≠ b3) (.slice Ad d.f1.length cd) d.f1 ∧ Kd.R k57 57 wr W1.heap.size (fun k => k < wc.heap.size ∧ k ≠ b3) (.slice Ae d.f3.f2.length ce) d.f3.f2))
  case atStart => exact ⟨0, _, Nat.zero_le _, by omega, rfl, ⟨Kd.R_nil _ _ _ _ _⟩, ⟨Below.refl _ _⟩, Nat.le_refl _, H3, HTE2⟩
  case round =>
   obtain ⟨kk, v2, hkk, hg, rfl, HO, HB, hsz, H3, HTE⟩ := hrel
   have HBw := Aside0.mk (HQ.out.trans (HB.out.mono (by omega)))
   by_cases hlt : kk < d.f2.length
   ·have hltz : (kk : Int) < (d.f2.length : Int) := by omega
    obtain ⟨ad, y0, y1, y2, y3, y4, rfl, hK, hcells, k0, k1, k2, k3, k4⟩ := gett5 rfl (Kd.C_below (Kd.F_now HF2.out) HBw.out) kk hlt
    have hFK := elemF HF2.out kk hlt rfl hcells (fun p v _ hv => HBw.out.cell (World.block_lt_of_cell? _ _ hv) |>.trans hv) (by decide)
    obtain ⟨X1, x1, X4, x4, he, m1, G1, m4, G4⟩ := k62_openF hFK
    obtain ⟨rfl, rfl, rfl, rfl, rfl⟩ : y0 = _ ∧ y1 = _ ∧ y2 = _ ∧ y3 = _ ∧ y4 = _ := by simpa using he
    have hvl := hv _ (List.getElem_mem hlt)
    have hzc := hz _ (List.getElem_mem hlt)
    have hts : d.f2.take (kk + 1) = d.f2.take kk ++ [d.f2[kk]] := take_snoc hlt
    obtain ⟨ca, hca⟩ : ∃ ca, d.f2[kk] = ca := ⟨_, rfl⟩
    rw [hca] at k0 k1 k2 k3 k4 m1 m4 G1 G4 hvl hzc hts
    have HTs := Lib.hid hts
    obtain ⟨W0, hW0⟩ : ∃ W0, wr.alloc (.cells #[.string ca.f0, .slice X1 ca.f1.length x1, .int .i64 ca.f2.f0, .string ca.f2.f1, .slice X4 ca.f2.f2.length x4] 62) = W0 := ⟨_, rfl⟩
    have q0 : Below wr.heap.size wr W0 := by rw [← hW0]; exact below_alloc1 _ _
    have s0 : W0.heap.size = wr.heap.size + 1 := by rw [← hW0]; simp
    have bx : W0.heap[wr.heap.size]? = some (.cells #[.string ca.f0, .slice X1 ca.f1.length x1, .int .i64 ca.f2.f0, .string ca.f2.f1, .slice X4 ca.f2.f2.length x4] 62 (0, 0)) := by rw [← hW0]; exact alloc_at _ _
    have hnW : W1.heap.size ≤ W0.heap.size := by omega
    have HBX := Aside0.mk (show W0.drew.heap[wr.heap.size]? = _ from bx)
    have HB3 := Aside0.mk (show W0.drew.heap[b3]? = _ from blk_below (w1 := W0) H3.out q0)
    obtain ⟨A9, c9, rfl⟩ := Kd.R_slice HO.out
    have hTl := List.length_take_of_le hkk
    rw [hTl] at HO H3 HB3
    have k3 := (blk_cell HB3.out 2).trans rfl
    have k3o : W0.cell? ⟨b3, 2, none⟩ = _ := k3
    have HS0 := Lib.hid (show OcS W1.heap.size W0 wr.heap.size (.string ca.f0) (.slice X1 ca.f1.length x1) (.int .i64 ca.f2.f0) (.string ca.f2.f1) (.slice X4 ca.f2.f2.length x4) W0 from OcS.of (Below.refl _ _) (Nat.le_refl _) bx)
    have hbel : ∀ W, OcS W1.heap.size W0 wr.heap.size (.string ca.f0) (.slice X1 ca.f1.length x1) (.int .i64 ca.f2.f0) (.string ca.f2.f1) (.slice X4 ca.f2.f2.length x4) W → Below w.heap.size w W := fun W hS => HBw.out.trans ((q0.mono (by omega)).trans (hS.1.mono (by omega)))
    have HDupS := Lib.hid (fun W (hS : OcS W1.heap.size W0 wr.heap.size (.string ca.f0) (.slice X1 ca.f1.length x1) (.int .i64 ca.f2.f0) (.string ca.f2.f1) (.slice X4 ca.f2.f2.length x4) W) => (c_Dup X1 x1 ca.f1 W (Kd.F_now (Kd.F_below G1 (hbel W hS))) m1 (by omega)).mono (R' := fun e W' => ∃ v, e = .returned v ∧ Kd.R Kd.string 9 W' wc.heap.size (fun k => W0.heap.size ≤ k) v ca.f1 ∧ Below W.heap.size W W' ∧ OcS W1.heap.size W0 wr.heap.size (.string ca.f0) (.slice X1 ca.f1.length x1) (.int .i64 ca.f2.f0) (.string ca.f2.f1) (.slice X4 ca.f2.f2.length x4) W') (by rintro e W' ⟨v, h1, h2, h3⟩; exact ⟨v, h1, Kd.R_lower (Kd.R_mono (Kd.R_bound h2) (fun k hk => Nat.le_trans hS.2.1 hk.2.1)) (by have := hS.2.1; omega), h3, hS.step hnW h3⟩))
    have HOwnS := Lib.hid (fun W (hS : OcS W1.heap.size W0 wr.heap.size (.string ca.f0) (.slice X1 ca.f1.length x1) (.int .i64 ca.f2.f0) (.string ca.f2.f1) (.slice X4 ca.f2.f2.length x4) W) => (c_OwnExpr _ ca.f2 X4 x4 W (Nat.le_refl _) hzc (Kd.F_now (Kd.F_below G4 (hbel W hS))) m4).mono (R' := fun e W' => ∃ v, e = .returned (.agg #[.int .i64 ca.f2.f0, .string ca.f2.f1, v]) ∧ Kd.R k57 57 W' wc.heap.size (fun k => W0.heap.size ≤ k) v ca.f2.f2 ∧ Below W.heap.size W W' ∧ OcS W1.heap.size W0 wr.heap.size (.string ca.f0) (.slice X1 ca.f1.length x1) (.int .i64 ca.f2.f0) (.string ca.f2.f1) (.slice X4 ca.f2.f2.length x4) W') (by rintro e W' ⟨v, h1, h2, h3⟩; exact ⟨v, h1, Kd.R_lower (Kd.R_mono (Kd.R_bound h2) (fun k hk => Nat.le_trans hS.2.1 hk.2.1)) (by have := hS.2.1; omega), h3, hS.step hnW h3⟩))
    have HO0 := Aside0.mk (Kd.R_below (Kd.R_below HO.out q0) (below_drew (Below.refl _ _)))
    have HTE0 := Aside0.mk (And.intro (Kd.R_below (Kd.R_below HTE.out.1 q0) (below_drew (Below.refl _ _))) (Kd.R_below (Kd.R_below HTE.out.2 q0) (below_drew (Below.refl _ _))))
    have HNe := Lib.hid (fun (k : Nat) (hk : W0.heap.size ≤ k) => show True ∧ some k ≠ (Value.slice A9 kk c9).ownBlock from ⟨trivial, fun he => by have := ((Kd.R_bound HO.out).1 k he.symm).2.2.1; omega⟩)
    have HNx := Lib.hid (show some wr.heap.size ≠ (Value.slice A9 kk c9).ownBlock from fun he => by have := ((Kd.R_bound HO.out).1 _ he.symm).2.2.1; omega)
    have HNr := Lib.hid (fun (k : Nat) (hk : some k = (Value.slice A9 kk c9).ownBlock) => show wc.heap.size ≤ k from ((Kd.R_bound HO.out).1 k hk.symm).2.1)
    have HHW := Lib.hid hW0
    have HBq := Lib.hid (show Below W1.heap.size wc W0 from HB.out.trans (q0.mono (by omega)))
    have hbne : b3 ≠ wr.heap.size := by omega
    clear hK hcells hFK he m1 m4 G1 G4 hvl hzc hts hca bx hbel HO HTE hTl hW0 q0
    go_upto_region 5 with fail
    rw [HHW.out]
    have hSd : (fun W => OcS W1.heap.size W0 wr.heap.size (.string ca.f0) (.slice X1 ca.f1.length x1) (.int .i64 ca.f2.f0) (.string ca.f2.f1) (.slice X4 ca.f2.f2.length x4) W ∧ W.cell? ⟨b3, 2, none⟩ = some (.slice A9 kk c9)) W0.drew := ⟨HS0.out.step hnW (below_drew (Below.refl _ _)), k3⟩
    refine wp_region_K (S := fun W => OcS W1.heap.size W0 wr.heap.size (.string ca.f0) (.slice X1 ca.f1.length x1) (.int .i64 ca.f2.f0) (.string ca.f2.f1) (.slice X4 ca.f2.f2.length x4) W ∧ W.cell? ⟨b3, 2, none⟩ = some (.slice A9 kk c9)) (k := 14) (by kernel_rfl) ?_
    change wpAnyK _ _ _ _ _ _ 15 (Array.replicate 15 false) _ _
    refine wpAnyK_take (i := 0) (v := ?_) rfl (by kernel_rfl) (by kernel_rfl) (by kernel_rfl) (by kernel_rfl) (fun _ _ _ h => h) hSd (Or.inl ⟨by rfl, ?_⟩) ?_
    rotate_left 1
    (intro w hSw; (try dsimp only at hSw); go_simp; try (with_reducible rfl))
    (try dsimp only [Act.put]); (try simp only [List.setIfInBounds_toArray, List.set_cons_zero, List.set_cons_succ])
    refine wpAnyK_take (i := 1) (v := ?_) rfl (by kernel_rfl) (by kernel_rfl) (by kernel_rfl) (by kernel_rfl) (fun _ _ _ h => h) hSd (Or.inl ⟨by rfl, ?_⟩) ?_
    rotate_left 1
    (intro w hSw; (try dsimp only at hSw); go_simp; try (with_reducible rfl))
    (try dsimp only [Act.put]); (try simp only [List.setIfInBounds_toArray, List.set_cons_zero, List.set_cons_succ])
    refine wpAnyK_take (i := 2) (v := ?_) rfl (by kernel_rfl) (by kernel_rfl) (by kernel_rfl) (by kernel_rfl) (fun _ _ _ h => h) hSd (Or.inl ⟨by rfl, ?_⟩) ?_
    rotate_left 1
    (intro w hSw; (try dsimp only at hSw); go_simp; try (with_reducible rfl))
    (try dsimp only [Act.put]); (try simp only [List.setIfInBounds_toArray, List.set_cons_zero, List.set_cons_succ])
    refine wpAnyK_take (i := 3) (v := ?_) rfl (by kernel_rfl) (by kernel_rfl) (by kernel_rfl) (by kernel_rfl) (fun _ _ _ h => h) hSd (Or.inl ⟨by rfl, ?_⟩) ?_
    rotate_left 1
    (intro w hSw; (try dsimp only at hSw); go_simp; try (with_reducible rfl))
    (try dsimp only [Act.put]); (try simp only [List.setIfInBounds_toArray, List.set_cons_zero, List.set_cons_succ])
    refine wpAnyK_take (i := 4) (v := ?_) rfl (by kernel_rfl) (by kernel_rfl) (by kernel_rfl) (by kernel_rfl) (fun _ _ _ h => h) hSd (Or.inl ⟨by rfl, ?_⟩) ?_
    rotate_left 1
    (intro w hSw; (try dsimp only at hSw); go_simp; try (with_reducible rfl))
    (try dsimp only [Act.put]); (try simp only [List.setIfInBounds_toArray, List.set_cons_zero, List.set_cons_succ])
    refine wpAnyK_take (i := 5) (v := ?_) rfl (by kernel_rfl) (by kernel_rfl) (by kernel_rfl) (by kernel_rfl) (fun _ _ _ h => h) hSd (Or.inl ⟨by rfl, ?_⟩) ?_
    rotate_left 1
    (intro w hSw; (try dsimp only at hSw); go_simp; try (with_reducible rfl))
    (try dsimp only [Act.put]); (try simp only [List.setIfInBounds_toArray, List.set_cons_zero, List.set_cons_succ])
    refine wpAnyK_take (i := 7) (v := ?_) rfl (by kernel_rfl) (by kernel_rfl) (by kernel_rfl) (by kernel_rfl) (fun _ _ _ h => h) hSd (Or.inl ⟨by rfl, ?_⟩) ?_
    rotate_left 1
    (intro w hSw; (try dsimp only at hSw); go_simp; try (with_reducible rfl))
    (try dsimp only [Act.put]); (try simp only [List.setIfInBounds_toArray, List.set_cons_zero, List.set_cons_succ])
    refine wpAnyK_take (i := 8) (v := ?_) rfl (by kernel_rfl) (by kernel_rfl) (by kernel_rfl) (by kernel_rfl) (fun _ _ _ h => h) hSd (Or.inl ⟨by rfl, ?_⟩) ?_
    rotate_left 1
    (intro w hSw; (try dsimp only at hSw); go_simp; try (with_reducible rfl))
    (try dsimp only [Act.put]); (try simp only [List.setIfInBounds_toArray, List.set_cons_zero, List.set_cons_succ])
    refine wpAnyK_one (i := 6) (by kernel_rfl) rfl (fun K hK => ?_)
    go_simp
    go_at_call 79
    (with_reducible refine (HDupS.out _ hSd.1).mono ?_)
    rintro e wD ⟨vd, rfl, hT, hbD, hSD⟩
    have HB3 := Aside0.mk (blk_below HB3.out hbD)
    have HBX := Aside0.mk (blk_below HBX.out hbD)
    have hSd : (fun W => OcS W1.heap.size W0 wr.heap.size (.string ca.f0) (.slice X1 ca.f1.length x1) (.int .i64 ca.f2.f0) (.string ca.f2.f1) (.slice X4 ca.f2.f2.length x4) W ∧ W.cell? ⟨b3, 2, none⟩ = some (.slice A9 kk c9)) wD := ⟨hSD, (blk_cell HB3.out 2).trans rfl⟩
    have HO0 := Aside0.mk (Kd.R_below HO0.out hbD)
    have HTE0 := Aside0.mk (And.intro (Kd.R_below HTE0.out.1 hbD) (Kd.R_below HTE0.out.2 hbD))
    obtain ⟨Ax, cx, hvd⟩ := Kd.R_slice hT
    subst hvd
    have HT := Aside0.mk hT
    clear hT hbD
    refine hK.out _ _ (fun _ => hSd) ?_
    clear hK
    refine wpAnyK_one (i := 9) (by kernel_rfl) rfl (fun K hK => ?_)
    go_simp
    go_at_call 108
    (with_reducible refine (HOwnS.out _ hSd.1).mono ?_)
    rintro e wE ⟨ve, rfl, hE, hbE, hSE⟩
    have HB3 := Aside0.mk (blk_below HB3.out hbE)
    have k3 := (blk_cell HB3.out 2).trans rfl
    have hSd : (fun W => OcS W1.heap.size W0 wr.heap.size (.string ca.f0) (.slice X1 ca.f1.length x1) (.int .i64 ca.f2.f0) (.string ca.f2.f1) (.slice X4 ca.f2.f2.length x4) W ∧ W.cell? ⟨b3, 2, none⟩ = some (.slice A9 kk c9)) wE := ⟨hSE, k3⟩
    have HO0 := Aside0.mk (Kd.R_below HO0.out hbE)
    have HTE0 := Aside0.mk (And.intro (Kd.R_below HTE0.out.1 hbE) (Kd.R_below HTE0.out.2 hbE))
    have HBX9 := Aside0.mk (blk_below HBX.out hbE)
    have HT := Aside0.mk (Kd.R_below HT.out hbE)
    obtain ⟨Ay, cy, hve⟩ := Kd.R_slice hE
    subst hve
    have HSb := Lib.hid hSE.1
    have hszE := hSE.2.1
    have HM := Aside0.mk (k62_mkM wE wc.heap.size (fun k => W0.heap.size ≤ k) ca HT.out hE)
    clear hE hbE
    refine hK.out _ _ (fun _ => hSd) ?_
    clear hK
    refine wpAnyK_take (i := 10) (v := ?_) rfl (by kernel_rfl) (by kernel_rfl) (by kernel_rfl) (by kernel_rfl) (fun _ _ _ h => h) hSd (Or.inl ⟨by rfl, ?_⟩) ?_
    rotate_left 1
    (intro w hSw; (try dsimp only at hSw); go_simp; try (with_reducible rfl))
    (try dsimp only [Act.put]); (try simp only [List.setIfInBounds_toArray, List.set_cons_zero, List.set_cons_succ])
    refine wpAnyK_one (i := 11) (by kernel_rfl) rfl (fun K hK => ?_)
    go_simp
    have hSd : (fun W => OcS W1.heap.size W0 wr.heap.size (.string ca.f0) (.slice X1 ca.f1.length x1) (.int .i64 ca.f2.f0) (.string ca.f2.f1) (.slice X4 ca.f2.f2.length x4) W ∧ W.cell? ⟨b3, 2, none⟩ = some (.slice A9 kk c9)) (wE.alloc (.cells #[.string ca.f0, .slice Ax ca.f1.length cx, .int .i64 ca.f2.f0, .string ca.f2.f1, .slice Ay ca.f2.f2.length cy] 62)) := ⟨OcS.alloc hSE hnW, pw_cell_below (below_alloc1 _ _) k3⟩
    refine hK.out _ _ (fun _ => hSd) ?_
    clear hK
    refine wpAnyK_one (i := 12) (by kernel_rfl) rfl (fun K hK => ?_)
    refine Kd.R_append_step k62 (w0 := wE) (W := wE) wc.heap.size (by rfl) (.tmp 23) (.tmp 33) 54 62 _ 88 rfl Tryz.underlying54 infoCa rfl (by decide) (by decide) (.slice A9 kk c9) (d.f2.take kk) ca [.string ca.f0, .slice Ax ca.f1.length cx, .int .i64 ca.f2.f0, .string ca.f2.f1, .slice Ay ca.f2.f2.length cy] (fun _ => True) (fun k => W0.heap.size ≤ k) rfl rfl HM.out HNe.out (fun _ _ => trivial) HO0.out (Below.refl _ _) (by omega) (by rw [List.length_take_of_le hkk]; omega) ?_
    intro v9 w9 hR9 hB9 hg9 hat9
    rw [← HTs.out] at hR9
    have HB9 := Aside0.mk (blk_grown HB3.out hg9 (fun he => by have := HNr.out _ he; omega))
    have HX9 := blk_grown HBX9.out hg9 (fun he => HNx.out he)
    have k9 := (blk_cell HB9.out 2).trans rfl
    have f9 := blk_frozen HB9.out 2
    have hSd : (fun W => OcS W1.heap.size W0 wr.heap.size (.string ca.f0) (.slice X1 ca.f1.length x1) (.int .i64 ca.f2.f0) (.string ca.f2.f1) (.slice X4 ca.f2.f2.length x4) W ∧ W.cell? ⟨b3, 2, none⟩ = some (.slice A9 kk c9)) w9 := ⟨OcS.of (hSE.1.trans (hB9.mono (by omega))) (Nat.le_trans hSE.2.1 hB9.size) HX9, k9⟩
    obtain ⟨Az, cz, hvz⟩ := Kd.R_slice hR9
    rw [List.length_take_of_le (show kk + 1 ≤ d.f2.length by omega)] at hvz
    subst hvz
    have HR9 := Aside0.mk hR9
    have HG9 := Lib.hid hg9
    have HBB9 := Lib.hid hB9
    clear hR9 hB9 hg9 hat9 HX9
    refine hK.out _ _ (fun _ => hSd) ?_
    clear hK
    refine wpAnyK_take (i := 13) (v := ?_) rfl (by kernel_rfl) (by kernel_rfl) (by kernel_rfl) (by kernel_rfl) (fun _ _ _ h => h) hSd (Or.inl ⟨by rfl, ?_⟩) ?_
    rotate_left 1
    (intro w hSw; (try dsimp only at hSw); go_simp; try (with_reducible rfl))
    (try dsimp only [Act.put]); (try simp only [List.setIfInBounds_toArray, List.set_cons_zero, List.set_cons_succ])
    refine wpAnyK_one (i := 14) (by kernel_rfl) rfl (fun K hK => ?_)
    go_simp
    refine hK.out _ _ (fun h => absurd rfl h) ?_
    clear hK hSd
    refine wpAnyK_done (by kernel_rfl) ?_ _
    all_goals
     have HTE9 := Aside0.mk (And.intro (Kd.R_grown HTE0.out.1 HG9.out (fun k hk he => by have := HNr.out k he; omega)) (Kd.R_grown HTE0.out.2 HG9.out (fun k hk he => by have := HNr.out k he; omega)))
     have hs9 := HBB9.out.size
     clear k3
     go_wp2
     go_roundg (d.f2.length - (kk + 1))
     case measure => omega
     case rel => exact ⟨kk + 1, _, by omega, by omega, by go_num, ⟨Kd.R_mono (Kd.R_far (Kd.R_mono (Kd.R_bound HR9.out) (ok' := fun k => wc.heap.size ≤ k) (fun k hk => hk.2.1)) (p := ⟨b3, 2, none⟩) (fun k hk => by show k ≠ b3; omega) _) (fun _ _ => trivial)⟩, ⟨(HBq.out.trans (HSb.out.trans (HBB9.out.mono (by omega)))).setCell (by simp only; omega) _⟩, by simp only [World.setCell, Array.size_modify]; omega, ⟨blk_put HB9.out 2 _ rfl⟩, ⟨Kd.R_far HTE9.out.1 (p := ⟨b3, 2, none⟩) (fun k hk => hk.2) _, Kd.R_far HTE9.out.2 (p := ⟨b3, 2, none⟩) (fun k hk => hk.2) _⟩⟩
   ·have : kk = d.f2.length := by omega
    subst this
    have HOl := HO.out
    rw [List.take_length] at HOl
    obtain ⟨A9, c9, rfl⟩ := Kd.R_slice HOl
    have K1 := Aside0.mk (show wr.heap[w.heap.size + 1]? = _ from (HB.out.block _ (by omega)).trans HB1w.out)
    have k0 := (blk_cell H3.out 0).trans rfl
    have k1 := (blk_cell H3.out 1).trans rfl
    have k2 := (blk_cell H3.out 2).trans rfl
    have k3 := (blk_cell H3.out 3).trans rfl
    have k4 := (blk_cell H3.out 4).trans rfl
    have k5 := (blk_cell H3.out 5).trans rfl
    have m0 := (blk_cell K1.out 0).trans rfl
    have m1 := (blk_cell K1.out 1).trans rfl
    have m2 := (blk_cell K1.out 2).trans rfl
    have m3 := (blk_cell K1.out 3).trans rfl
    have m4 := (blk_cell K1.out 4).trans rfl
    have m5 := (blk_cell K1.out 5).trans rfl
    have fz := fun i => blk_frozen K1.out i
    have HOl2 := Aside0.mk HOl
    clear HOl
    go_wp2
    have b4 := blk_put (blk_put (blk_put (blk_put (blk_put (blk_put K1.out 0 (.string d.f0) rfl) 1 (.slice Ad d.f1.length cd) rfl) 2 (.slice A9 d.f2.length c9) rfl) 3 (.int .i64 d.f3.f0) rfl) 4 (.string d.f3.f1) rfl) 5 (.slice Ae d.f3.f2.length ce) rfl
    refine bodyPost_ret (results_single rfl (.cell _ _ _ _ _ rfl b4 Tryz.underlying59 rfl rfl .nil)) rfl ?_
    refine ⟨_, _, _, rfl, ?_, ?_, ?_, ?_⟩
    ·exact Kd.R_lower (Kd.R_mono (put6R (Kd.R_mono (Kd.R_bound HTE.out.1) (ok' := fun k => W1.heap.size ≤ k) (fun k hk => hk.2.1)) (fun k hk => by omega)) (fun _ _ => trivial)) (by omega)
    ·exact Kd.R_lower (Kd.R_mono (put6R (Kd.R_mono (Kd.R_bound HOl2.out) (ok' := fun k => wc.heap.size ≤ k) (fun k hk => hk.2.1)) (fun k hk => by omega)) (fun _ _ => trivial)) (by omega)
    ·exact Kd.R_lower (Kd.R_mono (put6R (Kd.R_mono (Kd.R_bound HTE.out.2) (ok' := fun k => W1.heap.size ≤ k) (fun k hk => hk.2.1)) (fun k hk => by omega)) (fun _ _ => trivial)) (by omega)
    ·exact (((((HBw.out.setCell (by simp only; omega) _).setCell (by simp only; omega) _).setCell (by simp only; omega) _).setCell (by simp only; omega) _).setCell (by simp only; omega) _).setCell (by simp only; omega) _
end Go.Proofs.YtacefdkfbpgedaaGreat.Mine
namespace Go.Proofs.YtacefdkfbpgedaaGreat.Mine
open Go.Proofs.YtacefdkfbpgedaaGreat.PProgSmall
open Go.RowKit Go.Shelf Go.Proofs.YtacefdkfbpgedaaGreatW.PrintWords Go.Proofs.YtacefdkfbpgedaaGreatW.PrintLast Go.Proofs.YtacefdkfbpgedaaGreatW.PrintMore
set_option linter.unusedVariables false
set_option linter.unusedSimpArgs false
def PartC (w0 W : World) (base : Nat) (xs : List Ca) (kk : Nat) (cur : Array Value) : Prop :=
 cur.size = xs.length * 5 ∧ ∀ j (h : j < xs.length), ∃ v1 v4, cur[j * 5]? = some (.string xs[j].f0) ∧ cur[j * 5 + 1]? = some v1 ∧ cur[j * 5 + 2]? = some (.int .i64 xs[j].f2.f0) ∧ cur[j * 5 + 3]? = some (.string xs[j].f2.f1) ∧ cur[j * 5 + 4]? = some v4 ∧
  if j < kk then OwnT W base v1 xs[j].f1 ∧ OwnE W base v4 xs[j].f2.f2 else ∃ A1 c1 A4 c4, v1 = .slice A1 xs[j].f1.length c1 ∧ v4 = .slice A4 xs[j].f2.f2.length c4 ∧ xs[j].f1.length ≤ c1 ∧ Kd.C Kd.string w0 A1 xs[j].f1.length xs[j].f1 ∧ xs[j].f2.f2.length ≤ c4 ∧ Kd.C k57 w0 A4 xs[j].f2.f2.length xs[j].f2.f2
theorem PartC.below {w0 W W' : World} {base : Nat} {xs : List Ca} {kk : Nat} {cur : Array Value} (h : PartC w0 W base xs kk cur) (hb : Below W.heap.size W W') : PartC w0 W' base xs kk cur := by
 refine ⟨h.1, fun j hj => ?_⟩
 obtain ⟨v1, v4, h0, h1, h2, h3, h4, h5⟩ := h.2 j hj
 refine ⟨v1, v4, h0, h1, h2, h3, h4, ?_⟩
 split
 ·next hl => rw [if_pos hl] at h5; exact ⟨Kd.R_below h5.1 hb, Kd.R_below h5.2 hb⟩
 ·next hl => rw [if_neg hl] at h5; exact h5
theorem PartC.get {w0 W : World} {base : Nat} {xs : List Ca} {kk : Nat} {cur : Array Value} (h : PartC w0 W base xs kk cur) (hb : Below w0.heap.size w0 W) (j : Nat) (hj : j < xs.length) : ∃ A1 c1 A4 c4, cur[j * 5]? = some (.string xs[j].f0) ∧ cur[j * 5 + 1]? = some (.slice A1 xs[j].f1.length c1) ∧ cur[j * 5 + 2]? = some (.int .i64 xs[j].f2.f0) ∧ cur[j * 5 + 3]? = some (.string xs[j].f2.f1) ∧ cur[j * 5 + 4]? = some (.slice A4 xs[j].f2.f2.length c4) ∧ xs[j].f1.length ≤ c1 ∧ Kd.C Kd.string W A1 xs[j].f1.length xs[j].f1 ∧ xs[j].f2.f2.length ≤ c4 ∧ Kd.C k57 W A4 xs[j].f2.f2.length xs[j].f2.f2 := by
 obtain ⟨v1, v4, h0, h1, h2, h3, h4, h5⟩ := h.2 j hj
 split at h5
 ·obtain ⟨A, c, rfl, hc, hr⟩ := Kd.R_reads h5.1
  obtain ⟨A4, c4, rfl, hc4, hr4⟩ := Kd.R_reads h5.2
  exact ⟨A, c, A4, c4, h0, h1, h2, h3, h4, hc, hr, hc4, hr4⟩
 ·obtain ⟨A, c, A4, c4, rfl, rfl, hc, hr, hc4, hr4⟩ := h5
  exact ⟨A, c, A4, c4, h0, h1, h2, h3, h4, hc, Kd.C_below hr hb, hc4, Kd.C_below hr4 hb⟩
theorem cells_of_CC {W : World} {A : Option Addr} {xs : List Ca} (h : Kd.C k62 W A xs.length xs) (base : Nat) : ∃ cs : List Value, cs.length = xs.length * 5 ∧ (0 < cs.length → ∃ ad, A = some ad ∧ ∀ j v, cs[j]? = some v → W.cell? (ad.add j) = some v) ∧ (∀ v ∈ cs, v.oneCell' = true) ∧ PartC W W base xs 0 cs.toArray := by
 by_cases h0 : xs = []
 ·subst h0
  exact ⟨[], rfl, fun h => by simp at h, fun v h => by simp at h, rfl, fun j h => by simp at h⟩
 have hpos : 0 < xs.length := List.length_pos_iff.2 h0
 obtain ⟨ad, c, rfl, _⟩ := cget h 0 hpos
 have key : ∀ i (hi : i < xs.length), ∃ A1 a1 A4 a4, W.cell? (ad.add (i * 5)) = some (.string xs[i].f0) ∧ W.cell? (ad.add (i * 5 + 1)) = some (.slice A1 xs[i].f1.length a1) ∧ W.cell? (ad.add (i * 5 + 2)) = some (.int .i64 xs[i].f2.f0) ∧ W.cell? (ad.add (i * 5 + 3)) = some (.string xs[i].f2.f1) ∧ W.cell? (ad.add (i * 5 + 4)) = some (.slice A4 xs[i].f2.f2.length a4) ∧ xs[i].f1.length ≤ a1 ∧ Kd.C Kd.string W A1 xs[i].f1.length xs[i].f1 ∧ xs[i].f2.f2.length ≤ a4 ∧ Kd.C k57 W A4 xs[i].f2.f2.length xs[i].f2.f2 := by
  intro i hi
  obtain ⟨ad', cs, he, hl, hK, hc⟩ := cget h i hi
  cases he
  obtain ⟨A1, a1, A4, a4, rfl, hl1, hr1, hl4, hr4⟩ := k62_open hK
  exact ⟨A1, a1, A4, a4, hc 0 _ rfl, hc 1 _ rfl, hc 2 _ rfl, hc 3 _ rfl, hc 4 _ rfl, hl1, hr1, hl4, hr4⟩
 have at_ : ∀ j, j < xs.length * 5 → ∃ u, W.cell? (ad.add j) = some u ∧ u.oneCell' = true := by
  intro j hj
  have h3 : j / 5 < xs.length := by omega
  obtain ⟨A1, a1, A4, a4, k0, k1, k2, k3, k4, _⟩ := key (j / 5) h3
  have hm : j = j / 5 * 5 ∨ j = j / 5 * 5 + 1 ∨ j = j / 5 * 5 + 2 ∨ j = j / 5 * 5 + 3 ∨ j = j / 5 * 5 + 4 := by omega
  rcases hm with hm | hm | hm | hm | hm
  ·rw [← hm] at k0; exact ⟨_, k0, rfl⟩
  ·rw [← hm] at k1; exact ⟨_, k1, rfl⟩
  ·rw [← hm] at k2; exact ⟨_, k2, rfl⟩
  ·rw [← hm] at k3; exact ⟨_, k3, rfl⟩
  ·rw [← hm] at k4; exact ⟨_, k4, rfl⟩
 have get : ∀ j, j < xs.length * 5 → ((List.range (xs.length * 5)).map (fun j => (W.cell? (ad.add j)).getD undef))[j]? = W.cell? (ad.add j) := by
  intro j hj
  obtain ⟨u, hu, _⟩ := at_ j hj
  rw [List.getElem?_map, List.getElem?_range hj]
  simp [hu]
 refine ⟨(List.range (xs.length * 5)).map (fun j => (W.cell? (ad.add j)).getD undef), by simp, fun _ => ⟨ad, rfl, fun j v hv => ?_⟩, fun v hv => ?_, by simp, fun j hj => ?_⟩
 ·have hj : j < xs.length * 5 := by have := (List.getElem?_eq_some_iff.1 hv).1; simpa using this
  rw [get j hj] at hv; exact hv
 ·obtain ⟨j, hj, rfl⟩ := List.mem_map.1 hv
  obtain ⟨u, hu, h1⟩ := at_ j (List.mem_range.1 hj)
  rw [hu]; exact h1
 ·obtain ⟨A1, a1, A4, a4, k0, k1, k2, k3, k4, hl1, hr1, hl4, hr4⟩ := key j hj
  simp only [List.getElem?_toArray]
  exact ⟨_, _, (get _ (by omega)).trans k0, (get _ (by omega)).trans k1, (get _ (by omega)).trans k2, (get _ (by omega)).trans k3, (get _ (by omega)).trans k4, by rw [if_neg (Nat.not_lt_zero _)]; exact ⟨A1, a1, A4, a4, rfl, rfl, hl1, hr1, hl4, hr4⟩⟩
def putC (cur : Array Value) (i : Nat) (u0 u1 u2 u3 u4 : Value) : Array Value := ((((cur.setIfInBounds i u0).setIfInBounds (i + 1) u1).setIfInBounds (i + 2) u2).setIfInBounds (i + 3) u3).setIfInBounds (i + 4) u4
theorem putC_get {cur : Array Value} {i : Nat} {u0 u1 u2 u3 u4 : Value} (h : i + 4 < cur.size) : (putC cur i u0 u1 u2 u3 u4)[i]? = some u0 ∧ (putC cur i u0 u1 u2 u3 u4)[i + 1]? = some u1 ∧ (putC cur i u0 u1 u2 u3 u4)[i + 2]? = some u2 ∧ (putC cur i u0 u1 u2 u3 u4)[i + 3]? = some u3 ∧ (putC cur i u0 u1 u2 u3 u4)[i + 4]? = some u4 := by
 have h0 : i < cur.size := by omega
 have h1 : i + 1 < cur.size := by omega
 have h2 : i + 2 < cur.size := by omega
 have h3 : i + 3 < cur.size := by omega
 refine ⟨?_, ?_, ?_, ?_, ?_⟩ <;> simp [putC, Array.getElem?_setIfInBounds, h, h0, h1, h2, h3]
theorem putC_other {cur : Array Value} {i j : Nat} {u0 u1 u2 u3 u4 : Value} (h : j < i ∨ i + 4 < j) : (putC cur i u0 u1 u2 u3 u4)[j]? = cur[j]? := by
 unfold putC
 rw [Array.getElem?_setIfInBounds, if_neg (by omega), Array.getElem?_setIfInBounds, if_neg (by omega), Array.getElem?_setIfInBounds, if_neg (by omega), Array.getElem?_setIfInBounds, if_neg (by omega), Array.getElem?_setIfInBounds, if_neg (by omega)]
theorem PartC.step {w0 W : World} {base : Nat} {xs : List Ca} {kk : Nat} {cur : Array Value} (h : PartC w0 W base xs kk cur) (hk : kk < xs.length) {v1 v4 : Value} (hv1 : OwnT W base v1 xs[kk].f1) (hv4 : OwnE W base v4 xs[kk].f2.f2) : PartC w0 W base xs (kk + 1) (putC cur (kk * 5) (.string xs[kk].f0) v1 (.int .i64 xs[kk].f2.f0) (.string xs[kk].f2.f1) v4) := by
 have hsz := h.1
 refine ⟨by simp [putC, h.1], fun j hj => ?_⟩
 by_cases hjk : j = kk
 ·subst hjk
  obtain ⟨g0, g1, g2, g3, g4⟩ := putC_get (cur := cur) (i := j * 5) (u0 := .string xs[j].f0) (u1 := v1) (u2 := .int .i64 xs[j].f2.f0) (u3 := .string xs[j].f2.f1) (u4 := v4) (by omega)
  exact ⟨v1, v4, g0, g1, g2, g3, g4, by rw [if_pos (by omega)]; exact ⟨hv1, hv4⟩⟩
 ·obtain ⟨u1, u4, h0, h1, h2, h3, h4, h5⟩ := h.2 j hj
  refine ⟨u1, u4, (putC_other (by omega)).trans h0, (putC_other (by omega)).trans h1, (putC_other (by omega)).trans h2, (putC_other (by omega)).trans h3, (putC_other (by omega)).trans h4, ?_⟩
  by_cases hl : j < kk
  ·rw [if_pos hl] at h5; rw [if_pos (by omega)]; exact h5
  ·rw [if_neg hl] at h5; rw [if_neg (by omega)]; exact h5
theorem PartC.done {w0 W : World} {base g : Nat} {xs : List Ca} {cur : Array Value} (h : PartC w0 W (g + 1) xs xs.length cur) (hg : W.heap[g]? = some (.cells cur 62 (0, 0))) (hb : base ≤ g) (hm : xs.length ≤ 1000000) : OwnC W base (.slice (some ⟨g, 0, none⟩) xs.length xs.length) xs := by
 have hsz : cur.size = xs.length * k62.sz := h.1
 refine ⟨fun _ _ => trivial, cur.toList, ⟨by simpa using hsz, .inr ⟨g, xs.length, cur, rfl, hb, hg, Nat.le_refl _, by simp [maxLen]; omega, hsz, ?_⟩⟩, ⟨by simpa using hsz, fun j p hj => ?_⟩⟩
 ·rw [← hsz]; exact List.take_of_length_le (by simp)
 ·obtain ⟨hjl, rfl⟩ := List.getElem?_eq_some_iff.1 hj
  obtain ⟨v1, v4, h0, h1, h2, h3, h4, h5⟩ := h.2 j hjl
  rw [if_pos hjl] at h5
  have hM := k62_mkM W base (fun k => True ∧ some k ≠ (Value.slice (some ⟨g, 0, none⟩) xs.length xs.length).ownBlock) xs[j] (Kd.R_lower (Kd.R_mono (Kd.R_bound h5.1) (fun k hk => ⟨trivial, fun he => by have h5 := hk.2.1; simp only [Value.ownBlock, Option.some.injEq] at he; omega⟩)) (by omega)) (Kd.R_lower (Kd.R_mono (Kd.R_bound h5.2) (fun k hk => ⟨trivial, fun he => by have h5 := hk.2.1; simp only [Value.ownBlock, Option.some.injEq] at he; omega⟩)) (by omega))
  have : (cur.toList.drop (j * 5)).take 5 = [.string xs[j].f0, v1, .int .i64 xs[j].f2.f0, .string xs[j].f2.f1, v4] := by
   apply List.ext_getElem?
   intro i
   match i with
   | 0 => simpa [List.getElem?_take, List.getElem?_drop] using h0
   | 1 => simpa [List.getElem?_take, List.getElem?_drop] using h1
   | 2 => simpa [List.getElem?_take, List.getElem?_drop] using h2
   | 3 => simpa [List.getElem?_take, List.getElem?_drop] using h3
   | 4 => simpa [List.getElem?_take, List.getElem?_drop] using h4
   | i + 5 => simp [List.getElem?_take]; omega
  rw [show k62.sz = 5 from rfl, this]
  exact hM
theorem PartC.set {w0 W : World} {base g j : Nat} {u : Value} {xs : List Ca} {kk : Nat} {cur : Array Value} (h : PartC w0 W base xs kk cur) (hg : g < base) : PartC w0 (W.setCell ⟨g, j, none⟩ u) base xs kk cur := by
 refine ⟨h.1, fun i hi => ?_⟩
 obtain ⟨v1, v4, h0, h1, h2, h3, h4, h5⟩ := h.2 i hi
 refine ⟨v1, v4, h0, h1, h2, h3, h4, ?_⟩
 split
 ·next hl => rw [if_pos hl] at h5; exact ⟨Kd.R_mono (Kd.R_far (Kd.R_mono (Kd.R_bound h5.1) (ok' := fun k => base ≤ k) (fun k hk => hk.2.1)) (p := ⟨g, j, none⟩) (fun k hk => by show k ≠ g; omega) _) (fun _ _ => trivial), OwnE.set h5.2 hg _ _⟩
 ·next hl => rw [if_neg hl] at h5; exact h5
theorem PartC.world {w0 W W' : World} {base : Nat} {xs : List Ca} {cur : Array Value} (h : PartC w0 W base xs 0 cur) : PartC w0 W' base xs 0 cur :=
 ⟨h.1, fun i hi => by obtain ⟨v1, v4, h0, h1, h2, h3, h4, h5⟩ := h.2 i hi; exact ⟨v1, v4, h0, h1, h2, h3, h4, by rw [if_neg (Nat.not_lt_zero _)] at h5 ⊢; exact h5⟩⟩
end Go.Proofs.YtacefdkfbpgedaaGreat.Mine
namespace Go.Proofs.YtacefdkfbpgedaaGreat.Mine
open Go.Proofs.YtacefdkfbpgedaaGreat.PProgSmall
open Go.RowKit Go.Shelf Go.Proofs.YtacefdkfbpgedaaGreatW.PrintWords Go.Proofs.YtacefdkfbpgedaaGreatW.PrintLast Go.Proofs.YtacefdkfbpgedaaGreatW.PrintMore
set_option linter.unusedVariables false
set_option linter.unusedSimpArgs false
set_option maxRecDepth 100000 in
set_option maxHeartbeats 8000000 in
theorem c_ownS (d : De) (cs : List Value) (w : World) (hd : Kd.FK k59 w (fun k => k < w.heap.size) d cs) (hl : d.f2.length ≤ 100000) (hp : d.f1.length ≤ 100000) (hv : ∀ c ∈ d.f2, c.f1.length ≤ 100000) (hz3 : szE d.f3 ≤ 1000000) (hz : ∀ c ∈ d.f2, szE c.f2 ≤ 1000000) :
  Calls Tryz.prog 70 #[.agg cs.toArray] w fun en w' => ∃ v1 v2 v5, en = .returned (.agg #[.string d.f0, v1, v2, .int .i64 d.f3.f0, .string d.f3.f1, v5]) ∧ ∃ m, w.heap.size ≤ m ∧ m ≤ w'.heap.size ∧ OwnT w' m v1 d.f1 ∧ Kd.R k62 62 w' w.heap.size (fun k => k < m) v2 d.f2 ∧ OwnE w' m v5 d.f3.f2 ∧ Below w.heap.size w w' := by
 obtain ⟨A1, c1, A2, c2, A5, c5, rfl, l1, F1, l2, F2, l5, F5⟩ := k59_openF hd
 have hm2 := (Kd.F_now F2).2.1
 obtain ⟨cs, hcl, hcs, hc1, hP⟩ := cells_of_CC (Kd.F_now F2) (w.heap.size + 1 + 1 + 1)
 obtain ⟨i0, hi0, hzz⟩ := Option.map_eq_some_iff.1 infoCa
 simp only [Prod.mk.injEq] at hzz
 have hmk := fun (W : World) => run_make W 54 62 i0 _ Tryz.underlying54 hi0 hzz.1 .i64 .i64 (d.f2.length : Int) (d.f2.length : Int) (by omega) (by omega) (by rw [hzz.2.2]; omega) (by omega)
 simp only [Int.toNat_natCast, hzz.2.1] at hmk
 obtain ⟨W1, hW1⟩ : ∃ W1, (w.alloc (.cells #[.string d.f0, .slice A1 d.f1.length c1, .slice A2 d.f2.length c2, .int .i64 d.f3.f0, .string d.f3.f1, .slice A5 d.f3.f2.length c5] 59)).alloc (.cells #[.string ⟨#[]⟩, .slice none 0 0, .slice none 0 0, .int .i64 0, .string ⟨#[]⟩, .slice none 0 0] 59) = W1 := ⟨_, rfl⟩
 have q1 : Below w.heap.size w W1 := by rw [← hW1]; exact below_alloc2 _ _ _
 have b0 : W1.heap[w.heap.size]? = some (.cells #[.string d.f0, .slice A1 d.f1.length c1, .slice A2 d.f2.length c2, .int .i64 d.f3.f0, .string d.f3.f1, .slice A5 d.f3.f2.length c5] 59 (0, 0)) := by rw [← hW1]; exact blk_alloc (alloc_at _ _) _
 have b1 : W1.heap[w.heap.size + 1]? = some (.cells #[.string ⟨#[]⟩, .slice none 0 0, .slice none 0 0, .int .i64 0, .string ⟨#[]⟩, .slice none 0 0] 59 (0, 0)) := by rw [← hW1]; have := alloc_at (w.alloc (.cells #[.string d.f0, .slice A1 d.f1.length c1, .slice A2 d.f2.length c2, .int .i64 d.f3.f0, .string d.f3.f1, .slice A5 d.f3.f2.length c5] 59)) (.cells #[.string ⟨#[]⟩, .slice none 0 0, .slice none 0 0, .int .i64 0, .string ⟨#[]⟩, .slice none 0 0] 59); rw [World.size_alloc] at this; exact this
 have z1 : W1.heap.size = w.heap.size + 1 + 1 := by rw [← hW1]; simp
 obtain ⟨mk, hmkd⟩ : ∃ mk, madeCells (Value.agg #[.string ⟨#[]⟩, .slice none 0 0, .int .i64 0, .string ⟨#[]⟩, .slice none 0 0]).cells (d.f2.length * 5) = mk := ⟨_, rfl⟩
 have hmks : mk.size = d.f2.length * 5 := by rw [← hmkd]; exact size_madeCells _ _
 have hzc : (Value.agg #[.string ⟨#[]⟩, .slice none 0 0, .int .i64 0, .string ⟨#[]⟩, .slice none 0 0]).cells.size = 5 := rfl
 rw [hmkd] at hmk
 have hg1 : (W1.alloc (.cells mk 62)).heap[w.heap.size + 1 + 1]? = some (.cells mk 62 (0, 0)) := by rw [← z1]; exact alloc_at _ _
 have hq1 : Below w.heap.size w (W1.alloc (.cells mk 62)) := q1.trans ((below_alloc1 _ _).mono q1.size)
 have hsi : (Tryz.prog.info? 62).map (·.size) = some 5 := by kernel_rfl
 have HQ1 := Aside0.mk hq1
 have HG1 := Aside0.mk hg1
 have HF2 := Aside0.mk F2
 have HF1 := Aside0.mk F1
 have HF5 := Aside0.mk F5
 have HL1 := Lib.hid l1
 have HL5 := Lib.hid l5
 have Q := Aside0.mk q1
 have B0 := Aside0.mk b0
 have B1 := Aside0.mk b1
 have HW1 := Lib.hid hW1
 have HZ1 := Lib.hid z1
 have HCS := Aside0.mk hcs
 have HC1 := Aside0.mk hc1
 have HP := Aside0.mk hP
 have kP2 := (blk_cell b0 2).trans rfl
 have kP2a := pw_cell_below (below_alloc1 W1 (.cells mk 62)) kP2
 clear hd F1 F2 F5 q1 b0 b1 hW1 l1 l2 l5 hq1 hg1 hcs hc1 hP hzz hi0 hmkd hzc
 go_enter Tryz.func70, Tryz.ntmps70
 go_upto_region 1 with fail
 rw [HW1.out]
 go_wp2_with (refine wpList_copy_sz rfl (.tmp 10) (.tmp 12) 54 54 rfl 62 (w.heap.size + 1 + 1) d.f2.length d.f2.length c2 5 A2 mk 62 cs rfl rfl Tryz.underlying54 hsi HG1.out hcl (fun hp => by obtain ⟨ad, ha, hc⟩ := HCS.out hp; exact ⟨ad, ha, fun j v hv => pw_cell_below HQ1.out (hc j v hv)⟩) (hcl.trans hmks.symm) HC1.out ?_)
 obtain ⟨W2, hW2⟩ : ∃ W2, (W1.alloc (.cells mk 62)).setRow (w.heap.size + 1 + 1) cs.toArray = W2 := ⟨_, rfl⟩
 have g2 : W2.heap[w.heap.size + 1 + 1]? = some (.cells cs.toArray 62 (0, 0)) := by rw [← hW2]; exact setRow_heap _ _ _ _ _ _ HG1.out
 have c2 : W2.heap[w.heap.size]? = some (.cells #[.string d.f0, .slice A1 d.f1.length c1, .slice A2 d.f2.length c2, .int .i64 d.f3.f0, .string d.f3.f1, .slice A5 d.f3.f2.length c5] 59 (0, 0)) := by rw [← hW2, setRow_other _ _ _ _ (by omega)]; exact blk_alloc B0.out _
 have d2 : W2.heap[w.heap.size + 1]? = some (.cells #[.string ⟨#[]⟩, .slice none 0 0, .slice none 0 0, .int .i64 0, .string ⟨#[]⟩, .slice none 0 0] 59 (0, 0)) := by rw [← hW2, setRow_other _ _ _ _ (by omega)]; exact blk_alloc B1.out _
 have q2 : Below w.heap.size w W2 := by rw [← hW2]; exact HQ1.out.trans ⟨rfl, rfl, rfl, by simp [World.setRow], fun k hk => setRow_other _ _ _ _ (by omega)⟩
 rw [hW2]
 have G2 := Aside0.mk g2
 have C2 := Aside0.mk c2
 have D2 := Aside0.mk d2
 have Q2 := Aside0.mk q2
 clear g2 c2 d2 q2 hW2 HG1 HQ1 HW1 HZ1 B0 B1 Q hmk kP2 kP2a
 go_loopg [16] d.f2.length (fun gg s16 wr => ∃ (kk : Nat) (cur : Array Value), kk ≤ d.f2.length ∧ d.f2.length - kk ≤ gg ∧ s16 = .int .i64 kk ∧ Aside0 (PartC w wr (w.heap.size + 1 + 1 + 1) d.f2 kk cur) ∧ Aside0 (Below w.heap.size w wr) ∧ Aside0 (wr.heap[w.heap.size + 1 + 1]? = some (.cells cur 62 (0, 0))) ∧ Aside0 (wr.heap[w.heap.size]? = some (.cells #[.string d.f0, .slice A1 d.f1.length c1, .slice A2 d.f2.length c2, .int .i64 d.f3.f0, .string d.f3.f1, .slice A5 d.f3.f2.length c5] 59 (0, 0))) ∧ Aside0 (wr.heap[w.heap.size + 1]? = some (.cells #[.string ⟨#[]⟩, .slice none 0 0, .slice none 0 0, .int .i64 0, .string ⟨#[]⟩, .slice none 0 0] 59 (0, 0))))
 case atStart => exact ⟨0, _, Nat.zero_le _, by omega, rfl, ⟨HP.out.world⟩, Q2, G2, C2, D2⟩
 case round =>
  obtain ⟨kk, cur, hkk, hg, rfl, HP, HB, GB, CB, DB⟩ := hrel
  by_cases hlt : kk < d.f2.length
  ·have hltz : (kk : Int) < (d.f2.length : Int) := by omega
   obtain ⟨X1, x1, X4, x4, u0, u1, u2, u3, u4, m1, G1, m4, G4⟩ := HP.out.get HB.out kk hlt
   have hvl := hv _ (List.getElem_mem hlt)
   have hzc := hz _ (List.getElem_mem hlt)
   have HSt := Lib.hid (fun (W : World) (v1 v4 : Value) (hP : PartC w W (w.heap.size + 1 + 1 + 1) d.f2 kk cur) => hP.step hlt (v1 := v1) (v4 := v4))
   obtain ⟨ca, hca⟩ : ∃ ca, d.f2[kk] = ca := ⟨_, rfl⟩
   rw [hca] at u0 u1 u2 u3 u4 m1 m4 G1 G4 hvl hzc HSt
   have k0 := (blk_cell GB.out (kk * 5)).trans u0
   have k1 := (blk_cell GB.out (kk * 5 + 1)).trans u1
   have k2 := (blk_cell GB.out (kk * 5 + 2)).trans u2
   have k3 := (blk_cell GB.out (kk * 5 + 3)).trans u3
   have k4 := (blk_cell GB.out (kk * 5 + 4)).trans u4
   obtain ⟨W0, hW0⟩ : ∃ W0, wr.alloc (.cells #[.string ca.f0, .slice X1 ca.f1.length x1, .int .i64 ca.f2.f0, .string ca.f2.f1, .slice X4 ca.f2.f2.length x4] 62) = W0 := ⟨_, rfl⟩
   have q0 : Below wr.heap.size wr W0 := by rw [← hW0]; exact below_alloc1 _ _
   have s0 : W0.heap.size = wr.heap.size + 1 := by rw [← hW0]; simp
   have bx : W0.heap[wr.heap.size]? = some (.cells #[.string ca.f0, .slice X1 ca.f1.length x1, .int .i64 ca.f2.f0, .string ca.f2.f1, .slice X4 ca.f2.f2.length x4] 62 (0, 0)) := by rw [← hW0]; exact alloc_at _ _
   have hlw := blk_lt GB.out
   have hS0 : OcS W0.heap.size W0 wr.heap.size (.string ca.f0) (.slice X1 ca.f1.length x1) (.int .i64 ca.f2.f0) (.string ca.f2.f1) (.slice X4 ca.f2.f2.length x4) W0.drew := OcS.of (below_drew (Below.refl _ _)) (Nat.le_refl _) (show W0.drew.heap[wr.heap.size]? = _ from bx)
   have hbel : ∀ W, OcS W0.heap.size W0 wr.heap.size (.string ca.f0) (.slice X1 ca.f1.length x1) (.int .i64 ca.f2.f0) (.string ca.f2.f1) (.slice X4 ca.f2.f2.length x4) W → Below wr.heap.size wr W := fun W hS => q0.trans (hS.1.mono (by omega))
   have HDupS := Lib.hid (fun W (hS : OcS W0.heap.size W0 wr.heap.size (.string ca.f0) (.slice X1 ca.f1.length x1) (.int .i64 ca.f2.f0) (.string ca.f2.f1) (.slice X4 ca.f2.f2.length x4) W) => c_CloneS X1 x1 ca.f1 W (Kd.C_below G1 (hbel W hS)) m1 (by omega))
   have HOwnS := Lib.hid (fun W (hS : OcS W0.heap.size W0 wr.heap.size (.string ca.f0) (.slice X1 ca.f1.length x1) (.int .i64 ca.f2.f0) (.string ca.f2.f1) (.slice X4 ca.f2.f2.length x4) W) => c_ownExpr _ ca.f2 X4 x4 W (Nat.le_refl _) hzc (Kd.C_below G4 (hbel W hS)) m4)
   have HBl := Lib.hid hbel
   have HHW := Lib.hid hW0
   have hne : some (w.heap.size + 1 + 1) ≠ none := by simp
   clear u0 u1 u2 u3 u4 m1 m4 G1 G4 hvl hzc hca hW0 q0 bx hbel
   go_upto_region 6 with fail
   rw [HHW.out]
   have hSd : (fun W => OcS W0.heap.size W0 wr.heap.size (.string ca.f0) (.slice X1 ca.f1.length x1) (.int .i64 ca.f2.f0) (.string ca.f2.f1) (.slice X4 ca.f2.f2.length x4) W) W0.drew := hS0
   refine wp_region_K (S := fun W => OcS W0.heap.size W0 wr.heap.size (.string ca.f0) (.slice X1 ca.f1.length x1) (.int .i64 ca.f2.f0) (.string ca.f2.f1) (.slice X4 ca.f2.f2.length x4) W) (k := 12) (by kernel_rfl) ?_
   change wpAnyK _ _ _ _ _ _ 13 (Array.replicate 13 false) _ _
   refine wpAnyK_take (i := 0) (v := ?_) rfl (by kernel_rfl) (by kernel_rfl) (by kernel_rfl) (by kernel_rfl) (fun _ _ _ h => h) hSd (Or.inl ⟨by rfl, ?_⟩) ?_
   rotate_left 1
   (intro w hSw; (try dsimp only at hSw); go_simp; try (with_reducible rfl))
   (try dsimp only [Act.put]); (try simp only [List.setIfInBounds_toArray, List.set_cons_zero, List.set_cons_succ])
   refine wpAnyK_take (i := 1) (v := ?_) rfl (by kernel_rfl) (by kernel_rfl) (by kernel_rfl) (by kernel_rfl) (fun _ _ _ h => h) hSd (Or.inl ⟨by rfl, ?_⟩) ?_
   rotate_left 1
   (intro w hSw; (try dsimp only at hSw); go_simp; try (with_reducible rfl))
   (try dsimp only [Act.put]); (try simp only [List.setIfInBounds_toArray, List.set_cons_zero, List.set_cons_succ])
   refine wpAnyK_take (i := 2) (v := ?_) rfl (by kernel_rfl) (by kernel_rfl) (by kernel_rfl) (by kernel_rfl) (fun _ _ _ h => h) hSd (Or.inl ⟨by rfl, ?_⟩) ?_
   rotate_left 1
   (intro w hSw; (try dsimp only at hSw); go_simp; try (with_reducible rfl))
   (try dsimp only [Act.put]); (try simp only [List.setIfInBounds_toArray, List.set_cons_zero, List.set_cons_succ])
   refine wpAnyK_take (i := 3) (v := ?_) rfl (by kernel_rfl) (by kernel_rfl) (by kernel_rfl) (by kernel_rfl) (fun _ _ _ h => h) hSd (Or.inl ⟨by rfl, ?_⟩) ?_
   rotate_left 1
   (intro w hSw; (try dsimp only at hSw); go_simp; try (with_reducible rfl))
   (try dsimp only [Act.put]); (try simp only [List.setIfInBounds_toArray, List.set_cons_zero, List.set_cons_succ])
   refine wpAnyK_take (i := 4) (v := ?_) rfl (by kernel_rfl) (by kernel_rfl) (by kernel_rfl) (by kernel_rfl) (fun _ _ _ h => h) hSd (Or.inl ⟨by rfl, ?_⟩) ?_
   rotate_left 1
   (intro w hSw; (try dsimp only at hSw); go_simp; try (with_reducible rfl))
   (try dsimp only [Act.put]); (try simp only [List.setIfInBounds_toArray, List.set_cons_zero, List.set_cons_succ])
   refine wpAnyK_take (i := 5) (v := ?_) rfl (by kernel_rfl) (by kernel_rfl) (by kernel_rfl) (by kernel_rfl) (fun _ _ _ h => h) hSd (Or.inl ⟨by rfl, ?_⟩) ?_
   rotate_left 1
   (intro w hSw; (try dsimp only at hSw); go_simp; try (with_reducible rfl))
   (try dsimp only [Act.put]); (try simp only [List.setIfInBounds_toArray, List.set_cons_zero, List.set_cons_succ])
   refine wpAnyK_take (i := 7) (v := ?_) rfl (by kernel_rfl) (by kernel_rfl) (by kernel_rfl) (by kernel_rfl) (fun _ _ _ h => h) hSd (Or.inl ⟨by rfl, ?_⟩) ?_
   rotate_left 1
   (intro w hSw; (try dsimp only at hSw); go_simp; try (with_reducible rfl))
   (try dsimp only [Act.put]); (try simp only [List.setIfInBounds_toArray, List.set_cons_zero, List.set_cons_succ])
   refine wpAnyK_take (i := 8) (v := ?_) rfl (by kernel_rfl) (by kernel_rfl) (by kernel_rfl) (by kernel_rfl) (fun _ _ _ h => h) hSd (Or.inl ⟨by rfl, ?_⟩) ?_
   rotate_left 1
   (intro w hSw; (try dsimp only at hSw); go_simp; try (with_reducible rfl))
   (try dsimp only [Act.put]); (try simp only [List.setIfInBounds_toArray, List.set_cons_zero, List.set_cons_succ])
   refine wpAnyK_one (i := 6) (by kernel_rfl) rfl (fun K hK => ?_)
   go_simp
   go_at_call 129
   (with_reducible refine (HDupS.out _ hSd).mono ?_)
   rintro e wD ⟨vd, rfl, hT, hbD⟩
   have hSd : (fun W => OcS W0.heap.size W0 wr.heap.size (.string ca.f0) (.slice X1 ca.f1.length x1) (.int .i64 ca.f2.f0) (.string ca.f2.f1) (.slice X4 ca.f2.f2.length x4) W) wD := OcS.step hSd (Nat.le_refl _) hbD
   have hsD := hSd.1.size
   obtain ⟨Ax, cx, hvd⟩ := Kd.R_slice hT
   subst hvd
   have HT := Aside0.mk (show OwnT wD (w.heap.size + 1 + 1 + 1) _ _ from Kd.R_lower hT (by show _ ≤ W0.heap.size; omega))
   clear hT hbD
   refine hK.out _ _ (fun _ => hSd) ?_
   clear hK
   refine wpAnyK_one (i := 9) (by kernel_rfl) rfl (fun K hK => ?_)
   go_simp
   go_at_call 124
   (with_reducible refine (HOwnS.out _ hSd).mono ?_)
   rintro e wE ⟨ve, rfl, hE, hbE⟩
   have HT := Aside0.mk (Kd.R_below HT.out hbE)
   have hSd : (fun W => OcS W0.heap.size W0 wr.heap.size (.string ca.f0) (.slice X1 ca.f1.length x1) (.int .i64 ca.f2.f0) (.string ca.f2.f1) (.slice X4 ca.f2.f2.length x4) W) wE := OcS.step hSd (Nat.le_refl _) hbE
   obtain ⟨Ay, cy, hve⟩ := Kd.R_slice hE
   subst hve
   have hPE := HP.out.below (HBl.out wE hSd)
   have hS2 := HSt.out wE _ _ hPE HT.out (show OwnE wE (w.heap.size + 1 + 1 + 1) _ _ from Kd.R_lower hE (by have := hsD; omega))
   have HS2 := Aside0.mk hS2
   have GB2 := Aside0.mk (blk_below GB.out (HBl.out wE hSd))
   have CB2 := Aside0.mk (blk_below CB.out (HBl.out wE hSd))
   have DB2 := Aside0.mk (blk_below DB.out (HBl.out wE hSd))
   have HB2 := Aside0.mk (HB.out.trans ((HBl.out wE hSd).mono HB.out.size))
   have x0 : wE.cell? ⟨w.heap.size + 1 + 1, kk * 5, none⟩ = some _ := pw_cell_below (HBl.out wE hSd) k0
   have x1 : wE.cell? ⟨w.heap.size + 1 + 1, kk * 5 + 1, none⟩ = some _ := pw_cell_below (HBl.out wE hSd) k1
   have x2 : wE.cell? ⟨w.heap.size + 1 + 1, kk * 5 + 2, none⟩ = some _ := pw_cell_below (HBl.out wE hSd) k2
   have x3 : wE.cell? ⟨w.heap.size + 1 + 1, kk * 5 + 3, none⟩ = some _ := pw_cell_below (HBl.out wE hSd) k3
   have x4 : wE.cell? ⟨w.heap.size + 1 + 1, kk * 5 + 4, none⟩ = some _ := pw_cell_below (HBl.out wE hSd) k4
   have fg := fun i => blk_frozen GB2.out i
   clear hE hbE hPE hS2 hsD
   refine hK.out _ _ (fun _ => hSd) ?_
   clear hK
   refine wpAnyK_take (i := 10) (v := ?_) rfl (by kernel_rfl) (by kernel_rfl) (by kernel_rfl) (by kernel_rfl) (fun _ _ _ h => h) hSd (Or.inl ⟨by rfl, ?_⟩) ?_
   rotate_left 1
   (intro w hSw; (try dsimp only at hSw); go_simp; try (with_reducible rfl))
   (try dsimp only [Act.put]); (try simp only [List.setIfInBounds_toArray, List.set_cons_zero, List.set_cons_succ])
   refine wpAnyK_take (i := 11) (v := ?_) rfl (by kernel_rfl) (by kernel_rfl) (by kernel_rfl) (by kernel_rfl) (fun _ _ _ h => h) hSd (Or.inl ⟨by rfl, ?_⟩) ?_
   rotate_left 1
   (intro w hSw; (try dsimp only at hSw); go_simp; try (with_reducible rfl))
   (try dsimp only [Act.put]); (try simp only [List.setIfInBounds_toArray, List.set_cons_zero, List.set_cons_succ])
   refine wpAnyK_one (i := 12) (by kernel_rfl) rfl (fun K hK => ?_)
   go_simp
   refine hK.out _ _ (fun h => absurd rfl h) ?_
   clear hK hSd
   refine wpAnyK_done (by kernel_rfl) ?_ _
   go_wp2
   go_roundg (d.f2.length - (kk + 1))
   case measure => omega
   case rel => exact ⟨kk + 1, _, by omega, by omega, by go_num, ⟨((((HS2.out.set (by omega)).set (by omega)).set (by omega)).set (by omega)).set (by omega)⟩, ⟨((((HB2.out.setCell (by simp; omega) _).setCell (by simp; omega) _).setCell (by simp; omega) _).setCell (by simp; omega) _).setCell (by simp; omega) _⟩, ⟨blk_put (blk_put (blk_put (blk_put (blk_put GB2.out _ _ rfl) _ _ rfl) _ _ rfl) _ _ rfl) _ _ rfl⟩, ⟨blk_far (blk_far (blk_far (blk_far (blk_far CB2.out (by simp; omega) _) (by simp; omega) _) (by simp; omega) _) (by simp; omega) _) (by simp; omega) _⟩, ⟨blk_far (blk_far (blk_far (blk_far (blk_far DB2.out (by simp) _) (by simp) _) (by simp) _) (by simp) _) (by simp) _⟩⟩
  ·have : kk = d.f2.length := by omega
   subst this
   have hO := PartC.done (base := w.heap.size + 1 + 1) HP.out GB.out (Nat.le_refl _) (by omega)
   have HO := Aside0.mk (Kd.R_below (Kd.R_mono (Kd.R_bound hO) (ok' := fun k => k < wr.heap.size) (fun k hk => hk.2.2.1)) (below_drew (Below.refl _ _)))
   have hlw := blk_lt GB.out
   have hlt0 : w.heap.size < wr.heap.size := by omega
   have hS0 : OdS wr w.heap.size (.string d.f0) (.slice A1 d.f1.length c1) (.int .i64 d.f3.f0) (.string d.f3.f1) (.slice A5 d.f3.f2.length c5) wr.drew := ⟨below_drew (Below.refl _ _), (blk_cell CB.out 0).trans rfl, (blk_cell CB.out 1).trans rfl, (blk_cell CB.out 3).trans rfl, (blk_cell CB.out 4).trans rfl, (blk_cell CB.out 5).trans rfl⟩
   have HDupS := Lib.hid (fun W (hS : OdS wr w.heap.size (.string d.f0) (.slice A1 d.f1.length c1) (.int .i64 d.f3.f0) (.string d.f3.f1) (.slice A5 d.f3.f2.length c5) W) => c_CloneS A1 c1 d.f1 W (Kd.C_below (Kd.F_now HF1.out) (HB.out.trans (hS.1.mono HB.out.size))) HL1.out (by omega))
   have HOwnS := Lib.hid (fun W (hS : OdS wr w.heap.size (.string d.f0) (.slice A1 d.f1.length c1) (.int .i64 d.f3.f0) (.string d.f3.f1) (.slice A5 d.f3.f2.length c5) W) => c_ownExpr _ d.f3 A5 c5 W (Nat.le_refl _) hz3 (Kd.C_below (Kd.F_now HF5.out) (HB.out.trans (hS.1.mono HB.out.size))) HL5.out)
   have DBd := Aside0.mk (show wr.drew.heap[w.heap.size + 1]? = _ from DB.out)
   clear hO
   go_upto_region 8 with fail
   have hSd : (fun W => OdS wr w.heap.size (.string d.f0) (.slice A1 d.f1.length c1) (.int .i64 d.f3.f0) (.string d.f3.f1) (.slice A5 d.f3.f2.length c5) W) wr.drew := hS0
   refine wp_region_K (S := fun W => OdS wr w.heap.size (.string d.f0) (.slice A1 d.f1.length c1) (.int .i64 d.f3.f0) (.string d.f3.f1) (.slice A5 d.f3.f2.length c5) W) (k := 10) (by kernel_rfl) ?_
   change wpAnyK _ _ _ _ _ _ 11 (Array.replicate 11 false) _ _
   refine wpAnyK_take (i := 0) (v := ?_) rfl (by kernel_rfl) (by kernel_rfl) (by kernel_rfl) (by kernel_rfl) (fun _ _ _ h => h) hSd (Or.inl ⟨by rfl, ?_⟩) ?_
   rotate_left 1
   (intro w hSw; (try dsimp only at hSw); go_simp; try (with_reducible rfl))
   (try dsimp only [Act.put]); (try simp only [List.setIfInBounds_toArray, List.set_cons_zero, List.set_cons_succ])
   refine wpAnyK_take (i := 1) (v := ?_) rfl (by kernel_rfl) (by kernel_rfl) (by kernel_rfl) (by kernel_rfl) (fun _ _ _ h => h) hSd (Or.inl ⟨by rfl, ?_⟩) ?_
   rotate_left 1
   (intro w hSw; (try dsimp only at hSw); go_simp; try (with_reducible rfl))
   (try dsimp only [Act.put]); (try simp only [List.setIfInBounds_toArray, List.set_cons_zero, List.set_cons_succ])
   refine wpAnyK_take (i := 2) (v := ?_) rfl (by kernel_rfl) (by kernel_rfl) (by kernel_rfl) (by kernel_rfl) (fun _ _ _ h => h) hSd (Or.inl ⟨by rfl, ?_⟩) ?_
   rotate_left 1
   (intro w hSw; (try dsimp only at hSw); go_simp; try (with_reducible rfl))
   (try dsimp only [Act.put]); (try simp only [List.setIfInBounds_toArray, List.set_cons_zero, List.set_cons_succ])
   refine wpAnyK_take (i := 3) (v := ?_) rfl (by kernel_rfl) (by kernel_rfl) (by kernel_rfl) (by kernel_rfl) (fun _ _ _ h => h) hSd (Or.inl ⟨by rfl, ?_⟩) ?_
   rotate_left 1
   (intro w hSw; (try dsimp only at hSw); go_simp; try (with_reducible rfl))
   (try dsimp only [Act.put]); (try simp only [List.setIfInBounds_toArray, List.set_cons_zero, List.set_cons_succ])
   refine wpAnyK_take (i := 5) (v := ?_) rfl (by kernel_rfl) (by kernel_rfl) (by kernel_rfl) (by kernel_rfl) (fun _ _ _ h => h) hSd (Or.inl ⟨by rfl, ?_⟩) ?_
   rotate_left 1
   (intro w hSw; (try dsimp only at hSw); go_simp; try (with_reducible rfl))
   (try dsimp only [Act.put]); (try simp only [List.setIfInBounds_toArray, List.set_cons_zero, List.set_cons_succ])
   refine wpAnyK_take (i := 6) (v := ?_) rfl (by kernel_rfl) (by kernel_rfl) (by kernel_rfl) (by kernel_rfl) (fun _ _ _ h => h) hSd (Or.inl ⟨by rfl, ?_⟩) ?_
   rotate_left 1
   (intro w hSw; (try dsimp only at hSw); go_simp; try (with_reducible rfl))
   (try dsimp only [Act.put]); (try simp only [List.setIfInBounds_toArray, List.set_cons_zero, List.set_cons_succ])
   refine wpAnyK_take (i := 7) (v := ?_) rfl (by kernel_rfl) (by kernel_rfl) (by kernel_rfl) (by kernel_rfl) (fun _ _ _ h => h) hSd (Or.inl ⟨by rfl, ?_⟩) ?_
   rotate_left 1
   (intro w hSw; (try dsimp only at hSw); go_simp; try (with_reducible rfl))
   (try dsimp only [Act.put]); (try simp only [List.setIfInBounds_toArray, List.set_cons_zero, List.set_cons_succ])
   refine wpAnyK_one (i := 4) (by kernel_rfl) rfl (fun K hK => ?_)
   go_simp
   go_at_call 129
   (with_reducible refine (HDupS.out _ hSd).mono ?_)
   rintro e wD ⟨vd, rfl, hT, hbD⟩
   have hSd : (fun W => OdS wr w.heap.size (.string d.f0) (.slice A1 d.f1.length c1) (.int .i64 d.f3.f0) (.string d.f3.f1) (.slice A5 d.f3.f2.length c5) W) wD := OdS.step hSd hlt0 (hbD.mono hSd.1.size)
   have hsD : wr.heap.size ≤ wD.heap.size := hSd.1.size
   obtain ⟨Ax, cx, hvd⟩ := Kd.R_slice hT
   subst hvd
   have HT := Aside0.mk (show OwnT wD wr.heap.size _ _ from hT)
   have HO := Aside0.mk (Kd.R_below HO.out hbD)
   have DBd := Aside0.mk (blk_below DBd.out hbD)
   clear hT hbD
   refine hK.out _ _ (fun _ => hSd) ?_
   clear hK
   refine wpAnyK_one (i := 8) (by kernel_rfl) rfl (fun K hK => ?_)
   go_simp
   go_at_call 124
   (with_reducible refine (HOwnS.out _ hSd).mono ?_)
   rintro e wE ⟨ve, rfl, hE, hbE⟩
   have hSd : (fun W => OdS wr w.heap.size (.string d.f0) (.slice A1 d.f1.length c1) (.int .i64 d.f3.f0) (.string d.f3.f1) (.slice A5 d.f3.f2.length c5) W) wE := OdS.step hSd hlt0 (hbE.mono hSd.1.size)
   obtain ⟨Ay, cy, hve⟩ := Kd.R_slice hE
   subst hve
   have HT := Aside0.mk (Kd.R_below HT.out hbE)
   have HO := Aside0.mk (Kd.R_below HO.out hbE)
   have DBd := Aside0.mk (blk_below DBd.out hbE)
   have HE := Aside0.mk (show OwnE wE wr.heap.size _ _ from Kd.R_lower hE hsD)
   have HBE := Aside0.mk (HB.out.trans (hSd.1.mono HB.out.size))
   have e0 := (blk_cell DBd.out 0).trans rfl
   have e1 := (blk_cell DBd.out 1).trans rfl
   have e2 := (blk_cell DBd.out 2).trans rfl
   have e3 := (blk_cell DBd.out 3).trans rfl
   have e4 := (blk_cell DBd.out 4).trans rfl
   have e5 := (blk_cell DBd.out 5).trans rfl
   have fd := fun i => blk_frozen DBd.out i
   have hsE : wr.heap.size ≤ wE.heap.size := Nat.le_trans hsD hbE.size
   clear hE hbE
   refine hK.out _ _ (fun _ => hSd) ?_
   clear hK
   refine wpAnyK_take (i := 9) (v := ?_) rfl (by kernel_rfl) (by kernel_rfl) (by kernel_rfl) (by kernel_rfl) (fun _ _ _ h => h) hSd (Or.inl ⟨by rfl, ?_⟩) ?_
   rotate_left 1
   (intro w hSw; (try dsimp only at hSw); go_simp; try (with_reducible rfl))
   (try dsimp only [Act.put]); (try simp only [List.setIfInBounds_toArray, List.set_cons_zero, List.set_cons_succ])
   refine wpAnyK_one (i := 10) (by kernel_rfl) rfl (fun K hK => ?_)
   go_simp
   refine hK.out _ _ (fun h => absurd rfl h) ?_
   clear hK hSd
   refine wpAnyK_done (by kernel_rfl) ?_ _
   go_wp2
   have b4 := blk_put (blk_put (blk_put (blk_put (blk_put (blk_put DBd.out 0 (.string d.f0) rfl) 1 (.slice Ax d.f1.length cx) rfl) 2 (.slice (some ⟨w.heap.size + 1 + 1, 0, none⟩) d.f2.length d.f2.length) rfl) 3 (.int .i64 d.f3.f0) rfl) 4 (.string d.f3.f1) rfl) 5 (.slice Ay d.f3.f2.length cy) rfl
   refine bodyPost_ret (results_single rfl (.cell _ _ _ _ _ rfl b4 Tryz.underlying59 rfl rfl .nil)) rfl ?_
   have key : ∀ {α : Type} {dk : Kd α} {e : TypeId} {v : Value} {xs : List α} {b0 : Nat} {ok : Nat → Prop} {u0 u1 u2 u3 u4 u5 : Value}, w.heap.size + 1 + 1 ≤ b0 → Kd.R dk e wE b0 ok v xs → Kd.R dk e ((((((wE.setCell ⟨w.heap.size + 1, 0, none⟩ u0).setCell ⟨w.heap.size + 1, 1, none⟩ u1).setCell ⟨w.heap.size + 1, 2, none⟩ u2).setCell ⟨w.heap.size + 1, 3, none⟩ u3).setCell ⟨w.heap.size + 1, 4, none⟩ u4).setCell ⟨w.heap.size + 1, 5, none⟩ u5) b0 ok v xs := fun {_ _ _ _ _ b0 ok _ _ _ _ _ _} hb0 h => by
    have h1 := Kd.R_mono (Kd.R_bound h) (ok' := fun k => ok k ∧ b0 ≤ k) (fun k hk => ⟨hk.1, hk.2.1⟩)
    have hne : ∀ k, ok k ∧ b0 ≤ k → k ≠ w.heap.size + 1 := fun k hk => by have := hk.2; omega
    exact Kd.R_mono (Kd.R_far (Kd.R_far (Kd.R_far (Kd.R_far (Kd.R_far (Kd.R_far h1 hne _) hne _) hne _) hne _) hne _) hne _) (fun _ hk => hk.1)
   exact ⟨_, _, _, rfl, wr.heap.size, by omega, by simp only [World.setCell, Array.size_modify]; omega, key (by omega) HT.out, Kd.R_lower (key (Nat.le_refl _) HO.out) (by omega), key (by omega) HE.out, (((((HBE.out.setCell (by simp) _).setCell (by simp) _).setCell (by simp) _).setCell (by simp) _).setCell (by simp) _).setCell (by simp) _⟩
theorem c_own (d : De) (cs : List Value) (w : World) (hd : Kd.FK k59 w (fun k => k < w.heap.size) d cs) (hl : d.f2.length ≤ 100000) (hp : d.f1.length ≤ 100000) (hv : ∀ c ∈ d.f2, c.f1.length ≤ 100000) (hz3 : szE d.f3 ≤ 1000000) (hz : ∀ c ∈ d.f2, szE c.f2 ≤ 1000000) :
  Calls Tryz.prog 70 #[.agg cs.toArray] w fun en w' => ∃ v1 v2 v5, en = .returned (.agg #[.string d.f0, v1, v2, .int .i64 d.f3.f0, .string d.f3.f1, v5]) ∧ OwnT w' w.heap.size v1 d.f1 ∧ OwnC w' w.heap.size v2 d.f2 ∧ OwnE w' w.heap.size v5 d.f3.f2 ∧ Below w.heap.size w w' := by
 refine (c_ownS d cs w hd hl hp hv hz3 hz).mono ?_
 rintro en w' ⟨v1, v2, v5, rfl, m, h1, _, h2, h3, h4, h5⟩
 exact ⟨v1, v2, v5, rfl, Kd.R_lower h2 h1, Kd.R_mono h3 (fun _ _ => trivial), Kd.R_lower h4 h1, h5⟩
end Go.Proofs.YtacefdkfbpgedaaGreat.Mine
namespace Go.Proofs.YtacefdkfbpgedaaGreat.Mine
open Go.Proofs.YtacefdkfbpgedaaGreat.PProgSmall
open Go.RowKit Go.Shelf Go.Proofs.YtacefdkfbpgedaaGreatW.PrintWords Go.Proofs.YtacefdkfbpgedaaGreatW.PrintLast Go.Proofs.YtacefdkfbpgedaaGreatW.PrintMore
set_option linter.unusedVariables false
set_option linter.unusedSimpArgs false
abbrev OeS (n : Nat) (W0 : World) (B : Nat) (u0 u1 u2 u3 u4 u5 : Value) (W : World) : Prop := Below n W0 W ∧ W0.heap.size ≤ W.heap.size ∧ W.cell? ⟨B, 0, none⟩ = some u0 ∧ W.cell? ⟨B, 1, none⟩ = some u1 ∧ W.cell? ⟨B, 2, none⟩ = some u2 ∧ W.cell? ⟨B, 3, none⟩ = some u3 ∧ W.cell? ⟨B, 4, none⟩ = some u4 ∧ W.cell? ⟨B, 5, none⟩ = some u5
theorem OeS.of {n : Nat} {W0 : World} {B : Nat} {u0 u1 u2 u3 u4 u5 : Value} {W : World} {t : Nat} (hb : Below n W0 W) (hs : W0.heap.size ≤ W.heap.size) (h : W.heap[B]? = some (.cells #[u0, u1, u2, u3, u4, u5] t (0, 0))) : OeS n W0 B u0 u1 u2 u3 u4 u5 W := ⟨hb, hs, (blk_cell h 0).trans rfl, (blk_cell h 1).trans rfl, (blk_cell h 2).trans rfl, (blk_cell h 3).trans rfl, (blk_cell h 4).trans rfl, (blk_cell h 5).trans rfl⟩
structure OkO (d : De) : Prop where
 c : d.f2.length ≤ 100000
 p : d.f1.length ≤ 100000
 v : ∀ c ∈ d.f2, c.f1.length ≤ 100000
 b : szE d.f3 ≤ 1000000
 z : ∀ c ∈ d.f2, szE c.f2 ≤ 1000000
set_option maxRecDepth 100000 in
set_option maxHeartbeats 8000000 in
theorem c_Own (defs : List De) (A : Option Addr) (c : Nat) (w : World) (hr : Kd.C k59 w A defs.length defs) (hc : defs.length ≤ c) (hn : defs.length ≤ 100000) (hok : ∀ d ∈ defs, OkO d) :
  Calls Tryz.prog 10 #[.agg #[.slice A defs.length c]] w fun en w' => ∃ v, en = .returned (.agg #[v]) ∧ OwnD w' w.heap.size v defs ∧ Below w.heap.size w w' := by
 have hmd := hr.2.1
 have HF := Lib.hid (Kd.C_F k59_heap hr)
 have HR := Lib.hid hr
 obtain ⟨W1, hW1⟩ : ∃ W1, ((w.alloc (.cells #[.slice A defs.length c] 24)).alloc (.cells #[.slice none 0 0] 24)).alloc (.cells #[.slice none 0 0] 24) = W1 := ⟨_, rfl⟩
 have q1 : Below w.heap.size w W1 := by rw [← hW1]; exact (below_alloc2 _ _ _).trans ((below_alloc1 _ _).mono (by simp; omega))
 have b0 : W1.heap[w.heap.size]? = some (.cells #[.slice A defs.length c] 24 (0, 0)) := by rw [← hW1]; exact blk_alloc (blk_alloc (alloc_at _ _) _) _
 have b1 : W1.heap[w.heap.size + 1]? = some (.cells #[.slice none 0 0] 24 (0, 0)) := by rw [← hW1]; have := alloc_at (w.alloc (.cells #[.slice A defs.length c] 24)) (.cells #[.slice none 0 0] 24); rw [World.size_alloc] at this; exact blk_alloc this _
 have b2 : W1.heap[w.heap.size + 1 + 1]? = some (.cells #[.slice none 0 0] 24 (0, 0)) := by rw [← hW1]; have := alloc_at ((w.alloc (.cells #[.slice A defs.length c] 24)).alloc (.cells #[.slice none 0 0] 24)) (.cells #[.slice none 0 0] 24); simpa only [World.size_alloc] using this
 have hZ1 : W1.heap.size = w.heap.size + 1 + 1 + 1 := by rw [← hW1]; simp
 have hz1a := Nat.le_of_eq hZ1
 have hz1b := Nat.le_of_eq hZ1.symm
 have Q := Aside0.mk q1
 have B1 := Aside0.mk b1
 have B2 := Aside0.mk b2
 have HW1 := Lib.hid hW1
 have kP := (blk_cell b0 0).trans rfl
 clear hr q1 b0 b1 b2 hW1 hZ1
 go_enter Tryz.func10, Tryz.ntmps10
 go_wp2_with fail
 rw [HW1.out]
 go_wp2
 clear kP
 go_loopg [9] defs.length (fun gg s9 wr => ∃ (kk : Nat) (v : Value), kk ≤ defs.length ∧ defs.length - kk ≤ gg ∧ s9 = .int .i64 kk ∧ Aside0 (OwnD wr W1.heap.size v (defs.take kk)) ∧ Aside0 (Below (w.heap.size + 1 + 1) W1 wr) ∧ W1.heap.size ≤ wr.heap.size ∧ Aside0 (wr.heap[w.heap.size + 1 + 1]? = some (.cells #[v] 24 (0, 0))))
 case atStart => exact ⟨0, _, Nat.zero_le _, by omega, rfl, ⟨Kd.R_nil _ _ _ _ _⟩, ⟨Below.refl _ _⟩, Nat.le_refl _, B2⟩
 case round =>
  obtain ⟨kk, v, hkk, hg, rfl, HO, HB, hsz, BV⟩ := hrel
  have HQ := Aside0.mk (Q.out.trans (HB.out.mono (by omega)))
  have K1 := Aside0.mk (show wr.heap[w.heap.size + 1]? = _ from (HB.out.block _ (by omega)).trans B1.out)
  by_cases hlt : kk < defs.length
  ·have hltz : (kk : Int) < (defs.length : Int) := by omega
   obtain ⟨ad, g0, g1, g2, g3, g4, g5, rfl, hK, hcells, y0, y1, y2, y3, y4, y5⟩ := gett6 rfl (Kd.C_below HR.out HQ.out) kk hlt
   have hFK := elemF HF.out kk hlt rfl hcells (fun p v hp hv => (HQ.out).cell (World.block_lt_of_cell? _ _ hv) |>.trans hv) (by decide)
   have hmem := List.getElem_mem hlt
   obtain ⟨dd, hdd⟩ : ∃ dd, defs[kk] = dd := ⟨_, rfl⟩
   have HK := Lib.hid (show defs[kk]? = some dd by rw [List.getElem?_eq_getElem hlt, hdd])
   rw [hdd] at hFK hmem
   obtain ⟨Z1, z1, Z2, z2, Z5, z5, he, _⟩ := k59_openF hFK
   obtain ⟨rfl, rfl, rfl, rfl, rfl, rfl⟩ : g0 = _ ∧ g1 = _ ∧ g2 = _ ∧ g3 = _ ∧ g4 = _ ∧ g5 = _ := by simpa using he
   have HDd := Lib.hid hdd
   have HFk := Lib.hid (show Kd.FK k59 wr (fun k => k < (wr).heap.size) dd [.string dd.f0, .slice Z1 dd.f1.length z1, .slice Z2 dd.f2.length z2, .int .i64 dd.f3.f0, .string dd.f3.f1, .slice Z5 dd.f3.f2.length z5] from Kd.FK_mono (Kd.FK_below hFK (HQ.out)) (fun k hk => by have := (HQ.out).size; omega))
   clear hK hcells hFK he hdd
   have hod := hok _ hmem
   obtain ⟨A9, c9, hv⟩ := Kd.R_slice HO.out
   rw [List.length_take_of_le hkk] at hv
   subst hv
   have hts : defs.take (kk + 1) = defs.take kk ++ [dd] := by rw [take_snoc hlt, HDd.out]
   have HTs := Lib.hid hts
   obtain ⟨W0, hW0⟩ : ∃ W0, wr.alloc (.cells #[.string dd.f0, .slice Z1 dd.f1.length z1, .slice Z2 dd.f2.length z2, .int .i64 dd.f3.f0, .string dd.f3.f1, .slice Z5 dd.f3.f2.length z5] 59) = W0 := ⟨_, rfl⟩
   have q0 : Below wr.heap.size wr W0 := by rw [← hW0]; exact below_alloc1 _ _
   have s0 : W0.heap.size = wr.heap.size + 1 := by rw [← hW0]; simp
   have bx : W0.heap[wr.heap.size]? = some (.cells #[.string dd.f0, .slice Z1 dd.f1.length z1, .slice Z2 dd.f2.length z2, .int .i64 dd.f3.f0, .string dd.f3.f1, .slice Z5 dd.f3.f2.length z5] 59 (0, 0)) := by rw [← hW0]; exact alloc_at _ _
   have hnW : W1.heap.size ≤ W0.heap.size := by omega
   have HBX := Aside0.mk (show W0.drew.heap[wr.heap.size]? = _ from bx)
   have HB3 := Aside0.mk (show W0.drew.heap[w.heap.size + 1 + 1]? = _ from blk_below (w1 := W0) BV.out q0)
   have HO0 := Aside0.mk (Kd.R_below (Kd.R_below HO.out q0) (below_drew (Below.refl _ _)))
   have HNx := Lib.hid (show some wr.heap.size ≠ (Value.slice A9 kk c9).ownBlock from fun he => by have := ((Kd.R_bound HO.out).1 _ he.symm).2.2.1; omega)
   have HNe := Lib.hid (fun (k : Nat) (hk : W0.heap.size ≤ k) => show True ∧ some k ≠ (Value.slice A9 kk c9).ownBlock from ⟨trivial, fun he => by have := ((Kd.R_bound HO.out).1 k he.symm).2.2.1; omega⟩)
   have HNr := Lib.hid (fun (k : Nat) (hk : some k = (Value.slice A9 kk c9).ownBlock) => show W1.heap.size ≤ k from ((Kd.R_bound HO.out).1 k hk.symm).2.1)
   have hFK0 : Kd.FK k59 W0.drew (fun k => k < W0.drew.heap.size) dd [.string dd.f0, .slice Z1 dd.f1.length z1, .slice Z2 dd.f2.length z2, .int .i64 dd.f3.f0, .string dd.f3.f1, .slice Z5 dd.f3.f2.length z5] := Kd.FK_mono (Kd.FK_below (Kd.FK_below HFk.out q0) (below_drew (Below.refl _ _))) (fun k hk => by show k < W0.heap.size; omega)
   have HC := Lib.hid (c_ownDef dd _ W0.drew hFK0 hod.c hod.p hod.v hod.b hod.z)
   have HBq := Lib.hid (show Below (w.heap.size + 1 + 1) W1 W0 from HB.out.trans (q0.mono (by omega)))
   have HHW := Lib.hid hW0
   have hSd : (fun W => OeS W1.heap.size W0 wr.heap.size (.string dd.f0) (.slice Z1 dd.f1.length z1) (.slice Z2 dd.f2.length z2) (.int .i64 dd.f3.f0) (.string dd.f3.f1) (.slice Z5 dd.f3.f2.length z5) W ∧ W.cell? ⟨w.heap.size + 1 + 1, 0, none⟩ = some (.slice A9 kk c9)) W0.drew := ⟨OeS.of (below_drew (Below.refl _ _)) (Nat.le_refl _) HBX.out, (blk_cell HB3.out 0).trans rfl⟩
   clear hts hW0 q0 bx hFK0 HO hod
   go_upto_region 5 with fail
   rw [HHW.out]
   refine wp_region_K (S := fun W => OeS W1.heap.size W0 wr.heap.size (.string dd.f0) (.slice Z1 dd.f1.length z1) (.slice Z2 dd.f2.length z2) (.int .i64 dd.f3.f0) (.string dd.f3.f1) (.slice Z5 dd.f3.f2.length z5) W ∧ W.cell? ⟨w.heap.size + 1 + 1, 0, none⟩ = some (.slice A9 kk c9)) (k := 7) (by kernel_rfl) ?_
   change wpAnyK _ _ _ _ _ _ 8 (Array.replicate 8 false) _ _
   refine wpAnyK_take (i := 0) (v := ?_) rfl (by kernel_rfl) (by kernel_rfl) (by kernel_rfl) (by kernel_rfl) (fun _ _ _ h => h) hSd (Or.inl ⟨by rfl, ?_⟩) ?_
   rotate_left 1
   (intro w hSw; (try dsimp only at hSw); go_simp; try (with_reducible rfl))
   (try dsimp only [Act.put]); (try simp only [List.setIfInBounds_toArray, List.set_cons_zero, List.set_cons_succ])
   refine wpAnyK_take (i := 1) (v := ?_) rfl (by kernel_rfl) (by kernel_rfl) (by kernel_rfl) (by kernel_rfl) (fun _ _ _ h => h) hSd (Or.inl ⟨by rfl, ?_⟩) ?_
   rotate_left 1
   (intro w hSw; (try dsimp only at hSw); go_simp; try (with_reducible rfl))
   (try dsimp only [Act.put]); (try simp only [List.setIfInBounds_toArray, List.set_cons_zero, List.set_cons_succ])
   refine wpAnyK_take (i := 2) (v := ?_) rfl (by kernel_rfl) (by kernel_rfl) (by kernel_rfl) (by kernel_rfl) (fun _ _ _ h => h) hSd (Or.inl ⟨by rfl, ?_⟩) ?_
   rotate_left 1
   (intro w hSw; (try dsimp only at hSw); go_simp; try (with_reducible rfl))
   (try dsimp only [Act.put]); (try simp only [List.setIfInBounds_toArray, List.set_cons_zero, List.set_cons_succ])
   refine wpAnyK_one (i := 3) (by kernel_rfl) rfl (fun K hK => ?_)
   go_simp
   go_at_call 49
   (with_reducible refine HC.out.mono ?_)
   rintro e wE ⟨v1, v2, v5, rfl, hT, hCs, hE, hbE⟩
   have HB3 := Aside0.mk (blk_below HB3.out hbE)
   have HBX := Aside0.mk (blk_below HBX.out hbE)
   have k3 := (blk_cell HB3.out 0).trans rfl
   have hbW : Below W0.heap.size W0 wE := (below_drew (Below.refl _ _)).trans hbE
   have hszE : W0.heap.size ≤ wE.heap.size := hbE.size
   have HSb := Lib.hid (hbW.mono hnW)
   have hSd : (fun W => OeS W1.heap.size W0 wr.heap.size (.string dd.f0) (.slice Z1 dd.f1.length z1) (.slice Z2 dd.f2.length z2) (.int .i64 dd.f3.f0) (.string dd.f3.f1) (.slice Z5 dd.f3.f2.length z5) W ∧ W.cell? ⟨w.heap.size + 1 + 1, 0, none⟩ = some (.slice A9 kk c9)) wE := ⟨OeS.of (hbW.mono hnW) hszE HBX.out, k3⟩
   have HO0 := Aside0.mk (Kd.R_below HO0.out hbE)
   obtain ⟨At, ct, ht⟩ := Kd.R_slice hT
   obtain ⟨Ac, cc, hcc⟩ := Kd.R_slice hCs
   obtain ⟨Ae, ce, he⟩ := Kd.R_slice hE
   subst ht
   subst hcc
   subst he
   have HM := Aside0.mk (k59_mkM wE W1.heap.size (fun k => W0.heap.size ≤ k) dd (Kd.R_lower (Kd.R_mono (Kd.R_bound hT) (ok' := fun k => W0.heap.size ≤ k) (fun k hk => hk.2.1)) hnW) (Kd.R_lower (Kd.R_mono (Kd.R_bound hCs) (ok' := fun k => W0.heap.size ≤ k) (fun k hk => hk.2.1)) hnW) (Kd.R_lower (Kd.R_mono (Kd.R_bound hE) (ok' := fun k => W0.heap.size ≤ k) (fun k hk => hk.2.1)) hnW))
   clear hT hCs hE hbE hbW
   refine hK.out _ _ (fun _ => hSd) ?_
   clear hK
   refine wpAnyK_one (i := 4) (by kernel_rfl) rfl (fun K hK => ?_)
   go_simp
   have hSd : (fun W => OeS W1.heap.size W0 wr.heap.size (.string dd.f0) (.slice Z1 dd.f1.length z1) (.slice Z2 dd.f2.length z2) (.int .i64 dd.f3.f0) (.string dd.f3.f1) (.slice Z5 dd.f3.f2.length z5) W ∧ W.cell? ⟨w.heap.size + 1 + 1, 0, none⟩ = some (.slice A9 kk c9)) (wE.alloc (.cells #[.string dd.f0, .slice At dd.f1.length ct, .slice Ac dd.f2.length cc, .int .i64 dd.f3.f0, .string dd.f3.f1, .slice Ae dd.f3.f2.length ce] 59)) := ⟨OeS.of (HSb.out.trans ((below_alloc1 _ _).mono (by omega))) (by rw [World.size_alloc]; omega) (blk_alloc HBX.out _), pw_cell_below (below_alloc1 _ _) k3⟩
   refine hK.out _ _ (fun _ => hSd) ?_
   clear hK
   refine wpAnyK_one (i := 5) (by kernel_rfl) rfl (fun K hK => ?_)
   refine Kd.R_append_step k59 (w0 := wE) (W := wE) W1.heap.size (by rfl) (.tmp 14) (.tmp 17) 22 59 _ 112 rfl Tryz.underlying22 infoDe rfl (by decide) (by decide) (.slice A9 kk c9) (defs.take kk) dd [.string dd.f0, .slice At dd.f1.length ct, .slice Ac dd.f2.length cc, .int .i64 dd.f3.f0, .string dd.f3.f1, .slice Ae dd.f3.f2.length ce] (fun _ => True) (fun k => W0.heap.size ≤ k) rfl rfl HM.out HNe.out (fun _ _ => trivial) HO0.out (Below.refl _ _) (by omega) (by rw [List.length_take_of_le hkk]; omega) ?_
   intro v9 w9 hR9 hB9 hg9 hat9
   rw [← HTs.out] at hR9
   have HB9 := Aside0.mk (blk_grown HB3.out hg9 (fun he => by have := HNr.out _ he; omega))
   have HX9 := blk_grown HBX.out hg9 (fun he => HNx.out he)
   have k9 := (blk_cell HB9.out 0).trans rfl
   have f9 := blk_frozen HB9.out 0
   have hSd : (fun W => OeS W1.heap.size W0 wr.heap.size (.string dd.f0) (.slice Z1 dd.f1.length z1) (.slice Z2 dd.f2.length z2) (.int .i64 dd.f3.f0) (.string dd.f3.f1) (.slice Z5 dd.f3.f2.length z5) W ∧ W.cell? ⟨w.heap.size + 1 + 1, 0, none⟩ = some (.slice A9 kk c9)) w9 := ⟨OeS.of (HSb.out.trans hB9) (Nat.le_trans hszE hB9.size) HX9, k9⟩
   obtain ⟨Az, cz, hvz⟩ := Kd.R_slice hR9
   rw [List.length_take_of_le (show kk + 1 ≤ defs.length by omega)] at hvz
   subst hvz
   have HR9 := Aside0.mk hR9
   have HBB9 := Lib.hid hB9
   have hs9 := hB9.size
   clear hR9 hB9 hg9 hat9 HX9
   refine hK.out _ _ (fun _ => hSd) ?_
   clear hK
   refine wpAnyK_take (i := 6) (v := ?_) rfl (by kernel_rfl) (by kernel_rfl) (by kernel_rfl) (by kernel_rfl) (fun _ _ _ h => h) hSd (Or.inl ⟨by rfl, ?_⟩) ?_
   rotate_left 1
   (intro w hSw; (try dsimp only at hSw); go_simp; try (with_reducible rfl))
   (try dsimp only [Act.put]); (try simp only [List.setIfInBounds_toArray, List.set_cons_zero, List.set_cons_succ])
   refine wpAnyK_one (i := 7) (by kernel_rfl) rfl (fun K hK => ?_)
   go_simp
   refine hK.out _ _ (fun h => absurd rfl h) ?_
   clear hK hSd
   refine wpAnyK_done (by kernel_rfl) ?_ _
   clear k3
   go_wp2
   go_roundg (defs.length - (kk + 1))
   case measure => omega
   case rel => exact ⟨kk + 1, _, by omega, by omega, by go_num, ⟨Kd.R_mono (Kd.R_far (Kd.R_mono (Kd.R_bound HR9.out) (ok' := fun k => W1.heap.size ≤ k) (fun k hk => hk.2.1)) (p := ⟨w.heap.size + 1 + 1, 0, none⟩) (fun k hk => by show k ≠ w.heap.size + 1 + 1; omega) _) (fun _ _ => trivial)⟩, ⟨(HBq.out.trans ((HSb.out.trans HBB9.out).mono (by omega))).setCell (by simp only; omega) _⟩, by simp only [World.setCell, Array.size_modify]; omega, ⟨blk_put HB9.out 0 _ rfl⟩⟩
  ·have : kk = defs.length := by omega
   subst this
   have hOl := HO.out
   rw [List.take_length] at hOl
   obtain ⟨A9, c9, hv⟩ := Kd.R_slice hOl
   subst hv
   have HOl := Aside0.mk hOl
   have k5 := (blk_cell BV.out 0).trans rfl
   have k6 := (blk_cell K1.out 0).trans rfl
   have f6 := blk_frozen K1.out 0
   clear hOl
   go_wp2
   have b4 := blk_put K1.out 0 (.slice A9 defs.length c9) rfl
   refine bodyPost_ret (results_single rfl (.cell _ _ _ _ _ rfl b4 Tryz.underlying24 rfl rfl .nil)) rfl ?_
   exact ⟨_, rfl, Kd.R_lower (Kd.R_mono (Kd.R_far (Kd.R_mono (Kd.R_bound HOl.out) (ok' := fun k => W1.heap.size ≤ k) (fun k hk => hk.2.1)) (p := ⟨w.heap.size + 1, 0, none⟩) (fun k hk => by show k ≠ w.heap.size + 1; omega) _) (fun _ _ => trivial)) (by omega), HQ.out.setCell (by simp only; omega) _⟩
end Go.Proofs.YtacefdkfbpgedaaGreat.Mine
namespace Go.Proofs.YtacefdkfbpgedaaGreat.Mine
open Go.Proofs.YtacefdkfbpgedaaGreat.PProgSmall
open Go.RowKit Go.Shelf Go.Proofs.YtacefdkfbpgedaaGreatW.PrintWords Go.Proofs.YtacefdkfbpgedaaGreatW.PrintLast Go.Proofs.YtacefdkfbpgedaaGreatW.PrintMore
set_option linter.unusedVariables false
set_option linter.unusedSimpArgs false
end Go.Proofs.YtacefdkfbpgedaaGreat.Mine
namespace Go.Proofs.YtacefdkfbpgedaaGreat.Mine
open Go.Proofs.YtacefdkfbpgedaaGreat.PProgSmall
open Go.RowKit Go.Shelf Go.Proofs.YtacefdkfbpgedaaGreatW.PrintWords Go.Proofs.YtacefdkfbpgedaaGreatW.PrintLast Go.Proofs.YtacefdkfbpgedaaGreatW.PrintMore
set_option linter.unusedVariables false
set_option linter.unusedSimpArgs false
def bigC (c : Ca) : Bool := decide ((40 : Int) < (c.f0.size : Int)) || (longS c.f1 || bigE c.f2)
def bigD (d : De) : Bool := decide ((40 : Int) < (d.f0.size : Int)) || (longS d.f1 || (bigE d.f3 || (decide ((10 : Int) < (d.f2.length : Int)) || d.f2.any bigC)))
def bigP (defs : List De) : Bool := decide ((16 : Int) < (defs.length : Int)) || defs.any bigD
def nmD (d : De) : Prop := nmE d.f3 ∧ ∀ c ∈ d.f2, nmE c.f2
set_option maxRecDepth 100000 in
set_option maxHeartbeats 4000000 in
theorem c_bigDef1 (x : Ca) (cs : List Value) (w : World) (hK : k62.K w x cs) (hn : nmE x.f2) :
  Calls Tryz.prog 107 #[.agg cs.toArray] w fun en w' => en = .returned (.bool (bigC x)) ∧ Below w.heap.size w w' := by
 obtain ⟨A1, c1, A4, c4, rfl, l1, g1, l4, g4⟩ := k62_open hK
 obtain ⟨W1, hW1⟩ : ∃ W1, w.alloc (.cells #[.string x.f0, .slice A1 x.f1.length c1, .int .i64 x.f2.f0, .string x.f2.f1, .slice A4 x.f2.f2.length c4] 62) = W1 := ⟨_, rfl⟩
 have Q := Aside0.mk (show Below w.heap.size w W1 by rw [← hW1]; exact below_alloc1 _ _)
 have B := Aside0.mk (show W1.heap[w.heap.size]? = some (.cells #[.string x.f0, .slice A1 x.f1.length c1, .int .i64 x.f2.f0, .string x.f2.f1, .slice A4 x.f2.f2.length c4] 62 (0, 0)) by rw [← hW1]; exact alloc_at _ _)
 have HL := Lib.hid (fun W (h : Below w.heap.size w W) => c_long x.f1 A1 c1 W (Kd.C_below g1 h) l1)
 have HE := Lib.hid (fun W (h : Below w.heap.size w W) => c_BigExpr x.f2 A4 c4 W hn (Kd.C_below g4 h) l4)
 have HW1 := Lib.hid hW1
 clear hK g1 g4 hW1
 have k0 := (blk_cell B.out 0).trans rfl
 cases t1 : decide ((40 : Int) < (x.f0.size : Int)) with
 | true =>
  have HX := Lib.hid (show bigC x = true by rw [bigC, t1]; rfl)
  go_enter Tryz.func107, Tryz.ntmps107
  go_wp2_with fail
  rw [HW1.out]
  go_wp2
  go_ret
  exact ⟨retb (by simp only [HX.out]; try rfl), Q.out⟩
 | false =>
 have k1 := (blk_cell B.out 1).trans rfl
 cases t2 : longS x.f1 with
 | true =>
  have HX := Lib.hid (show bigC x = true by rw [bigC, t1, t2]; rfl)
  go_enter Tryz.func107, Tryz.ntmps107
  go_wp2_with fail
  rw [HW1.out]
  have HC1 := Lib.hid (HL.out _ Q.out)
  rw [t2] at HC1
  go_wp2_with fail
  refine HC1.out.mono ?_
  rintro en wn ⟨rfl, hb⟩
  have B := Aside0.mk (blk_below B.out hb)
  have Q := Aside0.mk (Q.out.trans (hb.mono Q.out.size))
  clear hb HC1
  go_wp2
  go_ret
  exact ⟨retb (by simp only [HX.out]; try rfl), Q.out⟩
 | false =>
  have HX := Lib.hid (show bigC x = bigE x.f2 by rw [bigC, t1, t2]; rfl)
  go_enter Tryz.func107, Tryz.ntmps107
  go_wp2_with fail
  rw [HW1.out]
  have HC1 := Lib.hid (HL.out _ Q.out)
  rw [t2] at HC1
  go_wp2_with fail
  refine HC1.out.mono ?_
  rintro en wn ⟨rfl, hb⟩
  have B := Aside0.mk (blk_below B.out hb)
  have Q := Aside0.mk (Q.out.trans (hb.mono Q.out.size))
  clear hb HC1
  have k2 := (blk_cell B.out 2).trans rfl
  have k3 := (blk_cell B.out 3).trans rfl
  have k4 := (blk_cell B.out 4).trans rfl
  have HC1 := Lib.hid (HE.out _ Q.out)
  go_wp2_with fail
  refine HC1.out.mono ?_
  rintro en w3 ⟨rfl, hb⟩
  go_wp2
  go_ret
  exact ⟨retb HX.out.symm, Q.out.trans (hb.mono Q.out.size)⟩
set_option maxRecDepth 100000 in
set_option maxHeartbeats 4000000 in
theorem c_bigDef (d : De) (cs : List Value) (w : World) (hK : k59.K w d cs) (hn : nmD d) :
  Calls Tryz.prog 48 #[.agg cs.toArray] w fun en w' => en = .returned (.bool (bigD d)) ∧ Below w.heap.size w w' := by
 obtain ⟨A1, c1, A2, c2, A5, c5, rfl, l1, g1, l2, g2, l5, g5⟩ := k59_open hK
 have hm2 := g2.2.1
 obtain ⟨W1, hW1⟩ : ∃ W1, w.alloc (.cells #[.string d.f0, .slice A1 d.f1.length c1, .slice A2 d.f2.length c2, .int .i64 d.f3.f0, .string d.f3.f1, .slice A5 d.f3.f2.length c5] 59) = W1 := ⟨_, rfl⟩
 have Q := Aside0.mk (show Below w.heap.size w W1 by rw [← hW1]; exact below_alloc1 _ _)
 have B := Aside0.mk (show W1.heap[w.heap.size]? = some (.cells #[.string d.f0, .slice A1 d.f1.length c1, .slice A2 d.f2.length c2, .int .i64 d.f3.f0, .string d.f3.f1, .slice A5 d.f3.f2.length c5] 59 (0, 0)) by rw [← hW1]; exact alloc_at _ _)
 have HL := Lib.hid (fun W (h : Below w.heap.size w W) => c_long d.f1 A1 c1 W (Kd.C_below g1 h) l1)
 have HE := Lib.hid (fun W (h : Below w.heap.size w W) => c_BigExpr d.f3 A5 c5 W hn.1 (Kd.C_below g5 h) l5)
 have HH := Lib.hid (fun W (h : Below w.heap.size w W) => hasC_p A2 c2 d.f2 W l2 (Kd.C_below g2 h) 107 #[] (enters_of Tryz.func107 (by kernel_rfl) rfl) bigC (fun x cs W' hx hK _ => by simpa using c_bigDef1 x cs W' hK (hn.2 x hx)))
 have HW1 := Lib.hid hW1
 clear hK g1 g2 g5 hW1
 have k0 := (blk_cell B.out 0).trans rfl
 cases t1 : decide ((40 : Int) < (d.f0.size : Int)) with
 | true =>
  have HX := Lib.hid (show bigD d = true by rw [bigD, t1]; rfl)
  go_enter Tryz.func48, Tryz.ntmps48
  go_wp2_with fail
  rw [HW1.out]
  go_wp2
  go_ret
  exact ⟨retb (by simp only [HX.out]; try rfl), Q.out⟩
 | false =>
 have k1 := (blk_cell B.out 1).trans rfl
 cases t2 : longS d.f1 with
 | true =>
  have HX := Lib.hid (show bigD d = true by rw [bigD, t1, t2]; rfl)
  go_enter Tryz.func48, Tryz.ntmps48
  go_wp2_with fail
  rw [HW1.out]
  have HC1 := Lib.hid (HL.out _ Q.out)
  rw [t2] at HC1
  go_wp2_with fail
  refine HC1.out.mono ?_
  rintro en wn ⟨rfl, hb⟩
  have B := Aside0.mk (blk_below B.out hb)
  have Q := Aside0.mk (Q.out.trans (hb.mono Q.out.size))
  clear hb HC1
  go_wp2
  go_ret
  exact ⟨retb (by simp only [HX.out]; try rfl), Q.out⟩
 | false =>
 cases t3 : bigE d.f3 with
 | true =>
  have HX := Lib.hid (show bigD d = true by rw [bigD, t1, t2, t3]; rfl)
  go_enter Tryz.func48, Tryz.ntmps48
  go_wp2_with fail
  rw [HW1.out]
  have HC1 := Lib.hid (HL.out _ Q.out)
  rw [t2] at HC1
  go_wp2_with fail
  refine HC1.out.mono ?_
  rintro en wn ⟨rfl, hb⟩
  have B := Aside0.mk (blk_below B.out hb)
  have Q := Aside0.mk (Q.out.trans (hb.mono Q.out.size))
  clear hb HC1
  clear k0 k1
  have k0 := (blk_cell B.out 0).trans rfl
  have k1 := (blk_cell B.out 1).trans rfl
  have k2 := (blk_cell B.out 2).trans rfl
  have k3 := (blk_cell B.out 3).trans rfl
  have k4 := (blk_cell B.out 4).trans rfl
  have k5 := (blk_cell B.out 5).trans rfl
  have HC1 := Lib.hid (HE.out _ Q.out)
  rw [t3] at HC1
  go_wp2_with fail
  refine HC1.out.mono ?_
  rintro en wn ⟨rfl, hb⟩
  have B := Aside0.mk (blk_below B.out hb)
  have Q := Aside0.mk (Q.out.trans (hb.mono Q.out.size))
  clear hb HC1
  go_wp2
  go_ret
  exact ⟨retb (by simp only [HX.out]; try rfl), Q.out⟩
 | false =>
 cases t4 : decide ((10 : Int) < (d.f2.length : Int)) with
 | true =>
  have HX := Lib.hid (show bigD d = true by rw [bigD, t1, t2, t3, t4]; rfl)
  go_enter Tryz.func48, Tryz.ntmps48
  go_wp2_with fail
  rw [HW1.out]
  have HC1 := Lib.hid (HL.out _ Q.out)
  rw [t2] at HC1
  go_wp2_with fail
  refine HC1.out.mono ?_
  rintro en wn ⟨rfl, hb⟩
  have B := Aside0.mk (blk_below B.out hb)
  have Q := Aside0.mk (Q.out.trans (hb.mono Q.out.size))
  clear hb HC1
  clear k0 k1
  have k0 := (blk_cell B.out 0).trans rfl
  have k1 := (blk_cell B.out 1).trans rfl
  have k2 := (blk_cell B.out 2).trans rfl
  have k3 := (blk_cell B.out 3).trans rfl
  have k4 := (blk_cell B.out 4).trans rfl
  have k5 := (blk_cell B.out 5).trans rfl
  have HC1 := Lib.hid (HE.out _ Q.out)
  rw [t3] at HC1
  go_wp2_with fail
  refine HC1.out.mono ?_
  rintro en wn ⟨rfl, hb⟩
  have B := Aside0.mk (blk_below B.out hb)
  have Q := Aside0.mk (Q.out.trans (hb.mono Q.out.size))
  clear hb HC1
  clear k0 k1 k2 k3 k4 k5
  have k0 := (blk_cell B.out 0).trans rfl
  have k1 := (blk_cell B.out 1).trans rfl
  have k2 := (blk_cell B.out 2).trans rfl
  have k3 := (blk_cell B.out 3).trans rfl
  have k4 := (blk_cell B.out 4).trans rfl
  have k5 := (blk_cell B.out 5).trans rfl
  go_wp2
  go_ret
  exact ⟨retb (by simp only [HX.out]; try rfl), Q.out⟩
 | false =>
  have HX := Lib.hid (show bigD d = d.f2.any bigC by rw [bigD, t1, t2, t3, t4]; rfl)
  go_enter Tryz.func48, Tryz.ntmps48
  go_wp2_with fail
  rw [HW1.out]
  have HC1 := Lib.hid (HL.out _ Q.out)
  rw [t2] at HC1
  go_wp2_with fail
  refine HC1.out.mono ?_
  rintro en wn ⟨rfl, hb⟩
  have B := Aside0.mk (blk_below B.out hb)
  have Q := Aside0.mk (Q.out.trans (hb.mono Q.out.size))
  clear hb HC1
  clear k0 k1
  have k0 := (blk_cell B.out 0).trans rfl
  have k1 := (blk_cell B.out 1).trans rfl
  have k2 := (blk_cell B.out 2).trans rfl
  have k3 := (blk_cell B.out 3).trans rfl
  have k4 := (blk_cell B.out 4).trans rfl
  have k5 := (blk_cell B.out 5).trans rfl
  have HC1 := Lib.hid (HE.out _ Q.out)
  rw [t3] at HC1
  go_wp2_with fail
  refine HC1.out.mono ?_
  rintro en wn ⟨rfl, hb⟩
  have B := Aside0.mk (blk_below B.out hb)
  have Q := Aside0.mk (Q.out.trans (hb.mono Q.out.size))
  clear hb HC1
  clear k0 k1 k2 k3 k4 k5
  have k0 := (blk_cell B.out 0).trans rfl
  have k1 := (blk_cell B.out 1).trans rfl
  have k2 := (blk_cell B.out 2).trans rfl
  have k3 := (blk_cell B.out 3).trans rfl
  have k4 := (blk_cell B.out 4).trans rfl
  have k5 := (blk_cell B.out 5).trans rfl
  have HC1 := Lib.hid (HH.out _ Q.out)
  go_wp2_with fail
  refine HC1.out.mono ?_
  rintro en w3 ⟨rfl, hb⟩
  go_wp2
  go_ret
  exact ⟨retb HX.out.symm, Q.out.trans (hb.mono Q.out.size)⟩
set_option maxRecDepth 100000 in
set_option maxHeartbeats 4000000 in
theorem c_Big (defs : List De) (A : Option Addr) (c : Nat) (w : World) (hr : Kd.C k59 w A defs.length defs) (hc : defs.length ≤ c) (hn : ∀ d ∈ defs, nmD d) :
  Calls Tryz.prog 8 #[.agg #[.slice A defs.length c]] w fun en w' => en = .returned (.bool (bigP defs)) ∧ Below w.heap.size w w' := by
 have HH := Lib.hid (fun W (h : Below w.heap.size w W) => hasD_p A c defs W hc (Kd.C_below hr h) 48 #[] (enters_of Tryz.func48 (by kernel_rfl) rfl) bigD (fun x cs W' hx hK _ => by simpa using c_bigDef x cs W' hK (hn x hx)))
 obtain ⟨W1, hW1⟩ : ∃ W1, w.alloc (.cells #[.slice A defs.length c] 24) = W1 := ⟨_, rfl⟩
 have q1 : Below w.heap.size w W1 := by rw [← hW1]; exact below_alloc1 _ _
 have bP : W1.heap[w.heap.size]? = some (.cells #[.slice A defs.length c] 24 (0, 0)) := by rw [← hW1]; exact alloc_at _ _
 have z1 : W1.heap.size = w.heap.size + 1 := by rw [← hW1]; simp
 have hmd := hr.2.1
 have HF := Lib.hid (Kd.C_F k59_heap hr)
 have HR := Lib.hid hr
 have Q := Aside0.mk q1
 have B := Aside0.mk bP
 have HW1 := Lib.hid hW1
 have HZ1 := Lib.hid z1
 clear hr q1 bP hW1 z1
 have kP := (blk_cell B.out 0).trans rfl
 cases t1 : decide ((16 : Int) < (defs.length : Int)) with
 | true =>
  have HX := Lib.hid (show bigP defs = true by rw [bigP, t1]; rfl)
  go_enter Tryz.func8, Tryz.ntmps8
  go_wp2_with fail
  rw [HW1.out]
  go_wp2
  go_ret
  exact ⟨retb (by simp only [HX.out]; try rfl), Q.out⟩
 | false =>
  have HX := Lib.hid (show bigP defs = defs.any bigD by rw [bigP, t1]; rfl)
  have HC1 := Lib.hid (HH.out _ Q.out)
  go_enter Tryz.func8, Tryz.ntmps8
  go_wp2_with fail
  rw [HW1.out]
  go_wp2_with fail
  refine HC1.out.mono ?_
  rintro en w3 ⟨rfl, hb⟩
  go_wp2
  go_ret
  exact ⟨retb HX.out.symm, Q.out.trans (hb.mono Q.out.size)⟩
end Go.Proofs.YtacefdkfbpgedaaGreat.Mine
namespace Go.Proofs.YtacefdkfbpgedaaGreat.Mine
open Go.Proofs.YtacefdkfbpgedaaGreat.PProgSmall
open Go.RowKit Go.Shelf Go.Proofs.YtacefdkfbpgedaaGreatW.PrintWords Go.Proofs.YtacefdkfbpgedaaGreatW.PrintLast Go.Proofs.YtacefdkfbpgedaaGreatW.PrintMore
set_option linter.unusedVariables false
set_option linter.unusedSimpArgs false
theorem leftE_sz (m : Nat) : ∀ (e : Ex) (n : Int), szE e ≤ m → 0 ≤ leftE e n → leftE e n + (szE e : Int) ≤ n := by
 induction m with
 | zero => intro e n h; exact absurd h (by have := szE_pos e; omega)
 | succ m ih =>
  intro e n h h0
  rw [szE_eq] at h ⊢
  rw [leftE_eq] at h0 ⊢
  have key : ∀ (l : List Ex) (n : Int), szL l ≤ m → 0 ≤ leftL l n → leftL l n + (szL l : Int) ≤ n := by
   intro l
   induction l with
   | nil => intro n _ h; simp only [leftL, szL] at h ⊢; omega
   | cons x xs ihx =>
    intro n hs h0
    rw [szL] at hs ⊢
    rw [leftL] at h0 ⊢
    by_cases hn : n ≥ 0
    ·rw [if_pos hn] at h0 ⊢
     have h2 := ihx (leftE x n) (by omega) h0
     have h1 := ih x n (by omega) (by omega)
     omega
    ·rw [if_neg hn] at h0; omega
  have := key e.f2 (n - (1 + (e.f1.size : Int) / 40)) (by omega) h0
  have h3 : (0 : Int) ≤ (e.f1.size : Int) / 40 := Int.ediv_nonneg (by omega) (by omega)
  omega
theorem bigE_sz {e : Ex} (h : bigE e = false) : szE e ≤ 60 := by
 rw [bigE, decide_eq_false_iff_not] at h
 have := leftE_sz _ e 60 (Nat.le_refl _) (by omega)
 omega
theorem longS_len {l : List ByteArray} (h : longS l = false) : l.length ≤ 12 ∧ ∀ s ∈ l, s.size ≤ 40 := by
 rw [longS, Bool.or_eq_false_iff, decide_eq_false_iff_not, List.any_eq_false] at h
 exact ⟨by omega, fun s hs => by have := h.2 s hs; simp at this; omega⟩
theorem bigC_ok {c : Ca} (h : bigC c = false) : c.f0.size ≤ 40 ∧ c.f1.length ≤ 12 ∧ (∀ s ∈ c.f1, s.size ≤ 40) ∧ szE c.f2 ≤ 60 := by
 rw [bigC, Bool.or_eq_false_iff, Bool.or_eq_false_iff, decide_eq_false_iff_not] at h
 obtain ⟨h1, h2, h3⟩ := h
 exact ⟨by omega, (longS_len h2).1, (longS_len h2).2, bigE_sz h3⟩
theorem bigD_ok {d : De} (h : bigD d = false) : d.f0.size ≤ 40 ∧ d.f1.length ≤ 12 ∧ (∀ s ∈ d.f1, s.size ≤ 40) ∧ szE d.f3 ≤ 60 ∧ d.f2.length ≤ 10 ∧ ∀ c ∈ d.f2, bigC c = false := by
 rw [bigD, Bool.or_eq_false_iff, Bool.or_eq_false_iff, Bool.or_eq_false_iff, Bool.or_eq_false_iff, decide_eq_false_iff_not, decide_eq_false_iff_not, List.any_eq_false] at h
 obtain ⟨h1, h2, h3, h4, h5⟩ := h
 exact ⟨by omega, (longS_len h2).1, (longS_len h2).2, bigE_sz h3, by omega, fun c hc => by have := h5 c hc; simpa using this⟩
theorem szL_le {l : List Ex} {k : Nat} (h : ∀ x ∈ l, szE x ≤ k) : szL l ≤ l.length * k := by
 induction l with
 | nil => simp [szL]
 | cons x xs ih =>
  rw [szL, List.length_cons, Nat.add_mul, Nat.one_mul]
  have h1 := h x (by simp)
  have h2 := ih (fun y hy => h y (by simp [hy]))
  omega
theorem bodies_ok {d : De} (h : bigD d = false) : (bodiesD d).length ≤ 10 ∧ ∀ b ∈ bodiesD d, szE b ≤ 60 := by
 obtain ⟨_, _, _, h3, h4, h5⟩ := bigD_ok h
 unfold bodiesD
 split
 ·exact ⟨by simp, fun b hb => by simp at hb; subst hb; exact h3⟩
 ·refine ⟨by simpa using h4, fun b hb => ?_⟩
  obtain ⟨c, hc, rfl⟩ := List.mem_map.1 hb
  exact (bigC_ok (h5 c hc)).2.2.2
theorem bigD_okD {d : De} (h : bigD d = false) : OkD d := by
 have hb := bodies_ok h
 obtain ⟨h0, h1, h2, h3, h4, h5⟩ := bigD_ok h
 have hn : 40 ≤ nmLim := by decide
 refine ⟨by omega, by omega, fun c hc => ?_, fun b hb' => ?_, fun s hs => ?_, fun c hc => ?_, fun c hc s hs => ?_⟩
 ·have := (bigC_ok (h5 c hc)).2.1; omega
 ·have := hb.2 b hb'; omega
 ·have := h2 s hs; omega
 ·have := (bigC_ok (h5 c hc)).1; omega
 ·have := (bigC_ok (h5 c hc)).2.2.1 s hs; omega
theorem bigD_okO {d : De} (h : bigD d = false) : OkO d := by
 obtain ⟨h0, h1, h2, h3, h4, h5⟩ := bigD_ok h
 refine ⟨by omega, by omega, fun c hc => ?_, by omega, fun c hc => ?_⟩
 ·have := (bigC_ok (h5 c hc)).2.1; omega
 ·have := (bigC_ok (h5 c hc)).2.2.2; omega
theorem bigP_ok {defs : List De} (h : bigP defs = false) : defs.length ≤ 16 ∧ ∀ d ∈ defs, bigD d = false := by
 rw [bigP, Bool.or_eq_false_iff, decide_eq_false_iff_not, List.any_eq_false] at h
 exact ⟨by omega, fun d hd => by have := h.2 d hd; simpa using this⟩
theorem bigP_okP {defs : List De} (h : bigP defs = false) : OkP defs := by
 obtain ⟨h1, h2⟩ := bigP_ok h
 have hn : 40 ≤ nmLim := by decide
 refine ⟨by omega, fun d hd => bigD_okD (h2 d hd), fun d hd => ?_, fun d hd => ?_⟩
 ·have := (bigD_ok (h2 d hd)).1; omega
 ·have hb := bodies_ok (h2 d hd)
  have := szL_le hb.2
  have : (bodiesD d).length * 60 ≤ 10 * 60 := Nat.mul_le_mul_right _ hb.1
  omega
theorem bigP_okO {defs : List De} (h : bigP defs = false) : ∀ d ∈ defs, OkO d := fun d hd => bigD_okO ((bigP_ok h).2 d hd)
end Go.Proofs.YtacefdkfbpgedaaGreat.Mine
