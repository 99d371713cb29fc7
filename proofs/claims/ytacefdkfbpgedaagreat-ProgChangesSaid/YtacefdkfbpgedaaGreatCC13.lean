/- The reference's renamed. -/
import Derived.Test.YtacefdkfbpgedaaGreatCC6
import Derived.Test.YtacefdkfbpgedaaGreatCC1
import Derived.Deep.DeepCutAuto
import Derived.Test.YtacefdkfbpgedaaGreatCC5
import Derived.Test.YtacefdkfbpgedaaGreatCC12
import Derived.Test.YtacefdkfbpgedaaGreatCC7
namespace Go.Proofs.YtacefdkfbpgedaaGreat.Mine
open Go.Proofs.YtacefdkfbpgedaaGreat.PProgSmall
open Go.RowKit Go.Shelf Go.Proofs.YtacefdkfbpgedaaGreatW.PrintWords Go.Proofs.YtacefdkfbpgedaaGreatW.PrintLast Go.Proofs.YtacefdkfbpgedaaGreatW.PrintMore
set_option linter.unusedVariables false
set_option linter.unusedSimpArgs false
set_option maxRecDepth 100000
def nmR (s t : ByteArray) (k : Int) (n : ByteArray) : ByteArray := if k = 3 ∧ n = s then t else n
mutual
def renE (s t : ByteArray) : Ex → Ex
 | ⟨k, n, l⟩ => ⟨k, nmR s t k n, renL s t l⟩
def renL (s t : ByteArray) : List Ex → List Ex
 | [] => []
 | x :: xs => renE s t x :: renL s t xs
end
theorem renE_eq (s t : ByteArray) (e : Ex) : renE s t e = ⟨e.f0, nmR s t e.f0 e.f1, renL s t e.f2⟩ := by cases e; rw [renE]
theorem renL_map (s t : ByteArray) : ∀ l : List Ex, renL s t l = l.map (renE s t)
 | [] => by rw [renL]; rfl
 | x :: xs => by rw [renL, renL_map s t xs]; rfl
theorem renL_length (s t : ByteArray) (l : List Ex) : (renL s t l).length = l.length := by rw [renL_map, List.length_map]
theorem renL_take_snoc (s t : ByteArray) {l : List Ex} {k : Nat} (h : k < l.length) : renL s t (l.take (k + 1)) = renL s t (l.take k) ++ [renE s t l[k]] := by
 rw [renL_map, renL_map, take_snoc h, List.map_append]; rfl
abbrev RnS (B3 B7 : Nat) (v0 v1 : Value) (p : Addr) (u0 u1 u2 : Value) (W : World) : Prop := W.cell? ⟨B3, 2, none⟩ = some v0 ∧ W.cell? ⟨B7, 2, none⟩ = some v1 ∧ W.cell? p = some u0 ∧ W.cell? ⟨p.block, p.off + 1, none⟩ = some u1 ∧ W.cell? ⟨p.block, p.off + 2, none⟩ = some u2
theorem RnS.keep {n B3 B7 : Nat} {v0 v1 : Value} {p : Addr} {u0 u1 u2 : Value} {W W' : World} (h : RnS B3 B7 v0 v1 p u0 u1 u2 W) (hb : Below n W W') (h3 : B3 < n) (h7 : B7 < n) (hp : p.block < n) : RnS B3 B7 v0 v1 p u0 u1 u2 W' :=
 ⟨(hb.cell (p := ⟨B3, 2, none⟩) h3).trans h.1, (hb.cell (p := ⟨B7, 2, none⟩) h7).trans h.2.1, (hb.cell hp).trans h.2.2.1, (hb.cell (p := ⟨p.block, p.off + 1, none⟩) hp).trans h.2.2.2.1, (hb.cell (p := ⟨p.block, p.off + 2, none⟩) hp).trans h.2.2.2.2⟩
set_option maxHeartbeats 4000000 in
theorem c_rrenamed (s t : ByteArray) (n : Nat) : ∀ (e : Ex) (A : Option Addr) (c : Nat) (w : World), szE e ≤ n → szE e ≤ 1000000 → Kd.C k57 w A e.f2.length e.f2 → e.f2.length ≤ c →
  Calls Tryz.prog 110 #[.agg #[.int .i64 e.f0, .string e.f1, .slice A e.f2.length c], .string s, .string t] w fun en w' => ∃ v, en = .returned (.agg #[.int .i64 e.f0, .string (nmR s t e.f0 e.f1), v]) ∧ OwnE w' w.heap.size v (renL s t e.f2) ∧ Below w.heap.size w w' := by
 induction n with
 | zero => intro e A c w h; exact absurd h (by have := szE_pos e; omega)
 | succ n ih =>
  intro e A c w hn hn2 hr hc
  have hm := hr.2.1
  have hsz := szE_eq e
  have h1 : szL e.f2 ≤ n := by omega
  have h2 : szL e.f2 ≤ 1000000 := by omega
  have h3 := szL_len e.f2
  obtain ⟨W1, hW1⟩ : ∃ W1, (((w.alloc (.cells #[.int .i64 e.f0, .string e.f1, .slice A e.f2.length c] 57)).alloc (.cells #[.int .i64 0, .string ⟨#[]⟩, .slice none 0 0] 57)).alloc (.cells #[.int .i64 e.f0, .string e.f1, .slice none 0 0] 57)) = W1 := ⟨_, rfl⟩
  have z1 : W1.heap.size = w.heap.size + 1 + 1 + 1 := by rw [← hW1]; simp
  have q1 : Below w.heap.size w W1 := by rw [← hW1]; exact (below_alloc2 _ _ _).trans ((below_alloc1 _ _).mono (by simp; omega))
  have b3 : W1.heap[w.heap.size]? = some (.cells #[.int .i64 e.f0, .string e.f1, .slice A e.f2.length c] 57 (0, 0)) := by rw [← hW1]; exact blk_alloc (blk_alloc (alloc_at _ _) _) _
  have b6 : W1.heap[w.heap.size + 1]? = some (.cells #[.int .i64 0, .string ⟨#[]⟩, .slice none 0 0] 57 (0, 0)) := by rw [← hW1]; have := alloc_at (w.alloc (.cells #[.int .i64 e.f0, .string e.f1, .slice A e.f2.length c] 57)) (.cells #[.int .i64 0, .string ⟨#[]⟩, .slice none 0 0] 57); rw [World.size_alloc] at this; exact blk_alloc this _
  have b7 : W1.heap[w.heap.size + 1 + 1]? = some (.cells #[.int .i64 e.f0, .string e.f1, .slice none 0 0] 57 (0, 0)) := by rw [← hW1]; have := alloc_at ((w.alloc (.cells #[.int .i64 e.f0, .string e.f1, .slice A e.f2.length c] 57)).alloc (.cells #[.int .i64 0, .string ⟨#[]⟩, .slice none 0 0] 57)) (.cells #[.int .i64 e.f0, .string e.f1, .slice none 0 0] 57); simpa only [World.size_alloc] using this
  have hz1a := Nat.le_of_eq z1
  have hz1b := Nat.le_of_eq z1.symm
  have HR := Aside0.mk hr
  have Q := Aside0.mk q1
  have B3 := Aside0.mk b3
  have B6 := Aside0.mk b6
  have B7 := Aside0.mk b7
  have HW1 := Lib.hid hW1
  have k0 := (blk_cell B3.out 0).trans rfl
  have k1 := (blk_cell B3.out 1).trans rfl
  have k2 := (blk_cell B3.out 2).trans rfl
  obtain ⟨nm, hnm⟩ : ∃ nm, nmR s t e.f0 e.f1 = nm := ⟨_, rfl⟩
  have HNm := Lib.hid hnm
  rw [hnm]
  clear hr hn hn2 hsz q1 b3 b6 b7 z1 hW1 hnm
  go_enter Tryz.func110, Tryz.ntmps110
  go_upto_region 2 with fail
  rw [HW1.out]
  obtain ⟨b, hb⟩ : ∃ b, ((e.f0 == 3) && (e.f1.toList == s.toList)) = b := ⟨_, rfl⟩
  have HNb := Lib.hid (show nm = if b = true then t else e.f1 by
   rw [← HNm.out, nmR, ← hb, sEq]
   simp only [Bool.and_eq_true, beq_iff_eq, decide_eq_true_eq])
  go_cut [22] (fun s22 wx => s22 = .bool b ∧ wx = W1)
  case first =>
   cases hk1 : (e.f0 == 3) with
   | false =>
    have hbf : b = false := by rw [← hb, hk1]; rfl
    clear hb
    go_wp2_with fail
    go_meet
    exact ⟨by rw [hbf], rfl⟩
   | true =>
    cases hk2 : (e.f1.toList == s.toList) with
    | false =>
     have hbf : b = false := by rw [← hb, hk1, hk2]; rfl
     clear hb
     go_wp2_with fail
     go_meet
     exact ⟨by rw [hbf], rfl⟩
    | true =>
     have hbf : b = true := by rw [← hb, hk1, hk2]; rfl
     clear hb
     go_wp2_with fail
     go_meet
     exact ⟨by rw [hbf], rfl⟩
  case rest =>
  obtain ⟨rfl, rfl⟩ := hcut
  clear hb k0 k1 k2 HW1
  go_upto_if 22 with fail
  go_cut [7] (fun s7 wx => s7 = .pointer (some ⟨w.heap.size + 1 + 1, 0, none⟩) ∧ wx.heap.size = wc.heap.size ∧ Aside0 (wx.heap[w.heap.size + 1 + 1]? = some (.cells #[.int .i64 e.f0, .string nm, .slice none 0 0] 57 (0, 0))) ∧ Aside0 (Below (w.heap.size + 1 + 1) wc wx))
  case first =>
   have c7 := fun i => blk_frozen B7.out i
   have k7 := (blk_cell B7.out 1).trans rfl
   cases b with
   | false =>
    have hn := HNb.out
    rw [if_neg (by decide)] at hn
    subst hn
    go_wp2_with fail
    go_meet
    exact ⟨rfl, rfl, B7, ⟨Below.refl _ _⟩⟩
   | true =>
    have hn := HNb.out
    rw [if_pos rfl] at hn
    subst hn
    go_wp2_with fail
    go_meet
    exact ⟨rfl, by simp [World.setCell], ⟨blk_put B7.out 1 _ rfl⟩, ⟨(Below.refl (w.heap.size + 1 + 1) wc).setCell (p := ⟨w.heap.size + 1 + 1, 1, none⟩) (Nat.le_refl _) _⟩⟩
  case rest =>
   rename World => wd
   obtain ⟨rfl, hzd, B7d, HBd⟩ := hcut
   have B3d := Aside0.mk (show wd.heap[w.heap.size]? = _ from (HBd.out.block _ (by omega)).trans B3.out)
   have B6d := Aside0.mk (show wd.heap[w.heap.size + 1]? = _ from (HBd.out.block _ (by omega)).trans B6.out)
   have Qd := Aside0.mk (Q.out.trans (HBd.out.mono (by omega)))
   clear B7 HNb
   go_wp2_with fail
   go_loopg [8] e.f2.length (fun gg s8 wr => ∃ (kk : Nat) (v : Value), kk ≤ e.f2.length ∧ e.f2.length - kk ≤ gg ∧ s8 = .int .i64 kk ∧ Aside0 (OwnE wr wd.heap.size v (renL s t (e.f2.take kk))) ∧ Aside0 (Below (w.heap.size + 1 + 1) wd wr) ∧ wd.heap.size ≤ wr.heap.size ∧ Aside0 (wr.heap[w.heap.size + 1 + 1]? = some (.cells #[.int .i64 e.f0, .string nm, v] 57 (0, 0))))
   case atStart => exact ⟨0, _, Nat.zero_le _, by omega, rfl, ⟨Kd.R_nil _ _ _ _ _⟩, ⟨Below.refl _ _⟩, Nat.le_refl _, B7d⟩
   case round =>
    obtain ⟨kk, v, hkk, hg, rfl, HO, HB, hszr, BK⟩ := hrel
    have Q3 := Aside0.mk (Qd.out.trans (HB.out.mono (by omega)))
    have BA := Aside0.mk (show wr.heap[w.heap.size]? = _ from (HB.out.block _ (by omega)).trans B3d.out)
    have BZ := Aside0.mk (show wr.heap[w.heap.size + 1]? = _ from (HB.out.block _ (by omega)).trans B6d.out)
    have kA := (blk_cell BA.out 2).trans rfl
    by_cases hlt : kk < e.f2.length
    ·have hltz : (kk : Int) < (e.f2.length : Int) := by omega
     obtain ⟨ad, c0, c1, c2, rfl, hK, y0, y1, y2⟩ := get3 rfl HR.out kk hlt
     obtain ⟨A2, a2, rfl, rfl, rfl, hl2, hi2⟩ := kE_cells hK
     obtain ⟨x, hx⟩ : ∃ x, e.f2[kk] = x := ⟨_, rfl⟩
     have hmem : e.f2[kk] ∈ e.f2 := List.getElem_mem hlt
     have hle := szL_mem hmem
     have HTs := Lib.hid (show renL s t (e.f2.take (kk + 1)) = renL s t (e.f2.take kk) ++ [⟨x.f0, nmR s t x.f0 x.f1, renL s t x.f2⟩] by rw [renL_take_snoc s t hlt, hx, renE_eq])
     rw [hx] at y0 y1 y2 hl2 hi2 hle
     have hap : (ad.add (kk * 3)).block < w.heap.size := World.block_lt_of_cell? _ _ y0
     have y0 := (Q3.out.cell (p := ad.add (kk * 3)) hap).trans y0
     have y1 := (Q3.out.cell (p := ⟨(ad.add (kk * 3)).block, (ad.add (kk * 3)).off + 1, none⟩) hap).trans y1
     have y2 := (Q3.out.cell (p := ⟨(ad.add (kk * 3)).block, (ad.add (kk * 3)).off + 2, none⟩) hap).trans y2
     have hTl : (renL s t (e.f2.take kk)).length = kk := by rw [renL_length, List.length_take_of_le hkk]
     obtain ⟨xs, hxs⟩ : ∃ xs, renL s t (e.f2.take kk) = xs := ⟨_, rfl⟩
     rw [hxs] at HO HTs hTl
     have hxl : xs.length ≤ 1000000 := by omega
     clear hTl
     obtain ⟨Av, cv, hv⟩ := Kd.R_slice HO.out
     subst hv
     have hsq := Q3.out.size
     have HC := Lib.hid (ih x A2 a2 wr.drew (by omega) (by omega) (Kd.C_below (Kd.C_below hi2 Q3.out) (below_drew (Below.refl _ _))) hl2)
     have kB := (blk_cell BK.out 2).trans rfl
     have hB7 := blk_lt BK.out
     have hSd : (fun W => RnS w.heap.size (w.heap.size + 1 + 1) (.slice (some ad) e.f2.length c) (.slice Av xs.length cv) (ad.add (kk * 3)) (.int .i64 x.f0) (.string x.f1) (.slice A2 x.f2.length a2) W) wr.drew := ⟨kA, kB, y0, y1, y2⟩
     have HNe := Lib.hid (fun (k : Nat) (hk : wr.heap.size ≤ k) => show True ∧ some k ≠ (Value.slice Av xs.length cv).ownBlock from ⟨trivial, fun he => by have := ((Kd.R_bound HO.out).1 k he.symm).2.2.1; omega⟩)
     have HNr := Lib.hid (fun (k : Nat) (hk : some k = (Value.slice Av xs.length cv).ownBlock) => show wd.heap.size ≤ k from ((Kd.R_bound HO.out).1 k hk.symm).2.1)
     have HO0 := Aside0.mk (Kd.R_below HO.out (below_drew (Below.refl _ _)))
     have BKd := Aside0.mk (show wr.drew.heap[w.heap.size + 1 + 1]? = _ from BK.out)
     clear hK hi2 hl2 hmem hxs hx y0 y1 y2 HO BK
     go_upto_region 7 with fail
     refine wp_region_K (S := fun W => RnS w.heap.size (w.heap.size + 1 + 1) (.slice (some ad) e.f2.length c) (.slice Av xs.length cv) (ad.add (kk * 3)) (.int .i64 x.f0) (.string x.f1) (.slice A2 x.f2.length a2) W) (k := 13) (by kernel_rfl) ?_
     change wpAnyK _ _ _ _ _ _ 14 (Array.replicate 14 false) _ _
     refine wpAnyK_take (i := 0) (v := ?_) rfl (by kernel_rfl) (by kernel_rfl) (by kernel_rfl) (by kernel_rfl) (fun _ _ _ h => h) hSd (Or.inl ⟨by rfl, ?_⟩) ?_
     rotate_left 1
     (intro w hSw; (try dsimp only at hSw); go_simp; try (with_reducible rfl))
     (try dsimp only [Act.put]); (try simp only [List.setIfInBounds_toArray, List.set_cons_zero, List.set_cons_succ])
     refine wpAnyK_take (i := 1) (v := ?_) rfl (by kernel_rfl) (by kernel_rfl) (by kernel_rfl) (by kernel_rfl) (fun _ _ _ h => h) hSd (Or.inl ⟨by rfl, ?_⟩) ?_
     rotate_left 1
     (intro w hSw; (try dsimp only at hSw); go_simp; try (with_reducible rfl))
     (try dsimp only [Act.put]); (try simp only [List.setIfInBounds_toArray, List.set_cons_zero, List.set_cons_succ])
     refine wpAnyK_take (i := 2) (v := ?_) rfl (by kernel_rfl) (by kernel_rfl) (by kernel_rfl) (by kernel_rfl) (fun _ _ _ h => h) hSd (Or.inl ⟨by rfl, ?_⟩) ?_
     rotate_left 1
     (intro w hSw; (try dsimp only at hSw); go_simp; try (with_reducible rfl))
     (try dsimp only [Act.put]); (try simp only [List.setIfInBounds_toArray, List.set_cons_zero, List.set_cons_succ])
     refine wpAnyK_take (i := 3) (v := ?_) rfl (by kernel_rfl) (by kernel_rfl) (by kernel_rfl) (by kernel_rfl) (fun _ _ _ h => h) hSd (Or.inl ⟨by rfl, ?_⟩) ?_
     rotate_left 1
     (intro w hSw; (try dsimp only at hSw); go_simp; try (with_reducible rfl))
     (try dsimp only [Act.put]); (try simp only [List.setIfInBounds_toArray, List.set_cons_zero, List.set_cons_succ])
     refine wpAnyK_take (i := 4) (v := ?_) rfl (by kernel_rfl) (by kernel_rfl) (by kernel_rfl) (by kernel_rfl) (fun _ _ _ h => h) hSd (Or.inl ⟨by rfl, ?_⟩) ?_
     rotate_left 1
     (intro w hSw; (try dsimp only at hSw); go_simp; try (with_reducible rfl))
     (try dsimp only [Act.put]); (try simp only [List.setIfInBounds_toArray, List.set_cons_zero, List.set_cons_succ])
     refine wpAnyK_take (i := 5) (v := ?_) rfl (by kernel_rfl) (by kernel_rfl) (by kernel_rfl) (by kernel_rfl) (fun _ _ _ h => h) hSd (Or.inl ⟨by rfl, ?_⟩) ?_
     rotate_left 1
     (intro w hSw; (try dsimp only at hSw); go_simp; try (with_reducible rfl))
     (try dsimp only [Act.put]); (try simp only [List.setIfInBounds_toArray, List.set_cons_zero, List.set_cons_succ])
     refine wpAnyK_take (i := 6) (v := ?_) rfl (by kernel_rfl) (by kernel_rfl) (by kernel_rfl) (by kernel_rfl) (fun _ _ _ h => h) hSd (Or.inl ⟨by rfl, ?_⟩) ?_
     rotate_left 1
     (intro w hSw; (try dsimp only at hSw); go_simp; try (with_reducible rfl))
     (try dsimp only [Act.put]); (try simp only [List.setIfInBounds_toArray, List.set_cons_zero, List.set_cons_succ])
     refine wpAnyK_take (i := 7) (v := ?_) rfl (by kernel_rfl) (by kernel_rfl) (by kernel_rfl) (by kernel_rfl) (fun _ _ _ h => h) hSd (Or.inl ⟨by rfl, ?_⟩) ?_
     rotate_left 1
     (intro w hSw; (try dsimp only at hSw); go_simp; try (with_reducible rfl))
     (try dsimp only [Act.put]); (try simp only [List.setIfInBounds_toArray, List.set_cons_zero, List.set_cons_succ])
     refine wpAnyK_take (i := 8) (v := ?_) rfl (by kernel_rfl) (by kernel_rfl) (by kernel_rfl) (by kernel_rfl) (fun _ _ _ h => h) hSd (Or.inl ⟨by rfl, ?_⟩) ?_
     rotate_left 1
     (intro w hSw; (try dsimp only at hSw); go_simp; try (with_reducible rfl))
     (try dsimp only [Act.put]); (try simp only [List.setIfInBounds_toArray, List.set_cons_zero, List.set_cons_succ])
     refine wpAnyK_one (i := 9) (by kernel_rfl) rfl (fun K hK => ?_)
     go_simp
     go_at_call 110
     (with_reducible refine HC.out.mono ?_)
     rintro e' wE ⟨v2, rfl, hO2, hbE⟩
     have hbW : Below wr.heap.size wr wE := (below_drew (Below.refl _ _)).trans hbE
     have hszE : wr.heap.size ≤ wE.heap.size := hbE.size
     have hSd : (fun W => RnS w.heap.size (w.heap.size + 1 + 1) (.slice (some ad) e.f2.length c) (.slice Av xs.length cv) (ad.add (kk * 3)) (.int .i64 x.f0) (.string x.f1) (.slice A2 x.f2.length a2) W) wE := hSd.keep hbE (by show _ < wr.heap.size; omega) (by show _ < wr.heap.size; omega) (by show _ < wr.heap.size; omega)
     obtain ⟨Ax, cx, hvx⟩ := Kd.R_slice hO2
     subst hvx
     have HM := Aside0.mk (k57_mkM wE wd.heap.size (fun k => wr.heap.size ≤ k) ⟨x.f0, nmR s t x.f0 x.f1, renL s t x.f2⟩ (Kd.R_lower (Kd.R_mono (Kd.R_bound hO2) (ok' := fun k => wr.heap.size ≤ k) (fun k hk => hk.2.1)) (show wd.heap.size ≤ wr.heap.size by omega)))
     have HO0 := Aside0.mk (Kd.R_below HO0.out hbE)
     have BKd := Aside0.mk (blk_below BKd.out hbE)
     have HSb := Lib.hid hbW
     have hSdE := hSd
     clear hO2 hbE hbW
     refine hK.out _ _ (fun _ => hSd) ?_
     clear hK
     refine wpAnyK_one (i := 10) (by kernel_rfl) rfl (fun K hK => ?_)
     go_simp
     have hSd : (fun W => RnS w.heap.size (w.heap.size + 1 + 1) (.slice (some ad) e.f2.length c) (.slice Av xs.length cv) (ad.add (kk * 3)) (.int .i64 x.f0) (.string x.f1) (.slice A2 x.f2.length a2) W) (wE.alloc (.cells #[.int .i64 x.f0, .string (nmR s t x.f0 x.f1), .slice Ax (renL s t x.f2).length cx] 57)) := hSd.keep (below_alloc1 _ _) (by omega) (by omega) (by omega)
     refine hK.out _ _ (fun _ => hSd) ?_
     clear hK
     refine wpAnyK_one (i := 11) (by kernel_rfl) rfl (fun K hK => ?_)
     refine Kd.R_append_step k57 (w0 := wE) (W := wE) wd.heap.size (by rfl) (.tmp 33) (.tmp 42) 55 57 _ 48 rfl Tryz.underlying55 infoEx rfl (by decide) (by decide) (.slice Av xs.length cv) xs ⟨x.f0, nmR s t x.f0 x.f1, renL s t x.f2⟩ [.int .i64 x.f0, .string (nmR s t x.f0 x.f1), .slice Ax (renL s t x.f2).length cx] (fun _ => True) (fun k => wr.heap.size ≤ k) rfl rfl HM.out HNe.out (fun _ _ => trivial) HO0.out (Below.refl _ _) (by omega) (by omega) ?_
     intro v9 w9 hR9 hB9 hg9 hat9
     have hSd0 : RnS w.heap.size (w.heap.size + 1 + 1) (.slice (some ad) e.f2.length c) (.slice Av xs.length cv) (ad.add (kk * 3)) (.int .i64 x.f0) (.string x.f1) (.slice A2 x.f2.length a2) wE := hSdE
     rw [← HTs.out] at hR9
     have B9 := Aside0.mk (blk_grown BKd.out hg9 (fun he => by have := HNr.out _ he; omega))
     have k9 := (blk_cell B9.out 2).trans rfl
     have f9 := blk_frozen B9.out 2
     have hSd : (fun W => RnS w.heap.size (w.heap.size + 1 + 1) (.slice (some ad) e.f2.length c) (.slice Av xs.length cv) (ad.add (kk * 3)) (.int .i64 x.f0) (.string x.f1) (.slice A2 x.f2.length a2) W) w9 := hSd0.keep hB9 (by omega) (by omega) (by omega)
     obtain ⟨Az, cz, hvz⟩ := Kd.R_slice hR9
     rw [renL_length, List.length_take_of_le (show kk + 1 ≤ e.f2.length by omega)] at hvz
     subst hvz
     have HR9 := Aside0.mk hR9
     have hs9 := hB9.size
     have HB9 := Aside0.mk (show Below (w.heap.size + 1 + 1) wd w9 from HB.out.trans ((HSb.out.mono (by omega)).trans (hB9.mono (by omega))))
     clear hR9 hB9 hg9 hat9 hSd0
     refine hK.out _ _ (fun _ => hSd) ?_
     clear hK
     refine wpAnyK_take (i := 12) (v := ?_) rfl (by kernel_rfl) (by kernel_rfl) (by kernel_rfl) (by kernel_rfl) (fun _ _ _ h => h) hSd (Or.inl ⟨by rfl, ?_⟩) ?_
     rotate_left 1
     (intro w hSw; (try dsimp only at hSw); go_simp; try (with_reducible rfl))
     (try dsimp only [Act.put]); (try simp only [List.setIfInBounds_toArray, List.set_cons_zero, List.set_cons_succ])
     refine wpAnyK_one (i := 13) (by kernel_rfl) rfl (fun K hK => ?_)
     go_simp
     refine hK.out _ _ (fun h => absurd rfl h) ?_
     clear hK hSd
     refine wpAnyK_done (by kernel_rfl) ?_ _
     go_wp2_with fail
     go_roundg (e.f2.length - (kk + 1))
     case measure => omega
     case rel => exact ⟨kk + 1, _, by omega, by omega, by go_num, ⟨OwnE.set HR9.out (by omega) _ _⟩, ⟨HB9.out.setCell (by simp only; omega) _⟩, by simp only [World.setCell, Array.size_modify]; omega, ⟨blk_put B9.out 2 _ rfl⟩⟩
    ·have : kk = e.f2.length := by omega
     subst this
     have o0 := (blk_cell BK.out 0).trans rfl
     have o1 := (blk_cell BK.out 1).trans rfl
     have o2 := (blk_cell BK.out 2).trans rfl
     have z0 := (blk_cell BZ.out 0).trans rfl
     have z1 := (blk_cell BZ.out 1).trans rfl
     have z2 := (blk_cell BZ.out 2).trans rfl
     have fz := fun i => blk_frozen BZ.out i
     have HO4 := HO.out
     rw [List.take_of_length_le (Nat.le_refl _)] at HO4
     obtain ⟨Av, cv, rfl⟩ := Kd.R_slice HO4
     have HO5 := Aside0.mk HO4
     clear HO4
     go_wp2
     have b4 := blk_put (blk_put (blk_put BZ.out 0 (.int .i64 e.f0) rfl) 1 (.string nm) rfl) 2 (.slice Av (renL s t e.f2).length cv) rfl
     refine bodyPost_ret (results_single rfl (.cell _ _ _ _ _ rfl b4 Tryz.underlying57 rfl rfl .nil)) rfl ?_
     exact ⟨_, rfl, Kd.R_lower (OwnE.set (OwnE.set (OwnE.set HO5.out (by omega) _ _) (by omega) _ _) (by omega) _ _) (by omega), ((Q3.out.setCell (by simp) _).setCell (by simp) _).setCell (by simp) _⟩
end Go.Proofs.YtacefdkfbpgedaaGreat.Mine
namespace Go.Proofs.YtacefdkfbpgedaaGreat.Mine
open Go.Proofs.YtacefdkfbpgedaaGreat.PProgSmall
open Go.RowKit Go.Shelf Go.Proofs.YtacefdkfbpgedaaGreatW.PrintWords Go.Proofs.YtacefdkfbpgedaaGreatW.PrintLast Go.Proofs.YtacefdkfbpgedaaGreatW.PrintMore
set_option linter.unusedVariables false
set_option linter.unusedSimpArgs false
def renC (s t : ByteArray) (c : Ca) : Ca := ⟨c.f0, c.f1, renE s t c.f2⟩
def renDb (s t : ByteArray) (d : De) : De := ⟨d.f0, d.f1, d.f2.map (renC s t), if d.f2.length = 0 then renE s t d.f3 else d.f3⟩
def renD (s t : ByteArray) (d : De) : De := ⟨if d.f0 = s then t else d.f0, d.f1, d.f2.map (renC s t), if d.f2.length = 0 then renE s t d.f3 else d.f3⟩
def renP (s t : ByteArray) (l : List De) : List De := l.map (renD s t)
def nameD (t : ByteArray) (d : De) : De := ⟨t, d.f1, d.f2, d.f3⟩
theorem renD_no {s t : ByteArray} {d : De} (h : d.f0 ≠ s) : renD s t d = renDb s t d := by simp [renD, renDb, h]
theorem renD_yes {s t : ByteArray} {d : De} (h : d.f0 = s) : renD s t d = nameD t (renDb s t d) := by simp [renD, renDb, nameD, h]
theorem check_nodup {l : List De} (h : checkP l = 0) : (l.map (·.f0)).Nodup := by
 unfold checkP at h
 cases h1 : decide ((l.length : Int) < 1) <;> rw [h1] at h
 ·cases h2 : decide ((12 : Int) < (l.length : Int)) <;> rw [h2] at h
  ·simp only [cond_false] at h
   by_cases h3 : firstErr rightE l = 0
   ·rw [if_pos h3] at h
    cases h4 : twB (l.map (·.f0)) <;> rw [h4] at h
    ·simpa [twB] using h4
    ·simp at h
   ·rw [if_neg h3] at h; exact absurd h h3
  ·simp at h
 ·simp at h
theorem ren_at {s t : ByteArray} {l : List De} {i : Nat} {d : De} (hn : (l.map (·.f0)).Nodup) (hi : l[i]? = some d) (hd : d.f0 = s) : renP s t l = (l.map (renDb s t)).set i (nameD t (renDb s t d)) := by
 obtain ⟨hlt, hdd⟩ := List.getElem?_eq_some_iff.1 hi
 apply List.ext_getElem?
 intro j
 rw [renP, List.getElem?_map, List.getElem?_set]
 by_cases hj : i = j
 ·subst hj
  rw [hi, if_pos rfl, if_pos (by simpa using hlt), Option.map_some, renD_yes hd]
 ·rw [if_neg hj, List.getElem?_map]
  rcases Nat.lt_or_ge j l.length with hjl | hjl
  ·rw [List.getElem?_eq_getElem hjl, Option.map_some, Option.map_some]
   have hne : l[j].f0 ≠ s := fun he => by
    have h1 : (l.map (·.f0))[i]'(by simpa using hlt) = (l.map (·.f0))[j]'(by simpa using hjl) := by simp [hdd, hd, he]
    rcases Nat.lt_or_gt_of_ne hj with h | h
    ·exact List.pairwise_iff_getElem.1 hn i j (by simpa using hlt) (by simpa using hjl) h h1
    ·exact List.pairwise_iff_getElem.1 hn j i (by simpa using hjl) (by simpa using hlt) h h1.symm
   rw [renD_no hne]
  ·rw [List.getElem?_eq_none hjl]; rfl
theorem numD_get {l : List De} {s : ByteArray} {i : Nat} (h : numD l s = (i : Int)) : ∃ d, l[i]? = some d ∧ d.f0 = s := by
 unfold numD idxB at h
 split at h
 ·next ha =>
  have hi : l.findIdx (fun d => decide (d.f0 = s)) = i := by omega
  obtain ⟨x, hx, hp⟩ := List.any_eq_true.1 ha
  have hlt : l.findIdx (fun d => decide (d.f0 = s)) < l.length := List.findIdx_lt_length_of_exists ⟨x, hx, hp⟩
  rw [hi] at hlt
  refine ⟨l[i], List.getElem?_eq_getElem hlt, ?_⟩
  have := List.findIdx_getElem (p := fun d : De => decide (d.f0 = s)) (xs := l) (w := by rw [hi]; exact hlt)
  simp only [hi] at this
  simpa using this
 ·omega
theorem nmR_idem (s t : ByteArray) (k : Int) (n : ByteArray) : nmR s t k (nmR s t k n) = nmR s t k n := by
 unfold nmR
 by_cases h : k = 3 ∧ n = s
 ·rw [if_pos h]
  by_cases h2 : k = 3 ∧ t = s
  ·rw [if_pos h2]
  ·rw [if_neg h2]
 ·rw [if_neg h, if_neg h]
theorem renL_idem (s t : ByteArray) (m : Nat) : ∀ l : List Ex, szL l ≤ m → renL s t (renL s t l) = renL s t l := by
 induction m with
 | zero =>
  intro l h
  cases l with
  | nil => simp [renL]
  | cons x xs => rw [szL] at h; have := szE_pos x; omega
 | succ m ih =>
  intro l
  induction l with
  | nil => intro _; simp [renL]
  | cons x xs ihx =>
   intro h
   rw [szL] at h
   have hx := szE_eq x
   have hp := szE_pos x
   rw [renL, renL, ihx (by omega), renE_eq s t x, renE_eq s t ⟨_, _, _⟩]
   simp only
   rw [nmR_idem, ih x.f2 (by omega)]
theorem renE_idem (s t : ByteArray) (e : Ex) : renE s t (renE s t e) = renE s t e := by
 rw [renE_eq s t e, renE_eq s t ⟨_, _, _⟩]
 simp only
 rw [nmR_idem, renL_idem s t _ e.f2 (Nat.le_refl _)]
end Go.Proofs.YtacefdkfbpgedaaGreat.Mine
namespace Go.Proofs.YtacefdkfbpgedaaGreat.Mine
open Go.Proofs.YtacefdkfbpgedaaGreat.PProgSmall
open Go.RowKit Go.Shelf Go.Proofs.YtacefdkfbpgedaaGreatW.PrintWords Go.Proofs.YtacefdkfbpgedaaGreatW.PrintLast Go.Proofs.YtacefdkfbpgedaaGreatW.PrintMore
set_option linter.unusedVariables false
set_option linter.unusedSimpArgs false
set_option maxRecDepth 100000
def renR (ps : List De) (s t : ByteArray) : List De × Int := if numD ps s < 0 then ([], 1) else if nameB t = false then ([], 4) else if s ≠ t ∧ 0 ≤ numD ps t then ([], 5) else (renP s t ps, 0)
abbrev CcS (B10 B11 : Nat) (v0 v1 : Value) (p : Addr) (u0 u1 u2 u3 u4 : Value) (W : World) : Prop := W.cell? ⟨B10, 2, none⟩ = some v0 ∧ W.cell? ⟨B11, 2, none⟩ = some v1 ∧ W.cell? p = some u0 ∧ W.cell? ⟨p.block, p.off + 1, none⟩ = some u1 ∧ W.cell? ⟨p.block, p.off + 2, none⟩ = some u2 ∧ W.cell? ⟨p.block, p.off + 3, none⟩ = some u3 ∧ W.cell? ⟨p.block, p.off + 4, none⟩ = some u4
theorem CcS.keep {n B10 B11 : Nat} {v0 v1 : Value} {p : Addr} {u0 u1 u2 u3 u4 : Value} {W W' : World} (h : CcS B10 B11 v0 v1 p u0 u1 u2 u3 u4 W) (hb : Below n W W') (h3 : B10 < n) (h7 : B11 < n) (hp : p.block < n) : CcS B10 B11 v0 v1 p u0 u1 u2 u3 u4 W' :=
 ⟨(hb.cell (p := ⟨B10, 2, none⟩) h3).trans h.1, (hb.cell (p := ⟨B11, 2, none⟩) h7).trans h.2.1, (hb.cell hp).trans h.2.2.1, (hb.cell (p := ⟨p.block, p.off + 1, none⟩) hp).trans h.2.2.2.1, (hb.cell (p := ⟨p.block, p.off + 2, none⟩) hp).trans h.2.2.2.2.1, (hb.cell (p := ⟨p.block, p.off + 3, none⟩) hp).trans h.2.2.2.2.2.1, (hb.cell (p := ⟨p.block, p.off + 4, none⟩) hp).trans h.2.2.2.2.2.2⟩
set_option maxHeartbeats 8000000 in
theorem c_rRename (ps : List De) (A : Option Addr) (c : Nat) (s t : ByteArray) (w : World) (okF : Nat → Prop) (hF : Kd.F k59 w okF A ps.length ps) (hlow : ∀ k, okF k → k < w.heap.size) (hc : ps.length ≤ c) (hl : ps.length ≤ 100) (hb : ∀ x ∈ ps, bigD x = false) :
  Calls Tryz.prog 51 #[.agg #[.slice A ps.length c], .string s, .string t] w fun en w' => ∃ A' c', en = .returned (.tuple #[.agg #[.slice A' (renR ps s t).1.length c'], .int .i64 (renR ps s t).2]) ∧ (renR ps s t).1.length ≤ c' ∧ Kd.F k59 w' (fun k => okF k ∨ w.heap.size ≤ k) A' (renR ps s t).1.length (renR ps s t).1 ∧ Below w.heap.size w w' := by
 have hmd := (Kd.F_now hF).2.1
 obtain ⟨W1, hW1⟩ : ∃ W1, (w.alloc (.cells #[.slice A ps.length c] 24)).alloc (.cells #[.slice none 0 0] 24) = W1 := ⟨_, rfl⟩
 have q1 : Below w.heap.size w W1 := by rw [← hW1]; exact below_alloc2 _ _ _
 have bP : PBox w.heap.size A ps.length c W1 := by rw [← hW1]; exact blk_alloc (alloc_at _ _) _
 have bR : PBox (w.heap.size + 1) none 0 0 W1 := by rw [← hW1]; have := alloc_at (w.alloc (.cells #[.slice A ps.length c] 24)) (.cells #[.slice none 0 0] 24); rw [World.size_alloc] at this; exact this
 have z1 : W1.heap.size = w.heap.size + 1 + 1 := by rw [← hW1]; simp
 have HFi := Lib.hid (fun W (h : Below w.heap.size w W) (u : ByteArray) => c_rFind ps A c u W (Kd.F_now (Kd.F_below hF h)) hc)
 have HPs := Aside0.mk hF
 have HLow := Lib.hid hlow
 have Q := Aside0.mk q1
 have BP := Aside0.mk bP
 have BR := Aside0.mk bR
 have HW1 := Lib.hid hW1
 have hz1a := Nat.le_of_eq z1
 have hz1b := Nat.le_of_eq z1.symm
 have kP := (blk_cell bP 0).trans rfl
 clear hF hlow q1 bP bR hW1 z1
 obtain ⟨n1, hn1⟩ : ∃ n, numD ps s = n := ⟨_, rfl⟩
 obtain ⟨n2, hn2⟩ : ∃ n, numD ps t = n := ⟨_, rfl⟩
 obtain ⟨nb, hnb⟩ : ∃ b, nameB t = b := ⟨_, rfl⟩
 have HX := Lib.hid (show renR ps s t = if n1 < 0 then ([], 1) else if nb = false then ([], 4) else if s ≠ t ∧ 0 ≤ n2 then ([], 5) else (renP s t ps, 0) by rw [renR, hn1, hn2, hnb])
 have HC := Lib.hid (HFi.out _ Q.out s)
 have HN1 := Lib.hid (And.intro hn2 hnb)
 rw [hn1] at HC
 clear hn1 hn2 hnb
 go_enter Tryz.func51, Tryz.ntmps51
 go_wp2_with fail
 rw [HW1.out]
 go_wp2_with fail
 refine HC.out.mono ?_
 rintro en w2 ⟨rfl, hb'⟩
 have Q := Aside0.mk (Q.out.trans (hb'.mono Q.out.size))
 have BP := Aside0.mk (blk_below BP.out hb')
 have BR := Aside0.mk (blk_below BR.out hb')
 have hs2 := hb'.size
 clear hb' HC kP HW1
 have k4 := (blk_cell BR.out 0).trans rfl
 have f4 := blk_frozen BR.out 0
 cases hd1 : decide (n1 < 0) with
 | true =>
  have h1 := of_decide_eq_true hd1
  have HX2 := Lib.hid (show renR ps s t = ([], 1) by rw [HX.out, if_pos h1])
  clear h1
  go_wp2
  have b4 := blk_put BR.out 0 (.slice none 0 0) rfl
  refine bodyPost_ret (results_ct rfl _ _ _ _ _ _ _ rfl b4 Tryz.underlying24 rfl (by kernel_rfl)) rfl ?_
  rw [HX2.out]
  exact ⟨none, 0, rfl, Nat.le_refl _, fun _ _ => Kd.C_nil _ _, (Q.out).setCell (by simp only; omega) _⟩
 | false =>
  have h1 := of_decide_eq_false hd1
  have HX1 := Lib.hid (show renR ps s t = if nb = false then ([], 4) else if s ≠ t ∧ 0 ≤ n2 then ([], 5) else (renP s t ps, 0) by rw [HX.out, if_neg h1])
  have HC := Lib.hid (c_r1Named t w2)
  rw [HN1.out.2] at HC
  clear h1
  go_wp2_with fail
  refine HC.out.mono ?_
  rintro en w3 ⟨rfl, hw⟩
  have hw := hw.symm
  subst hw
  cases nb with
  | false =>
   have HX2 := Lib.hid (show renR ps s t = ([], 4) by rw [HX1.out, if_pos rfl])
   go_wp2
   have b4 := blk_put BR.out 0 (.slice none 0 0) rfl
   refine bodyPost_ret (results_ct rfl _ _ _ _ _ _ _ rfl b4 Tryz.underlying24 rfl (by kernel_rfl)) rfl ?_
   rw [HX2.out]
   exact ⟨none, 0, rfl, Nat.le_refl _, fun _ _ => Kd.C_nil _ _, (Q.out).setCell (by simp only; omega) _⟩
  | true =>
   have HX3 := Lib.hid (show renR ps s t = if s ≠ t ∧ 0 ≤ n2 then ([], 5) else (renP s t ps, 0) by rw [HX1.out, if_neg (by decide)])
   have kP := (blk_cell BP.out 0).trans rfl
   obtain ⟨b, hb5⟩ : ∃ b, decide (s ≠ t ∧ 0 ≤ n2) = b := ⟨_, rfl⟩
   have HC := Lib.hid (HFi.out _ Q.out t)
   rw [HN1.out.1] at HC
   go_upto_region 5 with fail
   go_cut [30] (fun s30 wx => s30 = .bool b ∧ Aside0 (Below w2.heap.size w2 wx))
   case first =>
    by_cases hst : s = t
    ·have hbf : b = false := by rw [← hb5]; simp [hst]
     have he2 : (s.toList == t.toList) = true := by rw [sEq]; simpa using hst
     clear hb5 hst
     go_wp2_with fail
     go_meet
     exact ⟨by rw [hbf], ⟨Below.refl _ _⟩⟩
    ·have he2 : (s.toList == t.toList) = false := by rw [sEq]; simpa using hst
     have hbf : b = decide (n2 ≥ 0) := by rw [← hb5]; simp [hst]
     clear hb5 hst
     go_wp2_with fail
     refine HC.out.mono ?_
     rintro en w4 ⟨rfl, hb4⟩
     have HB4 := Aside0.mk hb4
     clear hb4
     go_wp2_with fail
     go_meet
     exact ⟨by rw [hbf], HB4⟩
   case rest =>
    obtain ⟨rfl, HB5⟩ := hcut
    have HXb := Lib.hid (show renR ps s t = if b = true then ([], 5) else (renP s t ps, 0) by
     rw [HX3.out, ← hb5]
     by_cases h : s ≠ t ∧ 0 ≤ n2
     ·rw [if_pos h, if_pos (by simpa using h)]
     ·rw [if_neg h, if_neg (by simpa using h)])
    have Q := Aside0.mk (Q.out.trans (HB5.out.mono Q.out.size))
    have BP := Aside0.mk (blk_below BP.out HB5.out)
    have BR := Aside0.mk (blk_below BR.out HB5.out)
    have hs5 := HB5.out.size
    clear hb5 HB5 kP k4 f4 HC HX3 HX1 HX
    cases b with
    | true =>
     have HX2 := Lib.hid (show renR ps s t = ([], 5) by rw [HXb.out, if_pos rfl])
     have k4 := (blk_cell BR.out 0).trans rfl
     have f4 := blk_frozen BR.out 0
     go_wp2
     have b4 := blk_put BR.out 0 (.slice none 0 0) rfl
     refine bodyPost_ret (results_ct rfl _ _ _ _ _ _ _ rfl b4 Tryz.underlying24 rfl (by kernel_rfl)) rfl ?_
     rw [HX2.out]
     exact ⟨none, 0, rfl, Nat.le_refl _, fun _ _ => Kd.C_nil _ _, (Q.out).setCell (by simp only; omega) _⟩
    | false =>
     have HX2 := Lib.hid (show renR ps s t = (renP s t ps, 0) by rw [HXb.out, if_neg (by decide)])
     obtain ⟨W8, hW8⟩ : ∃ W8, wc.alloc (.cells #[.slice none 0 0] 24) = W8 := ⟨_, rfl⟩
     have q8 : Below wc.heap.size wc W8 := by rw [← hW8]; exact below_alloc1 _ _
     have z8 : W8.heap.size = wc.heap.size + 1 := by rw [← hW8]; simp
     have BV := Aside0.mk (show PBox wc.heap.size none 0 0 W8 by rw [← hW8]; exact alloc_at _ _)
     have HW8 := Lib.hid hW8
     have BP8 := Aside0.mk (blk_below BP.out q8)
     have BR8 := Aside0.mk (blk_below BR.out q8)
     have Q8 := Aside0.mk (Q.out.trans (q8.mono Q.out.size))
     have hz8a := Nat.le_of_eq z8
     have hz8b := Nat.le_of_eq z8.symm
     clear hW8 q8 z8 HXb
     go_upto_region 8 with fail
     rw [HW8.out]
     clear HW8
     go_wp2_with fail
     clear HFi HN1
     go_loopg [9] ps.length (fun gg s9 wr => ∃ (kk : Nat) (v : Value), kk ≤ ps.length ∧ ps.length - kk ≤ gg ∧ s9 = .int .i64 kk ∧ Aside0 (Kd.N k59 59 wr W8.heap.size (fun k => okF k ∨ W8.heap.size ≤ k) v (renP s t (ps.take kk))) ∧ Aside0 (Below wc.heap.size W8 wr) ∧ W8.heap.size ≤ wr.heap.size ∧ Aside0 (wr.heap[wc.heap.size]? = some (.cells #[v] 24 (0, 0))))
     case atStart => exact ⟨0, _, Nat.zero_le _, by omega, rfl, ⟨Kd.N_nil _ _ _ _ _⟩, ⟨Below.refl _ _⟩, Nat.le_refl _, BV⟩
     case round =>
      obtain ⟨kk, v, hkk, hg, rfl, HN, HB, hszr, BK⟩ := hrel
      have hq8 := Q.out.size
      have HQ := Aside0.mk (Q8.out.trans (HB.out.mono (by omega)))
      have BPr := Aside0.mk (show wr.heap[w.heap.size]? = _ from (HB.out.block _ (by omega)).trans BP8.out)
      have BRr := Aside0.mk (show wr.heap[w.heap.size + 1]? = _ from (HB.out.block _ (by omega)).trans BR8.out)
      have kP := (blk_cell BPr.out 0).trans rfl
      by_cases hlt : kk < ps.length
      ·have hltz : (kk : Int) < (ps.length : Int) := by omega
       have hFw := Kd.F_below HPs.out HQ.out
       obtain ⟨ad, g0, g1, g2, g3, g4, g5, rfl, hK, hcells, y0, y1, y2, y3, y4, y5⟩ := gett6 rfl (Kd.F_now hFw) kk hlt
       have hFK := elemF HPs.out kk hlt rfl hcells (fun p v hp hv => (HQ.out.cell (World.block_lt_of_cell? _ _ hv)).trans hv) (by decide)
       have hmem := List.getElem_mem hlt
       obtain ⟨dd, hdd⟩ : ∃ dd, ps[kk] = dd := ⟨_, rfl⟩
       rw [hdd] at hFK hmem
       obtain ⟨Z1, z1, Z2, z2, Z5, z5, he, l1, F1, l2, F2, l5, F5⟩ := k59_openF hFK
       obtain ⟨rfl, rfl, rfl, rfl, rfl, rfl⟩ : g0 = _ ∧ g1 = _ ∧ g2 = _ ∧ g3 = _ ∧ g4 = _ ∧ g5 = _ := by simpa using he
       have hbd := bigD_ok (hb _ hmem)
       have hsz3 := hbd.2.2.2.1
       have hbc := hbd.2.2.2.2.2
       have hnc := hbd.2.2.2.2.1
       have hm2 := (Kd.F_now F2).2.1
       have HTs := Lib.hid (show renP s t (ps.take (kk + 1)) = renP s t (ps.take kk) ++ [renD s t dd] by rw [renP, renP, take_snoc hlt, List.map_append, hdd]; rfl)
       have HF1 := Aside0.mk F1
       have HF2 := Aside0.mk F2
       have HF5 := Aside0.mk F5
       have HL := Lib.hid (And.intro l1 (And.intro l2 l5))
       clear hFw hK hcells hFK he hdd F1 F2 F5 l1 l2 l5 hbd
       obtain ⟨W11, hW11⟩ : ∃ W11, (wr.alloc (.cells #[.string dd.f0, .slice Z1 dd.f1.length z1, .slice Z2 dd.f2.length z2, .int .i64 dd.f3.f0, .string dd.f3.f1, .slice Z5 dd.f3.f2.length z5] 59)).alloc (.cells #[.string dd.f0, .slice Z1 dd.f1.length z1, .slice none 0 0, .int .i64 dd.f3.f0, .string dd.f3.f1, .slice Z5 dd.f3.f2.length z5] 59) = W11 := ⟨_, rfl⟩
       have q11 : Below wr.heap.size wr W11 := by rw [← hW11]; exact below_alloc2 _ _ _
       have b10 : W11.heap[wr.heap.size]? = some (.cells #[.string dd.f0, .slice Z1 dd.f1.length z1, .slice Z2 dd.f2.length z2, .int .i64 dd.f3.f0, .string dd.f3.f1, .slice Z5 dd.f3.f2.length z5] 59 (0, 0)) := by rw [← hW11]; exact blk_alloc (alloc_at _ _) _
       have b11 : W11.heap[wr.heap.size + 1]? = some (.cells #[.string dd.f0, .slice Z1 dd.f1.length z1, .slice none 0 0, .int .i64 dd.f3.f0, .string dd.f3.f1, .slice Z5 dd.f3.f2.length z5] 59 (0, 0)) := by rw [← hW11]; have := alloc_at (wr.alloc (.cells #[.string dd.f0, .slice Z1 dd.f1.length z1, .slice Z2 dd.f2.length z2, .int .i64 dd.f3.f0, .string dd.f3.f1, .slice Z5 dd.f3.f2.length z5] 59)) (.cells #[.string dd.f0, .slice Z1 dd.f1.length z1, .slice none 0 0, .int .i64 dd.f3.f0, .string dd.f3.f1, .slice Z5 dd.f3.f2.length z5] 59); rw [World.size_alloc] at this; exact this
       have z11 : W11.heap.size = wr.heap.size + 1 + 1 := by rw [← hW11]; simp
       have hz11a := Nat.le_of_eq z11
       have hz11b := Nat.le_of_eq z11.symm
       have B10 := Aside0.mk b10
       have B11 := Aside0.mk b11
       have Q11 := Aside0.mk q11
       have HW11 := Lib.hid hW11
       clear q11 b10 b11 z11 hW11
       go_upto_region 13 with fail
       rw [HW11.out]
       clear HW11 y0 y1 y2 y3 y4 y5 kP
       have k2 := (blk_cell B10.out 2).trans rfl
       obtain ⟨bd, hbd⟩ : ∃ bd : Ex, (if dd.f2.length = 0 then renE s t dd.f3 else dd.f3) = bd := ⟨_, rfl⟩
       have HBd0 := Lib.hid hbd
       go_upto_if 54 with fail
       go_cut [11] (fun s11 wx => ∃ (A5 : Option Addr) (c5 : Nat), s11 = .pointer (some ⟨wr.heap.size + 1, 0, none⟩) ∧ Aside0 (wx.heap[wr.heap.size + 1]? = some (.cells #[.string dd.f0, .slice Z1 dd.f1.length z1, .slice none 0 0, .int .i64 bd.f0, .string bd.f1, .slice A5 bd.f2.length c5] 59 (0, 0))) ∧ Aside0 (bd.f2.length ≤ c5 ∧ Kd.F k57 wx (fun k => okF k ∨ W11.heap.size ≤ k) A5 bd.f2.length bd.f2) ∧ Aside0 (Below (wr.heap.size + 1) W11 wx) ∧ W11.heap.size ≤ wx.heap.size)
       case first =>
        by_cases h0 : dd.f2.length = 0
        ·have c0z : ((dd.f2.length : Int) == 0) = true := by rw [beq_iff_eq]; omega
         have e3 := (blk_cell B10.out 3).trans rfl
         have e4 := (blk_cell B10.out 4).trans rfl
         have e5 := (blk_cell B10.out 5).trans rfl
         have HC := Lib.hid (c_rrenamed s t _ dd.f3 Z5 z5 W11 (Nat.le_refl _) (by omega) (Kd.F_now (Kd.F_below HF5.out (HQ.out.trans (Q11.out.mono HQ.out.size)))) HL.out.2.2)
         have HBd := Lib.hid (show (⟨dd.f3.f0, nmR s t dd.f3.f0 dd.f3.f1, renL s t dd.f3.f2⟩ : Ex) = bd by rw [← hbd, if_pos h0, renE_eq])
         clear hbd h0
         rw [c0z]
         go_wp2_with fail
         refine HC.out.mono ?_
         rintro en w5 ⟨v2, rfl, ho, hb5⟩
         obtain ⟨A5, c5, rfl, hc5, _⟩ := Kd.R_reads ho
         have HO5 := Aside0.mk ho
         have hw5 := hb5.size
         have B11w := Aside0.mk (blk_below B11.out hb5)
         have HB5 := Aside0.mk (show Below (wr.heap.size + 1) W11 w5 from hb5.mono (by omega))
         have z3 := (blk_cell B11w.out 3).trans rfl
         have z4 := (blk_cell B11w.out 4).trans rfl
         have z5' := (blk_cell B11w.out 5).trans rfl
         have fz := fun i => blk_frozen B11w.out i
         have hbd' := HBd.out
         subst hbd'
         clear ho hb5 HC e3 e4 e5 HBd
         go_wp2_with fail
         go_meet
         have hF := Kd.R_F (Kd.R_mono (Kd.R_bound HO5.out) (ok' := fun k => okF k ∨ W11.heap.size ≤ k) (fun k hk => .inr hk.2.1))
         have b := blk_put (blk_put (blk_put B11w.out 3 (.int .i64 dd.f3.f0) rfl) 4 (.string (nmR s t dd.f3.f0 dd.f3.f1)) rfl) 5 (.slice A5 (renL s t dd.f3.f2).length c5) rfl
         exact ⟨A5, c5, rfl, ⟨b⟩, ⟨hc5, Kd.F_step hF (fun k hk _ => by
          have hne : k ≠ wr.heap.size + 1 := by rcases hk with hk | hk; (have := HLow.out k hk; omega); omega
          rw [Below.heap_setCell _ _ _ _ (by simpa using hne), Below.heap_setCell _ _ _ _ (by simpa using hne), Below.heap_setCell _ _ _ _ (by simpa using hne)])⟩, ⟨((HB5.out.setCell (by simp only; omega) _).setCell (by simp only; omega) _).setCell (by simp only; omega) _⟩, by simp only [World.setCell, Array.size_modify]; omega⟩
        ·have c0z : ((dd.f2.length : Int) == 0) = false := by rw [beq_eq_false_iff_ne]; omega
         have hbe : dd.f3 = bd := by rw [← hbd, if_neg h0]
         rw [c0z]
         clear h0 hbd
         subst hbe
         go_wp2_with fail
         go_meet
         exact ⟨Z5, z5, rfl, B11, ⟨HL.out.2.2, Kd.F_mono (Kd.F_below HF5.out (HQ.out.trans (Q11.out.mono HQ.out.size))) (fun k hk => .inl hk)⟩, ⟨Below.refl _ _⟩, Nat.le_refl _⟩
       case rest =>
        rename World => we
        obtain ⟨A5, c5, rfl, B11e, F5e, HBe, hse⟩ := hcut
        have B10e := Aside0.mk (show we.heap[wr.heap.size]? = _ from (HBe.out.block _ (by omega)).trans B10.out)
        clear B11 k2 hbd
        have k0 := (blk_cell B11e.out 0).trans rfl
        have f0 := blk_frozen B11e.out 0
        obtain ⟨nd, hnd⟩ : ∃ nd, (if dd.f0 = s then t else dd.f0) = nd := ⟨_, rfl⟩
        have HNd0 := Lib.hid hnd
        go_upto_if 64 with fail
        go_cut [11] (fun s11 wx => s11 = .pointer (some ⟨wr.heap.size + 1, 0, none⟩) ∧ Aside0 (wx.heap[wr.heap.size + 1]? = some (.cells #[.string nd, .slice Z1 dd.f1.length z1, .slice none 0 0, .int .i64 bd.f0, .string bd.f1, .slice A5 bd.f2.length c5] 59 (0, 0))) ∧ Aside0 (Fr (fun k => k = wr.heap.size + 1) we wx))
        case first =>
         by_cases h0 : dd.f0 = s
         ·have c0 : (dd.f0.toList == s.toList) = true := by rw [sEq]; simpa using h0
          rw [if_pos h0] at hnd
          subst hnd
          rw [c0]
          clear h0
          go_wp2_with fail
          go_meet
          exact ⟨rfl, ⟨blk_put B11e.out 0 _ rfl⟩, ⟨(show Fr (fun k => k = wr.heap.size + 1) we we from Fr.refl _ _).setCell (p := ⟨wr.heap.size + 1, 0, none⟩) (.inl rfl) _⟩⟩
         ·have c0 : (dd.f0.toList == s.toList) = false := by rw [sEq]; simpa using h0
          rw [if_neg h0] at hnd
          subst hnd
          rw [c0]
          clear h0
          go_wp2_with fail
          go_meet
          exact ⟨rfl, B11e, ⟨Fr.refl _ _⟩⟩
        case rest =>
         rename World => wf
         obtain ⟨rfl, B11f, HFf⟩ := hcut
         have hsf := HFf.out.size
         have hqs := HQ.out.size
         have B10f := Aside0.mk (HFf.out.blk B10e.out (by omega))
         have HBf := Aside0.mk (show Below (wr.heap.size + 1) W11 wf from HBe.out.trans (HFf.out.below (by omega) (fun k hk he => by omega)))
         have HQf := Aside0.mk (show Below w.heap.size w wf from HQ.out.trans ((Q11.out.trans (HBf.out.mono (by omega))).mono (by omega)))
         have F5f := Aside0.mk (And.intro F5e.out.1 (Kd.F_step F5e.out.2 (fun k hk hkl => HFf.out.block k hkl (by rcases hk with hk | hk; (have := HLow.out k hk; omega); omega))))
         clear B11e B10e F5e HBe HFf hnd k0 f0
         go_wp2_with fail
         go_loopg [12] dd.f2.length (fun gg s12 wj => ∃ (jj : Nat) (v : Value), jj ≤ dd.f2.length ∧ dd.f2.length - jj ≤ gg ∧ s12 = .int .i64 jj ∧ Aside0 (Kd.N k62 62 wj wf.heap.size (fun k => okF k ∨ wf.heap.size ≤ k) v ((dd.f2.take jj).map (renC s t))) ∧ Aside0 (Fr (fun k => k = wr.heap.size + 1) wf wj) ∧ Aside0 (wj.heap[wr.heap.size + 1]? = some (.cells #[.string nd, .slice Z1 dd.f1.length z1, v, .int .i64 bd.f0, .string bd.f1, .slice A5 bd.f2.length c5] 59 (0, 0))))
         case atStart => exact ⟨0, _, Nat.zero_le _, by omega, rfl, ⟨Kd.N_nil _ _ _ _ _⟩, ⟨Fr.refl _ _⟩, B11f⟩
         case round =>
          rename World => wj
          obtain ⟨jj, vC, hjj, hgj, rfl, HNj, HFj, BKj⟩ := hrel
          have hsj := HFj.out.size
          have HQj := Aside0.mk (show Below w.heap.size w wj from HQf.out.trans (HFj.out.below (by omega) (fun k hk he => by omega)))
          have B10j := Aside0.mk (HFj.out.blk B10f.out (by omega))
          have kA := (blk_cell B10j.out 2).trans rfl
          by_cases hltj : jj < dd.f2.length
          ·have hltjz : (jj : Int) < (dd.f2.length : Int) := by omega
           obtain ⟨kd, f0, f1, f2, f3, f4, rfl, hK, hcells, y0, y1, y2, y3, y4⟩ := gett5 rfl (Kd.F_now HF2.out) jj hltj
           obtain ⟨X1, x1, X4, x4, he, m1, G1, m4, G4⟩ := k62_openF (elemF HF2.out jj hltj rfl hcells (fun _ _ _ h => h) (by decide))
           obtain ⟨rfl, rfl, rfl, rfl, rfl⟩ : f0 = _ ∧ f1 = _ ∧ f2 = _ ∧ f3 = _ ∧ f4 = _ := by simpa using he
           have hap : (kd.add (jj * 5)).block < w.heap.size := World.block_lt_of_cell? _ _ y0
           obtain ⟨ca, hca⟩ : ∃ ca, dd.f2[jj] = ca := ⟨_, rfl⟩
           have hszc : szE ca.f2 ≤ 60 := by rw [← hca]; exact (bigC_ok (hbc _ (List.getElem_mem hltj))).2.2.2
           have HTc := Lib.hid (show (dd.f2.take (jj + 1)).map (renC s t) = (dd.f2.take jj).map (renC s t) ++ [⟨ca.f0, ca.f1, ⟨ca.f2.f0, nmR s t ca.f2.f0 ca.f2.f1, renL s t ca.f2.f2⟩⟩] by rw [take_snoc hltj, List.map_append, hca]; simp only [List.map_cons, List.map_nil, renC, renE_eq])
           rw [hca] at y0 y1 y2 y3 y4 m1 G1 m4 G4
           have hxl : ((dd.f2.take jj).map (renC s t)).length ≤ 100 := by rw [List.length_map, List.length_take]; omega
           obtain ⟨xs, hxs⟩ : ∃ xs, (dd.f2.take jj).map (renC s t) = xs := ⟨_, rfl⟩
           rw [hxs] at HNj HTc hxl
           obtain ⟨Av, cv, hv⟩ := Kd.N_slice HNj.out
           subst hv
           have HC := Lib.hid (c_rrenamed s t _ ca.f2 X4 x4 wj.drew (Nat.le_refl _) (by omega) (Kd.F_now (Kd.F_below G4 (HQj.out.trans (below_drew (Below.refl _ _))))) m4)
           have kB := (blk_cell BKj.out 2).trans rfl
           have hB11 := blk_lt BKj.out
           have hSd : (fun W => CcS wr.heap.size (wr.heap.size + 1) (.slice (some kd) dd.f2.length z2) (.slice Av xs.length cv) (kd.add (jj * 5)) (.string ca.f0) (.slice X1 ca.f1.length x1) (.int .i64 ca.f2.f0) (.string ca.f2.f1) (.slice X4 ca.f2.f2.length x4) W) wj.drew := ⟨kA, kB, (HQj.out.cell (p := kd.add (jj * 5)) hap).trans y0, (HQj.out.cell (p := ⟨(kd.add (jj * 5)).block, (kd.add (jj * 5)).off + 1, none⟩) hap).trans y1, (HQj.out.cell (p := ⟨(kd.add (jj * 5)).block, (kd.add (jj * 5)).off + 2, none⟩) hap).trans y2, (HQj.out.cell (p := ⟨(kd.add (jj * 5)).block, (kd.add (jj * 5)).off + 3, none⟩) hap).trans y3, (HQj.out.cell (p := ⟨(kd.add (jj * 5)).block, (kd.add (jj * 5)).off + 4, none⟩) hap).trans y4⟩
           have HG1 := Aside0.mk G1
           have HM := Lib.hid (And.intro m1 m4)
           have hm1 := (Kd.F_now G1).2.1
           have HN0 := Aside0.mk (Kd.N_below HNj.out (below_drew (Below.refl _ _)))
           have BKd := Aside0.mk (show wj.drew.heap[wr.heap.size + 1]? = _ from BKj.out)
           have HNlt := Lib.hid (Kd.N_lt HNj.out)
           have HNbs := Lib.hid (Kd.N_base HNj.out)
           clear hK hcells he G1 G4 m1 m4 y0 y1 y2 y3 y4 hca hxs HNj BKj
           go_upto_region 20 with fail
           clear kA kB
           refine wp_region_K (S := fun W => CcS wr.heap.size (wr.heap.size + 1) (.slice (some kd) dd.f2.length z2) (.slice Av xs.length cv) (kd.add (jj * 5)) (.string ca.f0) (.slice X1 ca.f1.length x1) (.int .i64 ca.f2.f0) (.string ca.f2.f1) (.slice X4 ca.f2.f2.length x4) W) (k := 27) (by kernel_rfl) ?_
           change wpAnyK _ _ _ _ _ _ 28 (Array.replicate 28 false) _ _
           refine wpAnyK_take (i := 0) (v := ?_) rfl (by kernel_rfl) (by kernel_rfl) (by kernel_rfl) (by kernel_rfl) (fun _ _ _ h => h) hSd (Or.inl ⟨by rfl, ?_⟩) ?_
           rotate_left 1
           (intro w hSw; (try dsimp only at hSw); go_simp; try (with_reducible rfl))
           (try dsimp only [Act.put]); (try simp only [List.setIfInBounds_toArray, List.set_cons_zero, List.set_cons_succ])
           refine wpAnyK_take (i := 1) (v := ?_) rfl (by kernel_rfl) (by kernel_rfl) (by kernel_rfl) (by kernel_rfl) (fun _ _ _ h => h) hSd (Or.inl ⟨by rfl, ?_⟩) ?_
           rotate_left 1
           (intro w hSw; (try dsimp only at hSw); go_simp; try (with_reducible rfl))
           (try dsimp only [Act.put]); (try simp only [List.setIfInBounds_toArray, List.set_cons_zero, List.set_cons_succ])
           refine wpAnyK_take (i := 2) (v := ?_) rfl (by kernel_rfl) (by kernel_rfl) (by kernel_rfl) (by kernel_rfl) (fun _ _ _ h => h) hSd (Or.inl ⟨by rfl, ?_⟩) ?_
           rotate_left 1
           (intro w hSw; (try dsimp only at hSw); go_simp; try (with_reducible rfl))
           (try dsimp only [Act.put]); (try simp only [List.setIfInBounds_toArray, List.set_cons_zero, List.set_cons_succ])
           refine wpAnyK_take (i := 3) (v := ?_) rfl (by kernel_rfl) (by kernel_rfl) (by kernel_rfl) (by kernel_rfl) (fun _ _ _ h => h) hSd (Or.inl ⟨by rfl, ?_⟩) ?_
           rotate_left 1
           (intro w hSw; (try dsimp only at hSw); go_simp; try (with_reducible rfl))
           (try dsimp only [Act.put]); (try simp only [List.setIfInBounds_toArray, List.set_cons_zero, List.set_cons_succ])
           refine wpAnyK_take (i := 4) (v := ?_) rfl (by kernel_rfl) (by kernel_rfl) (by kernel_rfl) (by kernel_rfl) (fun _ _ _ h => h) hSd (Or.inl ⟨by rfl, ?_⟩) ?_
           rotate_left 1
           (intro w hSw; (try dsimp only at hSw); go_simp; try (with_reducible rfl))
           (try dsimp only [Act.put]); (try simp only [List.setIfInBounds_toArray, List.set_cons_zero, List.set_cons_succ])
           refine wpAnyK_take (i := 5) (v := ?_) rfl (by kernel_rfl) (by kernel_rfl) (by kernel_rfl) (by kernel_rfl) (fun _ _ _ h => h) hSd (Or.inl ⟨by rfl, ?_⟩) ?_
           rotate_left 1
           (intro w hSw; (try dsimp only at hSw); go_simp; try (with_reducible rfl))
           (try dsimp only [Act.put]); (try simp only [List.setIfInBounds_toArray, List.set_cons_zero, List.set_cons_succ])
           refine wpAnyK_take (i := 6) (v := ?_) rfl (by kernel_rfl) (by kernel_rfl) (by kernel_rfl) (by kernel_rfl) (fun _ _ _ h => h) hSd (Or.inl ⟨by rfl, ?_⟩) ?_
           rotate_left 1
           (intro w hSw; (try dsimp only at hSw); go_simp; try (with_reducible rfl))
           (try dsimp only [Act.put]); (try simp only [List.setIfInBounds_toArray, List.set_cons_zero, List.set_cons_succ])
           refine wpAnyK_take (i := 7) (v := ?_) rfl (by kernel_rfl) (by kernel_rfl) (by kernel_rfl) (by kernel_rfl) (fun _ _ _ h => h) hSd (Or.inl ⟨by rfl, ?_⟩) ?_
           rotate_left 1
           (intro w hSw; (try dsimp only at hSw); go_simp; try (with_reducible rfl))
           (try dsimp only [Act.put]); (try simp only [List.setIfInBounds_toArray, List.set_cons_zero, List.set_cons_succ])
           refine wpAnyK_take (i := 8) (v := ?_) rfl (by kernel_rfl) (by kernel_rfl) (by kernel_rfl) (by kernel_rfl) (fun _ _ _ h => h) hSd (Or.inl ⟨by rfl, ?_⟩) ?_
           rotate_left 1
           (intro w hSw; (try dsimp only at hSw); go_simp; try (with_reducible rfl))
           (try dsimp only [Act.put]); (try simp only [List.setIfInBounds_toArray, List.set_cons_zero, List.set_cons_succ])
           refine wpAnyK_take (i := 9) (v := ?_) rfl (by kernel_rfl) (by kernel_rfl) (by kernel_rfl) (by kernel_rfl) (fun _ _ _ h => h) hSd (Or.inl ⟨by rfl, ?_⟩) ?_
           rotate_left 1
           (intro w hSw; (try dsimp only at hSw); go_simp; try (with_reducible rfl))
           (try dsimp only [Act.put]); (try simp only [List.setIfInBounds_toArray, List.set_cons_zero, List.set_cons_succ])
           refine wpAnyK_take (i := 10) (v := ?_) rfl (by kernel_rfl) (by kernel_rfl) (by kernel_rfl) (by kernel_rfl) (fun _ _ _ h => h) hSd (Or.inl ⟨by rfl, ?_⟩) ?_
           rotate_left 1
           (intro w hSw; (try dsimp only at hSw); go_simp; try (with_reducible rfl))
           (try dsimp only [Act.put]); (try simp only [List.setIfInBounds_toArray, List.set_cons_zero, List.set_cons_succ])
           refine wpAnyK_take (i := 11) (v := ?_) rfl (by kernel_rfl) (by kernel_rfl) (by kernel_rfl) (by kernel_rfl) (fun _ _ _ h => h) hSd (Or.inl ⟨by rfl, ?_⟩) ?_
           rotate_left 1
           (intro w hSw; (try dsimp only at hSw); go_simp; try (with_reducible rfl))
           (try dsimp only [Act.put]); (try simp only [List.setIfInBounds_toArray, List.set_cons_zero, List.set_cons_succ])
           refine wpAnyK_take (i := 12) (v := ?_) rfl (by kernel_rfl) (by kernel_rfl) (by kernel_rfl) (by kernel_rfl) (fun _ _ _ h => h) hSd (Or.inl ⟨by rfl, ?_⟩) ?_
           rotate_left 1
           (intro w hSw; (try dsimp only at hSw); go_simp; try (with_reducible rfl))
           (try dsimp only [Act.put]); (try simp only [List.setIfInBounds_toArray, List.set_cons_zero, List.set_cons_succ])
           refine wpAnyK_take (i := 13) (v := ?_) rfl (by kernel_rfl) (by kernel_rfl) (by kernel_rfl) (by kernel_rfl) (fun _ _ _ h => h) hSd (Or.inl ⟨by rfl, ?_⟩) ?_
           rotate_left 1
           (intro w hSw; (try dsimp only at hSw); go_simp; try (with_reducible rfl))
           (try dsimp only [Act.put]); (try simp only [List.setIfInBounds_toArray, List.set_cons_zero, List.set_cons_succ])
           refine wpAnyK_take (i := 14) (v := ?_) rfl (by kernel_rfl) (by kernel_rfl) (by kernel_rfl) (by kernel_rfl) (fun _ _ _ h => h) hSd (Or.inl ⟨by rfl, ?_⟩) ?_
           rotate_left 1
           (intro w hSw; (try dsimp only at hSw); go_simp; try (with_reducible rfl))
           (try dsimp only [Act.put]); (try simp only [List.setIfInBounds_toArray, List.set_cons_zero, List.set_cons_succ])
           refine wpAnyK_take (i := 15) (v := ?_) rfl (by kernel_rfl) (by kernel_rfl) (by kernel_rfl) (by kernel_rfl) (fun _ _ _ h => h) hSd (Or.inl ⟨by rfl, ?_⟩) ?_
           rotate_left 1
           (intro w hSw; (try dsimp only at hSw); go_simp; try (with_reducible rfl))
           (try dsimp only [Act.put]); (try simp only [List.setIfInBounds_toArray, List.set_cons_zero, List.set_cons_succ])
           refine wpAnyK_take (i := 16) (v := ?_) rfl (by kernel_rfl) (by kernel_rfl) (by kernel_rfl) (by kernel_rfl) (fun _ _ _ h => h) hSd (Or.inl ⟨by rfl, ?_⟩) ?_
           rotate_left 1
           (intro w hSw; (try dsimp only at hSw); go_simp; try (with_reducible rfl))
           (try dsimp only [Act.put]); (try simp only [List.setIfInBounds_toArray, List.set_cons_zero, List.set_cons_succ])
           refine wpAnyK_take (i := 17) (v := ?_) rfl (by kernel_rfl) (by kernel_rfl) (by kernel_rfl) (by kernel_rfl) (fun _ _ _ h => h) hSd (Or.inl ⟨by rfl, ?_⟩) ?_
           rotate_left 1
           (intro w hSw; (try dsimp only at hSw); go_simp; try (with_reducible rfl))
           (try dsimp only [Act.put]); (try simp only [List.setIfInBounds_toArray, List.set_cons_zero, List.set_cons_succ])
           refine wpAnyK_take (i := 18) (v := ?_) rfl (by kernel_rfl) (by kernel_rfl) (by kernel_rfl) (by kernel_rfl) (fun _ _ _ h => h) hSd (Or.inl ⟨by rfl, ?_⟩) ?_
           rotate_left 1
           (intro w hSw; (try dsimp only at hSw); go_simp; try (with_reducible rfl))
           (try dsimp only [Act.put]); (try simp only [List.setIfInBounds_toArray, List.set_cons_zero, List.set_cons_succ])
           refine wpAnyK_take (i := 19) (v := ?_) rfl (by kernel_rfl) (by kernel_rfl) (by kernel_rfl) (by kernel_rfl) (fun _ _ _ h => h) hSd (Or.inl ⟨by rfl, ?_⟩) ?_
           rotate_left 1
           (intro w hSw; (try dsimp only at hSw); go_simp; try (with_reducible rfl))
           (try dsimp only [Act.put]); (try simp only [List.setIfInBounds_toArray, List.set_cons_zero, List.set_cons_succ])
           refine wpAnyK_take (i := 20) (v := ?_) rfl (by kernel_rfl) (by kernel_rfl) (by kernel_rfl) (by kernel_rfl) (fun _ _ _ h => h) hSd (Or.inl ⟨by rfl, ?_⟩) ?_
           rotate_left 1
           (intro w hSw; (try dsimp only at hSw); go_simp; try (with_reducible rfl))
           (try dsimp only [Act.put]); (try simp only [List.setIfInBounds_toArray, List.set_cons_zero, List.set_cons_succ])
           refine wpAnyK_take (i := 21) (v := ?_) rfl (by kernel_rfl) (by kernel_rfl) (by kernel_rfl) (by kernel_rfl) (fun _ _ _ h => h) hSd (Or.inl ⟨by rfl, ?_⟩) ?_
           rotate_left 1
           (intro w hSw; (try dsimp only at hSw); go_simp; try (with_reducible rfl))
           (try dsimp only [Act.put]); (try simp only [List.setIfInBounds_toArray, List.set_cons_zero, List.set_cons_succ])
           refine wpAnyK_one (i := 22) (by kernel_rfl) rfl (fun K hK => ?_)
           go_simp
           go_at_call 110
           (with_reducible refine HC.out.mono ?_)
           rintro e' wE ⟨v2, rfl, hO2, hbE⟩
           have hbW : Below wj.heap.size wj wE := (below_drew (Below.refl _ _)).trans hbE
           have hszE : wj.heap.size ≤ wE.heap.size := hbE.size
           have hwl : w.heap.size ≤ wj.heap.size := HQj.out.size
           have hSd : (fun W => CcS wr.heap.size (wr.heap.size + 1) (.slice (some kd) dd.f2.length z2) (.slice Av xs.length cv) (kd.add (jj * 5)) (.string ca.f0) (.slice X1 ca.f1.length x1) (.int .i64 ca.f2.f0) (.string ca.f2.f1) (.slice X4 ca.f2.f2.length x4) W) wE := hSd.keep hbE (by show _ < wj.heap.size; omega) (by show _ < wj.heap.size; omega) (by show _ < wj.heap.size; omega)
           obtain ⟨Ax, cx, hvx, hcx, _⟩ := Kd.R_reads hO2
           subst hvx
           have HFK := Aside0.mk (k62_mkF wE (fun k => okF k ∨ wj.heap.size ≤ k) ⟨ca.f0, ca.f1, ⟨ca.f2.f0, nmR s t ca.f2.f0 ca.f2.f1, renL s t ca.f2.f2⟩⟩ HM.out.1 (Kd.F_mono (Kd.F_below HG1.out (HQj.out.trans (hbW.mono hwl))) (fun k hk => .inl hk)) hcx (Kd.R_F (Kd.R_mono (Kd.R_bound hO2) (ok' := fun k => okF k ∨ wj.heap.size ≤ k) (fun k hk => .inr hk.2.1))))
           have HN0 := Aside0.mk (Kd.N_below HN0.out hbE)
           have BKd := Aside0.mk (blk_below BKd.out hbE)
           have HSb := Lib.hid hbW
           have hSdE := hSd
           clear hO2 hbE hbW
           refine hK.out _ _ (fun _ => hSd) ?_
           clear hK
           refine wpAnyK_take (i := 23) (v := ?_) rfl (by kernel_rfl) (by kernel_rfl) (by kernel_rfl) (by kernel_rfl) (fun _ _ _ h => h) hSd (Or.inl ⟨by rfl, ?_⟩) ?_
           rotate_left 1
           (intro w hSw; (try dsimp only at hSw); go_simp; try (with_reducible rfl))
           (try dsimp only [Act.put]); (try simp only [List.setIfInBounds_toArray, List.set_cons_zero, List.set_cons_succ])
           refine wpAnyK_one (i := 24) (by kernel_rfl) rfl (fun K hK => ?_)
           go_simp
           have hSd : (fun W => CcS wr.heap.size (wr.heap.size + 1) (.slice (some kd) dd.f2.length z2) (.slice Av xs.length cv) (kd.add (jj * 5)) (.string ca.f0) (.slice X1 ca.f1.length x1) (.int .i64 ca.f2.f0) (.string ca.f2.f1) (.slice X4 ca.f2.f2.length x4) W) (wE.alloc (.cells #[.string ca.f0, .slice X1 ca.f1.length x1, .int .i64 ca.f2.f0, .string (nmR s t ca.f2.f0 ca.f2.f1), .slice Ax (renL s t ca.f2.f2).length cx] 62)) := hSd.keep (below_alloc1 _ _) (by omega) (by omega) (by omega)
           refine hK.out _ _ (fun _ => hSd) ?_
           clear hK
           refine wpAnyK_one (i := 25) (by kernel_rfl) rfl (fun K hK => ?_)
           refine Kd.N_append_step k62 (w0 := wE) (W := wE) wf.heap.size (by rfl) (.tmp 75) (.tmp 98) 54 62 _ 88 rfl Tryz.underlying54 infoCa rfl (by decide) (by decide) (.slice Av xs.length cv) xs ⟨ca.f0, ca.f1, ⟨ca.f2.f0, nmR s t ca.f2.f0 ca.f2.f1, renL s t ca.f2.f2⟩⟩ [.string ca.f0, .slice X1 ca.f1.length x1, .int .i64 ca.f2.f0, .string (nmR s t ca.f2.f0 ca.f2.f1), .slice Ax (renL s t ca.f2.f2).length cx] (fun k => okF k ∨ wf.heap.size ≤ k) (fun k => okF k ∨ wj.heap.size ≤ k) rfl rfl HFK.out (fun k hk => ?_) (fun k hk => .inr (by omega)) HN0.out (Below.refl _ _) (by omega) (by omega) ?_
           ·rcases hk with hk | hk
            ·exact ⟨.inl hk, fun he => by have := HNbs.out _ he.symm; have := HLow.out k hk; omega⟩
            ·exact ⟨.inr (by omega), fun he => by have := HNlt.out _ he.symm; omega⟩
           intro v9 w9 hN9 hB9 hg9 hat9
           have hgr : ∀ k, (Value.slice Av xs.length cv).ownBlock = some k → wf.heap.size ≤ k := HNbs.out
           rw [← HTc.out] at hN9
           have B9 := Aside0.mk (blk_grown BKd.out hg9 (fun he => by have := hgr _ he.symm; omega))
           have k9 := (blk_cell B9.out 2).trans rfl
           have f9 := blk_frozen B9.out 2
           have hSd : (fun W => CcS wr.heap.size (wr.heap.size + 1) (.slice (some kd) dd.f2.length z2) (.slice Av xs.length cv) (kd.add (jj * 5)) (.string ca.f0) (.slice X1 ca.f1.length x1) (.int .i64 ca.f2.f0) (.string ca.f2.f1) (.slice X4 ca.f2.f2.length x4) W) w9 := hSdE.keep hB9 (by omega) (by omega) (by omega)
           obtain ⟨Az, cz, hvz⟩ := Kd.N_slice hN9
           rw [List.length_map, List.length_take_of_le (show jj + 1 ≤ dd.f2.length by omega)] at hvz
           subst hvz
           have HN9 := Aside0.mk hN9
           have hs9 := hB9.size
           have HF9 := Lib.hid ((HFj.out.after_below HSb.out).grown hg9 (fun k hk => .inr (hgr k hk)))
           clear hN9 hB9 hg9 hat9 hSdE
           refine hK.out _ _ (fun _ => hSd) ?_
           clear hK
           refine wpAnyK_take (i := 26) (v := ?_) rfl (by kernel_rfl) (by kernel_rfl) (by kernel_rfl) (by kernel_rfl) (fun _ _ _ h => h) hSd (Or.inl ⟨by rfl, ?_⟩) ?_
           rotate_left 1
           (intro w hSw; (try dsimp only at hSw); go_simp; try (with_reducible rfl))
           (try dsimp only [Act.put]); (try simp only [List.setIfInBounds_toArray, List.set_cons_zero, List.set_cons_succ])
           refine wpAnyK_one (i := 27) (by kernel_rfl) rfl (fun K hK => ?_)
           go_simp
           refine hK.out _ _ (fun h => absurd rfl h) ?_
           clear hK hSd
           refine wpAnyK_done (by kernel_rfl) ?_ _
           go_wp2_with fail
           go_roundg (dd.f2.length - (jj + 1))
           case measure => omega
           case rel => exact ⟨jj + 1, _, by omega, by omega, by go_num, ⟨Kd.N_far HN9.out (p := ⟨wr.heap.size + 1, 2, none⟩) (fun k hk => by rcases hk with hk | hk; (have := HLow.out k hk; simp only; omega); simp only; omega) _⟩, ⟨HF9.out.setCell (.inl rfl) _⟩, ⟨blk_put B9.out 2 _ rfl⟩⟩
          ·have : jj = dd.f2.length := by omega
           subst this
           rw [List.take_length] at HNj
           have hlC : (dd.f2.map (renC s t)).length = dd.f2.length := List.length_map _
           obtain ⟨Ac, cc, hvc, hcc, _⟩ := Kd.N_reads HNj.out
           subst hvc
           have HFc := Aside0.mk (Kd.N_F HNj.out)
           have HNw := Aside0.mk (Kd.N_mono (Kd.N_bound HN.out) (ok' := fun k => okF k ∨ (W8.heap.size ≤ k ∧ k < wr.heap.size)) (fun k hk => hk.1.imp id (fun h => ⟨h, hk.2⟩)))
           have hkeep : ∀ k, k < wr.heap.size → wj.heap[k]? = wr.heap[k]? := fun k hk => ((HFj.out.block k (by omega) (by omega)).trans (HBf.out.block k (by omega))).trans (Q11.out.block k hk)
           have HNo := Aside0.mk (Kd.N_step HNw.out (fun k hk hkl => hkeep k hkl))
           have HF5 := Aside0.mk (Kd.F_step F5f.out.2 (fun k hk hkl => HFj.out.block k hkl (by rcases hk with hk | hk; (have := HLow.out k hk; omega); omega)))
           have BKo := Aside0.mk ((hkeep _ (blk_lt BK.out)).trans BK.out)
           have hwl : w.heap.size ≤ wj.heap.size := HQj.out.size
           have HFD := Aside0.mk (k59_mkF wj (fun k => okF k ∨ W11.heap.size ≤ k) (⟨nd, dd.f1, dd.f2.map (renC s t), bd⟩ : De) HL.out.1 (Kd.F_mono (Kd.F_below HF1.out HQj.out) (fun k hk => .inl hk)) hcc (Kd.F_mono HFc.out (fun k hk => hk.imp id (fun h => by omega))) F5f.out.1 HF5.out)
           obtain ⟨xs, hxs⟩ : ∃ xs, renP s t (ps.take kk) = xs := ⟨_, rfl⟩
           have hxl : xs.length ≤ 100 := by rw [← hxs, renP, List.length_map, List.length_take]; omega
           have HTd := Lib.hid (show renP s t (ps.take (kk + 1)) = xs ++ [⟨nd, dd.f1, dd.f2.map (renC s t), bd⟩] by rw [HTs.out, hxs, ← HNd0.out, ← HBd0.out]; rfl)
           rw [hxs] at HNo HN
           have HNlt := Lib.hid (Kd.N_lt HN.out)
           have HNbs := Lib.hid (Kd.N_base HN.out)
           obtain ⟨Ao, co, hvo⟩ := Kd.N_slice HNo.out
           subst hvo
           have HNo2 := Aside0.mk (Kd.N_mono HNo.out (ok' := fun k => okF k ∨ W8.heap.size ≤ k) (fun k hk => hk.imp id (fun h => h.1)))
           have HBwj := Aside0.mk (show Below wc.heap.size W8 wj from HB.out.trans (((Q11.out.trans (HBf.out.mono (by omega))).trans ((HFj.out.below (by omega) (fun k hk he => by omega : ∀ k, k < wr.heap.size → ¬ k = wr.heap.size + 1)).mono (Nat.le_refl _))).mono (by omega)))
           have hw8 : W8.heap.size ≤ wj.heap.size := HBwj.out.size
           rw [hlC] at BKj
           have k8 := (blk_cell BKo.out 0).trans rfl
           have d0 := (blk_cell BKj.out 0).trans rfl
           have d1 := (blk_cell BKj.out 1).trans rfl
           have d2 := (blk_cell BKj.out 2).trans rfl
           have d3 := (blk_cell BKj.out 3).trans rfl
           have d4 := (blk_cell BKj.out 4).trans rfl
           have d5 := (blk_cell BKj.out 5).trans rfl
           have HFD2 := Aside0.mk (show Kd.FK k59 wj (fun k => okF k ∨ W11.heap.size ≤ k) (⟨nd, dd.f1, dd.f2.map (renC s t), bd⟩ : De) [.string nd, .slice Z1 dd.f1.length z1, .slice Ac dd.f2.length cc, .int .i64 bd.f0, .string bd.f1, .slice A5 bd.f2.length c5] by have h := HFD.out; simp only [hlC] at h; exact h)
           clear HNj HFc HNw HNo HN hkeep HFD hcc hlC hxs HF5 F5f HQf B10f HFj BKj
           go_wp2_with (at_builtin; go_must (refine Kd.N_append k59 (w0 := wj) (W := wj) W8.heap.size rfl (.tmp 102) (.tmp 104) 22 59 _ 112 rfl Tryz.underlying22 infoDe rfl (by decide) (by decide) (.slice Ao xs.length co) xs ⟨nd, dd.f1, dd.f2.map (renC s t), bd⟩ [.string nd, .slice Z1 dd.f1.length z1, .slice Ac dd.f2.length cc, .int .i64 bd.f0, .string bd.f1, .slice A5 bd.f2.length c5] (fun k => okF k ∨ W8.heap.size ≤ k) (fun k => okF k ∨ W11.heap.size ≤ k) rfl rfl HFD2.out (fun k hk => by rcases hk with hk | hk; (exact ⟨.inl hk, fun he => by have := HNbs.out _ he.symm; have := HLow.out k hk; omega⟩); (exact ⟨.inr (by omega), fun he => by have := HNlt.out _ he.symm; omega⟩)) (fun k hk => .inr (by omega)) HNo2.out (Below.refl _ _) (by omega) (by omega) ?_; intro v9 w9 hN9 hB9 hg9 hat9; have B9 := Aside0.mk (blk_grown BKo.out hg9 (fun he => by have := HNbs.out _ he.symm; omega)); have k9 := (blk_cell B9.out 0).trans rfl; have f9 := blk_frozen B9.out 0; obtain ⟨Az, cz, hvz⟩ := Kd.N_slice hN9; rw [List.length_append] at hvz; subst hvz; rw [← HTd.out] at hN9; have HN9 := Aside0.mk hN9; have HB9 := Aside0.mk (HBwj.out.trans (hB9.mono (by omega))); have hs9 := hB9.size; clear hN9 hB9 hg9 hat9 k8))
           go_roundg (ps.length - (kk + 1))
           case measure => omega
           case rel => exact ⟨kk + 1, _, by omega, by omega, by go_num, ⟨Kd.N_far HN9.out (p := ⟨wc.heap.size, 0, none⟩) (fun k hk => by rcases hk with hk | hk; (have := HLow.out k hk; simp only; omega); simp only; omega) _⟩, ⟨HB9.out.setCell (Nat.le_refl _) _⟩, by simp only [World.setCell, Array.size_modify]; omega, ⟨blk_put B9.out 0 _ rfl⟩⟩
      ·have : kk = ps.length := by omega
       subst this
       rw [List.take_length] at HN
       obtain ⟨xs, hxs⟩ : ∃ xs, renP s t ps = xs := ⟨_, rfl⟩
       have HXs := Lib.hid hxs
       rw [hxs] at HN
       obtain ⟨Ao, co, hvo, hco, _⟩ := Kd.N_reads HN.out
       subst hvo
       have hF := Kd.N_F HN.out
       have HFo := Aside0.mk hF
       have k8 := (blk_cell BK.out 0).trans rfl
       have k6 := (blk_cell BRr.out 0).trans rfl
       have f6 := blk_frozen BRr.out 0
       clear hF hxs HN
       go_wp2
       have b4 := blk_put BRr.out 0 (.slice Ao xs.length co) rfl
       refine bodyPost_ret (results_ct rfl _ _ _ _ _ _ _ rfl b4 Tryz.underlying24 rfl (by kernel_rfl)) rfl ?_
       rw [HX2.out, HXs.out]
       exact ⟨Ao, co, rfl, hco, Kd.F_mono (Kd.F_step HFo.out (fun k hk _ => Below.heap_setCell _ _ _ _ (by rcases hk with hk | hk; (have := HLow.out k hk; simp only; omega); simp only; omega))) (fun k hk => hk.imp id (fun h => by omega)), HQ.out.setCell (by simp only; omega) _⟩
end Go.Proofs.YtacefdkfbpgedaaGreat.Mine
