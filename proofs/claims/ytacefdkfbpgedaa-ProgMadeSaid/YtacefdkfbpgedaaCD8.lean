/- The law's Lists. Printed by lists.py. -/
import Derived.Test.YtacefdkfbpgedaaCD7
import Derived.Test.YtacefdkfbpgedaaCD3
import Derived.Test.YtacefdkfbpgedaaCD4
namespace Go.Proofs.Ytacefdkfbpgedaa.Mine
open Go.Proofs.Ytacefdkfbpgedaa.PProgExprs
open Go.RowKit Go.Shelf Go.Proofs.YtacefdkfbpgedaaW.PrintWords Go.Proofs.YtacefdkfbpgedaaW.PrintLast Go.Proofs.YtacefdkfbpgedaaW.PrintMore
set_option linter.unusedVariables false
set_option linter.unusedSimpArgs false
abbrev lx1 : Ex := ⟨2, (⟨#[97]⟩ : ByteArray), []⟩
abbrev lx2 : Ex := ⟨3, (⟨#[111, 110, 101, 115]⟩ : ByteArray), []⟩
abbrev ll3 : List Ex := [lx1, lx2]
abbrev lx4 : Ex := ⟨2, (⟨#[99, 111, 110, 115]⟩ : ByteArray), ll3⟩
abbrev ll6 : List ByteArray := [(⟨#[120]⟩ : ByteArray)]
abbrev ll7 : List ByteArray := [(⟨#[104]⟩ : ByteArray), (⟨#[116]⟩ : ByteArray)]
abbrev lx8 : Ex := ⟨1, (⟨#[104]⟩ : ByteArray), []⟩
abbrev ll9 : List Ex := [lx8]
abbrev lx10 : Ex := ⟨2, (⟨#[115]⟩ : ByteArray), ll9⟩
abbrev lx11 : Ex := ⟨1, (⟨#[116]⟩ : ByteArray), []⟩
abbrev ll12 : List Ex := [lx11]
abbrev lx13 : Ex := ⟨3, (⟨#[109, 97, 112]⟩ : ByteArray), ll12⟩
abbrev ll14 : List Ex := [lx10, lx13]
abbrev lx15 : Ex := ⟨2, (⟨#[99, 111, 110, 115]⟩ : ByteArray), ll14⟩
abbrev lx17 : Ex := ⟨1, (⟨#[120]⟩ : ByteArray), []⟩
abbrev ll19 : List Ca := [⟨(⟨#[99, 111, 110, 115]⟩ : ByteArray), ll7, lx15⟩, ⟨(⟨#[110, 105, 108]⟩ : ByteArray), [], lx17⟩]
abbrev ll21 : List ByteArray := [(⟨#[120]⟩ : ByteArray), (⟨#[121]⟩ : ByteArray)]
abbrev lx22 : Ex := ⟨1, (⟨#[120]⟩ : ByteArray), []⟩
abbrev ll23 : List Ex := [lx22]
abbrev lx24 : Ex := ⟨3, (⟨#[109, 97, 112]⟩ : ByteArray), ll23⟩
abbrev ll25 : List Ex := [lx24]
abbrev lx26 : Ex := ⟨3, (⟨#[109, 97, 112]⟩ : ByteArray), ll25⟩
abbrev lx27 : Ex := ⟨1, (⟨#[121]⟩ : ByteArray), []⟩
abbrev ll28 : List Ex := [lx26, lx27]
abbrev lx29 : Ex := ⟨2, (⟨#[112]⟩ : ByteArray), ll28⟩
abbrev ll31 : List De := [⟨(⟨#[111, 110, 101, 115]⟩ : ByteArray), [], [], lx4⟩, ⟨(⟨#[109, 97, 112]⟩ : ByteArray), ll6, ll19, ⟨0, ⟨#[]⟩, []⟩⟩, ⟨(⟨#[116, 119, 111]⟩ : ByteArray), ll21, [], lx29⟩]
abbrev listsP : List De := ll31
set_option maxRecDepth 100000 in
set_option maxHeartbeats 4000000 in
theorem c_Lists (w : World) : Calls Try.prog 57 #[] w fun en w' => ∃ A, en = .returned (.agg #[.slice A 3 3]) ∧ Kd.C k58 w' A 3 listsP ∧ Below w.heap.size w w' := by
  have q0 := below_alloc1 w (.cells #[.slice none 0 0] 53)
  have b0 := alloc_at w (.cells #[.slice none 0 0] 53)
  obtain ⟨W, hW⟩ : ∃ W, w.alloc (.cells #[.slice none 0 0] 53) = W := ⟨_, rfl⟩
  rw [hW] at q0 b0
  have HW := Lib.hid hW
  have Q := Aside0.mk q0
  have P := Aside0.mk b0
  clear hW q0 b0
  go_enter Try.func57, Try.ntmps57
  go_wp2_with fail
  rw [HW.out]
  clear HW
  -- 1: M a
  refine (c_M _ _ _ _ _).mono ?_
  rintro en w1 ⟨rfl, hb⟩
  have P := Aside0.mk (blk_below P.out hb)
  have Q := Aside0.mk (Q.out.trans (hb.mono Q.out.size))
  clear hb
  -- 2: C ones
  go_wp2_with fail
  refine (c_C _ _ _ _ _).mono ?_
  rintro en w2 ⟨rfl, hb⟩
  have P := Aside0.mk (blk_below P.out hb)
  have Q := Aside0.mk (Q.out.trans (hb.mono Q.out.size))
  clear hb
  -- 3: a list
  have hlt : w.heap.size < w2.heap.size := by have := lt_of_block P.out; first | exact this | (simpa only [World.size_alloc] using this)
  have hc : Kd.F k24 (w2.alloc (.cells #[.int .i64 2, .string (⟨#[97]⟩ : ByteArray), .slice none 0 0, .int .i64 3, .string (⟨#[111, 110, 101, 115]⟩ : ByteArray), .slice none 0 0] 24)) (fun k => k ≠ w.heap.size) (some ⟨w2.heap.size, 0, none⟩) 2 ll3 := by
    have h := F_lit2 (W := w2) (ok := (fun k => k ≠ w.heap.size)) (by first | (show _ ≠ _; omega) | (show _ ≠ _; simp only [World.size_alloc]; omega)) 24 (k24_mkF _ _ lx1 (Nat.le_refl _) (Kd.F_nil k24 _ _)) rfl (k24_mkF _ _ lx2 (Nat.le_refl _) (Kd.F_nil k24 _ _)) rfl
    try simp only [World.size_alloc] at h
    exact h
  have hb := below_alloc1 w2 (.cells #[.int .i64 2, .string (⟨#[97]⟩ : ByteArray), .slice none 0 0, .int .i64 3, .string (⟨#[111, 110, 101, 115]⟩ : ByteArray), .slice none 0 0] 24)
  have C3 := Aside0.mk hc
  have P := Aside0.mk (blk_below P.out hb)
  have Q := Aside0.mk (Q.out.trans (hb.mono Q.out.size))
  clear hb hc hlt
  -- 4: M cons
  go_wp2_with fail
  refine (c_M _ _ _ _ _).mono ?_
  rintro en w4 ⟨rfl, hb⟩
  have C3 := Aside0.mk (Kd.F_below C3.out hb)
  have P := Aside0.mk (blk_below P.out hb)
  have Q := Aside0.mk (Q.out.trans (hb.mono Q.out.size))
  clear hb
  -- 6: a list
  have hlt : w.heap.size < w4.heap.size := by have := lt_of_block P.out; first | exact this | (simpa only [World.size_alloc] using this)
  have hc : Kd.F Kd.string (w4.alloc (.cells #[.string (⟨#[120]⟩ : ByteArray)] 9)) (fun k => k ≠ w.heap.size) (some ⟨w4.heap.size, 0, none⟩) 1 ll6 := by
    have h := F_lit1 (W := w4) (ok := (fun k => k ≠ w.heap.size)) (by first | (show _ ≠ _; omega) | (show _ ≠ _; simp only [World.size_alloc]; omega)) 9 (show Kd.FK Kd.string _ _ (⟨#[120]⟩ : ByteArray) [.string (⟨#[120]⟩ : ByteArray)] from fun _ _ => rfl) rfl
    try simp only [World.size_alloc] at h
    exact h
  have hb := below_alloc1 w4 (.cells #[.string (⟨#[120]⟩ : ByteArray)] 9)
  have C3 := Aside0.mk (Kd.F_below C3.out hb)
  have C6 := Aside0.mk hc
  have P := Aside0.mk (blk_below P.out hb)
  have Q := Aside0.mk (Q.out.trans (hb.mono Q.out.size))
  clear hb hc hlt
  -- 7: a list
  have hlt : w.heap.size < w4.heap.size + 1 := by have := lt_of_block P.out; first | exact this | (simpa only [World.size_alloc] using this)
  have hc : Kd.F Kd.string ((w4.alloc (.cells #[.string (⟨#[120]⟩ : ByteArray)] 9)).alloc (.cells #[.string (⟨#[104]⟩ : ByteArray), .string (⟨#[116]⟩ : ByteArray)] 9)) (fun k => k ≠ w.heap.size) (some ⟨w4.heap.size + 1, 0, none⟩) 2 ll7 := by
    have h := F_lit2 (W := (w4.alloc (.cells #[.string (⟨#[120]⟩ : ByteArray)] 9))) (ok := (fun k => k ≠ w.heap.size)) (by first | (show _ ≠ _; omega) | (show _ ≠ _; simp only [World.size_alloc]; omega)) 9 (show Kd.FK Kd.string _ _ (⟨#[104]⟩ : ByteArray) [.string (⟨#[104]⟩ : ByteArray)] from fun _ _ => rfl) rfl (show Kd.FK Kd.string _ _ (⟨#[116]⟩ : ByteArray) [.string (⟨#[116]⟩ : ByteArray)] from fun _ _ => rfl) rfl
    try simp only [World.size_alloc] at h
    exact h
  have hb := below_alloc1 (w4.alloc (.cells #[.string (⟨#[120]⟩ : ByteArray)] 9)) (.cells #[.string (⟨#[104]⟩ : ByteArray), .string (⟨#[116]⟩ : ByteArray)] 9)
  have C3 := Aside0.mk (Kd.F_below C3.out hb)
  have C6 := Aside0.mk (Kd.F_below C6.out hb)
  have C7 := Aside0.mk hc
  have P := Aside0.mk (blk_below P.out hb)
  have Q := Aside0.mk (Q.out.trans (hb.mono Q.out.size))
  clear hb hc hlt
  -- 8: V h
  go_wp2_with fail
  refine (c_V _ _).mono ?_
  rintro en w8 ⟨rfl, hb⟩
  simp only [encH, List.length_nil]
  have C3 := Aside0.mk (Kd.F_below C3.out hb)
  have C6 := Aside0.mk (Kd.F_below C6.out hb)
  have C7 := Aside0.mk (Kd.F_below C7.out hb)
  have P := Aside0.mk (blk_below P.out hb)
  have Q := Aside0.mk (Q.out.trans (hb.mono Q.out.size))
  clear hb
  -- 9: a list
  have hlt : w.heap.size < w8.heap.size := by have := lt_of_block P.out; first | exact this | (simpa only [World.size_alloc] using this)
  have hc : Kd.F k24 (w8.alloc (.cells #[.int .i64 1, .string (⟨#[104]⟩ : ByteArray), .slice none 0 0] 24)) (fun k => k ≠ w.heap.size) (some ⟨w8.heap.size, 0, none⟩) 1 ll9 := by
    have h := F_lit1 (W := w8) (ok := (fun k => k ≠ w.heap.size)) (by first | (show _ ≠ _; omega) | (show _ ≠ _; simp only [World.size_alloc]; omega)) 24 (k24_mkF _ _ lx8 (Nat.le_refl _) (Kd.F_nil k24 _ _)) rfl
    try simp only [World.size_alloc] at h
    exact h
  have hb := below_alloc1 w8 (.cells #[.int .i64 1, .string (⟨#[104]⟩ : ByteArray), .slice none 0 0] 24)
  have C3 := Aside0.mk (Kd.F_below C3.out hb)
  have C6 := Aside0.mk (Kd.F_below C6.out hb)
  have C7 := Aside0.mk (Kd.F_below C7.out hb)
  have C9 := Aside0.mk hc
  have P := Aside0.mk (blk_below P.out hb)
  have Q := Aside0.mk (Q.out.trans (hb.mono Q.out.size))
  clear hb hc hlt
  -- 10: M s
  go_wp2_with fail
  refine (c_M _ _ _ _ _).mono ?_
  rintro en w10 ⟨rfl, hb⟩
  have C3 := Aside0.mk (Kd.F_below C3.out hb)
  have C6 := Aside0.mk (Kd.F_below C6.out hb)
  have C7 := Aside0.mk (Kd.F_below C7.out hb)
  have C9 := Aside0.mk (Kd.F_below C9.out hb)
  have P := Aside0.mk (blk_below P.out hb)
  have Q := Aside0.mk (Q.out.trans (hb.mono Q.out.size))
  clear hb
  -- 11: V t
  go_wp2_with fail
  refine (c_V _ _).mono ?_
  rintro en w11 ⟨rfl, hb⟩
  simp only [encH, List.length_nil]
  have C3 := Aside0.mk (Kd.F_below C3.out hb)
  have C6 := Aside0.mk (Kd.F_below C6.out hb)
  have C7 := Aside0.mk (Kd.F_below C7.out hb)
  have C9 := Aside0.mk (Kd.F_below C9.out hb)
  have P := Aside0.mk (blk_below P.out hb)
  have Q := Aside0.mk (Q.out.trans (hb.mono Q.out.size))
  clear hb
  -- 12: a list
  have hlt : w.heap.size < w11.heap.size := by have := lt_of_block P.out; first | exact this | (simpa only [World.size_alloc] using this)
  have hc : Kd.F k24 (w11.alloc (.cells #[.int .i64 1, .string (⟨#[116]⟩ : ByteArray), .slice none 0 0] 24)) (fun k => k ≠ w.heap.size) (some ⟨w11.heap.size, 0, none⟩) 1 ll12 := by
    have h := F_lit1 (W := w11) (ok := (fun k => k ≠ w.heap.size)) (by first | (show _ ≠ _; omega) | (show _ ≠ _; simp only [World.size_alloc]; omega)) 24 (k24_mkF _ _ lx11 (Nat.le_refl _) (Kd.F_nil k24 _ _)) rfl
    try simp only [World.size_alloc] at h
    exact h
  have hb := below_alloc1 w11 (.cells #[.int .i64 1, .string (⟨#[116]⟩ : ByteArray), .slice none 0 0] 24)
  have C3 := Aside0.mk (Kd.F_below C3.out hb)
  have C6 := Aside0.mk (Kd.F_below C6.out hb)
  have C7 := Aside0.mk (Kd.F_below C7.out hb)
  have C9 := Aside0.mk (Kd.F_below C9.out hb)
  have C12 := Aside0.mk hc
  have P := Aside0.mk (blk_below P.out hb)
  have Q := Aside0.mk (Q.out.trans (hb.mono Q.out.size))
  clear hb hc hlt
  -- 13: C map
  go_wp2_with fail
  refine (c_C _ _ _ _ _).mono ?_
  rintro en w13 ⟨rfl, hb⟩
  have C3 := Aside0.mk (Kd.F_below C3.out hb)
  have C6 := Aside0.mk (Kd.F_below C6.out hb)
  have C7 := Aside0.mk (Kd.F_below C7.out hb)
  have C9 := Aside0.mk (Kd.F_below C9.out hb)
  have C12 := Aside0.mk (Kd.F_below C12.out hb)
  have P := Aside0.mk (blk_below P.out hb)
  have Q := Aside0.mk (Q.out.trans (hb.mono Q.out.size))
  clear hb
  -- 14: a list
  have hlt : w.heap.size < w13.heap.size := by have := lt_of_block P.out; first | exact this | (simpa only [World.size_alloc] using this)
  have hc : Kd.F k24 (w13.alloc (.cells #[.int .i64 2, .string (⟨#[115]⟩ : ByteArray), .slice (some ⟨w8.heap.size, 0, none⟩) 1 1, .int .i64 3, .string (⟨#[109, 97, 112]⟩ : ByteArray), .slice (some ⟨w11.heap.size, 0, none⟩) 1 1] 24)) (fun k => k ≠ w.heap.size) (some ⟨w13.heap.size, 0, none⟩) 2 ll14 := by
    have h := F_lit2 (W := w13) (ok := (fun k => k ≠ w.heap.size)) (by first | (show _ ≠ _; omega) | (show _ ≠ _; simp only [World.size_alloc]; omega)) 24 (k24_mkF _ _ lx10 (Nat.le_refl _) C9.out) rfl (k24_mkF _ _ lx13 (Nat.le_refl _) C12.out) rfl
    try simp only [World.size_alloc] at h
    exact h
  have hb := below_alloc1 w13 (.cells #[.int .i64 2, .string (⟨#[115]⟩ : ByteArray), .slice (some ⟨w8.heap.size, 0, none⟩) 1 1, .int .i64 3, .string (⟨#[109, 97, 112]⟩ : ByteArray), .slice (some ⟨w11.heap.size, 0, none⟩) 1 1] 24)
  have C3 := Aside0.mk (Kd.F_below C3.out hb)
  have C6 := Aside0.mk (Kd.F_below C6.out hb)
  have C7 := Aside0.mk (Kd.F_below C7.out hb)
  clear C9
  clear C12
  have C14 := Aside0.mk hc
  have P := Aside0.mk (blk_below P.out hb)
  have Q := Aside0.mk (Q.out.trans (hb.mono Q.out.size))
  clear hb hc hlt
  -- 15: M cons
  go_wp2_with fail
  refine (c_M _ _ _ _ _).mono ?_
  rintro en w15 ⟨rfl, hb⟩
  have C3 := Aside0.mk (Kd.F_below C3.out hb)
  have C6 := Aside0.mk (Kd.F_below C6.out hb)
  have C7 := Aside0.mk (Kd.F_below C7.out hb)
  have C14 := Aside0.mk (Kd.F_below C14.out hb)
  have P := Aside0.mk (blk_below P.out hb)
  have Q := Aside0.mk (Q.out.trans (hb.mono Q.out.size))
  clear hb
  -- 17: V x
  go_wp2_with fail
  refine (c_V _ _).mono ?_
  rintro en w17 ⟨rfl, hb⟩
  simp only [encH, List.length_nil]
  have C3 := Aside0.mk (Kd.F_below C3.out hb)
  have C6 := Aside0.mk (Kd.F_below C6.out hb)
  have C7 := Aside0.mk (Kd.F_below C7.out hb)
  have C14 := Aside0.mk (Kd.F_below C14.out hb)
  have P := Aside0.mk (blk_below P.out hb)
  have Q := Aside0.mk (Q.out.trans (hb.mono Q.out.size))
  clear hb
  -- 19: a list
  have hlt : w.heap.size < w17.heap.size := by have := lt_of_block P.out; first | exact this | (simpa only [World.size_alloc] using this)
  have hc : Kd.F k99 (w17.alloc (.cells #[.string (⟨#[99, 111, 110, 115]⟩ : ByteArray), .slice (some ⟨w4.heap.size + 1, 0, none⟩) 2 2, .int .i64 2, .string (⟨#[99, 111, 110, 115]⟩ : ByteArray), .slice (some ⟨w13.heap.size, 0, none⟩) 2 2, .string (⟨#[110, 105, 108]⟩ : ByteArray), .slice none 0 0, .int .i64 1, .string (⟨#[120]⟩ : ByteArray), .slice none 0 0] 99)) (fun k => k ≠ w.heap.size) (some ⟨w17.heap.size, 0, none⟩) 2 ll19 := by
    have h := F_lit2 (W := w17) (ok := (fun k => k ≠ w.heap.size)) (by first | (show _ ≠ _; omega) | (show _ ≠ _; simp only [World.size_alloc]; omega)) 99 (k99_mkF _ _ (⟨(⟨#[99, 111, 110, 115]⟩ : ByteArray), ll7, lx15⟩ : Ca) (Nat.le_refl _) C7.out (Nat.le_refl _) C14.out) rfl (k99_mkF _ _ (⟨(⟨#[110, 105, 108]⟩ : ByteArray), [], lx17⟩ : Ca) (Nat.le_refl _) (Kd.F_nil Kd.string _ _) (Nat.le_refl _) (Kd.F_nil k24 _ _)) rfl
    try simp only [World.size_alloc] at h
    exact h
  have hb := below_alloc1 w17 (.cells #[.string (⟨#[99, 111, 110, 115]⟩ : ByteArray), .slice (some ⟨w4.heap.size + 1, 0, none⟩) 2 2, .int .i64 2, .string (⟨#[99, 111, 110, 115]⟩ : ByteArray), .slice (some ⟨w13.heap.size, 0, none⟩) 2 2, .string (⟨#[110, 105, 108]⟩ : ByteArray), .slice none 0 0, .int .i64 1, .string (⟨#[120]⟩ : ByteArray), .slice none 0 0] 99)
  have C3 := Aside0.mk (Kd.F_below C3.out hb)
  have C6 := Aside0.mk (Kd.F_below C6.out hb)
  clear C7
  clear C14
  have C19 := Aside0.mk hc
  have P := Aside0.mk (blk_below P.out hb)
  have Q := Aside0.mk (Q.out.trans (hb.mono Q.out.size))
  clear hb hc hlt
  -- 21: a list
  have hlt : w.heap.size < w17.heap.size + 1 := by have := lt_of_block P.out; first | exact this | (simpa only [World.size_alloc] using this)
  have hc : Kd.F Kd.string ((w17.alloc (.cells #[.string (⟨#[99, 111, 110, 115]⟩ : ByteArray), .slice (some ⟨w4.heap.size + 1, 0, none⟩) 2 2, .int .i64 2, .string (⟨#[99, 111, 110, 115]⟩ : ByteArray), .slice (some ⟨w13.heap.size, 0, none⟩) 2 2, .string (⟨#[110, 105, 108]⟩ : ByteArray), .slice none 0 0, .int .i64 1, .string (⟨#[120]⟩ : ByteArray), .slice none 0 0] 99)).alloc (.cells #[.string (⟨#[120]⟩ : ByteArray), .string (⟨#[121]⟩ : ByteArray)] 9)) (fun k => k ≠ w.heap.size) (some ⟨w17.heap.size + 1, 0, none⟩) 2 ll21 := by
    have h := F_lit2 (W := (w17.alloc (.cells #[.string (⟨#[99, 111, 110, 115]⟩ : ByteArray), .slice (some ⟨w4.heap.size + 1, 0, none⟩) 2 2, .int .i64 2, .string (⟨#[99, 111, 110, 115]⟩ : ByteArray), .slice (some ⟨w13.heap.size, 0, none⟩) 2 2, .string (⟨#[110, 105, 108]⟩ : ByteArray), .slice none 0 0, .int .i64 1, .string (⟨#[120]⟩ : ByteArray), .slice none 0 0] 99))) (ok := (fun k => k ≠ w.heap.size)) (by first | (show _ ≠ _; omega) | (show _ ≠ _; simp only [World.size_alloc]; omega)) 9 (show Kd.FK Kd.string _ _ (⟨#[120]⟩ : ByteArray) [.string (⟨#[120]⟩ : ByteArray)] from fun _ _ => rfl) rfl (show Kd.FK Kd.string _ _ (⟨#[121]⟩ : ByteArray) [.string (⟨#[121]⟩ : ByteArray)] from fun _ _ => rfl) rfl
    try simp only [World.size_alloc] at h
    exact h
  have hb := below_alloc1 (w17.alloc (.cells #[.string (⟨#[99, 111, 110, 115]⟩ : ByteArray), .slice (some ⟨w4.heap.size + 1, 0, none⟩) 2 2, .int .i64 2, .string (⟨#[99, 111, 110, 115]⟩ : ByteArray), .slice (some ⟨w13.heap.size, 0, none⟩) 2 2, .string (⟨#[110, 105, 108]⟩ : ByteArray), .slice none 0 0, .int .i64 1, .string (⟨#[120]⟩ : ByteArray), .slice none 0 0] 99)) (.cells #[.string (⟨#[120]⟩ : ByteArray), .string (⟨#[121]⟩ : ByteArray)] 9)
  have C3 := Aside0.mk (Kd.F_below C3.out hb)
  have C6 := Aside0.mk (Kd.F_below C6.out hb)
  have C19 := Aside0.mk (Kd.F_below C19.out hb)
  have C21 := Aside0.mk hc
  have P := Aside0.mk (blk_below P.out hb)
  have Q := Aside0.mk (Q.out.trans (hb.mono Q.out.size))
  clear hb hc hlt
  -- 22: V x
  go_wp2_with fail
  refine (c_V _ _).mono ?_
  rintro en w22 ⟨rfl, hb⟩
  simp only [encH, List.length_nil]
  have C3 := Aside0.mk (Kd.F_below C3.out hb)
  have C6 := Aside0.mk (Kd.F_below C6.out hb)
  have C19 := Aside0.mk (Kd.F_below C19.out hb)
  have C21 := Aside0.mk (Kd.F_below C21.out hb)
  have P := Aside0.mk (blk_below P.out hb)
  have Q := Aside0.mk (Q.out.trans (hb.mono Q.out.size))
  clear hb
  -- 23: a list
  have hlt : w.heap.size < w22.heap.size := by have := lt_of_block P.out; first | exact this | (simpa only [World.size_alloc] using this)
  have hc : Kd.F k24 (w22.alloc (.cells #[.int .i64 1, .string (⟨#[120]⟩ : ByteArray), .slice none 0 0] 24)) (fun k => k ≠ w.heap.size) (some ⟨w22.heap.size, 0, none⟩) 1 ll23 := by
    have h := F_lit1 (W := w22) (ok := (fun k => k ≠ w.heap.size)) (by first | (show _ ≠ _; omega) | (show _ ≠ _; simp only [World.size_alloc]; omega)) 24 (k24_mkF _ _ lx22 (Nat.le_refl _) (Kd.F_nil k24 _ _)) rfl
    try simp only [World.size_alloc] at h
    exact h
  have hb := below_alloc1 w22 (.cells #[.int .i64 1, .string (⟨#[120]⟩ : ByteArray), .slice none 0 0] 24)
  have C3 := Aside0.mk (Kd.F_below C3.out hb)
  have C6 := Aside0.mk (Kd.F_below C6.out hb)
  have C19 := Aside0.mk (Kd.F_below C19.out hb)
  have C21 := Aside0.mk (Kd.F_below C21.out hb)
  have C23 := Aside0.mk hc
  have P := Aside0.mk (blk_below P.out hb)
  have Q := Aside0.mk (Q.out.trans (hb.mono Q.out.size))
  clear hb hc hlt
  -- 24: C map
  go_wp2_with fail
  refine (c_C _ _ _ _ _).mono ?_
  rintro en w24 ⟨rfl, hb⟩
  have C3 := Aside0.mk (Kd.F_below C3.out hb)
  have C6 := Aside0.mk (Kd.F_below C6.out hb)
  have C19 := Aside0.mk (Kd.F_below C19.out hb)
  have C21 := Aside0.mk (Kd.F_below C21.out hb)
  have C23 := Aside0.mk (Kd.F_below C23.out hb)
  have P := Aside0.mk (blk_below P.out hb)
  have Q := Aside0.mk (Q.out.trans (hb.mono Q.out.size))
  clear hb
  -- 25: a list
  have hlt : w.heap.size < w24.heap.size := by have := lt_of_block P.out; first | exact this | (simpa only [World.size_alloc] using this)
  have hc : Kd.F k24 (w24.alloc (.cells #[.int .i64 3, .string (⟨#[109, 97, 112]⟩ : ByteArray), .slice (some ⟨w22.heap.size, 0, none⟩) 1 1] 24)) (fun k => k ≠ w.heap.size) (some ⟨w24.heap.size, 0, none⟩) 1 ll25 := by
    have h := F_lit1 (W := w24) (ok := (fun k => k ≠ w.heap.size)) (by first | (show _ ≠ _; omega) | (show _ ≠ _; simp only [World.size_alloc]; omega)) 24 (k24_mkF _ _ lx24 (Nat.le_refl _) C23.out) rfl
    try simp only [World.size_alloc] at h
    exact h
  have hb := below_alloc1 w24 (.cells #[.int .i64 3, .string (⟨#[109, 97, 112]⟩ : ByteArray), .slice (some ⟨w22.heap.size, 0, none⟩) 1 1] 24)
  have C3 := Aside0.mk (Kd.F_below C3.out hb)
  have C6 := Aside0.mk (Kd.F_below C6.out hb)
  have C19 := Aside0.mk (Kd.F_below C19.out hb)
  have C21 := Aside0.mk (Kd.F_below C21.out hb)
  clear C23
  have C25 := Aside0.mk hc
  have P := Aside0.mk (blk_below P.out hb)
  have Q := Aside0.mk (Q.out.trans (hb.mono Q.out.size))
  clear hb hc hlt
  -- 26: C map
  go_wp2_with fail
  refine (c_C _ _ _ _ _).mono ?_
  rintro en w26 ⟨rfl, hb⟩
  have C3 := Aside0.mk (Kd.F_below C3.out hb)
  have C6 := Aside0.mk (Kd.F_below C6.out hb)
  have C19 := Aside0.mk (Kd.F_below C19.out hb)
  have C21 := Aside0.mk (Kd.F_below C21.out hb)
  have C25 := Aside0.mk (Kd.F_below C25.out hb)
  have P := Aside0.mk (blk_below P.out hb)
  have Q := Aside0.mk (Q.out.trans (hb.mono Q.out.size))
  clear hb
  -- 27: V y
  go_wp2_with fail
  refine (c_V _ _).mono ?_
  rintro en w27 ⟨rfl, hb⟩
  simp only [encH, List.length_nil]
  have C3 := Aside0.mk (Kd.F_below C3.out hb)
  have C6 := Aside0.mk (Kd.F_below C6.out hb)
  have C19 := Aside0.mk (Kd.F_below C19.out hb)
  have C21 := Aside0.mk (Kd.F_below C21.out hb)
  have C25 := Aside0.mk (Kd.F_below C25.out hb)
  have P := Aside0.mk (blk_below P.out hb)
  have Q := Aside0.mk (Q.out.trans (hb.mono Q.out.size))
  clear hb
  -- 28: a list
  have hlt : w.heap.size < w27.heap.size := by have := lt_of_block P.out; first | exact this | (simpa only [World.size_alloc] using this)
  have hc : Kd.F k24 (w27.alloc (.cells #[.int .i64 3, .string (⟨#[109, 97, 112]⟩ : ByteArray), .slice (some ⟨w24.heap.size, 0, none⟩) 1 1, .int .i64 1, .string (⟨#[121]⟩ : ByteArray), .slice none 0 0] 24)) (fun k => k ≠ w.heap.size) (some ⟨w27.heap.size, 0, none⟩) 2 ll28 := by
    have h := F_lit2 (W := w27) (ok := (fun k => k ≠ w.heap.size)) (by first | (show _ ≠ _; omega) | (show _ ≠ _; simp only [World.size_alloc]; omega)) 24 (k24_mkF _ _ lx26 (Nat.le_refl _) C25.out) rfl (k24_mkF _ _ lx27 (Nat.le_refl _) (Kd.F_nil k24 _ _)) rfl
    try simp only [World.size_alloc] at h
    exact h
  have hb := below_alloc1 w27 (.cells #[.int .i64 3, .string (⟨#[109, 97, 112]⟩ : ByteArray), .slice (some ⟨w24.heap.size, 0, none⟩) 1 1, .int .i64 1, .string (⟨#[121]⟩ : ByteArray), .slice none 0 0] 24)
  have C3 := Aside0.mk (Kd.F_below C3.out hb)
  have C6 := Aside0.mk (Kd.F_below C6.out hb)
  have C19 := Aside0.mk (Kd.F_below C19.out hb)
  have C21 := Aside0.mk (Kd.F_below C21.out hb)
  clear C25
  have C28 := Aside0.mk hc
  have P := Aside0.mk (blk_below P.out hb)
  have Q := Aside0.mk (Q.out.trans (hb.mono Q.out.size))
  clear hb hc hlt
  -- 29: M p
  go_wp2_with fail
  refine (c_M _ _ _ _ _).mono ?_
  rintro en w29 ⟨rfl, hb⟩
  have C3 := Aside0.mk (Kd.F_below C3.out hb)
  have C6 := Aside0.mk (Kd.F_below C6.out hb)
  have C19 := Aside0.mk (Kd.F_below C19.out hb)
  have C21 := Aside0.mk (Kd.F_below C21.out hb)
  have C28 := Aside0.mk (Kd.F_below C28.out hb)
  have P := Aside0.mk (blk_below P.out hb)
  have P29 := P
  have Q := Aside0.mk (Q.out.trans (hb.mono Q.out.size))
  clear hb
  have kP := (blk_cell P.out 0).trans rfl
  have fP := blk_frozen P.out 0
  have hlt := lt_of_block P.out
  have hlt0 := hlt
  obtain ⟨X, hX⟩ : ∃ X, w29.setCell ⟨w.heap.size, 0, none⟩ (.slice (some ⟨w29.heap.size, 0, none⟩) 3 3) = X := ⟨_, rfl⟩
  have hXs : X.heap.size = w29.heap.size := by rw [← hX]; simp [World.setCell]
  have P := Aside0.mk (show X.heap[w.heap.size]? = some (.cells #[.slice (some ⟨w29.heap.size, 0, none⟩) 3 3] 53 (0, 0)) by rw [← hX]; exact blk_put P.out 0 _ rfl)
  have Q := Aside0.mk (show Below w.heap.size w X by rw [← hX]; exact Q.out.setCell (Nat.le_refl _) _)
  have C3 := Aside0.mk (Kd.F_far C3.out (p := ⟨w.heap.size, 0, none⟩) (fun k hk => hk) (.slice (some ⟨w29.heap.size, 0, none⟩) 3 3))
  rw [hX] at C3
  have C6 := Aside0.mk (Kd.F_far C6.out (p := ⟨w.heap.size, 0, none⟩) (fun k hk => hk) (.slice (some ⟨w29.heap.size, 0, none⟩) 3 3))
  rw [hX] at C6
  have C19 := Aside0.mk (Kd.F_far C19.out (p := ⟨w.heap.size, 0, none⟩) (fun k hk => hk) (.slice (some ⟨w29.heap.size, 0, none⟩) 3 3))
  rw [hX] at C19
  have C21 := Aside0.mk (Kd.F_far C21.out (p := ⟨w.heap.size, 0, none⟩) (fun k hk => hk) (.slice (some ⟨w29.heap.size, 0, none⟩) 3 3))
  rw [hX] at C21
  have C28 := Aside0.mk (Kd.F_far C28.out (p := ⟨w.heap.size, 0, none⟩) (fun k hk => hk) (.slice (some ⟨w29.heap.size, 0, none⟩) 3 3))
  rw [hX] at C28
  -- 31: a list
  have hlt : w.heap.size < X.heap.size := by have := lt_of_block P.out; first | exact this | (simpa only [World.size_alloc] using this)
  have hc : Kd.F k58 (X.alloc (.cells #[.string (⟨#[111, 110, 101, 115]⟩ : ByteArray), .slice none 0 0, .slice none 0 0, .int .i64 2, .string (⟨#[99, 111, 110, 115]⟩ : ByteArray), .slice (some ⟨w2.heap.size, 0, none⟩) 2 2, .string (⟨#[109, 97, 112]⟩ : ByteArray), .slice (some ⟨w4.heap.size, 0, none⟩) 1 1, .slice (some ⟨w17.heap.size, 0, none⟩) 2 2, .int .i64 0, .string (⟨#[]⟩ : ByteArray), .slice none 0 0, .string (⟨#[116, 119, 111]⟩ : ByteArray), .slice (some ⟨w17.heap.size + 1, 0, none⟩) 2 2, .slice none 0 0, .int .i64 2, .string (⟨#[112]⟩ : ByteArray), .slice (some ⟨w27.heap.size, 0, none⟩) 2 2] 58)) (fun k => k ≠ w.heap.size) (some ⟨X.heap.size, 0, none⟩) 3 ll31 := by
    have h := F_lit3 (W := X) (ok := (fun k => k ≠ w.heap.size)) (by first | (show _ ≠ _; omega) | (show _ ≠ _; simp only [World.size_alloc]; omega)) 58 (k58_mkF _ _ (⟨(⟨#[111, 110, 101, 115]⟩ : ByteArray), [], [], lx4⟩ : De) (Nat.le_refl _) (Kd.F_nil Kd.string _ _) (Nat.le_refl _) (Kd.F_nil k99 _ _) (Nat.le_refl _) C3.out) rfl (k58_mkF _ _ (⟨(⟨#[109, 97, 112]⟩ : ByteArray), ll6, ll19, ⟨0, ⟨#[]⟩, []⟩⟩ : De) (Nat.le_refl _) C6.out (Nat.le_refl _) C19.out (Nat.le_refl _) (Kd.F_nil k24 _ _)) rfl (k58_mkF _ _ (⟨(⟨#[116, 119, 111]⟩ : ByteArray), ll21, [], lx29⟩ : De) (Nat.le_refl _) C21.out (Nat.le_refl _) (Kd.F_nil k99 _ _) (Nat.le_refl _) C28.out) rfl
    try simp only [World.size_alloc] at h
    exact h
  have hb := below_alloc1 X (.cells #[.string (⟨#[111, 110, 101, 115]⟩ : ByteArray), .slice none 0 0, .slice none 0 0, .int .i64 2, .string (⟨#[99, 111, 110, 115]⟩ : ByteArray), .slice (some ⟨w2.heap.size, 0, none⟩) 2 2, .string (⟨#[109, 97, 112]⟩ : ByteArray), .slice (some ⟨w4.heap.size, 0, none⟩) 1 1, .slice (some ⟨w17.heap.size, 0, none⟩) 2 2, .int .i64 0, .string (⟨#[]⟩ : ByteArray), .slice none 0 0, .string (⟨#[116, 119, 111]⟩ : ByteArray), .slice (some ⟨w17.heap.size + 1, 0, none⟩) 2 2, .slice none 0 0, .int .i64 2, .string (⟨#[112]⟩ : ByteArray), .slice (some ⟨w27.heap.size, 0, none⟩) 2 2] 58)
  clear C3
  clear C6
  clear C19
  clear C21
  clear C28
  have C31 := Aside0.mk hc
  have P := Aside0.mk (blk_below P.out hb)
  have Q := Aside0.mk (Q.out.trans (hb.mono Q.out.size))
  clear hb hc hlt
  have HX := Lib.hid hX
  have HXs := Lib.hid hXs
  clear hX hXs
  go_wp2_with fail
  rw [HX.out]
  rw [HXs.out] at C31
  refine bodyPost_ret (results_cell_row rfl _ _ w.heap.size 53 #[.slice (some ⟨w29.heap.size, 0, none⟩) 3 3] (0, 0) _ rfl P.out Try.underlying53 rfl (by kernel_rfl)) rfl ?_
  exact ⟨_, rfl, Kd.F_now C31.out, Q.out⟩
end Go.Proofs.Ytacefdkfbpgedaa.Mine
namespace Go.Proofs.Ytacefdkfbpgedaa.Mine
open Go.Proofs.Ytacefdkfbpgedaa.PProgExprs
open Go.RowKit Go.Shelf Go.Proofs.YtacefdkfbpgedaaW.PrintWords Go.Proofs.YtacefdkfbpgedaaW.PrintLast Go.Proofs.YtacefdkfbpgedaaW.PrintMore
set_option linter.unusedVariables false
set_option linter.unusedSimpArgs false
set_option maxRecDepth 100000
abbrev tOnes : ByteArray := ⟨#[111, 110, 101, 115]⟩
abbrev tTwo : ByteArray := ⟨#[116, 119, 111]⟩
abbrev tMap : ByteArray := ⟨#[109, 97, 112]⟩
abbrev tX : ByteArray := ⟨#[120]⟩
abbrev tP : ByteArray := ⟨#[112]⟩
abbrev tA : ByteArray := ⟨#[97]⟩
abbrev xX : Ex := ⟨1, tX, []⟩
abbrev xA : Ex := ⟨2, tA, []⟩
theorem lists_check : checkP listsP = 0 := by kernel_rfl
theorem lists_calls : callsP listsP tOnes = [tOnes] := by kernel_rfl
theorem lists_find : (findP listsP tOnes).2 = 0 := by kernel_rfl
theorem lists_find2 : (findP listsP tTwo).2 = 0 := by kernel_rfl
theorem lists_reach : reachE listsP tTwo = [tTwo, tMap] := by kernel_rfl
theorem lists_simple : simpleP listsP = false := by kernel_rfl
theorem lists_size : szE lx4 = 3 := by kernel_rfl
theorem lists_subst : subP [tX] [xA] ⟨2, tP, [xX, xX]⟩ = (⟨2, tP, [xA, xA]⟩, 0) := by kernel_rfl
theorem okD_of {d : De} (h : (decide (d.f1.length ≤ 100000) && decide (d.f2.length ≤ 100000) && (d.f2.all fun c => decide (c.f1.length ≤ 100000)) && ((bodiesD d).all fun b => decide (szE b < 1000000)) && (d.f1.all fun s => decide (s.size ≤ nmLim)) && (d.f2.all fun c => decide (c.f0.size ≤ nmLim)) && (d.f2.all fun c => c.f1.all fun s => decide (s.size ≤ nmLim))) = true) : OkD d := by
  simp only [Bool.and_eq_true, List.all_eq_true, decide_eq_true_eq] at h
  obtain ⟨⟨⟨⟨⟨⟨h1, h2⟩, h3⟩, h4⟩, h5⟩, h6⟩, h7⟩ := h
  exact ⟨h1, h2, h3, h4, h5, h6, h7⟩
theorem lists_ok : OkP listsP := by
  refine ⟨by decide, fun d hd => okD_of ?_, fun d hd => ?_, fun d hd => ?_⟩
  · have h : (listsP.all fun d => (decide (d.f1.length ≤ 100000) && decide (d.f2.length ≤ 100000) && (d.f2.all fun c => decide (c.f1.length ≤ 100000)) && ((bodiesD d).all fun b => decide (szE b < 1000000)) && (d.f1.all fun s => decide (s.size ≤ nmLim)) && (d.f2.all fun c => decide (c.f0.size ≤ nmLim)) && (d.f2.all fun c => c.f1.all fun s => decide (s.size ≤ nmLim)))) = true := by kernel_rfl
    exact List.all_eq_true.1 h d hd
  · have h : (listsP.all fun d => decide (d.f0.size ≤ nmLim)) = true := by kernel_rfl
    exact of_decide_eq_true (List.all_eq_true.1 h d hd)
  · have h : (listsP.all fun d => decide (szL (bodiesD d) < 1000000)) = true := by kernel_rfl
    exact of_decide_eq_true (List.all_eq_true.1 h d hd)
abbrev AwS (W0 : World) (Bp : Nat) (ad : Addr) (Bx : Nat) (Az : Option Addr) (cz : Nat) (Z5 : Option Addr) (z5 : Nat) (W : World) : Prop :=
  Below W0.heap.size W0 W ∧ W.cell? ⟨Bp, 0, none⟩ = some (.slice (some ad) 3 3) ∧ W.cell? ⟨Bx, 0, none⟩ = some (.int .i64 2) ∧ W.cell? ⟨Bx, 1, none⟩ = some (.string tP) ∧ W.cell? ⟨Bx, 2, none⟩ = some (.slice Az 2 cz) ∧
  W.cell? ⟨ad.block, ad.off + 3, none⟩ = some (.int .i64 2) ∧ W.cell? ⟨ad.block, ad.off + 4, none⟩ = some (.string ⟨#[99, 111, 110, 115]⟩) ∧ W.cell? ⟨ad.block, ad.off + 5, none⟩ = some (.slice Z5 2 z5)
theorem AwS.step {W0 : World} {Bp : Nat} {ad : Addr} {Bx : Nat} {Az : Option Addr} {cz : Nat} {Z5 : Option Addr} {z5 : Nat} {W W' : World} (h : AwS W0 Bp ad Bx Az cz Z5 z5 W) (hb : Below W.heap.size W W') : AwS W0 Bp ad Bx Az cz Z5 z5 W' := by
  obtain ⟨h0, h1, h2, h3, h4, h5, h6, h7⟩ := h
  exact ⟨h0.trans (hb.mono h0.size), pw_cell_below hb h1, pw_cell_below hb h2, pw_cell_below hb h3, pw_cell_below hb h4, pw_cell_below hb h5, pw_cell_below hb h6, pw_cell_below hb h7⟩
set_option maxHeartbeats 4000000 in
theorem c_awake (w : World) : Calls Try.prog 11 #[] w fun en w' => en = .returned (.bool true) ∧ Below w.heap.size w w' := by
  go_enter Try.func11, Try.ntmps11
  go_wp2_with fail
  refine (c_Lists _).mono ?_
  rintro en w1 ⟨A, rfl, hC, hb1⟩
  obtain ⟨ad, g0, g1, g2, g3, g4, g5, rfl, _, _⟩ := gett6 (xs := listsP) rfl hC 0 (by decide)
  have C := Aside0.mk (Kd.C_below hC (below_alloc1 w1 (.cells #[.slice (some ad) 3 3] 53)))
  have P := Aside0.mk (alloc_at w1 (.cells #[.slice (some ad) 3 3] 53))
  have Q := Aside0.mk (hb1.trans ((below_alloc1 w1 (.cells #[.slice (some ad) 3 3] 53)).mono hb1.size))
  clear hC hb1
  obtain ⟨W2, hW2⟩ : ∃ W2, w1.alloc (.cells #[.slice (some ad) 3 3] 53) = W2 := ⟨_, rfl⟩
  rw [hW2] at C P Q
  have HW2 := Lib.hid hW2
  have kP := (blk_cell P.out 0).trans rfl
  rw [← hW2] at kP
  clear hW2
  have HC := Lib.hid (c_Calls listsP (some ad) 3 tOnes W2 C.out (by decide) lists_ok)
  rw [lists_find, lists_calls] at HC
  go_wp2_with fail
  rw [HW2.out]
  clear kP
  refine HC.out.mono ?_
  rintro en w3 ⟨v, rfl, ho, hb⟩
  obtain ⟨Al, cl, rfl⟩ := own_slice ho
  obtain ⟨_, _, he, hcl, hCl⟩ := OwnS.reads ho
  cases he
  have L := Aside0.mk hCl
  have P := Aside0.mk (blk_below P.out hb)
  have C := Aside0.mk (Kd.C_below C.out hb)
  have Q := Aside0.mk (Q.out.trans (hb.mono Q.out.size))
  clear hb ho hCl HC
  have HC := Lib.hid (c_Simple listsP (some ad) 3 w3 C.out (by decide) lists_ok)
  rw [lists_simple, lists_check] at HC
  have kP := (blk_cell P.out 0).trans rfl
  go_wp2_with fail
  clear kP
  refine HC.out.mono ?_
  rintro en w4 ⟨rfl, hb⟩
  have L := Aside0.mk (Kd.C_below L.out hb)
  have P := Aside0.mk (blk_below P.out hb)
  have C := Aside0.mk (Kd.C_below C.out hb)
  have Q := Aside0.mk (Q.out.trans (hb.mono Q.out.size))
  clear hb HC
  have HC := Lib.hid (c_Reach listsP (some ad) 3 tTwo w4 C.out (by decide) lists_ok)
  rw [lists_find2, lists_reach] at HC
  have kP := (blk_cell P.out 0).trans rfl
  go_wp2_with fail
  clear kP
  refine HC.out.mono ?_
  rintro en w5 ⟨v, rfl, ho, hb⟩
  obtain ⟨Ar, cr, rfl⟩ := own_slice ho
  obtain ⟨_, _, he, hcr, hCr⟩ := OwnS.reads ho
  cases he
  have R := Aside0.mk hCr
  have L := Aside0.mk (Kd.C_below L.out hb)
  have P := Aside0.mk (blk_below P.out hb)
  have C := Aside0.mk (Kd.C_below C.out hb)
  have Q := Aside0.mk (Q.out.trans (hb.mono Q.out.size))
  clear hb ho hCr HC HW2
  go_wp2_with fail
  refine (c_V _ _).mono ?_
  rintro en w6 ⟨rfl, hb⟩
  simp only [encH, List.length_nil]
  have R := Aside0.mk (Kd.C_below R.out hb)
  have L := Aside0.mk (Kd.C_below L.out hb)
  have P := Aside0.mk (blk_below P.out hb)
  have C := Aside0.mk (Kd.C_below C.out hb)
  have Q := Aside0.mk (Q.out.trans (hb.mono Q.out.size))
  clear hb
  go_wp2_with fail
  refine (c_V _ _).mono ?_
  rintro en w7 ⟨rfl, hb⟩
  simp only [encH, List.length_nil]
  have R := Aside0.mk (Kd.C_below R.out hb)
  have L := Aside0.mk (Kd.C_below L.out hb)
  have P := Aside0.mk (blk_below P.out hb)
  have C := Aside0.mk (Kd.C_below C.out hb)
  have Q := Aside0.mk (Q.out.trans (hb.mono Q.out.size))
  clear hb
  obtain ⟨W8, hW8⟩ : ∃ W8, w7.alloc (.cells #[.int .i64 1, .string tX, .slice none 0 0, .int .i64 1, .string tX, .slice none 0 0] 24) = W8 := ⟨_, rfl⟩
  have X := Kd.F_now (F_lit2 (W := w7) (ok := fun _ => True) trivial 24 (k24_mkF _ _ xX (Nat.le_refl _) (Kd.F_nil k24 _ _)) rfl (k24_mkF _ _ xX (Nat.le_refl _) (Kd.F_nil k24 _ _)) rfl)
  have X := Aside0.mk (show Kd.C k24 W8 (some ⟨w7.heap.size, 0, none⟩) 2 [xX, xX] by rw [← hW8]; exact X)
  have hb : Below w7.heap.size w7 W8 := by rw [← hW8]; exact below_alloc1 _ _
  have R := Aside0.mk (Kd.C_below R.out hb)
  have L := Aside0.mk (Kd.C_below L.out hb)
  have P := Aside0.mk (blk_below P.out hb)
  have C := Aside0.mk (Kd.C_below C.out hb)
  have Q := Aside0.mk (Q.out.trans (hb.mono Q.out.size))
  have HW8 := Lib.hid hW8
  clear hb hW8
  go_wp2_with fail
  rw [HW8.out]
  refine (c_M _ _ _ _ _).mono ?_
  rintro en w9 ⟨rfl, hb⟩
  have R := Aside0.mk (Kd.C_below R.out hb)
  have L := Aside0.mk (Kd.C_below L.out hb)
  have P := Aside0.mk (blk_below P.out hb)
  have C := Aside0.mk (Kd.C_below C.out hb)
  have Q := Aside0.mk (Q.out.trans (hb.mono Q.out.size))
  have X := Aside0.mk (Kd.C_below X.out hb)
  clear hb HW8
  obtain ⟨W10, hW10⟩ : ∃ W10, w9.alloc (.cells #[.string tX] 9) = W10 := ⟨_, rfl⟩
  have S := Kd.F_now (F_lit1 (W := w9) (ok := fun _ => True) trivial 9 (show Kd.FK Kd.string _ _ tX [.string tX] from fun _ _ => rfl) rfl)
  have S := Aside0.mk (show Kd.C Kd.string W10 (some ⟨w9.heap.size, 0, none⟩) 1 [tX] by rw [← hW10]; exact S)
  have hb : Below w9.heap.size w9 W10 := by rw [← hW10]; exact below_alloc1 _ _
  have R := Aside0.mk (Kd.C_below R.out hb)
  have L := Aside0.mk (Kd.C_below L.out hb)
  have P := Aside0.mk (blk_below P.out hb)
  have C := Aside0.mk (Kd.C_below C.out hb)
  have Q := Aside0.mk (Q.out.trans (hb.mono Q.out.size))
  have X := Aside0.mk (Kd.C_below X.out hb)
  have HW10 := Lib.hid hW10
  clear hb hW10
  go_wp2_with fail
  rw [HW10.out]
  refine (c_M _ _ _ _ _).mono ?_
  rintro en w11 ⟨rfl, hb⟩
  have R := Aside0.mk (Kd.C_below R.out hb)
  have L := Aside0.mk (Kd.C_below L.out hb)
  have P := Aside0.mk (blk_below P.out hb)
  have C := Aside0.mk (Kd.C_below C.out hb)
  have Q := Aside0.mk (Q.out.trans (hb.mono Q.out.size))
  have X := Aside0.mk (Kd.C_below X.out hb)
  have S := Aside0.mk (Kd.C_below S.out hb)
  clear hb HW10
  obtain ⟨W12, hW12⟩ : ∃ W12, w11.alloc (.cells #[.int .i64 2, .string tA, .slice none 0 0] 24) = W12 := ⟨_, rfl⟩
  have Y := Kd.F_now (F_lit1 (W := w11) (ok := fun _ => True) trivial 24 (k24_mkF _ _ xA (Nat.le_refl _) (Kd.F_nil k24 _ _)) rfl)
  have Y := Aside0.mk (show Kd.C k24 W12 (some ⟨w11.heap.size, 0, none⟩) 1 [xA] by rw [← hW12]; exact Y)
  have hb : Below w11.heap.size w11 W12 := by rw [← hW12]; exact below_alloc1 _ _
  have R := Aside0.mk (Kd.C_below R.out hb)
  have L := Aside0.mk (Kd.C_below L.out hb)
  have P := Aside0.mk (blk_below P.out hb)
  have C := Aside0.mk (Kd.C_below C.out hb)
  have Q := Aside0.mk (Q.out.trans (hb.mono Q.out.size))
  have X := Aside0.mk (Kd.C_below X.out hb)
  have S := Aside0.mk (Kd.C_below S.out hb)
  have HW12 := Lib.hid hW12
  clear hb hW12
  have HC := Lib.hid (c_Subst ⟨2, tP, [xX, xX]⟩ (some ⟨w7.heap.size, 0, none⟩) 2 [tX] (some ⟨w9.heap.size, 0, none⟩) 1 [xA] (some ⟨w11.heap.size, 0, none⟩) 1 W12 X.out (Nat.le_refl _) S.out (Nat.le_refl _) Y.out (Nat.le_refl _) (by decide) (by intro x hx; obtain rfl := List.mem_singleton.1 hx; decide) (by intro x hx; obtain rfl := List.mem_singleton.1 hx; decide) (by decide))
  rw [lists_subst] at HC
  go_wp2_with fail
  rw [HW12.out]
  refine HC.out.mono ?_
  rintro en w13 ⟨v, rfl, ho, hb⟩
  obtain ⟨Az, cz, rfl, hcz, hCz⟩ := Kd.R_reads ho
  have Z := Aside0.mk hCz
  have R := Aside0.mk (Kd.C_below R.out hb)
  have L := Aside0.mk (Kd.C_below L.out hb)
  have P := Aside0.mk (blk_below P.out hb)
  have C := Aside0.mk (Kd.C_below C.out hb)
  have Q := Aside0.mk (Q.out.trans (hb.mono Q.out.size))
  clear hb HW12 ho hCz HC X S Y
  obtain ⟨W14, hW14⟩ : ∃ W14, w13.alloc (.cells #[.int .i64 2, .string tP, .slice Az 2 cz] 24) = W14 := ⟨_, rfl⟩
  have V := Aside0.mk (show W14.heap[w13.heap.size]? = some (.cells #[.int .i64 2, .string tP, .slice Az 2 cz] 24 (0, 0)) by rw [← hW14]; exact alloc_at _ _)
  have hb : Below w13.heap.size w13 W14 := by rw [← hW14]; exact below_alloc1 _ _
  have R := Aside0.mk (Kd.C_below R.out hb)
  have L := Aside0.mk (Kd.C_below L.out hb)
  have P := Aside0.mk (blk_below P.out hb)
  have C := Aside0.mk (Kd.C_below C.out hb)
  have Q := Aside0.mk (Q.out.trans (hb.mono Q.out.size))
  have Z := Aside0.mk (Kd.C_below Z.out hb)
  have HW14 := Lib.hid hW14
  clear hb hW14
  go_wp2_with fail
  rw [HW14.out]
  clear HW14
  obtain ⟨ad', g0, g1, g2, g3, g4, g5, had, hK, _, y0, y1, y2, y3, y4, y5⟩ := gett6 (xs := listsP) rfl C.out 0 (by decide)
  obtain rfl := Option.some.inj had
  obtain ⟨Z1, z1, Z2, z2, Z5, z5, he, _, _, _, _, hl5, hc5⟩ := k58_open hK
  obtain ⟨rfl, rfl, rfl, rfl, rfl, rfl⟩ : g0 = _ ∧ g1 = _ ∧ g2 = _ ∧ g3 = _ ∧ g4 = _ ∧ g5 = _ := by simpa using he
  have hS0 : AwS W14 w1.heap.size ad w13.heap.size Az cz Z5 z5 W14 := by
    refine ⟨Below.refl _ _, (blk_cell P.out 0).trans rfl, (blk_cell V.out 0).trans rfl, (blk_cell V.out 1).trans rfl, (blk_cell V.out 2).trans rfl, ?_, ?_, ?_⟩
    · simpa [Addr.add] using y3
    · simpa [Addr.add] using y4
    · simpa [Addr.add] using y5
  have HCk := Lib.hid (fun W (h : AwS W14 w1.heap.size ad w13.heap.size Az cz Z5 z5 W) => (c_Check listsP (some ad) 3 W (Kd.C_below C.out h.1) (by decide) lists_ok).mono (R' := fun e W' => e = .returned (.int .i64 0) ∧ AwS W14 w1.heap.size ad w13.heap.size Az cz Z5 z5 W') (by rintro e W' ⟨h1, h2⟩; exact ⟨by rw [h1, lists_check], h.step h2⟩))
  have HSz := Lib.hid (fun W (h : AwS W14 w1.heap.size ad w13.heap.size Az cz Z5 z5 W) => (c_Size 10 lx4 Z5 z5 W (by decide) (by decide) (Kd.C_below hc5 h.1) hl5).mono (R' := fun e W' => e = .returned (.int .i64 3) ∧ AwS W14 w1.heap.size ad w13.heap.size Az cz Z5 z5 W') (by rintro e W' ⟨h1, h2⟩; exact ⟨by rw [h1, lists_size]; rfl, h.step h2⟩))
  have HE1 := Lib.hid (fun W (h : AwS W14 w1.heap.size ad w13.heap.size Az cz Z5 z5 W) => (c_EqS Al (some ⟨W.heap.size, 0, none⟩) cl 1 [tOnes] [tOnes] (W.alloc (.cells #[.string tOnes] 9)) (Kd.C_below (Kd.C_below L.out h.1) (below_alloc1 _ _)) hcl (Kd.F_now (F_lit1 (W := W) (ok := fun _ => True) trivial 9 (show Kd.FK Kd.string _ _ tOnes [.string tOnes] from fun _ _ => rfl) rfl)) (Nat.le_refl _)).mono (R' := fun e W' => e = .returned (.bool true) ∧ AwS W14 w1.heap.size ad w13.heap.size Az cz Z5 z5 W') (by rintro e W' ⟨h1, h2⟩; exact ⟨by rw [h1]; simp, (h.step (below_alloc1 _ _)).step h2⟩))
  have HE2 := Lib.hid (fun W (h : AwS W14 w1.heap.size ad w13.heap.size Az cz Z5 z5 W) => (c_EqS Ar (some ⟨W.heap.size, 0, none⟩) cr 2 [tTwo, tMap] [tTwo, tMap] (W.alloc (.cells #[.string tTwo, .string tMap] 9)) (Kd.C_below (Kd.C_below R.out h.1) (below_alloc1 _ _)) hcr (Kd.F_now (F_lit2 (W := W) (ok := fun _ => True) trivial 9 (show Kd.FK Kd.string _ _ tTwo [.string tTwo] from fun _ _ => rfl) rfl (show Kd.FK Kd.string _ _ tMap [.string tMap] from fun _ _ => rfl) rfl)) (Nat.le_refl _)).mono (R' := fun e W' => e = .returned (.bool true) ∧ AwS W14 w1.heap.size ad w13.heap.size Az cz Z5 z5 W') (by rintro e W' ⟨h1, h2⟩; exact ⟨by rw [h1]; simp, (h.step (below_alloc1 _ _)).step h2⟩))
  have HM := Lib.hid (fun W (h : AwS W14 w1.heap.size ad w13.heap.size Az cz Z5 z5 W) => (c_M tA none 0 0 W).mono (R' := fun e W' => e = .returned (.agg #[.int .i64 2, .string tA, .slice none 0 0]) ∧ AwS W14 w1.heap.size ad w13.heap.size Az cz Z5 z5 W') (by rintro e W' ⟨h1, h2⟩; exact ⟨h1, h.step h2⟩))
  have HMp := Lib.hid (fun W (h : AwS W14 w1.heap.size ad w13.heap.size Az cz Z5 z5 W) => (c_M tP (some ⟨W.heap.size, 0, none⟩) 2 2 (W.alloc (.cells #[.int .i64 2, .string tA, .slice none 0 0, .int .i64 2, .string tA, .slice none 0 0] 24))).mono (R' := fun e W' => e = .returned (.agg #[.int .i64 2, .string tP, .slice (some ⟨W.heap.size, 0, none⟩) 2 2]) ∧ Kd.C k24 W' (some ⟨W.heap.size, 0, none⟩) 2 [xA, xA] ∧ AwS W14 w1.heap.size ad w13.heap.size Az cz Z5 z5 W') (by rintro e W' ⟨h1, h2⟩; exact ⟨h1, Kd.C_below (Kd.F_now (F_lit2 (W := W) (ok := fun _ => True) trivial 24 (k24_mkF _ _ xA (Nat.le_refl _) (Kd.F_nil k24 _ _)) rfl (k24_mkF _ _ xA (Nat.le_refl _) (Kd.F_nil k24 _ _)) rfl)) h2, (h.step (below_alloc1 _ _)).step h2⟩))
  have HSm := Lib.hid (fun W B (h : AwS W14 w1.heap.size ad w13.heap.size Az cz Z5 z5 W) (hB : Kd.C k24 W (some ⟨B, 0, none⟩) 2 [xA, xA]) => (c_SameExpr ⟨2, tP, [xA, xA]⟩ ⟨2, tP, [xA, xA]⟩ Az (some ⟨B, 0, none⟩) cz 2 W (Kd.C_below Z.out h.1) hcz hB (Nat.le_refl _) (by decide) (by decide)).mono (R' := fun e W' => e = .returned (.bool true) ∧ AwS W14 w1.heap.size ad w13.heap.size Az cz Z5 z5 W') (by rintro e W' ⟨h1, h2⟩; exact ⟨by rw [h1, sameE_iff.2 rfl], h.step h2⟩))
  clear C L R Z P V hK he y0 y1 y2 y3 y4 y5 hl5 hc5 hcl hcr hcz had
  go_region_held3 (fun W => AwS W14 w1.heap.size ad w13.heap.size Az cz Z5 z5 W) (first | assumption | exact hS0.step (below_drew (Below.refl _ _)) | (refine AwS.step ?_ (below_alloc1 _ _) <;> assumption)) (first | (go_at_call 33; refine (HCk.out _ (by assumption)).mono ?_; rintro e w' ⟨rfl, hS⟩) | (go_at_call 17; refine (HSz.out _ (by assumption)).mono ?_; rintro e w' ⟨rfl, hS⟩) | (go_at_call 21; (with_reducible show Calls _ _ #[.slice Ar 2 cr, _] _ _); refine (HE2.out _ (by assumption)).mono ?_; rintro e w' ⟨rfl, hS⟩) | (go_at_call 21; refine (HE1.out _ (by assumption)).mono ?_; rintro e w' ⟨rfl, hS⟩) | (go_at_call 47; (with_reducible show Calls _ _ #[.string ⟨#[112]⟩, _] _ _); refine (HMp.out _ (by assumption)).mono ?_; rintro e w' ⟨rfl, hcx, hS⟩) | (go_at_call 47; refine (HM.out _ (by assumption)).mono ?_; rintro e w' ⟨rfl, hS⟩) | (go_at_call 24; refine (HSm.out _ _ (by assumption) (by assumption)).mono ?_; rintro e w' ⟨rfl, hS⟩))
  all_goals
    have hlast : Below W14.heap.size W14 _ := (by assumption : AwS W14 w1.heap.size ad w13.heap.size Az cz Z5 z5 _).1
    go_wp2
    go_ret
    exact ⟨rfl, Q.out.trans (hlast.mono Q.out.size)⟩
end Go.Proofs.Ytacefdkfbpgedaa.Mine
