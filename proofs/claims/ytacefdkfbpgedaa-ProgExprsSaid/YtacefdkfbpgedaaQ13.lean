/- The law's V, M, C. -/
import Derived.Test.YtacefdkfbpgedaaQ12
namespace Go.Proofs.Ytacefdkfbpgedaa.Mine
open Go.Proofs.Ytacefdkfbpgedaa.PProgExprs
open Go.RowKit Go.Shelf Go.Proofs.YtacefdkfbpgedaaW.PrintWords Go.Proofs.YtacefdkfbpgedaaW.PrintLast Go.Proofs.YtacefdkfbpgedaaW.PrintMore
set_option linter.unusedVariables false
set_option linter.unusedSimpArgs false

/-- Rows, one behind the other. -/
theorem flat_get {z : Nat} : ∀ {rows : List (List Value)} {j i : Nat} {cs : List Value} {u : Value}, (∀ r ∈ rows, r.length = z) → rows[j]? = some cs → cs[i]? = some u → rows.flatten[j * z + i]? = some u
  | [], _, _, _, _, _, h, _ => by simp at h
  | r :: rows, 0, i, cs, u, hz, h, hu => by
    simp at h
    subst h
    have hi := (List.getElem?_eq_some_iff.1 hu).1
    rw [List.flatten_cons, Nat.zero_mul, Nat.zero_add, List.getElem?_append_left hi]
    exact hu
  | r :: rows, j + 1, i, cs, u, hz, h, hu => by
    have h1 := flat_get (rows := rows) (j := j) (i := i) (fun r hr => hz r (List.mem_cons_of_mem _ hr)) (by simpa using h) hu
    have hl := hz r List.mem_cons_self
    rw [List.flatten_cons, List.getElem?_append_right (by rw [hl, Nat.succ_mul]; omega), hl, show (j + 1) * z + i - z = j * z + i by rw [Nat.succ_mul]; omega]
    exact h1
/-- A list that is written down. -/
theorem F_lit {α : Type} {d : Kd α} {W : World} {ok : Nat → Prop} (hok : ok W.heap.size) (t : Nat) (rows : List (α × List Value)) (hz : ∀ r ∈ rows, r.2.length = d.sz) (hn : rows.length ≤ 1000) (hK : ∀ r ∈ rows, Kd.FK d W ok r.1 r.2) :
    Kd.F d (W.alloc (.cells ((rows.map (·.2)).flatten).toArray t)) ok (some ⟨W.heap.size, 0, none⟩) (rows.map (·.1)).length (rows.map (·.1)) := by
  intro W' hW'
  refine ⟨rfl, by rw [List.length_map]; omega, fun _ => ⟨_, rfl, fun j p hj => ?_⟩⟩
  rw [List.getElem?_map] at hj
  cases hr : rows[j]? with
  | none => rw [hr] at hj; cases hj
  | some r =>
    rw [hr] at hj
    cases hj
    have hm := List.mem_of_getElem? hr
    refine ⟨r.2, hz r hm, hK r hm W' (fun k hk hlt => (hW' k hk (by rw [World.size_alloc]; omega)).trans ((below_alloc1 W _).block k hlt)), fun i u hu => ?_⟩
    have h1 := flat_get (rows := rows.map (·.2)) (z := d.sz) (j := j) (i := i) (cs := r.2) (u := u) (fun c hc => by obtain ⟨r, hr, rfl⟩ := List.mem_map.1 hc; exact hz r hr) (by rw [List.getElem?_map, hr]; rfl) hu
    have h2 := blk_cell ((hW' W.heap.size hok (by rw [World.size_alloc]; omega)).trans (alloc_at W (.cells ((rows.map (·.2)).flatten).toArray t))) (j * d.sz + i)
    rw [List.getElem?_toArray, h1] at h2
    rw [show (⟨W.heap.size, 0, none⟩ : Addr).add (j * d.sz + i) = ⟨W.heap.size, j * d.sz + i, none⟩ by simp [Addr.add]; intro h1 h2; rw [h1, h2]]
    exact h2
theorem F_lit1 {α : Type} {d : Kd α} {W : World} {ok : Nat → Prop} (hok : ok W.heap.size) (t : Nat) {x1 : α} {c1 : List Value} (k1 : Kd.FK d W ok x1 c1) (z1 : c1.length = d.sz) :
    Kd.F d (W.alloc (.cells c1.toArray t)) ok (some ⟨W.heap.size, 0, none⟩) 1 [x1] := by
  have h := F_lit (W := W) hok t [(x1, c1)] (by simpa using z1) (by simp) (by simpa using k1)
  simpa using h
theorem F_lit2 {α : Type} {d : Kd α} {W : World} {ok : Nat → Prop} (hok : ok W.heap.size) (t : Nat) {x1 x2 : α} {c1 c2 : List Value} (k1 : Kd.FK d W ok x1 c1) (z1 : c1.length = d.sz) (k2 : Kd.FK d W ok x2 c2) (z2 : c2.length = d.sz) :
    Kd.F d (W.alloc (.cells (c1 ++ c2).toArray t)) ok (some ⟨W.heap.size, 0, none⟩) 2 [x1, x2] := by
  have h := F_lit (W := W) hok t [(x1, c1), (x2, c2)] (by simpa using ⟨z1, z2⟩) (by simp) (by simpa using ⟨k1, k2⟩)
  simpa only [List.map_cons, List.map_nil, List.flatten_cons, List.flatten_nil, List.append_nil, List.length_cons, List.length_nil] using h
theorem F_lit3 {α : Type} {d : Kd α} {W : World} {ok : Nat → Prop} (hok : ok W.heap.size) (t : Nat) {x1 x2 x3 : α} {c1 c2 c3 : List Value} (k1 : Kd.FK d W ok x1 c1) (z1 : c1.length = d.sz) (k2 : Kd.FK d W ok x2 c2) (z2 : c2.length = d.sz) (k3 : Kd.FK d W ok x3 c3) (z3 : c3.length = d.sz) :
    Kd.F d (W.alloc (.cells (c1 ++ (c2 ++ c3)).toArray t)) ok (some ⟨W.heap.size, 0, none⟩) 3 [x1, x2, x3] := by
  have h := F_lit (W := W) hok t [(x1, c1), (x2, c2), (x3, c3)] (by simpa using ⟨z1, z2, z3⟩) (by simp) (by simpa using ⟨k1, k2, k3⟩)
  simpa only [List.map_cons, List.map_nil, List.flatten_cons, List.flatten_nil, List.append_nil, List.length_cons, List.length_nil] using h
set_option maxHeartbeats 1000000 in
theorem c_V (s : ByteArray) (w : World) : Calls Try.prog 30 #[.string s] w fun e w' => e = .returned (encH (⟨1, s, []⟩, none, 0)) ∧ Below w.heap.size w w' := by
  go_enter Try.func30, Try.ntmps30
  go_wp2
  refine bodyPost_ret (results_cell_row rfl _ _ w.heap.size 24 #[.int .i64 1, .string s, .slice none 0 0] (0, 0) _ rfl (alloc_at w _) Try.underlying24 rfl (by kernel_rfl)) rfl ?_
  exact ⟨rfl, below_alloc1 _ _⟩
set_option maxHeartbeats 1000000 in
theorem c_M (s : ByteArray) (A : Option Addr) (n c : Nat) (w : World) : Calls Try.prog 47 #[.string s, .slice A n c] w fun e w' => e = .returned (.agg #[.int .i64 2, .string s, .slice A n c]) ∧ Below w.heap.size w w' := by
  go_enter Try.func47, Try.ntmps47
  go_wp2
  refine bodyPost_ret (results_cell_row rfl _ _ w.heap.size 24 #[.int .i64 2, .string s, .slice A n c] (0, 0) _ rfl (alloc_at w _) Try.underlying24 rfl (by kernel_rfl)) rfl ?_
  exact ⟨rfl, below_alloc1 _ _⟩
set_option maxHeartbeats 1000000 in
theorem c_C (s : ByteArray) (A : Option Addr) (n c : Nat) (w : World) : Calls Try.prog 50 #[.string s, .slice A n c] w fun e w' => e = .returned (.agg #[.int .i64 3, .string s, .slice A n c]) ∧ Below w.heap.size w w' := by
  go_enter Try.func50, Try.ntmps50
  go_wp2
  refine bodyPost_ret (results_cell_row rfl _ _ w.heap.size 24 #[.int .i64 3, .string s, .slice A n c] (0, 0) _ rfl (alloc_at w _) Try.underlying24 rfl (by kernel_rfl)) rfl ?_
  exact ⟨rfl, below_alloc1 _ _⟩
end Go.Proofs.Ytacefdkfbpgedaa.Mine
/- The law's Lists. Printed by lists.py. -/
namespace Go.Proofs.Ytacefdkfbpgedaa.Mine
open Go.Proofs.Ytacefdkfbpgedaa.PProgExprs
open Go.RowKit Go.Shelf Go.Proofs.YtacefdkfbpgedaaW.PrintWords Go.Proofs.YtacefdkfbpgedaaW.PrintLast Go.Proofs.YtacefdkfbpgedaaW.PrintMore
set_option linter.unusedVariables false
set_option linter.unusedSimpArgs false

abbrev lx1 : Ex := ⟨2, (⟨#[97]⟩ : ByteArray), []⟩
abbrev lx2 : Ex := ⟨3, (⟨#[111, 110, 101, 115]⟩ : ByteArray), []⟩
abbrev ll3 : List Ex := [lx1, lx2]
abbrev lx4 : Ex := ⟨2, (⟨#[99, 111, 110, 115]⟩ : ByteArray), ll3⟩
abbrev ll6 : List ByteArray := [(⟨#[120]⟩ : ByteArray)]
abbrev ll7 : List ByteArray := [(⟨#[104]⟩ : ByteArray), (⟨#[116]⟩ : ByteArray)]
abbrev lx8 : Ex := ⟨1, (⟨#[104]⟩ : ByteArray), []⟩
abbrev ll9 : List Ex := [lx8]
abbrev lx10 : Ex := ⟨2, (⟨#[115]⟩ : ByteArray), ll9⟩
abbrev lx11 : Ex := ⟨1, (⟨#[116]⟩ : ByteArray), []⟩
abbrev ll12 : List Ex := [lx11]
abbrev lx13 : Ex := ⟨3, (⟨#[109, 97, 112]⟩ : ByteArray), ll12⟩
abbrev ll14 : List Ex := [lx10, lx13]
abbrev lx15 : Ex := ⟨2, (⟨#[99, 111, 110, 115]⟩ : ByteArray), ll14⟩
abbrev lx17 : Ex := ⟨1, (⟨#[120]⟩ : ByteArray), []⟩
abbrev ll19 : List Ca := [⟨(⟨#[99, 111, 110, 115]⟩ : ByteArray), ll7, lx15⟩, ⟨(⟨#[110, 105, 108]⟩ : ByteArray), [], lx17⟩]
abbrev ll21 : List ByteArray := [(⟨#[120]⟩ : ByteArray), (⟨#[121]⟩ : ByteArray)]
abbrev lx22 : Ex := ⟨1, (⟨#[120]⟩ : ByteArray), []⟩
abbrev ll23 : List Ex := [lx22]
abbrev lx24 : Ex := ⟨3, (⟨#[109, 97, 112]⟩ : ByteArray), ll23⟩
abbrev ll25 : List Ex := [lx24]
abbrev lx26 : Ex := ⟨3, (⟨#[109, 97, 112]⟩ : ByteArray), ll25⟩
abbrev lx27 : Ex := ⟨1, (⟨#[121]⟩ : ByteArray), []⟩
abbrev ll28 : List Ex := [lx26, lx27]
abbrev lx29 : Ex := ⟨2, (⟨#[112]⟩ : ByteArray), ll28⟩
abbrev ll31 : List De := [⟨(⟨#[111, 110, 101, 115]⟩ : ByteArray), [], [], lx4⟩, ⟨(⟨#[109, 97, 112]⟩ : ByteArray), ll6, ll19, ⟨0, ⟨#[]⟩, []⟩⟩, ⟨(⟨#[116, 119, 111]⟩ : ByteArray), ll21, [], lx29⟩]
/-- The program of the examples. -/
abbrev listsP : List De := ll31
set_option maxRecDepth 100000 in
set_option maxHeartbeats 4000000 in
theorem c_Lists (w : World) : Calls Try.prog 57 #[] w fun en w' => ∃ A, en = .returned (.agg #[.slice A 3 3]) ∧ Kd.C k58 w' A 3 listsP ∧ Below w.heap.size w w' := by
  have q0 := below_alloc1 w (.cells #[.slice none 0 0] 53)
  have b0 := alloc_at w (.cells #[.slice none 0 0] 53)
  obtain ⟨W, hW⟩ : ∃ W, w.alloc (.cells #[.slice none 0 0] 53) = W := ⟨_, rfl⟩
  rw [hW] at q0 b0
  have HW := Lib.hid hW
  have Q := Aside0.mk q0
  have P := Aside0.mk b0
  clear hW q0 b0
  go_enter Try.func57, Try.ntmps57
  go_wp2_with fail
  rw [HW.out]
  clear HW
  -- 1: M a
  refine (c_M _ _ _ _ _).mono ?_
  rintro en w1 ⟨rfl, hb⟩
  have P := Aside0.mk (blk_below P.out hb)
  have Q := Aside0.mk (Q.out.trans (hb.mono Q.out.size))
  clear hb
  -- 2: C ones
  go_wp2_with fail
  refine (c_C _ _ _ _ _).mono ?_
  rintro en w2 ⟨rfl, hb⟩
  have P := Aside0.mk (blk_below P.out hb)
  have Q := Aside0.mk (Q.out.trans (hb.mono Q.out.size))
  clear hb
  -- 3: a list
  have hlt : w.heap.size < w2.heap.size := by have := lt_of_block P.out; first | exact this | (simpa only [World.size_alloc] using this)
  have hc : Kd.F k24 (w2.alloc (.cells #[.int .i64 2, .string (⟨#[97]⟩ : ByteArray), .slice none 0 0, .int .i64 3, .string (⟨#[111, 110, 101, 115]⟩ : ByteArray), .slice none 0 0] 24)) (fun k => k ≠ w.heap.size) (some ⟨w2.heap.size, 0, none⟩) 2 ll3 := by
    have h := F_lit2 (W := w2) (ok := (fun k => k ≠ w.heap.size)) (by first | (show _ ≠ _; omega) | (show _ ≠ _; simp only [World.size_alloc]; omega)) 24 (k24_mkF _ _ lx1 (Nat.le_refl _) (Kd.F_nil k24 _ _)) rfl (k24_mkF _ _ lx2 (Nat.le_refl _) (Kd.F_nil k24 _ _)) rfl
    try simp only [World.size_alloc] at h
    exact h
  have hb := below_alloc1 w2 (.cells #[.int .i64 2, .string (⟨#[97]⟩ : ByteArray), .slice none 0 0, .int .i64 3, .string (⟨#[111, 110, 101, 115]⟩ : ByteArray), .slice none 0 0] 24)
  have C3 := Aside0.mk hc
  have P := Aside0.mk (blk_below P.out hb)
  have Q := Aside0.mk (Q.out.trans (hb.mono Q.out.size))
  clear hb hc hlt
  -- 4: M cons
  go_wp2_with fail
  refine (c_M _ _ _ _ _).mono ?_
  rintro en w4 ⟨rfl, hb⟩
  have C3 := Aside0.mk (Kd.F_below C3.out hb)
  have P := Aside0.mk (blk_below P.out hb)
  have Q := Aside0.mk (Q.out.trans (hb.mono Q.out.size))
  clear hb
  -- 6: a list
  have hlt : w.heap.size < w4.heap.size := by have := lt_of_block P.out; first | exact this | (simpa only [World.size_alloc] using this)
  have hc : Kd.F Kd.string (w4.alloc (.cells #[.string (⟨#[120]⟩ : ByteArray)] 9)) (fun k => k ≠ w.heap.size) (some ⟨w4.heap.size, 0, none⟩) 1 ll6 := by
    have h := F_lit1 (W := w4) (ok := (fun k => k ≠ w.heap.size)) (by first | (show _ ≠ _; omega) | (show _ ≠ _; simp only [World.size_alloc]; omega)) 9 (show Kd.FK Kd.string _ _ (⟨#[120]⟩ : ByteArray) [.string (⟨#[120]⟩ : ByteArray)] from fun _ _ => rfl) rfl
    try simp only [World.size_alloc] at h
    exact h
  have hb := below_alloc1 w4 (.cells #[.string (⟨#[120]⟩ : ByteArray)] 9)
  have C3 := Aside0.mk (Kd.F_below C3.out hb)
  have C6 := Aside0.mk hc
  have P := Aside0.mk (blk_below P.out hb)
  have Q := Aside0.mk (Q.out.trans (hb.mono Q.out.size))
  clear hb hc hlt
  -- 7: a list
  have hlt : w.heap.size < w4.heap.size + 1 := by have := lt_of_block P.out; first | exact this | (simpa only [World.size_alloc] using this)
  have hc : Kd.F Kd.string ((w4.alloc (.cells #[.string (⟨#[120]⟩ : ByteArray)] 9)).alloc (.cells #[.string (⟨#[104]⟩ : ByteArray), .string (⟨#[116]⟩ : ByteArray)] 9)) (fun k => k ≠ w.heap.size) (some ⟨w4.heap.size + 1, 0, none⟩) 2 ll7 := by
    have h := F_lit2 (W := (w4.alloc (.cells #[.string (⟨#[120]⟩ : ByteArray)] 9))) (ok := (fun k => k ≠ w.heap.size)) (by first | (show _ ≠ _; omega) | (show _ ≠ _; simp only [World.size_alloc]; omega)) 9 (show Kd.FK Kd.string _ _ (⟨#[104]⟩ : ByteArray) [.string (⟨#[104]⟩ : ByteArray)] from fun _ _ => rfl) rfl (show Kd.FK Kd.string _ _ (⟨#[116]⟩ : ByteArray) [.string (⟨#[116]⟩ : ByteArray)] from fun _ _ => rfl) rfl
    try simp only [World.size_alloc] at h
    exact h
  have hb := below_alloc1 (w4.alloc (.cells #[.string (⟨#[120]⟩ : ByteArray)] 9)) (.cells #[.string (⟨#[104]⟩ : ByteArray), .string (⟨#[116]⟩ : ByteArray)] 9)
  have C3 := Aside0.mk (Kd.F_below C3.out hb)
  have C6 := Aside0.mk (Kd.F_below C6.out hb)
  have C7 := Aside0.mk hc
  have P := Aside0.mk (blk_below P.out hb)
  have Q := Aside0.mk (Q.out.trans (hb.mono Q.out.size))
  clear hb hc hlt
  -- 8: V h
  go_wp2_with fail
  refine (c_V _ _).mono ?_
  rintro en w8 ⟨rfl, hb⟩
  simp only [encH, List.length_nil]
  have C3 := Aside0.mk (Kd.F_below C3.out hb)
  have C6 := Aside0.mk (Kd.F_below C6.out hb)
  have C7 := Aside0.mk (Kd.F_below C7.out hb)
  have P := Aside0.mk (blk_below P.out hb)
  have Q := Aside0.mk (Q.out.trans (hb.mono Q.out.size))
  clear hb
  -- 9: a list
  have hlt : w.heap.size < w8.heap.size := by have := lt_of_block P.out; first | exact this | (simpa only [World.size_alloc] using this)
  have hc : Kd.F k24 (w8.alloc (.cells #[.int .i64 1, .string (⟨#[104]⟩ : ByteArray), .slice none 0 0] 24)) (fun k => k ≠ w.heap.size) (some ⟨w8.heap.size, 0, none⟩) 1 ll9 := by
    have h := F_lit1 (W := w8) (ok := (fun k => k ≠ w.heap.size)) (by first | (show _ ≠ _; omega) | (show _ ≠ _; simp only [World.size_alloc]; omega)) 24 (k24_mkF _ _ lx8 (Nat.le_refl _) (Kd.F_nil k24 _ _)) rfl
    try simp only [World.size_alloc] at h
    exact h
  have hb := below_alloc1 w8 (.cells #[.int .i64 1, .string (⟨#[104]⟩ : ByteArray), .slice none 0 0] 24)
  have C3 := Aside0.mk (Kd.F_below C3.out hb)
  have C6 := Aside0.mk (Kd.F_below C6.out hb)
  have C7 := Aside0.mk (Kd.F_below C7.out hb)
  have C9 := Aside0.mk hc
  have P := Aside0.mk (blk_below P.out hb)
  have Q := Aside0.mk (Q.out.trans (hb.mono Q.out.size))
  clear hb hc hlt
  -- 10: M s
  go_wp2_with fail
  refine (c_M _ _ _ _ _).mono ?_
  rintro en w10 ⟨rfl, hb⟩
  have C3 := Aside0.mk (Kd.F_below C3.out hb)
  have C6 := Aside0.mk (Kd.F_below C6.out hb)
  have C7 := Aside0.mk (Kd.F_below C7.out hb)
  have C9 := Aside0.mk (Kd.F_below C9.out hb)
  have P := Aside0.mk (blk_below P.out hb)
  have Q := Aside0.mk (Q.out.trans (hb.mono Q.out.size))
  clear hb
  -- 11: V t
  go_wp2_with fail
  refine (c_V _ _).mono ?_
  rintro en w11 ⟨rfl, hb⟩
  simp only [encH, List.length_nil]
  have C3 := Aside0.mk (Kd.F_below C3.out hb)
  have C6 := Aside0.mk (Kd.F_below C6.out hb)
  have C7 := Aside0.mk (Kd.F_below C7.out hb)
  have C9 := Aside0.mk (Kd.F_below C9.out hb)
  have P := Aside0.mk (blk_below P.out hb)
  have Q := Aside0.mk (Q.out.trans (hb.mono Q.out.size))
  clear hb
  -- 12: a list
  have hlt : w.heap.size < w11.heap.size := by have := lt_of_block P.out; first | exact this | (simpa only [World.size_alloc] using this)
  have hc : Kd.F k24 (w11.alloc (.cells #[.int .i64 1, .string (⟨#[116]⟩ : ByteArray), .slice none 0 0] 24)) (fun k => k ≠ w.heap.size) (some ⟨w11.heap.size, 0, none⟩) 1 ll12 := by
    have h := F_lit1 (W := w11) (ok := (fun k => k ≠ w.heap.size)) (by first | (show _ ≠ _; omega) | (show _ ≠ _; simp only [World.size_alloc]; omega)) 24 (k24_mkF _ _ lx11 (Nat.le_refl _) (Kd.F_nil k24 _ _)) rfl
    try simp only [World.size_alloc] at h
    exact h
  have hb := below_alloc1 w11 (.cells #[.int .i64 1, .string (⟨#[116]⟩ : ByteArray), .slice none 0 0] 24)
  have C3 := Aside0.mk (Kd.F_below C3.out hb)
  have C6 := Aside0.mk (Kd.F_below C6.out hb)
  have C7 := Aside0.mk (Kd.F_below C7.out hb)
  have C9 := Aside0.mk (Kd.F_below C9.out hb)
  have C12 := Aside0.mk hc
  have P := Aside0.mk (blk_below P.out hb)
  have Q := Aside0.mk (Q.out.trans (hb.mono Q.out.size))
  clear hb hc hlt
  -- 13: C map
  go_wp2_with fail
  refine (c_C _ _ _ _ _).mono ?_
  rintro en w13 ⟨rfl, hb⟩
  have C3 := Aside0.mk (Kd.F_below C3.out hb)
  have C6 := Aside0.mk (Kd.F_below C6.out hb)
  have C7 := Aside0.mk (Kd.F_below C7.out hb)
  have C9 := Aside0.mk (Kd.F_below C9.out hb)
  have C12 := Aside0.mk (Kd.F_below C12.out hb)
  have P := Aside0.mk (blk_below P.out hb)
  have Q := Aside0.mk (Q.out.trans (hb.mono Q.out.size))
  clear hb
  -- 14: a list
  have hlt : w.heap.size < w13.heap.size := by have := lt_of_block P.out; first | exact this | (simpa only [World.size_alloc] using this)
  have hc : Kd.F k24 (w13.alloc (.cells #[.int .i64 2, .string (⟨#[115]⟩ : ByteArray), .slice (some ⟨w8.heap.size, 0, none⟩) 1 1, .int .i64 3, .string (⟨#[109, 97, 112]⟩ : ByteArray), .slice (some ⟨w11.heap.size, 0, none⟩) 1 1] 24)) (fun k => k ≠ w.heap.size) (some ⟨w13.heap.size, 0, none⟩) 2 ll14 := by
    have h := F_lit2 (W := w13) (ok := (fun k => k ≠ w.heap.size)) (by first | (show _ ≠ _; omega) | (show _ ≠ _; simp only [World.size_alloc]; omega)) 24 (k24_mkF _ _ lx10 (Nat.le_refl _) C9.out) rfl (k24_mkF _ _ lx13 (Nat.le_refl _) C12.out) rfl
    try simp only [World.size_alloc] at h
    exact h
  have hb := below_alloc1 w13 (.cells #[.int .i64 2, .string (⟨#[115]⟩ : ByteArray), .slice (some ⟨w8.heap.size, 0, none⟩) 1 1, .int .i64 3, .string (⟨#[109, 97, 112]⟩ : ByteArray), .slice (some ⟨w11.heap.size, 0, none⟩) 1 1] 24)
  have C3 := Aside0.mk (Kd.F_below C3.out hb)
  have C6 := Aside0.mk (Kd.F_below C6.out hb)
  have C7 := Aside0.mk (Kd.F_below C7.out hb)
  clear C9
  clear C12
  have C14 := Aside0.mk hc
  have P := Aside0.mk (blk_below P.out hb)
  have Q := Aside0.mk (Q.out.trans (hb.mono Q.out.size))
  clear hb hc hlt
  -- 15: M cons
  go_wp2_with fail
  refine (c_M _ _ _ _ _).mono ?_
  rintro en w15 ⟨rfl, hb⟩
  have C3 := Aside0.mk (Kd.F_below C3.out hb)
  have C6 := Aside0.mk (Kd.F_below C6.out hb)
  have C7 := Aside0.mk (Kd.F_below C7.out hb)
  have C14 := Aside0.mk (Kd.F_below C14.out hb)
  have P := Aside0.mk (blk_below P.out hb)
  have Q := Aside0.mk (Q.out.trans (hb.mono Q.out.size))
  clear hb
  -- 17: V x
  go_wp2_with fail
  refine (c_V _ _).mono ?_
  rintro en w17 ⟨rfl, hb⟩
  simp only [encH, List.length_nil]
  have C3 := Aside0.mk (Kd.F_below C3.out hb)
  have C6 := Aside0.mk (Kd.F_below C6.out hb)
  have C7 := Aside0.mk (Kd.F_below C7.out hb)
  have C14 := Aside0.mk (Kd.F_below C14.out hb)
  have P := Aside0.mk (blk_below P.out hb)
  have Q := Aside0.mk (Q.out.trans (hb.mono Q.out.size))
  clear hb
  -- 19: a list
  have hlt : w.heap.size < w17.heap.size := by have := lt_of_block P.out; first | exact this | (simpa only [World.size_alloc] using this)
  have hc : Kd.F k99 (w17.alloc (.cells #[.string (⟨#[99, 111, 110, 115]⟩ : ByteArray), .slice (some ⟨w4.heap.size + 1, 0, none⟩) 2 2, .int .i64 2, .string (⟨#[99, 111, 110, 115]⟩ : ByteArray), .slice (some ⟨w13.heap.size, 0, none⟩) 2 2, .string (⟨#[110, 105, 108]⟩ : ByteArray), .slice none 0 0, .int .i64 1, .string (⟨#[120]⟩ : ByteArray), .slice none 0 0] 99)) (fun k => k ≠ w.heap.size) (some ⟨w17.heap.size, 0, none⟩) 2 ll19 := by
    have h := F_lit2 (W := w17) (ok := (fun k => k ≠ w.heap.size)) (by first | (show _ ≠ _; omega) | (show _ ≠ _; simp only [World.size_alloc]; omega)) 99 (k99_mkF _ _ (⟨(⟨#[99, 111, 110, 115]⟩ : ByteArray), ll7, lx15⟩ : Ca) (Nat.le_refl _) C7.out (Nat.le_refl _) C14.out) rfl (k99_mkF _ _ (⟨(⟨#[110, 105, 108]⟩ : ByteArray), [], lx17⟩ : Ca) (Nat.le_refl _) (Kd.F_nil Kd.string _ _) (Nat.le_refl _) (Kd.F_nil k24 _ _)) rfl
    try simp only [World.size_alloc] at h
    exact h
  have hb := below_alloc1 w17 (.cells #[.string (⟨#[99, 111, 110, 115]⟩ : ByteArray), .slice (some ⟨w4.heap.size + 1, 0, none⟩) 2 2, .int .i64 2, .string (⟨#[99, 111, 110, 115]⟩ : ByteArray), .slice (some ⟨w13.heap.size, 0, none⟩) 2 2, .string (⟨#[110, 105, 108]⟩ : ByteArray), .slice none 0 0, .int .i64 1, .string (⟨#[120]⟩ : ByteArray), .slice none 0 0] 99)
  have C3 := Aside0.mk (Kd.F_below C3.out hb)
  have C6 := Aside0.mk (Kd.F_below C6.out hb)
  clear C7
  clear C14
  have C19 := Aside0.mk hc
  have P := Aside0.mk (blk_below P.out hb)
  have Q := Aside0.mk (Q.out.trans (hb.mono Q.out.size))
  clear hb hc hlt
  -- 21: a list
  have hlt : w.heap.size < w17.heap.size + 1 := by have := lt_of_block P.out; first | exact this | (simpa only [World.size_alloc] using this)
  have hc : Kd.F Kd.string ((w17.alloc (.cells #[.string (⟨#[99, 111, 110, 115]⟩ : ByteArray), .slice (some ⟨w4.heap.size + 1, 0, none⟩) 2 2, .int .i64 2, .string (⟨#[99, 111, 110, 115]⟩ : ByteArray), .slice (some ⟨w13.heap.size, 0, none⟩) 2 2, .string (⟨#[110, 105, 108]⟩ : ByteArray), .slice none 0 0, .int .i64 1, .string (⟨#[120]⟩ : ByteArray), .slice none 0 0] 99)).alloc (.cells #[.string (⟨#[120]⟩ : ByteArray), .string (⟨#[121]⟩ : ByteArray)] 9)) (fun k => k ≠ w.heap.size) (some ⟨w17.heap.size + 1, 0, none⟩) 2 ll21 := by
    have h := F_lit2 (W := (w17.alloc (.cells #[.string (⟨#[99, 111, 110, 115]⟩ : ByteArray), .slice (some ⟨w4.heap.size + 1, 0, none⟩) 2 2, .int .i64 2, .string (⟨#[99, 111, 110, 115]⟩ : ByteArray), .slice (some ⟨w13.heap.size, 0, none⟩) 2 2, .string (⟨#[110, 105, 108]⟩ : ByteArray), .slice none 0 0, .int .i64 1, .string (⟨#[120]⟩ : ByteArray), .slice none 0 0] 99))) (ok := (fun k => k ≠ w.heap.size)) (by first | (show _ ≠ _; omega) | (show _ ≠ _; simp only [World.size_alloc]; omega)) 9 (show Kd.FK Kd.string _ _ (⟨#[120]⟩ : ByteArray) [.string (⟨#[120]⟩ : ByteArray)] from fun _ _ => rfl) rfl (show Kd.FK Kd.string _ _ (⟨#[121]⟩ : ByteArray) [.string (⟨#[121]⟩ : ByteArray)] from fun _ _ => rfl) rfl
    try simp only [World.size_alloc] at h
    exact h
  have hb := below_alloc1 (w17.alloc (.cells #[.string (⟨#[99, 111, 110, 115]⟩ : ByteArray), .slice (some ⟨w4.heap.size + 1, 0, none⟩) 2 2, .int .i64 2, .string (⟨#[99, 111, 110, 115]⟩ : ByteArray), .slice (some ⟨w13.heap.size, 0, none⟩) 2 2, .string (⟨#[110, 105, 108]⟩ : ByteArray), .slice none 0 0, .int .i64 1, .string (⟨#[120]⟩ : ByteArray), .slice none 0 0] 99)) (.cells #[.string (⟨#[120]⟩ : ByteArray), .string (⟨#[121]⟩ : ByteArray)] 9)
  have C3 := Aside0.mk (Kd.F_below C3.out hb)
  have C6 := Aside0.mk (Kd.F_below C6.out hb)
  have C19 := Aside0.mk (Kd.F_below C19.out hb)
  have C21 := Aside0.mk hc
  have P := Aside0.mk (blk_below P.out hb)
  have Q := Aside0.mk (Q.out.trans (hb.mono Q.out.size))
  clear hb hc hlt
  -- 22: V x
  go_wp2_with fail
  refine (c_V _ _).mono ?_
  rintro en w22 ⟨rfl, hb⟩
  simp only [encH, List.length_nil]
  have C3 := Aside0.mk (Kd.F_below C3.out hb)
  have C6 := Aside0.mk (Kd.F_below C6.out hb)
  have C19 := Aside0.mk (Kd.F_below C19.out hb)
  have C21 := Aside0.mk (Kd.F_below C21.out hb)
  have P := Aside0.mk (blk_below P.out hb)
  have Q := Aside0.mk (Q.out.trans (hb.mono Q.out.size))
  clear hb
  -- 23: a list
  have hlt : w.heap.size < w22.heap.size := by have := lt_of_block P.out; first | exact this | (simpa only [World.size_alloc] using this)
  have hc : Kd.F k24 (w22.alloc (.cells #[.int .i64 1, .string (⟨#[120]⟩ : ByteArray), .slice none 0 0] 24)) (fun k => k ≠ w.heap.size) (some ⟨w22.heap.size, 0, none⟩) 1 ll23 := by
    have h := F_lit1 (W := w22) (ok := (fun k => k ≠ w.heap.size)) (by first | (show _ ≠ _; omega) | (show _ ≠ _; simp only [World.size_alloc]; omega)) 24 (k24_mkF _ _ lx22 (Nat.le_refl _) (Kd.F_nil k24 _ _)) rfl
    try simp only [World.size_alloc] at h
    exact h
  have hb := below_alloc1 w22 (.cells #[.int .i64 1, .string (⟨#[120]⟩ : ByteArray), .slice none 0 0] 24)
  have C3 := Aside0.mk (Kd.F_below C3.out hb)
  have C6 := Aside0.mk (Kd.F_below C6.out hb)
  have C19 := Aside0.mk (Kd.F_below C19.out hb)
  have C21 := Aside0.mk (Kd.F_below C21.out hb)
  have C23 := Aside0.mk hc
  have P := Aside0.mk (blk_below P.out hb)
  have Q := Aside0.mk (Q.out.trans (hb.mono Q.out.size))
  clear hb hc hlt
  -- 24: C map
  go_wp2_with fail
  refine (c_C _ _ _ _ _).mono ?_
  rintro en w24 ⟨rfl, hb⟩
  have C3 := Aside0.mk (Kd.F_below C3.out hb)
  have C6 := Aside0.mk (Kd.F_below C6.out hb)
  have C19 := Aside0.mk (Kd.F_below C19.out hb)
  have C21 := Aside0.mk (Kd.F_below C21.out hb)
  have C23 := Aside0.mk (Kd.F_below C23.out hb)
  have P := Aside0.mk (blk_below P.out hb)
  have Q := Aside0.mk (Q.out.trans (hb.mono Q.out.size))
  clear hb
  -- 25: a list
  have hlt : w.heap.size < w24.heap.size := by have := lt_of_block P.out; first | exact this | (simpa only [World.size_alloc] using this)
  have hc : Kd.F k24 (w24.alloc (.cells #[.int .i64 3, .string (⟨#[109, 97, 112]⟩ : ByteArray), .slice (some ⟨w22.heap.size, 0, none⟩) 1 1] 24)) (fun k => k ≠ w.heap.size) (some ⟨w24.heap.size, 0, none⟩) 1 ll25 := by
    have h := F_lit1 (W := w24) (ok := (fun k => k ≠ w.heap.size)) (by first | (show _ ≠ _; omega) | (show _ ≠ _; simp only [World.size_alloc]; omega)) 24 (k24_mkF _ _ lx24 (Nat.le_refl _) C23.out) rfl
    try simp only [World.size_alloc] at h
    exact h
  have hb := below_alloc1 w24 (.cells #[.int .i64 3, .string (⟨#[109, 97, 112]⟩ : ByteArray), .slice (some ⟨w22.heap.size, 0, none⟩) 1 1] 24)
  have C3 := Aside0.mk (Kd.F_below C3.out hb)
  have C6 := Aside0.mk (Kd.F_below C6.out hb)
  have C19 := Aside0.mk (Kd.F_below C19.out hb)
  have C21 := Aside0.mk (Kd.F_below C21.out hb)
  clear C23
  have C25 := Aside0.mk hc
  have P := Aside0.mk (blk_below P.out hb)
  have Q := Aside0.mk (Q.out.trans (hb.mono Q.out.size))
  clear hb hc hlt
  -- 26: C map
  go_wp2_with fail
  refine (c_C _ _ _ _ _).mono ?_
  rintro en w26 ⟨rfl, hb⟩
  have C3 := Aside0.mk (Kd.F_below C3.out hb)
  have C6 := Aside0.mk (Kd.F_below C6.out hb)
  have C19 := Aside0.mk (Kd.F_below C19.out hb)
  have C21 := Aside0.mk (Kd.F_below C21.out hb)
  have C25 := Aside0.mk (Kd.F_below C25.out hb)
  have P := Aside0.mk (blk_below P.out hb)
  have Q := Aside0.mk (Q.out.trans (hb.mono Q.out.size))
  clear hb
  -- 27: V y
  go_wp2_with fail
  refine (c_V _ _).mono ?_
  rintro en w27 ⟨rfl, hb⟩
  simp only [encH, List.length_nil]
  have C3 := Aside0.mk (Kd.F_below C3.out hb)
  have C6 := Aside0.mk (Kd.F_below C6.out hb)
  have C19 := Aside0.mk (Kd.F_below C19.out hb)
  have C21 := Aside0.mk (Kd.F_below C21.out hb)
  have C25 := Aside0.mk (Kd.F_below C25.out hb)
  have P := Aside0.mk (blk_below P.out hb)
  have Q := Aside0.mk (Q.out.trans (hb.mono Q.out.size))
  clear hb
  -- 28: a list
  have hlt : w.heap.size < w27.heap.size := by have := lt_of_block P.out; first | exact this | (simpa only [World.size_alloc] using this)
  have hc : Kd.F k24 (w27.alloc (.cells #[.int .i64 3, .string (⟨#[109, 97, 112]⟩ : ByteArray), .slice (some ⟨w24.heap.size, 0, none⟩) 1 1, .int .i64 1, .string (⟨#[121]⟩ : ByteArray), .slice none 0 0] 24)) (fun k => k ≠ w.heap.size) (some ⟨w27.heap.size, 0, none⟩) 2 ll28 := by
    have h := F_lit2 (W := w27) (ok := (fun k => k ≠ w.heap.size)) (by first | (show _ ≠ _; omega) | (show _ ≠ _; simp only [World.size_alloc]; omega)) 24 (k24_mkF _ _ lx26 (Nat.le_refl _) C25.out) rfl (k24_mkF _ _ lx27 (Nat.le_refl _) (Kd.F_nil k24 _ _)) rfl
    try simp only [World.size_alloc] at h
    exact h
  have hb := below_alloc1 w27 (.cells #[.int .i64 3, .string (⟨#[109, 97, 112]⟩ : ByteArray), .slice (some ⟨w24.heap.size, 0, none⟩) 1 1, .int .i64 1, .string (⟨#[121]⟩ : ByteArray), .slice none 0 0] 24)
  have C3 := Aside0.mk (Kd.F_below C3.out hb)
  have C6 := Aside0.mk (Kd.F_below C6.out hb)
  have C19 := Aside0.mk (Kd.F_below C19.out hb)
  have C21 := Aside0.mk (Kd.F_below C21.out hb)
  clear C25
  have C28 := Aside0.mk hc
  have P := Aside0.mk (blk_below P.out hb)
  have Q := Aside0.mk (Q.out.trans (hb.mono Q.out.size))
  clear hb hc hlt
  -- 29: M p
  go_wp2_with fail
  refine (c_M _ _ _ _ _).mono ?_
  rintro en w29 ⟨rfl, hb⟩
  have C3 := Aside0.mk (Kd.F_below C3.out hb)
  have C6 := Aside0.mk (Kd.F_below C6.out hb)
  have C19 := Aside0.mk (Kd.F_below C19.out hb)
  have C21 := Aside0.mk (Kd.F_below C21.out hb)
  have C28 := Aside0.mk (Kd.F_below C28.out hb)
  have P := Aside0.mk (blk_below P.out hb)
  have P29 := P
  have Q := Aside0.mk (Q.out.trans (hb.mono Q.out.size))
  clear hb
  have kP := (blk_cell P.out 0).trans rfl
  have fP := blk_frozen P.out 0
  have hlt := lt_of_block P.out
  have hlt0 := hlt
  obtain ⟨X, hX⟩ : ∃ X, w29.setCell ⟨w.heap.size, 0, none⟩ (.slice (some ⟨w29.heap.size, 0, none⟩) 3 3) = X := ⟨_, rfl⟩
  have hXs : X.heap.size = w29.heap.size := by rw [← hX]; simp [World.setCell]
  have P := Aside0.mk (show X.heap[w.heap.size]? = some (.cells #[.slice (some ⟨w29.heap.size, 0, none⟩) 3 3] 53 (0, 0)) by rw [← hX]; exact blk_put P.out 0 _ rfl)
  have Q := Aside0.mk (show Below w.heap.size w X by rw [← hX]; exact Q.out.setCell (Nat.le_refl _) _)
  have C3 := Aside0.mk (Kd.F_far C3.out (p := ⟨w.heap.size, 0, none⟩) (fun k hk => hk) (.slice (some ⟨w29.heap.size, 0, none⟩) 3 3))
  rw [hX] at C3
  have C6 := Aside0.mk (Kd.F_far C6.out (p := ⟨w.heap.size, 0, none⟩) (fun k hk => hk) (.slice (some ⟨w29.heap.size, 0, none⟩) 3 3))
  rw [hX] at C6
  have C19 := Aside0.mk (Kd.F_far C19.out (p := ⟨w.heap.size, 0, none⟩) (fun k hk => hk) (.slice (some ⟨w29.heap.size, 0, none⟩) 3 3))
  rw [hX] at C19
  have C21 := Aside0.mk (Kd.F_far C21.out (p := ⟨w.heap.size, 0, none⟩) (fun k hk => hk) (.slice (some ⟨w29.heap.size, 0, none⟩) 3 3))
  rw [hX] at C21
  have C28 := Aside0.mk (Kd.F_far C28.out (p := ⟨w.heap.size, 0, none⟩) (fun k hk => hk) (.slice (some ⟨w29.heap.size, 0, none⟩) 3 3))
  rw [hX] at C28
  -- 31: a list
  have hlt : w.heap.size < X.heap.size := by have := lt_of_block P.out; first | exact this | (simpa only [World.size_alloc] using this)
  have hc : Kd.F k58 (X.alloc (.cells #[.string (⟨#[111, 110, 101, 115]⟩ : ByteArray), .slice none 0 0, .slice none 0 0, .int .i64 2, .string (⟨#[99, 111, 110, 115]⟩ : ByteArray), .slice (some ⟨w2.heap.size, 0, none⟩) 2 2, .string (⟨#[109, 97, 112]⟩ : ByteArray), .slice (some ⟨w4.heap.size, 0, none⟩) 1 1, .slice (some ⟨w17.heap.size, 0, none⟩) 2 2, .int .i64 0, .string (⟨#[]⟩ : ByteArray), .slice none 0 0, .string (⟨#[116, 119, 111]⟩ : ByteArray), .slice (some ⟨w17.heap.size + 1, 0, none⟩) 2 2, .slice none 0 0, .int .i64 2, .string (⟨#[112]⟩ : ByteArray), .slice (some ⟨w27.heap.size, 0, none⟩) 2 2] 58)) (fun k => k ≠ w.heap.size) (some ⟨X.heap.size, 0, none⟩) 3 ll31 := by
    have h := F_lit3 (W := X) (ok := (fun k => k ≠ w.heap.size)) (by first | (show _ ≠ _; omega) | (show _ ≠ _; simp only [World.size_alloc]; omega)) 58 (k58_mkF _ _ (⟨(⟨#[111, 110, 101, 115]⟩ : ByteArray), [], [], lx4⟩ : De) (Nat.le_refl _) (Kd.F_nil Kd.string _ _) (Nat.le_refl _) (Kd.F_nil k99 _ _) (Nat.le_refl _) C3.out) rfl (k58_mkF _ _ (⟨(⟨#[109, 97, 112]⟩ : ByteArray), ll6, ll19, ⟨0, ⟨#[]⟩, []⟩⟩ : De) (Nat.le_refl _) C6.out (Nat.le_refl _) C19.out (Nat.le_refl _) (Kd.F_nil k24 _ _)) rfl (k58_mkF _ _ (⟨(⟨#[116, 119, 111]⟩ : ByteArray), ll21, [], lx29⟩ : De) (Nat.le_refl _) C21.out (Nat.le_refl _) (Kd.F_nil k99 _ _) (Nat.le_refl _) C28.out) rfl
    try simp only [World.size_alloc] at h
    exact h
  have hb := below_alloc1 X (.cells #[.string (⟨#[111, 110, 101, 115]⟩ : ByteArray), .slice none 0 0, .slice none 0 0, .int .i64 2, .string (⟨#[99, 111, 110, 115]⟩ : ByteArray), .slice (some ⟨w2.heap.size, 0, none⟩) 2 2, .string (⟨#[109, 97, 112]⟩ : ByteArray), .slice (some ⟨w4.heap.size, 0, none⟩) 1 1, .slice (some ⟨w17.heap.size, 0, none⟩) 2 2, .int .i64 0, .string (⟨#[]⟩ : ByteArray), .slice none 0 0, .string (⟨#[116, 119, 111]⟩ : ByteArray), .slice (some ⟨w17.heap.size + 1, 0, none⟩) 2 2, .slice none 0 0, .int .i64 2, .string (⟨#[112]⟩ : ByteArray), .slice (some ⟨w27.heap.size, 0, none⟩) 2 2] 58)
  clear C3
  clear C6
  clear C19
  clear C21
  clear C28
  have C31 := Aside0.mk hc
  have P := Aside0.mk (blk_below P.out hb)
  have Q := Aside0.mk (Q.out.trans (hb.mono Q.out.size))
  clear hb hc hlt
  have HX := Lib.hid hX
  have HXs := Lib.hid hXs
  clear hX hXs
  go_wp2_with fail
  rw [HX.out]
  rw [HXs.out] at C31
  refine bodyPost_ret (results_cell_row rfl _ _ w.heap.size 53 #[.slice (some ⟨w29.heap.size, 0, none⟩) 3 3] (0, 0) _ rfl P.out Try.underlying53 rfl (by kernel_rfl)) rfl ?_
  exact ⟨_, rfl, Kd.F_now C31.out, Q.out⟩
end Go.Proofs.Ytacefdkfbpgedaa.Mine
