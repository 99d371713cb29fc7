/- ProgChanges answers true for every input, and each argument reads behind the call as it read before. -/
import Derived.Test.YtacefdkfbpgedaaGreatCC9
import Derived.Deep.Slices
import Derived.ChangeArms
import Derived.SizedLaws
import Derived.Test.YtacefdkfbpgedaaGreatCC15
import Derived.Test.YtacefdkfbpgedaaGreatRows
import Derived.WalkKit
import Derived.ProofKit
import Derived.OpenShut
import Derived.ShutString
import Derived.ChangeOld
import Derived.Below
namespace Go.Proofs.YtacefdkfbpgedaaGreat.Mine
open Go.Proofs.YtacefdkfbpgedaaGreat.PProgSmall
open Go.RowKit Go.Shelf Go.ChangeShapes Go.WideShapes Go.Proofs.YtacefdkfbpgedaaGreatW.PrintWords Go.Proofs.YtacefdkfbpgedaaGreatW.PrintLast Go.Proofs.YtacefdkfbpgedaaGreatW.PrintMore
set_option linter.unusedVariables false
set_option linter.unusedSimpArgs false
section
variable {H : Type} {enc : TypeId × Value → H} {w : World} {base : Nat} {spare : Nat → Bool} {held : Bool}
theorem cells_expr : Tryz.prog.cellsOf 57 = 3 := by kernel_rfl
theorem cells_int : Tryz.prog.cellsOf 3 = 1 := by kernel_rfl
theorem cells_str : Tryz.prog.cellsOf 9 = 1 := by kernel_rfl
theorem cells_sExpr : Tryz.prog.cellsOf 55 = 1 := by kernel_rfl
theorem nmL_all : ∀ {l : List Ex}, (∀ x ∈ l, nmE x) → nmL l
 | [], _ => by simp [nmL]
 | x :: xs, h => by rw [nmL]; exact ⟨h x List.mem_cons_self, nmL_all (fun y hy => h y (List.mem_cons_of_mem _ hy))⟩
theorem weights_mem_all {P : Program} {t : TypeId} {n : Nat} : ∀ {ds : List (DataW H)} {d : DataW H}, d ∈ ds → n ∈ d.weights P t → n ∈ DataW.weightsAll P t ds
 | [], d, h, _ => by simp at h
 | x :: xs, d, h, hn => by
  rw [DataW.weightsAll, List.mem_append]
  rcases List.mem_cons.1 h with rfl | h
  ·exact .inl hn
  ·exact .inr (weights_mem_all h hn)
theorem read_rows {α : Type} (z : α) {d : Kd α} {Q : α → Prop} {t e : TypeId} {fuel : Nat} {cs : List Value} {x : DataW H × List MemPlace} (hu : Tryz.prog.underlying t = some (.slice e)) (hsz : Tryz.prog.cellsOf e = d.sz)
  (h : DataW.trod enc Tryz.prog w base spare held fuel t cs = some x)
  (hw : ∀ k ∈ x.1.weights Tryz.prog t, k ≤ nmLim)
  (hel : ∀ n cs y, n < fuel → DataW.trod enc Tryz.prog w base spare held n e cs = some y → (∀ k ∈ y.1.weights Tryz.prog e, k ≤ nmLim) → ∃ x : α, d.K w x cs ∧ Q x) :
  ∃ (l : List α) (A : Option Addr) (c : Nat), cs = [.slice A l.length c] ∧ l.length ≤ c ∧ Kd.C d w A l.length l ∧ ∀ x ∈ l, Q x := by
 rcases DataW.trod_slice hu h with ⟨h0, _⟩ | ⟨a, len, cap, elems, rest, n, hf, hcs, hx, _, hl, hm, hlen, hcell, _⟩
 ·exact ⟨[], none, 0, h0, Nat.le_refl _, Kd.C_nil d w, fun x hx => by simp at hx⟩
 ·have each : ∀ i, i < len → ∃ x : α, ∃ c : List Value, c.length = d.sz ∧ d.K w x c ∧ (∀ j u, c[j]? = some u → w.cell? (a.add (i * d.sz + j)) = some u) ∧ Q x := by
   intro i hi
   have h1 := hcell i hi
   rw [List.getElem?_eq_getElem (by omega)] at h1
   obtain ⟨c, h2, h3⟩ := Option.bind_eq_some_iff.1 h1
   obtain ⟨_, h4, h5⟩ := World.cells?_some h2
   obtain ⟨x, h6, h7⟩ := hel n c _ (by omega) h3 (fun k hk => hw k (by
    rw [hx]
    simp only [DataW.weights, hu]
    exact List.mem_cons_of_mem _ (List.mem_append.2 (.inl (weights_mem_all (List.mem_map.2 ⟨_, List.getElem_mem (by omega), rfl⟩) hk)))))
   refine ⟨x, c, by rw [h4, hsz], h6, fun j u hu => ?_, h7⟩
   have hj := (List.getElem?_eq_some_iff.1 hu).1
   have h8 := h5 j (by omega)
   rw [hu, hsz] at h8
   rw [← h8, Go.Deep.add_add]
  haveI : Inhabited α := ⟨z⟩
  obtain ⟨f, hf'⟩ := Go.Deep.choose_lt each
  refine ⟨(List.range len).map f, some a, cap, by rw [List.length_map, List.length_range]; exact hcs, by simpa using hl, ⟨rfl, by rw [List.length_map, List.length_range]; have : maxLen ≤ 9223372036854775807 := (by decide); omega, fun _ => ⟨a, rfl, fun j p hj => ?_⟩⟩, fun x hx => ?_⟩
  ·obtain ⟨hjl, rfl⟩ := List.getElem?_eq_some_iff.1 hj
   have hjl' : j < len := by simpa using hjl
   obtain ⟨c, g1, g2, g3, _⟩ := hf' j hjl'
   refine ⟨c, g1, ?_, g3⟩
   simpa using g2
  ·obtain ⟨i, hi, rfl⟩ := List.mem_map.1 hx
   obtain ⟨c, _, _, _, g⟩ := hf' i (List.mem_range.1 hi)
   exact g
set_option maxRecDepth 100000 in
theorem read_expr : ∀ (fuel : Nat) (cs : List Value) (x : DataW H × List MemPlace), DataW.trod enc Tryz.prog w base spare held fuel 57 cs = some x → (∀ k ∈ x.1.weights Tryz.prog 57, k ≤ nmLim) → ∃ e : Ex, k57.K w e cs ∧ nmE e := by
 intro fuel
 induction fuel using Nat.strongRecOn with
 | _ fuel ih =>
  intro cs x h hw
  obtain ⟨xs, n, hf, hx, hl, hlen, hfs⟩ := DataW.trod_struct Tryz.underlying57 h
  rw [cells_expr] at hl
  match cs, hl with
  | [v0, v1, v2], _ =>
   match xs, hlen with
   | [y0, y1, y2], _ =>
    have hpart : ∀ (j t : Nat) (y : DataW H × List MemPlace), [3, 9, 55][j]? = some t → [y0.1, y1.1, y2.1][j]? = some y.1 → ∀ k ∈ y.1.weights Tryz.prog t, k ≤ nmLim := fun j t y h1 h2 k hk => hw k (by
     rw [hx]
     simp only [DataW.weights, Tryz.underlying57]
     exact DataW.weights_mem_each (ts := [3, 9, 55]) h1 h2 k hk)
    have f0 : DataW.trod enc Tryz.prog w base spare held n 3 (([v0, v1, v2].drop 0).take (Tryz.prog.cellsOf 3)) = some y0 := hfs 0 _ rfl
    have f1 : DataW.trod enc Tryz.prog w base spare held n 9 (([v0, v1, v2].drop 1).take (Tryz.prog.cellsOf 9)) = some y1 := hfs 1 _ rfl
    have f2 : DataW.trod enc Tryz.prog w base spare held n 55 (([v0, v1, v2].drop 2).take (Tryz.prog.cellsOf 55)) = some y2 := hfs 2 _ rfl
    rw [cells_int] at f0
    rw [cells_str] at f1
    rw [cells_sExpr] at f2
    obtain ⟨k, hk, _⟩ := DataW.trod_int Tryz.underlying3 (show DataW.trod enc Tryz.prog w base spare held n 3 [v0] = some y0 from f0)
    obtain ⟨s, hs, hsx, _⟩ := DataW.trod_string Tryz.underlying9 (show DataW.trod enc Tryz.prog w base spare held n 9 [v1] = some y1 from f1)
    obtain ⟨l, A, c, hv, hlc, hC, hq⟩ := read_rows z57 (d := k57) (Q := nmE) Tryz.underlying55 cells_expr (show DataW.trod enc Tryz.prog w base spare held n 55 [v2] = some y2 from f2) (hpart 2 _ y2 rfl rfl) (fun m cs' y hm hy hy2 => ih m (by omega) cs' y hy hy2)
    obtain rfl : v0 = _ := by simpa using hk
    obtain rfl : v1 = _ := by simpa using hs
    obtain rfl : v2 = _ := by simpa using hv
    refine ⟨⟨k, s, l⟩, k57_mk w ⟨k, s, l⟩ hlc hC, ?_⟩
    rw [nmE_eq]
    have h1 := hpart 1 _ y1 rfl rfl s.data.toList.length (by rw [hsx]; simp [DataW.weights])
    exact ⟨by simpa using h1, nmL_all hq⟩
theorem cells_Case : Tryz.prog.cellsOf 62 = 5 := by kernel_rfl
theorem cells_sCase : Tryz.prog.cellsOf 54 = 1 := by kernel_rfl
theorem cells_sStr : Tryz.prog.cellsOf 30 = 1 := by kernel_rfl
theorem cells_Def : Tryz.prog.cellsOf 59 = 6 := by kernel_rfl
theorem cells_sDef : Tryz.prog.cellsOf 22 = 1 := by kernel_rfl
theorem cells_Prog : Tryz.prog.cellsOf 24 = 1 := by kernel_rfl
theorem read_strs {fuel : Nat} {cs : List Value} {x : DataW H × List MemPlace} (h : DataW.trod enc Tryz.prog w base spare held fuel 30 cs = some x) (hw : ∀ k ∈ x.1.weights Tryz.prog 30, k ≤ nmLim) :
  ∃ (l : List ByteArray) (A : Option Addr) (c : Nat), cs = [.slice A l.length c] ∧ l.length ≤ c ∧ Kd.C Kd.string w A l.length l := by
 obtain ⟨l, A, c, h1, h2, h3, _⟩ := read_rows ByteArray.empty (d := Kd.string) (Q := fun _ => True) Tryz.underlying30 cells_str h hw (fun n cs y _ hy _ => by
  obtain ⟨s, hs, _, _⟩ := DataW.trod_string Tryz.underlying9 hy
  exact ⟨s, hs, trivial⟩)
 exact ⟨l, A, c, h1, h2, h3⟩
set_option maxRecDepth 100000 in
theorem read_case {fuel : Nat} {cs : List Value} {x : DataW H × List MemPlace} (h : DataW.trod enc Tryz.prog w base spare held fuel 62 cs = some x) (hw : ∀ k ∈ x.1.weights Tryz.prog 62, k ≤ nmLim) :
  ∃ d : Ca, k62.K w d cs ∧ nmE d.f2 := by
 obtain ⟨xs, n, hf, hx, hl, hlen, hfs⟩ := DataW.trod_struct Tryz.underlying62 h
 rw [cells_Case] at hl
 match cs, hl with
 | [v0, v1, v2, v3, v4], _ =>
  match xs, hlen with
  | [y0, y1, y2], _ =>
   have hpart : ∀ (j t : Nat) (y : DataW H × List MemPlace), [9, 30, 57][j]? = some t → [y0.1, y1.1, y2.1][j]? = some y.1 → ∀ k ∈ y.1.weights Tryz.prog t, k ≤ nmLim := fun j t y h1 h2 k hk => hw k (by
    rw [hx]
    simp only [DataW.weights, Tryz.underlying62]
    exact DataW.weights_mem_each (ts := [9, 30, 57]) h1 h2 k hk)
   have f0 : DataW.trod enc Tryz.prog w base spare held n 9 (([v0, v1, v2, v3, v4].drop 0).take (Tryz.prog.cellsOf 9)) = some y0 := hfs 0 _ rfl
   have f1 : DataW.trod enc Tryz.prog w base spare held n 30 (([v0, v1, v2, v3, v4].drop 1).take (Tryz.prog.cellsOf 30)) = some y1 := hfs 1 _ rfl
   have f2 : DataW.trod enc Tryz.prog w base spare held n 57 (([v0, v1, v2, v3, v4].drop 2).take (Tryz.prog.cellsOf 57)) = some y2 := hfs 2 _ rfl
   rw [cells_str] at f0
   rw [cells_sStr] at f1
   rw [cells_expr] at f2
   obtain ⟨s, hs, _, _⟩ := DataW.trod_string Tryz.underlying9 (show DataW.trod enc Tryz.prog w base spare held n 9 [v0] = some y0 from f0)
   obtain ⟨l, A, c, hv, hlc, hC⟩ := read_strs (show DataW.trod enc Tryz.prog w base spare held n 30 [v1] = some y1 from f1) (hpart 1 _ y1 rfl rfl)
   obtain ⟨e, hK, hn⟩ := read_expr n [v2, v3, v4] y2 (show DataW.trod enc Tryz.prog w base spare held n 57 [v2, v3, v4] = some y2 from f2) (hpart 2 _ y2 rfl rfl)
   obtain ⟨A4, c4, he, hl4, hC4⟩ := k57_open hK
   obtain rfl : v0 = _ := by simpa using hs
   obtain rfl : v1 = _ := by simpa using hv
   obtain ⟨rfl, rfl, rfl⟩ : v2 = _ ∧ v3 = _ ∧ v4 = _ := by simpa using he
   exact ⟨⟨s, l, e⟩, k62_mk w ⟨s, l, e⟩ hlc hC hl4 hC4, hn⟩
set_option maxRecDepth 100000 in
theorem read_def {fuel : Nat} {cs : List Value} {x : DataW H × List MemPlace} (h : DataW.trod enc Tryz.prog w base spare held fuel 59 cs = some x) (hw : ∀ k ∈ x.1.weights Tryz.prog 59, k ≤ nmLim) :
  ∃ d : De, k59.K w d cs ∧ nmD d := by
 obtain ⟨xs, n, hf, hx, hl, hlen, hfs⟩ := DataW.trod_struct Tryz.underlying59 h
 rw [cells_Def] at hl
 match cs, hl with
 | [v0, v1, v2, v3, v4, v5], _ =>
  match xs, hlen with
  | [y0, y1, y2, y3], _ =>
   have hpart : ∀ (j t : Nat) (y : DataW H × List MemPlace), [9, 30, 54, 57][j]? = some t → [y0.1, y1.1, y2.1, y3.1][j]? = some y.1 → ∀ k ∈ y.1.weights Tryz.prog t, k ≤ nmLim := fun j t y h1 h2 k hk => hw k (by
    rw [hx]
    simp only [DataW.weights, Tryz.underlying59]
    exact DataW.weights_mem_each (ts := [9, 30, 54, 57]) h1 h2 k hk)
   have f0 : DataW.trod enc Tryz.prog w base spare held n 9 (([v0, v1, v2, v3, v4, v5].drop 0).take (Tryz.prog.cellsOf 9)) = some y0 := hfs 0 _ rfl
   have f1 : DataW.trod enc Tryz.prog w base spare held n 30 (([v0, v1, v2, v3, v4, v5].drop 1).take (Tryz.prog.cellsOf 30)) = some y1 := hfs 1 _ rfl
   have f2 : DataW.trod enc Tryz.prog w base spare held n 54 (([v0, v1, v2, v3, v4, v5].drop 2).take (Tryz.prog.cellsOf 54)) = some y2 := hfs 2 _ rfl
   have f3 : DataW.trod enc Tryz.prog w base spare held n 57 (([v0, v1, v2, v3, v4, v5].drop 3).take (Tryz.prog.cellsOf 57)) = some y3 := hfs 3 _ rfl
   rw [cells_str] at f0
   rw [cells_sStr] at f1
   rw [cells_sCase] at f2
   rw [cells_expr] at f3
   obtain ⟨s, hs, _, _⟩ := DataW.trod_string Tryz.underlying9 (show DataW.trod enc Tryz.prog w base spare held n 9 [v0] = some y0 from f0)
   obtain ⟨l, A, c, hv, hlc, hC⟩ := read_strs (show DataW.trod enc Tryz.prog w base spare held n 30 [v1] = some y1 from f1) (hpart 1 _ y1 rfl rfl)
   obtain ⟨cas, A2, c2, hv2, hlc2, hC2, hq2⟩ := read_rows z62 (d := k62) (Q := fun x => nmE x.f2) Tryz.underlying54 cells_Case (show DataW.trod enc Tryz.prog w base spare held n 54 [v2] = some y2 from f2) (hpart 2 _ y2 rfl rfl) (fun m cs' y hm hy hy2 => read_case hy hy2)
   obtain ⟨e, hK, hn⟩ := read_expr n [v3, v4, v5] y3 (show DataW.trod enc Tryz.prog w base spare held n 57 [v3, v4, v5] = some y3 from f3) (hpart 3 _ y3 rfl rfl)
   obtain ⟨A5, c5, he, hl5, hC5⟩ := k57_open hK
   obtain rfl : v0 = _ := by simpa using hs
   obtain rfl : v1 = _ := by simpa using hv
   obtain rfl : v2 = _ := by simpa using hv2
   obtain ⟨rfl, rfl, rfl⟩ : v3 = _ ∧ v4 = _ ∧ v5 = _ := by simpa using he
   exact ⟨⟨s, l, cas, e⟩, k59_mk w ⟨s, l, cas, e⟩ hlc hC hlc2 hC2 hl5 hC5, hn, hq2⟩
set_option maxRecDepth 100000 in
theorem read_prog {fuel : Nat} {cs : List Value} {x : DataW H × List MemPlace} (h : DataW.trod enc Tryz.prog w base spare held fuel 24 cs = some x) (hw : ∀ k ∈ x.1.weights Tryz.prog 24, k ≤ nmLim) :
  ∃ (l : List De) (A : Option Addr) (c : Nat), cs = [.slice A l.length c] ∧ l.length ≤ c ∧ Kd.C k59 w A l.length l ∧ ∀ d ∈ l, nmD d := by
 obtain ⟨xs, n, hf, hx, hl, hlen, hfs⟩ := DataW.trod_struct Tryz.underlying24 h
 rw [cells_Prog] at hl
 match cs, hl with
 | [v0], _ =>
  match xs, hlen with
  | [y0], _ =>
   have f0 : DataW.trod enc Tryz.prog w base spare held n 22 (([v0].drop 0).take (Tryz.prog.cellsOf 22)) = some y0 := hfs 0 _ rfl
   rw [cells_sDef] at f0
   exact read_rows z59 (d := k59) (Q := nmD) Tryz.underlying22 cells_Def (show DataW.trod enc Tryz.prog w base spare held n 22 [v0] = some y0 from f0) (fun k hk => hw k (by
    rw [hx]
    simp only [DataW.weights, Tryz.underlying24]
    exact DataW.weights_mem_each (ts := [22]) (ds := [y0.1]) (j := 0) rfl rfl k hk)) (fun m cs' y hm hy hy2 => read_def hy hy2)
end
end Go.Proofs.YtacefdkfbpgedaaGreat.Mine
namespace Go.Proofs.YtacefdkfbpgedaaGreat.Mine
open Go.Proofs.YtacefdkfbpgedaaGreat.PProgSmall
open Go.RowKit Go.Shelf Go.ChangeShapes Go.WideShapes Go.ChangeAt Go.Proofs.YtacefdkfbpgedaaGreatW.PrintWords Go.Proofs.YtacefdkfbpgedaaGreatW.PrintLast Go.Proofs.YtacefdkfbpgedaaGreatW.PrintMore
set_option linter.unusedVariables false
set_option linter.unusedSimpArgs false
theorem c_lawChanges (ps : List De) (d : De) (A : Option Addr) (c : Nat) (cs : List Value) (s t : ByteArray) (kids : Int) (w : World) (hr : Kd.C k59 w A ps.length ps) (hc : ps.length ≤ c) (hd : Kd.FK k59 w (fun k => k < w.heap.size) d cs) (hn : ∀ d ∈ ps, nmD d) (hn2 : nmD d) :
  Calls Tryz.prog 6 #[.agg #[.slice A ps.length c], .agg cs.toArray, .string s, .string t, .int .i64 kids] w fun en w' => en = .returned (.bool true) ∧ Below w.heap.size w w' := by
 cases h : (bigP ps || (bigD d || (decide ((40 : Int) < (s.size : Int)) || decide ((40 : Int) < (t.size : Int))))) with
 | true => exact c_lawChangesBig ps d A c cs s t kids w hr hc hd hn hn2 h
 | false =>
  simp only [Bool.or_eq_false_iff] at h
  exact c_lawChangesSmall ps d A c cs s t kids w hr hc hd hn hn2 h.1 h.2.1 h.2.2.1 h.2.2.2
theorem own : ownKnob Tryz.prog.godebug = none := by kernel_rfl
theorem laidOut : laidOutB Tryz.prog = true := by kernel_rfl
set_option maxRecDepth 100000 in
theorem lifted (os : Os) (started : os.Started) (H : Type) (enc : TypeId × Value → H) :
  ReturnsInHanded {} Tryz.checked os 6 .any (Rows.progChangesSpec.pre6 enc Tryz.prog Tryz.f6 Rows.progChangesRow.domain false) (Rows.progChangesSpec.post enc Tryz.prog Tryz.f6 false true false false) := by
 refine returnsInHanded_of_change_sized (C := Tryz.checked) own started (by kernel_rfl) Tryz.func6
  (ChangeSpec.witness6 (enc := enc) (C := Tryz.checked) false ⟨#[], #[.agg #[.slice none 0 0], .agg #[.string ByteArray.empty, .slice none 0 0, .slice none 0 0, .int .i64 0, .string ByteArray.empty, .slice none 0 0], .string ByteArray.empty, .string ByteArray.empty, .int .i64 0], []⟩ 8 (by kernel_rfl) (by kernel_rfl) (by kernel_rfl) (by kernel_rfl)) ?_
 intro W base args ds gs before hval0 hW hcnd hsz0 _
 have hsz : (DataW.weightsEach Tryz.prog (Tryz.f6.params.toList ++ Rows.progChangesSpec.plain.varTypes Tryz.prog) (ds ++ gs)).all (· ≤ reachBytes) = true := hsz0
 have hval : ∀ (j : Nat) t v, Tryz.f6.params[j]? = some t → args[j]? = some v → Value.okWide Tryz.prog W .any base t v := hval0
 have hW' := hW
 obtain ⟨p, q, hA0, hV, rfl, hfz, hnd⟩ := hW
 have hA : DataW.TrodAll enc Tryz.prog W 0 (fun _ => true) true Tryz.f6.params.toList args.toList ds p := hA0
 rw [Tryz.params6] at hA hval hsz
 obtain ⟨v0, vs0, d0, ds0, p0, q0, hargs, rfl, rfl, h0, r0⟩ := trodAll_cons hA
 obtain ⟨v1, vs1, d1, ds1, p1, q1, rfl, rfl, rfl, h1, r1⟩ := trodAll_cons r0
 obtain ⟨v2, vs2, d2, ds2, p2, q2, rfl, rfl, rfl, h2, r2⟩ := trodAll_cons r1
 obtain ⟨v3, vs3, d3, ds3, p3, q3, rfl, rfl, rfl, h3, r3⟩ := trodAll_cons r2
 obtain ⟨v4, vs4, d4, ds4, p4, q4, rfl, rfl, rfl, h4, r4⟩ := trodAll_cons r3
 obtain ⟨rfl, rfl, rfl⟩ := trodAll_nil r4
 obtain rfl : args = #[v0, v1, v2, v3, v4] := by cases args; simp_all
 obtain ⟨rfl, rfl⟩ := trodVars_none hV
 obtain ⟨cs0, rfl, hcs0⟩ := okWide_struct Tryz.underlying24 (hval 0 24 v0 rfl rfl)
 obtain ⟨cs1, rfl, hcs1⟩ := okWide_struct Tryz.underlying59 (hval 1 59 v1 rfl rfl)
 obtain ⟨s, rfl⟩ := okWide_string Tryz.underlying9 (hval 2 9 v2 rfl rfl)
 obtain ⟨t, rfl⟩ := okWide_string Tryz.underlying9 (hval 3 9 v3 rfl rfl)
 obtain ⟨kids, rfl⟩ := okWide_int Tryz.underlying3 (hval 4 3 v4 rfl rfl)
 have k0 := h0
 have k1 := h1
 have k2 := h2
 have k3 := h3
 have k4 := h4
 have lt0 : ∀ x ∈ p0, x.block < W.heap.size := by obtain ⟨m, hm⟩ := k0; exact DataW.trod_lt m _ _ _ hm
 have lt1 : ∀ x ∈ p1, x.block < W.heap.size := by obtain ⟨m, hm⟩ := k1; exact DataW.trod_lt m _ _ _ hm
 have lt2 : ∀ x ∈ p2, x.block < W.heap.size := by obtain ⟨m, hm⟩ := k2; exact DataW.trod_lt m _ _ _ hm
 have lt3 : ∀ x ∈ p3, x.block < W.heap.size := by obtain ⟨m, hm⟩ := k3; exact DataW.trod_lt m _ _ _ hm
 have lt4 : ∀ x ∈ p4, x.block < W.heap.size := by obtain ⟨m, hm⟩ := k4; exact DataW.trod_lt m _ _ _ hm
 obtain ⟨m0, t0⟩ := h0
 obtain ⟨m1, t1⟩ := h1
 have hw : ∀ (j t : Nat) d, [24, 59, 9, 9, 3][j]? = some t → [d0, d1, d2, d3, d4][j]? = some d → ∀ k ∈ d.weights Tryz.prog t, k ≤ nmLim := fun j t d h1 h2 k hk => by
  have hj : j < 5 := (List.getElem?_eq_some_iff.1 h1).1
  have h := List.all_eq_true.1 hsz k (DataW.weights_mem_each (j := j) (t := t) (d := d) (by
   rw [List.getElem?_append_left (by simpa using hj)]; simpa using h1) (by
   rw [List.getElem?_append_left (by simpa using hj)]; simpa using h2) k hk)
  exact Nat.le_trans (of_decide_eq_true h) (by decide)
 obtain ⟨defs, A0, c0, hcs, hl0, hC0, hn⟩ := read_prog t0 (hw 0 _ _ rfl rfl)
 obtain rfl : cs0 = #[.slice A0 defs.length c0] := by
  have h : cs0.toList = _ := hcs
  cases cs0; simp_all
 obtain ⟨dd, hK, hn2⟩ := read_def t1 (hw 1 _ _ rfl rfl)
 have hFK := K_FK k59_heap hK
 clear hA0 hval0
 have key := c_lawChanges defs dd A0 c0 cs1.toList s t kids W hC0 hl0 hFK hn hn2
 simp only [Array.toArray_toList] at key
 refine key.mono fun en W' ⟨he, bel⟩ => ?_
 subst he
 exact ⟨_, rfl, _, _, _, [], _, [], hW', trodAll_mk1 (shut_bool Tryz.underlying4 _), (trodAll_cons_mk (Below.trod laidOut (by kernel_rfl) (of_decide_eq_true (by kernel_rfl)) k0 bel lt0) (trodAll_cons_mk (Below.trod laidOut (by kernel_rfl) (of_decide_eq_true (by kernel_rfl)) k1 bel lt1) (trodAll_cons_mk (Below.trod laidOut (by kernel_rfl) (of_decide_eq_true (by kernel_rfl)) k2 bel lt2) (trodAll_cons_mk (Below.trod laidOut (by kernel_rfl) (of_decide_eq_true (by kernel_rfl)) k3 bel lt3) (trodAll_cons_mk (Below.trod laidOut (by kernel_rfl) (of_decide_eq_true (by kernel_rfl)) k4 bel lt4) trodAll_mk0))))), rfl, bel.frame _, fun h => by cases h⟩
theorem over : Rows.progChangesRow.holds Tryz.pinned (OpenSpec.ofChange Rows.progChangesSpec) :=
 OpenClaim.holds_of_wide 6 Tryz.f6 rfl rfl rfl rfl rfl rfl rfl ⟨rfl, rfl, rfl, rfl, rfl⟩ rfl rfl rfl rfl rfl (by kernel_rfl) Tryz.func6 (by kernel_rfl)
  (of_decide_eq_true (by kernel_rfl)) (by unfold Func.isWrapper; first | (rw [if_pos (by decide +kernel)]; kernel_rfl) | (rw [if_neg (by decide +kernel)]; exact ⟨rfl, rfl⟩))
  (fun os started H enc _ => lifted os started H enc)
theorem proved : Rows.ProgChangesSaid := over
#print axioms proved
end Go.Proofs.YtacefdkfbpgedaaGreat.Mine
namespace Go.Proofs.YtacefdkfbpgedaaGreat
theorem progChanges_holds : Rows.ProgChangesSaid := Mine.proved
end Go.Proofs.YtacefdkfbpgedaaGreat
