/- Ranging over an iterator that itself ranges over one: what a round keeps is told of all blocks but the loop's own record. -/
import Derived.Test.YtacefdkfbpgedaaCD2
import Derived.Test.YtacefdkfbpgedaaCD3
import Derived.Deep.DeepMust
import Derived.RangeFuncNested
import Derived.WalkSpells
import Derived.Lib.OthersKept
import Derived.DeepKeys4
namespace Go.Proofs.Ytacefdkfbpgedaa.Mine
open Go.Proofs.Ytacefdkfbpgedaa.PProgExprs
open Go.RowKit Go.Shelf Go.Proofs.YtacefdkfbpgedaaW.PrintWords Go.Proofs.YtacefdkfbpgedaaW.PrintLast Go.Proofs.YtacefdkfbpgedaaW.PrintMore
set_option linter.unusedVariables false
set_option linter.unusedSimpArgs false
def exO : Obj → Bool
  | .cells _ t _ => t == 24
  | _ => false
def KeepsBut (l : Option Nat) (W W' : World) : Prop := W.heap.size ≤ W'.heap.size ∧ ∀ k o, some k ≠ l → W.heap[k]? = some o → (o.isCells = false ∨ exO o = true) → W'.heap[k]? = some o
theorem KeepsBut.refl (l : Option Nat) (W : World) : KeepsBut l W W := ⟨Nat.le_refl _, fun _ _ _ h _ => h⟩
theorem KeepsBut.trans {l : Option Nat} {a b c : World} (h : KeepsBut l a b) (k : KeepsBut l b c) : KeepsBut l a c := ⟨Nat.le_trans h.1 k.1, fun i o hi h0 ho => k.2 i o hi (h.2 i o hi h0 ho) ho⟩
theorem KeepsBut.below {l : Option Nat} {W W' : World} (h : Below W.heap.size W W') : KeepsBut l W W' := ⟨h.size, fun k o _ hk _ => (h.block k (blk_lt hk)).trans hk⟩
theorem KeepsBut.any {W W' : World} (h : KeepsBut none W W') (l : Option Nat) : KeepsBut l W W' := ⟨h.1, fun k o _ hk ho => h.2 k o (by simp) hk ho⟩
theorem KeepsBut.putObj {W : World} {l : Nat} {o : Obj} (o' : Obj) : KeepsBut (some l) W (W.putObj l o') := ⟨by simp, fun k x hk h _ => (World.putObj_heap_other (fun e => hk (by rw [e]))).trans h⟩
theorem KeepsBut.set {l : Option Nat} {W : World} {g : Nat} {cs : Array Value} {t : Nat} {p : Nat × Nat} (h : W.heap[g]? = some (.cells cs t p)) (ht : t ≠ 24) (j : Nat) (u : Value) : KeepsBut l W (W.setCell ⟨g, j, none⟩ u) :=
  ⟨by simp [World.setCell], fun k o _ hk ho => (Below.heap_setCell _ _ _ _ (fun e => by
    subst e; try simp only at hk
    rw [h] at hk; cases hk
    rcases ho with ho | ho
    · cases ho
    · simp [exO] at ho; exact ht ho)).trans hk⟩
theorem KeepsBut.grown {l : Option Nat} {W W' : World} {row : Option Nat} (hg : W.grownBy W' row) (hr : ∀ k, row = some k → ∃ cs t p, W.heap[k]? = some (.cells cs t p) ∧ t ≠ 24) : KeepsBut l W W' :=
  ⟨hg.size, fun k o _ hk ho => (hg.block k (blk_lt hk) (fun e => by
    obtain ⟨cs, t, p, h, ht⟩ := hr k e.symm
    rw [h] at hk; cases hk
    rcases ho with ho | ho
    · cases ho
    · simp [exO] at ho; exact ht ho)).trans hk⟩
def KX (M : Nat → Prop) (n l : Nat) (W W' : World) : Prop := KC M n W W' ∧ KeepsBut (some l) W W'
theorem KX.trans {M : Nat → Prop} {n l : Nat} {a b c : World} (h : KX M n l a b) (k : KX M n l b c) : KX M n l a c := ⟨(KC.rel M n).trans h.1 k.1, h.2.trans k.2⟩
def SeqX {α : Type} (m g : Nat) (lb : Array Value) (enc : α → Value) (M : Nat → Prop) (n₀ : Nat) (S Sp : List α → Prop) (N : Nat) (w : World) : Prop :=
  ∀ (l : Nat) (J Jx : List α → World → Prop) (W : World), Below w.heap.size w W → l < W.heap.size → OwnFrom W.heap.size J → OwnFrom W.heap.size Jx →
    (∀ pre x W1, J pre W1 → pre.length < N → YieldAt Fence.wide 0 Try.prog l #[enc x] W1 fun e W' => (e = .returned (.bool true) ∧ J (pre ++ [x]) W' ∧ KX M n₀ l W1 W') ∨ (e = .returned (.bool false) ∧ Jx (pre ++ [x]) W' ∧ KeepsBut (some l) W1 W')) →
    J [] W → CallsIn Fence.wide m Try.prog g (#[.func (.yield l) #[] #[]] ++ lb) W fun e W' => (∃ v, e = .returned v) ∧ ((∃ xs, S xs ∧ J xs W') ∨ (∃ pre, Sp pre ∧ Jx pre W'))
def postX {α : Type} (M : Nat → Prop) (n₀ : Nat) (I : List α → World → Prop) (Ix : Code → List α → World → Prop) (xs : List α) (W : World) : Exit → Act → World → Prop
  | .normal, _, W' => KC M n₀ W W' ∧ KeepsBut none W W' ∧ I xs W'
  | .ret, _, W' => KeepsBut none W W' ∧ Ix .ret xs W'
  | .exit id, _, W' => KeepsBut none W W' ∧ Ix (.exit id) xs W'
  | .goto t, _, W' => KeepsBut none W W' ∧ Ix (.goto t) xs W'
  | .panic _, _, _ => False
  | .outgrown, _, _ => False
set_option maxHeartbeats 1000000 in
theorem rangeX {α : Type} {n : Nat} {g : Operand} {p : Tmp} {assign body : Code} {Q : Exit → Act → World → Prop} {a : Act} {w : World} (h1 : 1 ≤ n) {gf : Nat} {lb : Array Value} (hg : a.eval g = .func (.func gf) #[] lb)
    (eg : ∀ args w, (callFunc gf args).run Try.prog w = .ok (.enter gf args) w) {enc : α → Value} {M : Nat → Prop} {n₀ N : Nat} {S Sp : List α → Prop} {w0 : World} (hseq : SeqX (n - 1) gf lb enc M n₀ S Sp N w0) (hn₀ : n₀ ≤ w.heap.size) (hb0 : Below w0.heap.size w0 w)
    (I : List α → World → Prop) (Ix : Code → List α → World → Prop) (hI : OwnFrom w.heap.size I) (hIx : ∀ c, OwnFrom w.heap.size (Ix c)) (h0 : I [] w) (Ax : α → Act → World → Prop) (hAx : ∀ x a', OwnFrom w.heap.size (fun (_ : Unit) W => Ax x a' W))
    (hassign : ∀ (l : Nat) (pre : List α) (x : α) (W : World) (K : Act → World → Prop), w.heap.size ≤ l → I pre W → (∀ a' W', KeepsBut none W W' → KC M n₀ W W' → I pre W' → Ax x a' W' → K a' W') →
      assign.wpIn (Fence.wide.inRound l) (n - 1 - 1) Try.prog (Exit.then K (fun _ _ _ => False)) { tmps := (#[p].zip #[enc x]).foldl (fun t (p, v) => t.setIfInBounds p v) a.tmps, defers := [] } W)
    (hbody : ∀ (l : Nat) (pre : List α) (x : α) (a' : Act) (W : World), w.heap.size ≤ l → I pre W → Ax x a' W → pre.length < N → body.wpIn (Fence.wide.inRound l) (n - 1 - 1) Try.prog (postX M n₀ I Ix (pre ++ [x]) W) a' W)
    (hdone : ∀ (D : Nat) (xs : List α) (W : World), w.heap.size ≤ D → S xs → I xs W → W.heap[D]? = some (.deferred (some [])) → Q .normal { a with defers := { target := .collected D, args := #[] } :: a.defers } W)
    (hstop : ∀ (D : Nat) (c : Code) (pre : List α) (W : World), w.heap.size ≤ D → Sp pre → Ix c pre W → W.heap[D]? = some (.deferred (some [])) → c.wpIn Fence.wide n Try.prog Q { a with defers := { target := .collected D, args := #[] } :: a.defers } W) :
    (Code.rangeFunc g #[p] assign body).wpIn Fence.wide n Try.prog Q a w := by
  refine wpIn_rangeFunc fun fn hfn => ?_
  -- the two blocks of the loop's book-keeping
  obtain ⟨rec, hrec⟩ : ∃ rec : LoopState → Option Code → Loop, rec = fun st pe => { state := st, pending := pe, fn, tmps := a.tmps, params := #[p], assign, body, defers := w.heap.size } := ⟨_, rfl⟩
  obtain ⟨l, hl⟩ : ∃ l, l = w.heap.size + 1 := ⟨_, rfl⟩
  obtain ⟨W1, hW1⟩ : ∃ W1, (w.alloc (.deferred (some []))).alloc (.loop (rec .ready none)) = W1 := ⟨_, rfl⟩
  have z1 : W1.heap.size = w.heap.size + 2 := by rw [← hW1]; simp
  have hL : W1.heap[l]? = some (.loop (rec .ready none)) := by rw [← hW1, hl]; have := World.alloc_heap_new (w.alloc (.deferred (some []))) (.loop (rec .ready none)); rwa [World.size_alloc] at this
  have hD : W1.heap[w.heap.size]? = some (.deferred (some [])) := by rw [← hW1]; exact blk_alloc (World.alloc_heap_new w _) _
  have hI1 : I [] W1 := by rw [← hW1]; exact hI.alloc _ (hI.alloc _ h0)
  have hb1 : Below w0.heap.size w0 W1 := by rw [← hW1]; exact hb0.trans ((below_alloc2 w _ _).mono hb0.size)
  have hkc : ∀ (W : World) (r r' : Loop), W.heap[l]? = some (.loop r) → KX M n₀ l W (W.putObj l (.loop r')) := fun W r r' h => ⟨KC.putObj M (by omega) h rfl, KeepsBut.putObj (o := .loop r) _⟩
  -- what the loop's two blocks hold, beside what is the caller's
  let Jt : List α → World → Prop := fun pre W => I pre W ∧ W.heap[l]? = some (.loop (rec .ready none)) ∧ W.heap[w.heap.size]? = some (.deferred (some []))
  let Js : List α → World → Prop := fun pre W => ∃ c, Ix c pre W ∧ W.heap[l]? = some (.loop (rec .done (some c))) ∧ W.heap[w.heap.size]? = some (.deferred (some []))
  have up : ∀ {A : World} {row : Option Nat}, (∀ r, row = some r → W1.heap.size ≤ r ∧ ∃ o : Obj, A.heap[r]? = some o ∧ o.isCells = false) → (∀ r, row = some r → w.heap.size ≤ r ∧ ∃ o : Obj, A.heap[r]? = some o ∧ o.isCells = false) := fun hr r e => ⟨by have := (hr r e).1; omega, (hr r e).2⟩
  have keep : ∀ {A B : World} {row : Option Nat} {k : Nat} {o : Obj}, A.grownBy B row → (∀ r, row = some r → W1.heap.size ≤ r ∧ ∃ o : Obj, A.heap[r]? = some o ∧ o.isCells = false) → k < W1.heap.size → A.heap[k]? = some o → B.heap[k]? = some o :=
    fun hg' hr hk ho => (hg'.block _ (blk_lt ho) (fun e => by have := (hr _ e.symm).1; omega)).trans ho
  have hJt : OwnFrom W1.heap.size Jt := fun s A B row hs hg' hr => ⟨hI s A B row hs.1 hg' (up hr), keep hg' hr (by omega) hs.2.1, keep hg' hr (by omega) hs.2.2⟩
  have hJs : OwnFrom W1.heap.size Js := fun s A B row hs hg' hr => by
    obtain ⟨c, hc, h2, h3⟩ := hs
    exact ⟨c, hIx c s A B row hc hg' (up hr), keep hg' hr (by omega) h2, keep hg' hr (by omega) h3⟩
  refine ⟨l, [{ target := .collected w.heap.size, args := #[] }], W1, { target := .fn (.func gf) lb, args := #[.func (.yield l) #[] #[]] }, W1, gf, #[.func (.yield l) #[] #[]] ++ lb, W1, ?_, ?_, ?_, ?_, fun _ => h1, ?_⟩
  · rw [← hW1, hrec, hl]; exact run_enterLoop_outer _ _ _ _ _
  · simp only [resolve, hg]; simp [go_sem]
  · intro f' hf'; trivial
  · simp [invoke, go_sem, eg]
  · refine (hseq l Jt Js W1 hb1 (by omega) hJt hJs ?_ ⟨hI1, hL, hD⟩).mono ?_
    · -- a round
      rintro pre x W ⟨hi, h2, h3⟩ hlen
      have hy := run_yield (P := Try.prog) (args := #[enc x]) h2 (by rw [hrec]; rfl)
      rw [hrec] at hy
      refine YieldAt.any 0 (m := n - 1 - 1) ⟨fn, _, assign, body, hy, roundIn_of_wpIn hfn (hassign l pre x W _ (by omega) hi ?_)⟩
      clear hy
      intro a' Wa hka hca hia hax
      have g2 := hka.2 _ _ (by simp) h2 (.inl rfl)
      have g3 := hka.2 _ _ (by simp) h3 (.inl rfl)
      have hlt := blk_lt g2
      refine ⟨_, run_beginRound g2 (by rw [hrec]), ?_⟩
      obtain ⟨Wb, hWb⟩ : ∃ Wb, Wa.putObj l (.loop { rec .ready none with state := .busy }) = Wb := ⟨_, rfl⟩
      have b2 : Wb.heap[l]? = some (.loop { rec .ready none with state := .busy }) := by rw [← hWb]; exact World.putObj_heap_same hlt
      have b3 : Wb.heap[w.heap.size]? = some (.deferred (some [])) := by rw [← hWb]; exact (World.putObj_heap_other (by omega)).trans g3
      have bk : KX M n₀ l Wa Wb := by rw [← hWb]; exact hkc _ _ _ g2
      have bi : I pre Wb := by rw [← hWb]; exact hI.putObj _ hia (by omega) g2 rfl
      have ba : Ax x a' Wb := by rw [← hWb]; exact (hAx x a').putObj (s := ()) _ hax (by omega) g2 rfl
      rw [hWb]
      refine wpIn_mono (hbody l pre x a' Wb (by omega) bi ba hlen) ?_
      have fin : ∀ (jump : Option Code) (W3 : World), KeepsBut none Wb W3 →
          (Instr.endRound l jump).run Try.prog W3 = .ok (.bool jump.isNone) (W3.putObj l (.loop (rec (if jump.isNone then .ready else .done) jump))) ∧ W3.heap[l]? = some (.loop { rec .ready none with state := .busy }) ∧
          (W3.putObj l (.loop (rec (if jump.isNone then .ready else .done) jump))).heap[l]? = some (.loop (rec (if jump.isNone then .ready else .done) jump)) ∧
          (W3.putObj l (.loop (rec (if jump.isNone then .ready else .done) jump))).heap[w.heap.size]? = some (.deferred (some [])) := fun jump W3 hk3 => by
        have c2 := hk3.2 _ _ (by simp) b2 (.inl rfl)
        have hr := run_endRound (P := Try.prog) jump c2
        rw [hrec] at hr c2 ⊢
        exact ⟨hr, c2, World.putObj_heap_same (blk_lt c2), (World.putObj_heap_other (by omega)).trans (hk3.2 _ _ (by simp) b3 (.inl rfl))⟩
      rintro e a3 W3 hp
      cases e with
      | normal =>
        obtain ⟨hc3, hk3, hi3⟩ := hp
        obtain ⟨hr, h4, h5, h6⟩ := fin none W3 hk3
        exact ⟨_, _, hr, .inl ⟨rfl, ⟨hI.putObj _ hi3 (by omega) h4 rfl, h5, h6⟩, (KX.trans ⟨hca, hka.any _⟩ (bk.trans ⟨hc3, hk3.any _⟩)).trans (hkc _ _ _ h4)⟩⟩
      | ret =>
        obtain ⟨hk3, hi3⟩ := hp
        obtain ⟨hr, h4, h5, h6⟩ := fin (some .ret) W3 hk3
        exact ⟨_, _, hr, .inr ⟨rfl, ⟨.ret, (hIx _).putObj _ hi3 (by omega) h4 rfl, h5, h6⟩, ((hka.any _).trans (bk.2.trans (hk3.any _))).trans (hkc _ _ _ h4).2⟩⟩
      | exit id =>
        obtain ⟨hk3, hi3⟩ := hp
        obtain ⟨hr, h4, h5, h6⟩ := fin (some (.exit id)) W3 hk3
        exact ⟨_, _, hr, .inr ⟨rfl, ⟨.exit id, (hIx _).putObj _ hi3 (by omega) h4 rfl, h5, h6⟩, ((hka.any _).trans (bk.2.trans (hk3.any _))).trans (hkc _ _ _ h4).2⟩⟩
      | goto t =>
        obtain ⟨hk3, hi3⟩ := hp
        obtain ⟨hr, h4, h5, h6⟩ := fin (some (.goto t)) W3 hk3
        exact ⟨_, _, hr, .inr ⟨rfl, ⟨.goto t, (hIx _).putObj _ hi3 (by omega) h4 rfl, h5, h6⟩, ((hka.any _).trans (bk.2.trans (hk3.any _))).trans (hkc _ _ _ h4).2⟩⟩
      | panic ch => exact hp.elim
      | outgrown => exact hp.elim
    · -- behind the iterator
      rintro e W2 ⟨⟨v, rfl⟩, (⟨xs, hS, hi, h2, h3⟩ | ⟨pre, hSp, c, hi, h2, h3⟩)⟩
      · refine ⟨none, _, by have := run_endLoop (P := Try.prog) h2 (by rw [hrec]; simp); rw [hrec] at this; exact this, hdone w.heap.size xs _ (Nat.le_refl _) hS (hI.putObj _ hi (by omega) h2 rfl) ((World.putObj_heap_other (by omega)).trans h3)⟩
      · exact ⟨some c, _, by have := run_endLoop (P := Try.prog) h2 (by rw [hrec]; simp); rw [hrec] at this; exact this, hstop w.heap.size c pre _ (Nat.le_refl _) hSp ((hIx c).putObj _ hi (by omega) h2 rfl) ((World.putObj_heap_other (by omega)).trans h3)⟩
abbrev markD (D : Nat) : Deferred := { target := .collected D, args := #[] }
theorem leaves_marks {F : Fence} {n : Nat} {fn : Func} {tmps : Array Value} {R : Ending → World → Prop} {B : Nat} {I : World → Prop} (hI : ∀ (W : World) (D : Nat), B ≤ D → W.heap[D]? = some (.deferred (some [])) → I W → I (W.putObj D (.deferred none)))
    (hres : ∀ W, I W → ∃ v, (results fn tmps).run Try.prog W = .ok v W ∧ R (.returned v) W) :
    ∀ (Ds : List Nat) (W : World), Ds.Nodup → (∀ D ∈ Ds, B ≤ D ∧ W.heap[D]? = some (.deferred (some []))) → I W → LeavesInM F n Try.prog fn tmps R (Ds.map markD) .returning W
  | [], W, _, _, h => hres W h
  | D :: Ds, W, hn, hD, h => by
    rw [List.nodup_cons] at hn
    have h1 := hD D List.mem_cons_self
    refine ⟨by simp, .inl ⟨D, _, rfl, run_takeDeferred h1.2, ?_⟩⟩
    refine leaves_marks hI hres Ds _ hn.2 (fun E hE => ⟨(hD E (List.mem_cons_of_mem _ hE)).1, ?_⟩) (hI W D h1.1 h1.2 h)
    exact (World.putObj_heap_other (fun e => hn.1 (by rw [← e]; exact hE))).trans (hD E (List.mem_cons_of_mem _ hE)).2
theorem wpIn_loopT {F : Fence} {n : Nat} {P : Program} {Q : Exit → Act → World → Prop} {a : Act} {w : World} {c : Code} (I : Act → World → Prop) (μ : Act → World → Nat) (h₀ : I a w)
    (round : ∀ a w, I a w → ∀ T : Act → World → Prop, (∀ a' w', I a' w' → μ a' w' < μ a w → T a' w') → c.wpIn F n P (Exit.then T Q) a w) : (Code.loop c).wpIn F n P Q a w :=
  wpIn_loop I μ h₀ fun a w h => round a w h _ (fun _ _ h1 h2 => ⟨h1, h2⟩)
def Marks (B : Nat) (Ds : List Nat) (W : World) : Prop := Ds.Nodup ∧ ∀ D ∈ Ds, B ≤ D ∧ W.heap[D]? = some (.deferred (some []))
theorem Marks.nil (B : Nat) (W : World) : Marks B [] W := ⟨List.nodup_nil, fun D h => by cases h⟩
theorem Marks.keeps {B : Nat} {Ds : List Nat} {W W' : World} {l : Option Nat} (h : Marks B Ds W) (hk : KeepsBut l W W') (hl : ∀ k, l = some k → k < B) : Marks B Ds W' :=
  ⟨h.1, fun D hD => ⟨(h.2 D hD).1, hk.2 D _ (fun e => by have := hl D e.symm; have := (h.2 D hD).1; omega) (h.2 D hD).2 (.inl rfl)⟩⟩
theorem Marks.below {B : Nat} {Ds : List Nat} {W W' : World} (h : Marks B Ds W) (hb : Below W.heap.size W W') : Marks B Ds W' := ⟨h.1, fun D hD => ⟨(h.2 D hD).1, blk_below (h.2 D hD).2 hb⟩⟩
theorem Marks.own {β : Type} {B : Nat} {Ds : List Nat} {W0 : World} (h0 : Marks B Ds W0) : OwnFrom W0.heap.size (fun (_ : β) W => Marks B Ds W) := fun _ W W' row hs hg hr => ⟨hs.1, fun D hD => ⟨(hs.2 D hD).1, (hg.block D (blk_lt (hs.2 D hD).2) (fun e => by have := (hr D e.symm).1; have := blk_lt (h0.2 D hD).2; omega)).trans (hs.2 D hD).2⟩⟩
theorem Marks.cons {B D : Nat} {Ds : List Nat} {W0 W : World} (h0 : Marks B Ds W0) (h : Marks B Ds W) (hD : W0.heap.size ≤ D) (hB : B ≤ D) (hW : W.heap[D]? = some (.deferred (some []))) : Marks B (D :: Ds) W :=
  ⟨List.nodup_cons.2 ⟨fun hm => by have := blk_lt (h0.2 D hm).2; omega, h.1⟩, fun E hE => by
    rcases List.mem_cons.1 hE with rfl | hE
    · exact ⟨hB, hW⟩
    · exact h.2 E hE⟩
end Go.Proofs.Ytacefdkfbpgedaa.Mine
namespace Go.Proofs.Ytacefdkfbpgedaa.Mine
open Go.Proofs.Ytacefdkfbpgedaa.PProgExprs
open Go.RowKit Go.Shelf Go.Proofs.YtacefdkfbpgedaaW.PrintWords Go.Proofs.YtacefdkfbpgedaaW.PrintLast Go.Proofs.YtacefdkfbpgedaaW.PrintMore
set_option linter.unusedVariables false
set_option linter.unusedSimpArgs false
def bodiesD (d : De) : List Ex := if d.f2.length = 0 then [d.f3] else d.f2.map (·.f2)
def RowN (w0 W : World) (base : Nat) (ok : Nat → Prop) (v : Value) (xs : List Ex) : Prop :=
  ∃ rows : List (List Value), rows.length = xs.length ∧ Kd.R (Kd.raw 3) 24 W base (fun _ => True) v rows ∧ ∀ (j : Nat) (x : Ex) (c : List Value), xs[j]? = some x → rows[j]? = some c → Kd.FK k24 w0 ok x c
theorem RowN.nil (w0 W : World) (base : Nat) (ok : Nat → Prop) : RowN w0 W base ok (.slice none 0 0) [] := ⟨[], rfl, Kd.R_nil _ _ _ _ _, fun j x c h => by simp at h⟩
theorem RowN.slice {w0 W : World} {base : Nat} {ok : Nat → Prop} {v : Value} {xs : List Ex} (h : RowN w0 W base ok v xs) : ∃ A c, v = .slice A xs.length c := by
  obtain ⟨rows, hl, hR, _⟩ := h
  obtain ⟨A, c, rfl⟩ := Kd.R_slice hR
  exact ⟨A, c, by rw [hl]⟩
theorem RowN.lower {w0 W : World} {base base' : Nat} {ok : Nat → Prop} {v : Value} {xs : List Ex} (h : RowN w0 W base ok v xs) (hb : base' ≤ base) : RowN w0 W base' ok v xs := by
  obtain ⟨rows, hl, hR, hf⟩ := h
  exact ⟨rows, hl, Kd.R_lower hR hb, hf⟩
theorem RowN.get {w0 W : World} {base : Nat} {ok : Nat → Prop} {A : Option Addr} {n c : Nat} {xs : List Ex} (h : RowN w0 W base ok (.slice A n c) xs) (i : Nat) (hi : i < xs.length) :
    ∃ ad A2 a2, A = some ad ∧ W.cell? (ad.add (i * 3)) = some (.int .i64 xs[i].f0) ∧ W.cell? ⟨(ad.add (i * 3)).block, (ad.add (i * 3)).off + 1, none⟩ = some (.string xs[i].f1) ∧ W.cell? ⟨(ad.add (i * 3)).block, (ad.add (i * 3)).off + 2, none⟩ = some (.slice A2 xs[i].f2.length a2) ∧ xs[i].f2.length ≤ a2 ∧ Kd.F k24 w0 ok A2 xs[i].f2.length xs[i].f2 := by
  obtain ⟨rows, hl, hR, hf⟩ := h
  obtain ⟨A', c', he, hc', hC⟩ := Kd.R_reads hR
  cases he
  obtain ⟨ad, c0, c1, c2, rfl, hK, k0, k1, k2⟩ := get3 rfl hC i (by omega)
  have hFK := hf i xs[i] rows[i] (List.getElem?_eq_getElem hi) (List.getElem?_eq_getElem (by omega))
  obtain ⟨A2, a2, he, hl2, hF2⟩ := k24_openF hFK
  have hK1 := hK.1
  rw [he] at hK1
  obtain ⟨rfl, rfl, rfl⟩ : c0 = _ ∧ c1 = _ ∧ c2 = _ := by simpa using hK1
  exact ⟨ad, A2, a2, rfl, k0, k1, k2, hl2, hF2⟩
theorem RowN.box {w0 W : World} {ok : Nat → Prop} {x : Ex} {cs : List Value} (h : Kd.FK k24 w0 ok x cs) : RowN w0 (W.alloc (.cells cs.toArray 24)) W.heap.size ok (.slice (some ⟨W.heap.size, 0, none⟩) 1 1) [x] := by
  have hr := Kd.FK_raw h
  have hl3 : cs.length = 3 := hr.2.1
  have ho := World.ownsRow_lit (base := W.heap.size) (e := 24) (size := 3) W cs.toArray 1 (Nat.le_refl _) (by simp [maxLen]) (by simpa using hl3)
  refine ⟨[cs], rfl, ⟨fun _ _ => trivial, cs, by simpa [Kd.raw] using ho, ⟨by simp [hl3, Kd.raw], fun j p hj => ?_⟩⟩, fun j y c hy hc => ?_⟩
  · rcases j with _ | j
    · simp at hj
      subst hj
      have h2 := hr.2.2
      simpa [Kd.raw, ← hl3] using h2
    · simp at hj
  · rcases j with _ | j
    · simp at hy hc
      subst hy; subst hc; exact h
    · simp at hy
set_option maxRecDepth 100000 in
set_option maxHeartbeats 2000000 in
theorem c_bodies (d : De) (cs : List Value) (ok : Nat → Prop) (w : World) (hd : Kd.FK k58 w ok d cs) (hl : d.f2.length ≤ 1000000) :
    Calls Try.prog 108 #[.agg cs.toArray] w fun en w' => ∃ v, en = .returned v ∧ RowN w w' w.heap.size ok v (bodiesD d) ∧ Below w.heap.size w w' := by
  obtain ⟨A1, c1, A2, c2, A5, c5, rfl, l1, F1, l2, F2, l5, F5⟩ := k58_openF hd
  have HF2 := Aside0.mk F2
  have HF5 := Aside0.mk F5
  obtain ⟨W1, hW1⟩ : ∃ W1, w.alloc (.cells #[.string d.f0, .slice A1 d.f1.length c1, .slice A2 d.f2.length c2, .int .i64 d.f3.f0, .string d.f3.f1, .slice A5 d.f3.f2.length c5] 58) = W1 := ⟨_, rfl⟩
  have b0 : W1.heap[w.heap.size]? = some (.cells #[.string d.f0, .slice A1 d.f1.length c1, .slice A2 d.f2.length c2, .int .i64 d.f3.f0, .string d.f3.f1, .slice A5 d.f3.f2.length c5] 58 (0, 0)) := by rw [← hW1]; exact alloc_at _ _
  have q0 : Below w.heap.size w W1 := by rw [← hW1]; exact below_alloc1 _ _
  have k2 := (blk_cell b0 2).trans rfl
  have k3 := (blk_cell b0 3).trans rfl
  have k4 := (blk_cell b0 4).trans rfl
  have k5 := (blk_cell b0 5).trans rfl
  have B0 := Aside0.mk b0
  have Q0 := Aside0.mk q0
  have Z0 := Lib.hid (show W1.heap.size = w.heap.size + 1 by rw [← hW1]; simp)
  clear hd F1 F2 F5 b0 q0
  have HW1 := Lib.hid hW1
  clear hW1
  by_cases h0 : d.f2.length = 0
  · have h01 : ((d.f2.length : Int) == 0) = true := by rw [beq_iff_eq]; omega
    have HB := Lib.hid (show bodiesD d = [d.f3] by rw [bodiesD, if_pos h0])
    clear h0
    go_enter Try.func108, Try.ntmps108
    go_wp2
    rw [HW1.out]
    go_wp2
    go_ret
    have hz := Z0.out
    rw [HB.out]
    exact ⟨_, rfl, by rw [← hz]; exact (RowN.box (k24_mkF _ _ d.f3 l5 HF5.out)).lower (by omega), Q0.out.trans ((below_alloc1 _ _).mono Q0.out.size)⟩
  · have h01 : ((d.f2.length : Int) == 0) = false := by rw [beq_eq_false_iff_ne]; omega
    have HB := Lib.hid (show bodiesD d = d.f2.map (·.f2) by rw [bodiesD, if_neg h0])
    clear h0
    go_enter Try.func108, Try.ntmps108
    go_wp2
    rw [HW1.out]
    go_loopg [3, 16] d.f2.length (fun gg s3 s16 wr => ∃ kk : Nat, kk ≤ d.f2.length ∧ d.f2.length - kk ≤ gg ∧ s16 = .int .i64 kk ∧ Aside0 (RowN w wr w.heap.size ok s3 ((d.f2.take kk).map (·.f2))) ∧ Aside0 (Below w.heap.size w wr))
    case atStart => exact ⟨0, Nat.zero_le _, by omega, rfl, ⟨RowN.nil _ _ _ _⟩, Q0⟩
    case round =>
      obtain ⟨kk, hkk, hg, rfl, HO, HBe⟩ := hrel
      by_cases hlt : kk < d.f2.length
      · have hltz : (kk : Int) < (d.f2.length : Int) := by omega
        obtain ⟨ad, c0, c1', c2', c3, c4, rfl, hK, hcells, k0, k1, k2, k3, k4⟩ := gett5 rfl (Kd.C_below (Kd.F_now HF2.out) HBe.out) kk hlt
        have hFK := elemF HF2.out kk hlt rfl hcells (fun p v _ hv => HBe.out.cell (World.block_lt_of_cell? _ _ hv) |>.trans hv) (by decide)
        obtain ⟨X1, x1, X4, x4, he, m1, G1, m4, G4⟩ := k99_openF hFK
        obtain ⟨rfl, rfl, rfl, rfl, rfl⟩ : c0 = _ ∧ c1' = _ ∧ c2' = _ ∧ c3 = _ ∧ c4 = _ := by simpa using he
        have HM := Aside0.mk (k24_mkF _ _ d.f2[kk].f2 m4 G4)
        obtain ⟨rows, hrl, hR, hfR⟩ := HO.out
        obtain ⟨Ar, cr, rfl⟩ := Kd.R_slice hR
        have hrl2 : rows.length = kk := by rw [hrl]; simp; omega
        have HRL := Lib.hid hrl2
        have HRr := Aside0.mk (Kd.R_below hR (below_alloc2 wr (.cells #[.string d.f2[kk].f0, .slice X1 d.f2[kk].f1.length x1, .int .i64 d.f2[kk].f2.f0, .string d.f2[kk].f2.f1, .slice X4 d.f2[kk].f2.f2.length x4] 99) (.cells #[.int .i64 d.f2[kk].f2.f0, .string d.f2[kk].f2.f1, .slice X4 d.f2[kk].f2.f2.length x4] 24)))
        have HRw := Aside0.mk (Kd.R_below hR (below_alloc1 wr (.cells #[.string d.f2[kk].f0, .slice X1 d.f2[kk].f1.length x1, .int .i64 d.f2[kk].f2.f0, .string d.f2[kk].f2.f1, .slice X4 d.f2[kk].f2.f2.length x4] 99)))
        have HfR := Aside0.mk hfR
        have HrL := Lib.hid hrl
        have hszb := HBe.out.size
        clear hK hcells hFK he G1 G4 hrl hrl2 hR hfR
        have hq1 := below_alloc1 wr (.cells #[.string d.f2[kk].f0, .slice X1 d.f2[kk].f1.length x1, .int .i64 d.f2[kk].f2.f0, .string d.f2[kk].f2.f1, .slice X4 d.f2[kk].f2.f2.length x4] 99)
        have HQ1 := Aside0.mk (HBe.out.trans (hq1.mono hszb))
        clear hq1 HRr
        go_wp2_with (at_builtin; go_must (refine Kd.R_append (Kd.raw 3) (w0 := w) (W := wr.alloc (.cells #[.string d.f2[kk].f0, .slice X1 d.f2[kk].f1.length x1, .int .i64 d.f2[kk].f2.f0, .string d.f2[kk].f2.f1, .slice X4 d.f2[kk].f2.f2.length x4] 99)) w.heap.size rfl (.tmp 20) (.tmp 23) 22 24 _ 48 rfl Try.underlying22 infoEx rfl (by decide) (by decide) (.slice Ar rows.length cr) rows [.int .i64 d.f2[kk].f2.f0, .string d.f2[kk].f2.f1, .slice X4 d.f2[kk].f2.f2.length x4] [.int .i64 d.f2[kk].f2.f0, .string d.f2[kk].f2.f1, .slice X4 d.f2[kk].f2.f2.length x4] (fun _ => True) (fun _ => False) rfl (by rw [World.size_alloc]; rfl) (Kd.FK_raw HM.out) (fun _ h => h.elim) (fun _ _ => trivial) HRw.out HQ1.out (by simp; omega) (by rw [HRL.out]; omega) ?_; intro v1 w1 hR1 hb1 _ _))
        go_roundg (d.f2.length - (kk + 1))
        case measure => omega
        case rel => exact ⟨kk + 1, by omega, by omega, by go_num, ⟨⟨_, by rw [List.length_append, HRL.out]; simp; omega, hR1, fun j x c hx hc => by
          have hts : ((d.f2.take (kk + 1)).map (·.f2)) = (d.f2.take kk).map (·.f2) ++ [d.f2[kk].f2] := by rw [take_snoc hlt, List.map_append]; rfl
          rw [hts] at hx
          rcases Nat.lt_or_ge j kk with h | h
          · rw [List.getElem?_append_left (by rw [HRL.out]; exact h)] at hc
            rw [List.getElem?_append_left (by simp; omega)] at hx
            exact HfR.out j x c hx hc
          · rw [List.getElem?_append_right (by rw [HRL.out]; exact h), HRL.out] at hc
            rw [List.getElem?_append_right (by simp; omega)] at hx
            have hl4 : ((d.f2.take kk).map (·.f2)).length = kk := by simp; omega
            rw [hl4] at hx
            rcases hjk : j - kk with _ | i
            · rw [hjk] at hx hc; simp at hx hc; subst hx; subst hc; exact HM.out
            · rw [hjk] at hx; simp at hx⟩⟩, ⟨hb1⟩⟩
      · have : kk = d.f2.length := by omega
        subst this
        obtain ⟨Ar, cr, hr⟩ := HO.out.slice
        subst hr
        go_wp2
        go_ret
        have ho := HO.out
        rw [HB.out]
        exact ⟨_, rfl, by simpa using ho, HBe.out⟩
end Go.Proofs.Ytacefdkfbpgedaa.Mine
namespace Go.Proofs.Ytacefdkfbpgedaa.Mine
open Go.Proofs.Ytacefdkfbpgedaa.PProgExprs
open Go.RowKit Go.Shelf Go.Proofs.YtacefdkfbpgedaaW.PrintWords Go.Proofs.YtacefdkfbpgedaaW.PrintLast Go.Proofs.YtacefdkfbpgedaaW.PrintMore
set_option linter.unusedVariables false
set_option linter.unusedSimpArgs false
attribute [local go_sem] Oper.semAt_some
theorem RowN.keeps {w0 W W' : World} {base : Nat} {ok : Nat → Prop} {v : Value} {xs : List Ex} {l : Option Nat} (h : RowN w0 W base ok v xs) (hk : KeepsBut l W W') (hl : ∀ k, l = some k → k < base) : RowN w0 W' base ok v xs := by
  obtain ⟨rows, h1, hR, hf⟩ := h
  refine ⟨rows, h1, Kd.R_mono (Kd.R_step (Kd.R_tight rfl hR) (fun k hk2 hlt => ?_)) (fun _ _ => trivial), hf⟩
  obtain ⟨cells, hc⟩ := Kd.R_typed hR k hk2.symm
  have hb := Kd.R_base hR k hk2.symm
  exact (hk.2 k _ (fun e => by have := hl k e.symm; omega) hc (.inr (by simp [exO]))).trans hc.symm
theorem RowN.own {β : Type} {w0 W0 : World} {base : Nat} {ok : Nat → Prop} {v : Value} {xs : List Ex} : Own (fun (_ : β) W => RowN w0 W base ok v xs) := fun _ W W' row hs hg hr => by
  obtain ⟨rows, h1, hR, hf⟩ := hs
  refine ⟨rows, h1, Kd.R_mono (Kd.R_step (Kd.R_tight rfl hR) (fun k hk2 hlt => hg.block k hlt (fun e => ?_))) (fun _ _ => trivial), hf⟩
  obtain ⟨cells, hc⟩ := Kd.R_typed hR k hk2.symm
  obtain ⟨o, h2, h3⟩ := hr k e.symm
  rw [hc] at h2; cases h2; cases h3
theorem KC.grownN {M : Nat → Prop} {n : Nat} {W W' : World} {row : Option Nat} (hg : W.grownBy W' row) (hr : ∀ r, row = some r → n ≤ r ∧ ∃ o : Obj, W.heap[r]? = some o ∧ o.isCells = false) : KC M n W W' := by
  cases row with
  | none => exact (KC.rel M n).below ⟨hg.os, hg.tape, hg.output, hg.size, fun k hk => hg.block k hk (by simp)⟩
  | some g =>
    obtain ⟨h1, o, h2, h3⟩ := hr g rfl
    refine ⟨hg.size, fun k x _ hk => ?_⟩
    by_cases e : k = g
    · subst e
      rw [h2] at hk; cases hk
      refine ⟨fun hx => ?_, fun cs ec => by subst ec; cases h3⟩
      rcases hx with hx | hx
      · omega
      · cases o <;> simp_all [kpO, Obj.isCells]
    · have hk2 := (hg.block k (blk_lt hk) (fun e2 => e (Option.some.inj e2))).trans hk
      exact ⟨fun _ => hk2, fun cs ec => ⟨cs, by rw [← ec]; exact hk2, rfl⟩⟩
theorem c_each (cs : List Value) (h6 : cs.length = 6) (w : World) :
    Calls Try.prog 117 #[.agg cs.toArray] w fun en w' => en = .returned (.func (.func 130) #[] #[.pointer (some ⟨w.heap.size, 0, none⟩)]) ∧ w' = w.alloc (.cells cs.toArray 58) := by
  obtain ⟨c0, c1, c2, c3, c4, c5, rfl⟩ := len6 h6
  go_enter Try.func117, Try.ntmps117
  go_wp2
  go_ret
  exact ⟨rfl, rfl⟩
set_option maxRecDepth 100000 in
set_option maxHeartbeats 4000000 in
theorem each_stops (w0 : World) (M : Nat → Prop) (n₀ : Nat) (ok : Nat → Prop) (hM : ∀ k, M k → k < w0.heap.size) (hok : ∀ k, ok k → ¬ M k ∧ k < n₀) (hn0 : n₀ ≤ w0.heap.size) (d : De) (cs : List Value) (hd : Kd.FK k58 w0 ok d cs) (hl2 : d.f2.length ≤ 1000000) (hz : ∀ b ∈ bodiesD d, szE b < 1000000)
    (Bd : Nat) (w : World) (hkw : KC M n₀ w0 w) (hbox : w.heap[Bd]? = some (.cells cs.toArray 58 (0, 0))) :
    SeqX 6 130 #[.pointer (some ⟨Bd, 0, none⟩)] (fun x : Hd w0 ok => encH x.1) M n₀ (fun hs => exs hs = plL (bodiesD d)) (fun hs => exs hs <+: plL (bodiesD d)) (szL (bodiesD d)) w := by
  intro l J Jx W hW hlW hJ hJx hY h0
  have hWs := hW.size
  have hnM : ∀ k, w0.heap.size ≤ k → ¬ M k := fun k hk h => by have := hM k h; omega
  have hw0 := hkw.1
  -- the box of yield
  obtain ⟨W1, hW1⟩ : ∃ W1, W.alloc (.cells #[fvY l] 26) = W1 := ⟨_, rfl⟩
  have q1 : Below W.heap.size W W1 := by rw [← hW1]; exact below_alloc1 _ _
  have z1 : W1.heap.size = W.heap.size + 1 := by rw [← hW1]; simp
  have y1 : W1.heap[W.heap.size]? = some (.cells #[fvY l] 26 (0, 0)) := by rw [← hW1]; exact alloc_at _ _
  have k1 : KC M n₀ w0 W1 := (KC.rel M n₀).trans hkw ((KC.rel M n₀).below (hW.trans (q1.mono hWs)))
  have hd1 : Kd.FK k58 W1 ok d cs := Kd.FK_step hd (fun k hk hlt => by
    obtain ⟨o, ho⟩ : ∃ o, w0.heap[k]? = some o := ⟨_, Array.getElem?_eq_getElem hlt⟩
    rw [ho]; exact k1.blkN (hok k hk).1 ho (hok k hk).2)
  have back : ∀ (x : Ex) (c : List Value), Kd.FK k24 W1 ok x c → Kd.FK k24 w0 ok x c := fun x c h => Kd.FK_step h (fun k hk hlt => by
    have hk0 : k < w0.heap.size := by have := (hok k hk).2; omega
    exact (k1.blkN (hok k hk).1 (Array.getElem?_eq_getElem hk0) (hok k hk).2 ▸ (Array.getElem?_eq_getElem hk0)))
  have hb := c_bodies d cs ok W1 hd1 hl2
  obtain ⟨A1, c1, A2, c2, A5, c5, rfl, _⟩ := k58_openF hd
  have bd := blk_below (blk_below hbox hW) q1
  have g0 := (blk_cell bd 0).trans rfl
  have g1 := (blk_cell bd 1).trans rfl
  have g2 := (blk_cell bd 2).trans rfl
  have g3 := (blk_cell bd 3).trans rfl
  have g4 := (blk_cell bd 4).trans rfl
  have g5 := (blk_cell bd 5).trans rfl
  rw [← hW1] at g0 g1 g2 g3 g4 g5
  unfold fvY at g0 g1 g2 g3 g4 g5
  have hneB : ¬ (Bd = W.heap.size) := by have := blk_lt (blk_below hbox hW); omega
  have HB := Lib.hid hb
  have HW1 := Lib.hid hW1
  have HJ0 := Lib.hid (hJ.alloc (.cells #[fvY l] 26) h0)
  rw [hW1] at HJ0
  have HY := Lib.hid hY
  have HK1 := Lib.hid k1
  have HY1 := Lib.hid y1
  have HZ1 := Lib.hid z1
  have HBk := Lib.hid back
  have HnM := Lib.hid hnM
  clear hb hW1 hY k1 y1 back hd1 hd hkw hbox bd h0
  refine callsIn_of_wp_marks (F := Fence.wide) Try.func130 rfl trivial ?_ rfl
  simp only [Try.ntmps130, List.size_toArray, List.length_cons, List.length_nil, Nat.reduceAdd, Nat.reduceSub, Array.replicate_succ, Array.replicate_zero, List.push_toArray, List.append_toArray, List.nil_append, List.cons_append]
  gi_wp2_with fail
  have hW1' := HW1.out
  unfold fvY at hW1'
  rw [hW1']
  clear hW1' g0 g1 g2 g3 g4 g5
  refine ⟨trivial, (callsIn_wide.2 HB.out).mono ?_⟩
  rintro en W2 ⟨v, rfl, hRow, hb2⟩
  obtain ⟨Av, cv, rfl⟩ := hRow.slice
  have hRow' : RowN w0 W2 W1.heap.size ok (.slice Av (bodiesD d).length cv) (bodiesD d) := by
    obtain ⟨rows, r1, r2, r3⟩ := hRow
    exact ⟨rows, r1, r2, fun j x c hx hc => HBk.out x c (r3 j x c hx hc)⟩
  have hlen : (bodiesD d).length ≤ 1000001 := by
    unfold bodiesD; split
    · simp
    · simp; omega
  have K2 := Lib.hid ((KC.rel M n₀).trans HK1.out ((KC.rel M n₀).below hb2))
  have Y2 := Lib.hid (blk_below HY1.out hb2)
  have J2 := Lib.hid (hJ [] W1 W2 none HJ0.out (grown_of_below hb2 none) (fun r e => by cases e))
  have R2 := Lib.hid hRow'
  have hs2 := hb2.size
  obtain ⟨bs, hbs⟩ : ∃ bs, bodiesD d = bs := ⟨_, rfl⟩
  rw [hbs] at R2 hlen HY hz ⊢
  clear hRow hRow' hb2
  gi_wp2_with fail
  have hHnM := HnM.out
  obtain ⟨cv7, hcv7⟩ : ∃ x : Value, x = .agg #[.string d.f0, .slice A1 d.f1.length c1, .slice A2 d.f2.length c2, .int .i64 d.f3.f0, .string d.f3.f1, .slice A5 d.f3.f2.length c5] := ⟨_, rfl⟩
  rw [← hcv7]
  have HCv := Lib.hid hcv7
  clear hcv7
  have hz1 := HZ1.out
  have hj2 := J2.out
  refine wpIn_loopT (fun a Wr => ∃ (kk : Nat) (Ds : List Nat) (hs : List (Hd w0 ok)) (u4 u5 u10 u11 u12 u13 u14 u15 u16 u17 u18 u19 u20 : Value),
      a = { tmps := #[.func (Fn.yield l) #[] #[], .pointer (some ⟨Bd, 0, none⟩), .pointer (some ⟨W.heap.size, 0, none⟩), undef, u4, u5, cv7, .slice Av bs.length cv, .int .i64 bs.length, .int .i64 kk, u10, u11, u12, u13, u14, u15, u16, u17, u18, u19, u20], defers := Ds.map markD } ∧
      kk ≤ bs.length ∧ exs hs = plL (bs.take kk) ∧ J hs Wr ∧ KC M n₀ w0 Wr ∧ Marks W.heap.size Ds Wr ∧ Wr.heap[W.heap.size]? = some (.cells #[fvY l] 26 (0, 0)) ∧ RowN w0 Wr W1.heap.size ok (.slice Av bs.length cv) bs ∧ W2.heap.size ≤ Wr.heap.size)
    (fun a _ => bs.length - (intOf (a.tmps.getD 9 undef)).toNat) ?_ ?_
  · exact ⟨0, [], [], _, _, _, _, _, _, _, _, _, _, _, _, _, rfl, Nat.zero_le _, by simp [exs, plL], hj2, K2.out, Marks.nil _ _, Y2.out, R2.out, Nat.le_refl _⟩
  rintro a Wr ⟨kk, Ds, hs, u4, u5, u10, u11, u12, u13, u14, u15, u16, u17, u18, u19, u20, rfl, hkk, hex, hj, hkc, hmk, hyb, hrow, hsz⟩ T hT
  have HT := Lib.hid hT
  have HJx := Lib.hid hJx
  have HJJ := Lib.hid hJ
  clear hT hJ hJx HJ0 K2 Y2 J2 R2 hj2 HB
  by_cases hlt : kk < bs.length
  · have hltz : (kk : Int) < (bs.length : Int) := by omega
    obtain ⟨ad, A3, a3, rfl, x0, x1, x2, hl3, hF3⟩ := hrow.get kk hlt
    have HF3 := Lib.hid hF3
    have HC := Lib.hid (c_places bs[kk] A3 a3)
    have HE := Lib.hid hex
    have HJ := Lib.hid hj
    have HK := Lib.hid hkc
    have HM := Lib.hid hmk
    have HYb := Lib.hid hyb
    have HR := Lib.hid hrow
    clear hex hj hkc hmk hyb hrow hF3
    gi_wp2_with fail
    refine ⟨trivial, (callsIn_wide.2 (HC.out _)).mono ?_⟩
    rintro en w3 ⟨rfl, rfl⟩
    gi_wp2_with fail
    obtain ⟨W4, hW4⟩ : ∃ W4, (Wr.alloc (.cells #[.int .i64 bs[kk].f0, .string bs[kk].f1, .slice A3 bs[kk].f2.length a3] 24)).alloc (.cells #[.int .i64 bs[kk].f0, .string bs[kk].f1, .slice A3 bs[kk].f2.length a3] 24) = W4 := ⟨_, rfl⟩
    have q4 : Below Wr.heap.size Wr W4 := by rw [← hW4]; exact below_alloc2 _ _ _
    have z4 : W4.heap.size = Wr.heap.size + 1 + 1 := by rw [← hW4]; simp
    have bP : W4.heap[Wr.heap.size + 1]? = some (.cells (cellsH (bs[kk], A3, a3)) 24 (0, 0)) := by rw [← hW4]; have := alloc_at (Wr.alloc (.cells #[.int .i64 bs[kk].f0, .string bs[kk].f1, .slice A3 bs[kk].f2.length a3] 24)) (.cells #[.int .i64 bs[kk].f0, .string bs[kk].f1, .slice A3 bs[kk].f2.length a3] 24); rw [World.size_alloc] at this; simpa [cellsH] using this
    rw [hW4]
    have j4 := HJJ.out hs _ W4 none HJ.out (grown_of_below q4 none) (fun r e => by cases e)
    have k4 := (KC.rel M n₀).trans HK.out ((KC.rel M n₀).below q4)
    have m4 := HM.out.below q4
    have y4 := blk_below HYb.out q4
    have r4 := HR.out.keeps (KeepsBut.below (l := none) q4) (fun k h => by cases h)
    have hk0 := HK.out.1
    have hne : exs hs ++ plE bs[kk] = plL (bs.take (kk + 1)) := by rw [HE.out, plL_take hlt]
    have hlen2 : hs.length = szL (bs.take kk) := by rw [← exs_length, HE.out, length_plL]
    have hle2 := szL_take_le bs (kk + 1)
    rw [szL_take hlt] at hle2
    have M4 := Lib.hid m4
    have HNe := Lib.hid hne
    have HW4 := Lib.hid hW4
    have HPf := Lib.hid (show plL (bs.take kk) ++ plE bs[kk] <+: plL bs by rw [← plL_take hlt]; conv => rhs; rw [← List.take_append_drop (kk + 1) bs, plL_append]
                                                                           exact List.prefix_append _ _)
    clear hne hW4
    refine wpIn_rangeFunc_ownH rfl (by omega) (gf := 98) (lb := #[.pointer (some ⟨Wr.heap.size + 1, 0, none⟩)]) rfl trivial (enters_of Try.func98 (by kernel_rfl) rfl)
      (places_stops w0 M n₀ ok hM hok ⟨(bs[kk], A3, a3), hl3, HF3.out, hz _ (List.getElem_mem hlt)⟩ (Wr.heap.size + 1) (HnM.out _ (by omega)) W4 k4 (by omega) bP)
      (KC.rel _ _).trans (fun Wx lx o o' hlx ho hcl _ => KC.putObj _ (by omega) ho hcl) (Below.refl _ _) (fun _ => rfl)
      (fun pre Wx => J (hs ++ pre) Wx ∧ Marks W.heap.size Ds Wx ∧ Wx.heap[W.heap.size]? = some (.cells #[fvY l] 26 (0, 0)) ∧ RowN w0 Wx W1.heap.size ok (.slice (some ad) bs.length cv) bs ∧ KC M n₀ w0 Wx ∧ W4.heap.size ≤ Wx.heap.size)
      (fun c pre Wx => c = .ret ∧ Jx (hs ++ pre) Wx ∧ Marks W.heap.size Ds Wx)
      (fun pre X Y row ⟨h1, h2, h3, h4, h5, h6⟩ hg hr => ⟨HJJ.out _ X Y row h1 hg (fun r e => ⟨by have := (hr r e).1; omega, (hr r e).2⟩), M4.out.own () X Y row h2 hg hr, Blk.notcells h3 hg (fun r e => (hr r e).2), RowN.own (W0 := W4) () X Y row h4 hg (fun r e => (hr r e).2), (KC.rel M n₀).trans h5 (KC.grownN hg (fun r e => ⟨by have := (hr r e).1; omega, (hr r e).2⟩)), Nat.le_trans h6 hg.size⟩)
      (fun c pre X Y row ⟨h1, h2, h3⟩ hg hr => ⟨h1, HJx.out _ X Y row h2 hg (fun r e => ⟨by have := (hr r e).1; omega, (hr r e).2⟩), M4.out.own () X Y row h3 hg hr⟩)
      ⟨by simpa using j4, m4, y4, r4, k4, Nat.le_refl _⟩
      (fun x a' Wx => ∃ Bx, W4.heap.size ≤ Bx ∧ Wx.heap[Bx]? = some (.cells (cellsH x.1) 24 (0, 0)) ∧ a' = { tmps := #[.func (Fn.yield l) #[] #[], .pointer (some ⟨Bd, 0, none⟩), .pointer (some ⟨W.heap.size, 0, none⟩), undef, .pointer (some ⟨Wr.heap.size, 0, none⟩), .pointer (some ⟨Bx, 0, none⟩), cv7, .slice (some ad) bs.length cv, .int .i64 bs.length, .int .i64 kk, .bool true, .pointer (some (ad.add (kk * 3))), .agg #[.int .i64 bs[kk].f0, .string bs[kk].f1, .slice A3 bs[kk].f2.length a3], .agg #[.int .i64 bs[kk].f0, .string bs[kk].f1, .slice A3 bs[kk].f2.length a3], .func (.func 98) #[] #[.pointer (some ⟨Wr.heap.size + 1, 0, none⟩)], encH x.1, u16, u17, u18, u19, u20], defers := [] })
      (fun x a' _ X Y row hs hg hr => by obtain ⟨Bx, h1, h2, h3⟩ := hs; exact ⟨Bx, h1, Blk.notcells h2 hg (fun r e => (hr r e).2), h3⟩)
      ?assign ?body ?done ?stop
    case assign =>
      rintro l' pre ⟨⟨x, A', c'⟩, hx⟩ Wx K ⟨h1, h2, h3, h4, h5, h6⟩ hK
      simp only [encH]
      have H1 := Lib.hid h1
      have H2 := Lib.hid h2
      have H3 := Lib.hid h3
      have H4 := Lib.hid h4
      have H5 := Lib.hid h5
      clear h1 h2 h3 h4 h5
      gi_wp2
      have q := below_alloc1 Wx (.cells #[.int .i64 x.f0, .string x.f1, .slice A' x.f2.length c'] 24)
      exact hK _ _ ((KeepsOthers.alloc _ _).from _) ((KC.rel _ _).below q) ⟨HJJ.out _ Wx _ none H1.out (grown_of_below q none) (fun r e => by cases e), H2.out.below q, blk_below H3.out q, H4.out.keeps (KeepsBut.below (l := none) q) (fun k h => by cases h), (KC.rel M n₀).trans H5.out ((KC.rel M n₀).below q), by have := q.size; omega⟩ ⟨Wx.heap.size, h6, alloc_at _ _, rfl⟩
    case body =>
      rintro l' pre ⟨⟨x, A', c'⟩, hx⟩ a' Wx hl' hr' ⟨h1, h2, h3, h4, h5, h6⟩ ⟨Bx, hBx, bX, rfl⟩ hlt'
      have hlt2 : pre.length < szE bs[kk] := hlt'
      have e0 : Wx.cell? ⟨Bx, 0, none⟩ = some (.int .i64 x.f0) := (blk_cell bX 0).trans rfl
      have e1 : Wx.cell? ⟨Bx, 1, none⟩ = some (.string x.f1) := (blk_cell bX 1).trans rfl
      have e2 : Wx.cell? ⟨Bx, 2, none⟩ = some (.slice A' x.f2.length c') := (blk_cell bX 2).trans rfl
      have ey := cell_of_one h3
      unfold fvY at ey
      have hyld := HY.out (hs ++ pre) ⟨(x, A', c'), hx⟩ Wx h1 (by rw [List.length_append, hlen2]; omega)
      obtain ⟨fn, tmps, asg, bdy, hy, hR⟩ := YieldAt.any 0 hyld
      unfold encH at hy
      simp only at hy
      have HRd := Lib.hid hR
      have H2 := Lib.hid h2
      have H3 := Lib.hid h3
      have H4 := Lib.hid h4
      have H5 := Lib.hid h5
      clear h1 h2 h3 h4 h5 hR hyld bX hr'
      gi_wp2_with fail
      refine (RoundIn.any HRd.out).mono ?_
      clear HRd
      rintro en W5 (⟨rfl, hj5, hx5⟩ | ⟨rfl, hx5, hk5⟩)
      · have J5 := Lib.hid hj5
        have X5 := Lib.hid hx5
        clear hj5 hx5
        gi_wp2_with fail
        have hkb := X5.out.2
        have hll : ∀ k, some l = some k → k < W.heap.size := fun k h => by cases h; exact hlW
        refine ⟨⟨hkb.1, fun k o hk ho hc => hkb.2 k o (fun e => by cases e; omega) ho (.inl hc)⟩, X5.out.1, by rw [← List.append_assoc]; exact J5.out, H2.out.keeps hkb hll, ?_, H4.out.keeps hkb (fun k h => by cases h; omega), (KC.rel M n₀).trans H5.out X5.out.1, Nat.le_trans h6 hkb.1⟩
        exact X5.out.1.blkF (HnM.out _ (by omega)) H3.out
      · have X5 := Lib.hid hx5
        have K5 := Lib.hid hk5
        clear hx5 hk5
        gi_wp2_with fail
        have hkb := K5.out
        have hll : ∀ k, some l = some k → k < W.heap.size := fun k h => by cases h; exact hlW
        exact ⟨⟨hkb.1, fun k o hk ho hc => hkb.2 k o (fun e => by cases e; omega) ho (.inl hc)⟩, rfl, by rw [← List.append_assoc]; exact X5.out, H2.out.keeps hkb hll⟩
    case done =>
      rintro D zs Wx hD hzs ⟨h1, h2, h3, h4, h5, h6⟩ hK
      have hzs' : exs zs = plE bs[kk] := hzs
      have H1 := Lib.hid h1
      have H2 := Lib.hid (Marks.cons M4.out h2 hD (by omega) hK)
      have H3 := Lib.hid h3
      have H4 := Lib.hid h4
      have H5 := Lib.hid h5
      have HZ := Lib.hid hzs'
      clear h1 h2 h3 h4 h5 hzs hzs' hK
      gi_wp2
      refine HT.out _ _ ⟨kk + 1, D :: Ds, hs ++ zs, _, _, _, _, _, _, _, _, _, _, _, _, _, rfl, by omega, by rw [exs_append, HZ.out, HNe.out], H1.out, H5.out, H2.out, H3.out, H4.out, by omega⟩ ?_
      simp [intOf]
      omega
    case stop =>
      rintro D c pre Wx hD hSp ⟨rfl, h2, h3⟩ hK
      have H2 := Lib.hid h2
      have H3 := Lib.hid (Marks.cons M4.out h3 hD (by omega) hK)
      have HSp := Lib.hid hSp
      clear h2 h3 hK hSp
      gi_wp2
      show LeavesInM _ _ _ _ _ _ ((D :: Ds).map markD) .returning Wx
      exact leaves_marks (B := W.heap.size) (I := Jx (hs ++ pre)) (fun X E hE hX h => HJx.out.putObj _ h hE hX rfl) (fun X h => ⟨_, results_none rfl _ _ _, ⟨_, rfl⟩, .inr ⟨_, by
        have hp : exs pre <+: plE bs[kk] := HSp.out
        rw [exs_append, HE.out]; exact ((List.prefix_append_right_inj _).2 hp).trans HPf.out, h⟩⟩) (D :: Ds) Wx H3.out.1 H3.out.2 H2.out
  · have : kk = bs.length := by omega
    subst this
    have HE := Lib.hid hex
    have HJ := Lib.hid hj
    have HM := Lib.hid hmk
    clear hex hj hmk
    gi_wp2_with fail
    show LeavesInM _ _ _ _ _ _ (Ds.map markD) .returning Wr
    exact leaves_marks (B := W.heap.size) (I := J hs) (fun X E hE hX h => HJJ.out.putObj _ h hE hX rfl) (fun X h => ⟨_, results_none rfl _ _ _, ⟨_, rfl⟩, .inl ⟨_, by rw [HE.out, List.take_length], h⟩⟩) Ds Wr HM.out.1 HM.out.2 HJ.out
end Go.Proofs.Ytacefdkfbpgedaa.Mine
namespace Go.Proofs.Ytacefdkfbpgedaa.Mine
open Go.Proofs.Ytacefdkfbpgedaa.PProgExprs
open Go.RowKit Go.Shelf Go.Proofs.YtacefdkfbpgedaaW.PrintWords Go.Proofs.YtacefdkfbpgedaaW.PrintLast Go.Proofs.YtacefdkfbpgedaaW.PrintMore
set_option linter.unusedVariables false
set_option linter.unusedSimpArgs false
attribute [local go_sem] Oper.semAt_some
def eachD (d : De) : List Ex := plL (bodiesD d)
theorem results_bool {fn : Func} {p : Tmp} (h : fn.results = #[.cell p 4]) (tmps : Array Value) (w : World) (g : Nat) (b : Bool) (hp : tmps.getD p undef = .pointer (some ⟨g, 0, none⟩)) (hg : w.heap[g]? = some (.cells #[.bool b] 4 (0, 0))) :
    (results fn tmps).run Try.prog w = .ok (.bool b) w := by
  have hc := cell_of_one hg
  have hp' : tmps[p]?.getD undef = .pointer (some ⟨g, 0, none⟩) := by simpa using hp
  have hl : (loadVar 4 ⟨g, 0, none⟩).run Try.prog w = .ok (.bool b) w := by
    simp [loadVar, go_sem, hc, run_underlying Try.underlying4]
  simp [results, h, hp', asAddr, hl]
theorem evens_any {p : Ex → Bool} {l pre : List Ex} (h : pre <+: l) {x : Ex} (hx : x ∈ pre) (hp : p x = false) : l.all p = false := by
  rw [List.all_eq_false]
  exact ⟨x, h.subset hx, by simp [hp]⟩
set_option maxRecDepth 100000 in
set_option maxHeartbeats 4000000 in
theorem c_all (d : De) (cs : List Value) (w : World) (hd : Kd.FK k58 w (fun k => k < w.heap.size) d cs) (hl : d.f2.length ≤ 1000000) (hz : ∀ b ∈ bodiesD d, szE b < 1000000) (g : Nat) (lb : Array Value) (eg : ∀ args w, (callFunc g args).run Try.prog w = .ok (.enter g args) w) (p : Ex → Bool)
    (hf : ∀ (x : Ex) (A : Option Addr) (c : Nat) (W : World), Below w.heap.size w W → x.f2.length ≤ c → Kd.C k24 W A x.f2.length x.f2 → szE x < 1000000 → Calls Try.prog g (#[encH (x, A, c)] ++ lb) W fun e W' => e = .returned (.bool (p x)) ∧ Below W.heap.size W W') :
    Calls Try.prog 95 #[.agg (cs ++ [Value.func (.func g) #[] lb]).toArray] w fun en w' => en = .returned (.bool ((eachD d).all p)) ∧ Below w.heap.size w w' := by
  have h6 : cs.length = 6 := k58.K_len (Kd.FK_now hd)
  have HE := Lib.hid (c_each cs h6)
  obtain ⟨A1, c1, A2, c2, A5, c5, hcs, _⟩ := k58_openF hd
  have HD := Lib.hid hd
  have HF := Lib.hid hf
  clear hd hf
  subst hcs
  simp only [List.cons_append, List.nil_append]
  refine (callsIn_wide (n := 7)).1 (callsIn_of_wp_marks (F := Fence.wide) Try.func95 rfl trivial ?_ rfl)
  simp only [Try.ntmps95, List.size_toArray, List.length_cons, List.length_nil, Nat.reduceAdd, Nat.reduceSub, Array.replicate_succ, Array.replicate_zero, List.push_toArray, List.append_toArray, List.nil_append, List.cons_append]
  gi_wp2_with fail
  refine ⟨trivial, (callsIn_wide.2 (HE.out _)).mono ?_⟩
  rintro en w1 ⟨rfl, rfl⟩
  gi_wp2_with fail
  obtain ⟨cv, hcv⟩ : ∃ cv : List Value, cv = [.string d.f0, .slice A1 d.f1.length c1, .slice A2 d.f2.length c2, .int .i64 d.f3.f0, .string d.f3.f1, .slice A5 d.f3.f2.length c5] := ⟨_, rfl⟩
  obtain ⟨W0, hW0⟩ : ∃ W0, ((w.alloc (.cells #[.string d.f0, .slice A1 d.f1.length c1, .slice A2 d.f2.length c2, .int .i64 d.f3.f0, .string d.f3.f1, .slice A5 d.f3.f2.length c5, Value.func (.func g) #[] lb] 116)).alloc (.cells #[.bool false] 4)).alloc (.cells #[.string d.f0, .slice A1 d.f1.length c1, .slice A2 d.f2.length c2, .int .i64 d.f3.f0, .string d.f3.f1, .slice A5 d.f3.f2.length c5] 58) = W0 := ⟨_, rfl⟩
  have hsz : W0.heap.size = w.heap.size + 3 := by rw [← hW0]; simp
  have q0 : Below w.heap.size w W0 := by rw [← hW0]; exact ((below_alloc1 _ _).trans ((below_alloc1 _ _).mono (by simp))).trans ((below_alloc1 _ _).mono (by simp; omega))
  have bA : W0.heap[w.heap.size]? = some (.cells #[.string d.f0, .slice A1 d.f1.length c1, .slice A2 d.f2.length c2, .int .i64 d.f3.f0, .string d.f3.f1, .slice A5 d.f3.f2.length c5, Value.func (.func g) #[] lb] 116 (0, 0)) := by rw [← hW0]; exact blk_alloc (blk_alloc (alloc_at _ _) _) _
  have bR : W0.heap[w.heap.size + 1]? = some (.cells #[.bool false] 4 (0, 0)) := by rw [← hW0]; have := alloc_at (w.alloc (.cells #[.string d.f0, .slice A1 d.f1.length c1, .slice A2 d.f2.length c2, .int .i64 d.f3.f0, .string d.f3.f1, .slice A5 d.f3.f2.length c5, Value.func (.func g) #[] lb] 116)) (.cells #[.bool false] 4); rw [World.size_alloc] at this; exact blk_alloc this _
  have bD : W0.heap[w.heap.size + 1 + 1]? = some (.cells cv.toArray 58 (0, 0)) := by rw [← hW0, hcv]; have := alloc_at ((w.alloc (.cells #[.string d.f0, .slice A1 d.f1.length c1, .slice A2 d.f2.length c2, .int .i64 d.f3.f0, .string d.f3.f1, .slice A5 d.f3.f2.length c5, Value.func (.func g) #[] lb] 116)).alloc (.cells #[.bool false] 4)) (.cells #[.string d.f0, .slice A1 d.f1.length c1, .slice A2 d.f2.length c2, .int .i64 d.f3.f0, .string d.f3.f1, .slice A5 d.f3.f2.length c5] 58); simpa only [World.size_alloc] using this
  rw [hW0]
  have hD0 : Kd.FK k58 W0 (fun k => k < w.heap.size) d cv := by rw [hcv]; exact Kd.FK_below HD.out q0
  have HCv := Lib.hid hcv
  have HQ := Lib.hid q0
  clear hW0 hcv HE HD q0
  refine rangeX (by omega) (gf := 130) (lb := #[.pointer (some ⟨w.heap.size + 1 + 1, 0, none⟩)]) rfl (enters_of Try.func130 (by kernel_rfl) rfl)
    (each_stops W0 NoM w.heap.size (fun k => k < w.heap.size) (fun k h => h.elim) (fun k hk => ⟨fun h => h, hk⟩) (by omega) d cv hD0 hl hz (w.heap.size + 1 + 1) W0 ((KC.rel _ _).refl _) bD) (by omega) (Below.refl _ _)
    (fun pre Wx => (exs pre).all p = true ∧ Wx.heap[w.heap.size]? = some (.cells #[.string d.f0, .slice A1 d.f1.length c1, .slice A2 d.f2.length c2, .int .i64 d.f3.f0, .string d.f3.f1, .slice A5 d.f3.f2.length c5, Value.func (.func g) #[] lb] 116 (0, 0)) ∧ Wx.heap[w.heap.size + 1]? = some (.cells #[.bool false] 4 (0, 0)) ∧ Bel w W0.heap.size Wx)
    (fun c pre Wx => c = .ret ∧ (∃ x ∈ exs pre, p x = false) ∧ Wx.heap[w.heap.size + 1]? = some (.cells #[.bool false] 4 (0, 0)) ∧ Bel w W0.heap.size Wx)
    (fun pre X Y row ⟨h1, h2, h3, h4⟩ hg hr => ⟨h1, Blk.notcells h2 hg (fun r e => (hr r e).2), Blk.notcells h3 hg (fun r e => (hr r e).2), (Bel.own (β := Unit) (by omega)) () X Y row h4 hg hr⟩)
    (fun c pre X Y row ⟨h1, h2, h3, h4⟩ hg hr => ⟨h1, h2, Blk.notcells h3 hg (fun r e => (hr r e).2), (Bel.own (β := Unit) (by omega)) () X Y row h4 hg hr⟩)
    ⟨rfl, bA, bR, HQ.out, Nat.le_refl _⟩
    (fun x a' Wx => ∃ Bx, W0.heap.size ≤ Bx ∧ Wx.heap[Bx]? = some (.cells (cellsH x.1) 24 (0, 0)) ∧ a' = { tmps := #[.agg #[.string d.f0, .slice A1 d.f1.length c1, .slice A2 d.f2.length c2, .int .i64 d.f3.f0, .string d.f3.f1, .slice A5 d.f3.f2.length c5, Value.func (.func g) #[] lb], .pointer (some ⟨w.heap.size, 0, none⟩), .pointer (some ⟨w.heap.size + 1, 0, none⟩), .pointer (some ⟨Bx, 0, none⟩), .pointer (some ⟨w.heap.size, 0, none⟩), .agg #[.string d.f0, .slice A1 d.f1.length c1, .slice A2 d.f2.length c2, .int .i64 d.f3.f0, .string d.f3.f1, .slice A5 d.f3.f2.length c5], .func (.func 130) #[] #[.pointer (some ⟨w.heap.size + 1 + 1, 0, none⟩)], encH x.1, undef, undef, undef, undef, undef], defers := [] })
    (fun x a' _ X Y row hs hg hr => by obtain ⟨Bx, h1, h2, h3⟩ := hs; exact ⟨Bx, h1, Blk.notcells h2 hg (fun r e => (hr r e).2), h3⟩)
    ?assign ?body ?done ?stop
  case assign =>
    rintro l' pre ⟨⟨x, A', c'⟩, hx⟩ Wx K hl' ⟨h1, h2, h3, h4⟩ hK
    simp only [encH]
    have H1 := Lib.hid h1
    have H2 := Lib.hid h2
    have H3 := Lib.hid h3
    clear h1 h2 h3
    gi_wp2
    have q := below_alloc1 Wx (.cells #[.int .i64 x.f0, .string x.f1, .slice A' x.f2.length c'] 24)
    exact hK _ _ (KeepsBut.below q) ((KC.rel _ _).below q) ⟨H1.out, blk_below H2.out q, blk_below H3.out q, h4.after q⟩ ⟨Wx.heap.size, h4.2, alloc_at _ _, rfl⟩
  case body =>
    rintro l' pre ⟨⟨x, A', c'⟩, hx⟩ a' Wx hl' ⟨h1, h2, h3, h4⟩ ⟨Bx, hBx, bX, rfl⟩ hlt'
    have e0 : Wx.cell? ⟨Bx, 0, none⟩ = some (.int .i64 x.f0) := (blk_cell bX 0).trans rfl
    have e1 : Wx.cell? ⟨Bx, 1, none⟩ = some (.string x.f1) := (blk_cell bX 1).trans rfl
    have e2 : Wx.cell? ⟨Bx, 2, none⟩ = some (.slice A' x.f2.length c') := (blk_cell bX 2).trans rfl
    have ea : Wx.cell? ⟨w.heap.size, 6, none⟩ = some (Value.func (.func g) #[] lb) := (blk_cell h2 6).trans rfl
    have hFx := hx.2.1
    have hCx : Kd.C k24 Wx A' x.f2.length x.f2 := Kd.F_now (Kd.F_step hFx (fun k hk hlt => by rw [h4.1.block k hk, HQ.out.block k hk]))
    have HC := Lib.hid (HF.out x A' c' Wx h4.1 hx.1 hCx hx.2.2)
    simp only [encH] at HC ⊢
    have H1 := Lib.hid h1
    have H2 := Lib.hid h2
    have H3 := Lib.hid h3
    clear h1 h2 h3 bX hCx
    cases hp : p x with
    | true =>
      rw [hp] at HC
      have HP := Lib.hid hp
      clear hp
      gi_wp2_with fail
      refine ⟨trivial, (CallsIn.inRound l' (callsIn_wide.2 HC.out)).mono ?_⟩
      rintro en W5 ⟨rfl, hb5⟩
      have H5 := Lib.hid hb5
      clear hb5
      gi_wp2_with fail
      exact ⟨(KC.rel _ _).below H5.out, KeepsBut.below H5.out, by rw [exs_append, List.all_append, H1.out]; simp [exs, HP.out], blk_below H2.out H5.out, blk_below H3.out H5.out, h4.after H5.out⟩
    | false =>
      rw [hp] at HC
      have HP := Lib.hid hp
      clear hp
      gi_wp2_with fail
      refine ⟨trivial, (CallsIn.inRound l' (callsIn_wide.2 HC.out)).mono ?_⟩
      rintro en W5 ⟨rfl, hb5⟩
      have h5 := blk_below H3.out hb5
      have f5 := blk_frozen h5 0
      have c5' := cell_of_one h5
      have H5 := Lib.hid hb5
      have H35 := Lib.hid h5
      clear hb5 h5
      gi_wp2_with fail
      exact ⟨(KeepsBut.below H5.out).trans (KeepsBut.set H35.out (by decide) _ _), rfl, ⟨x, by simp [exs], HP.out⟩, by have := blk_put H35.out 0 (.bool false) rfl; simpa using this, (h4.after H5.out).set (by simp) _⟩
  case done =>
    rintro D zs Wx hD hzs ⟨h1, h2, h3, h4⟩ hK
    have hzs' : exs zs = eachD d := hzs
    rw [hzs'] at h1
    have f3 := blk_frozen h3 0
    have c3 := cell_of_one h3
    have H1 := Lib.hid h1
    have H3 := Lib.hid h3
    have HK := Lib.hid hK
    clear h1 h2 h3 hK hzs hzs'
    gi_wp2
    have b1 := blk_put H3.out 0 (.bool true) rfl
    have hKne : ¬ D = w.heap.size + 1 := by omega
    have k1 : (Wx.setCell ⟨w.heap.size + 1, 0, none⟩ (.bool true)).heap[D]? = some (.deferred (some [])) := (Below.heap_setCell _ _ _ _ hKne).trans HK.out
    refine ⟨by simp, .inl ⟨_, _, rfl, run_takeDeferred k1, ?_⟩⟩
    have b2 : ((Wx.setCell ⟨w.heap.size + 1, 0, none⟩ (.bool true)).putObj D (.deferred none)).heap[w.heap.size + 1]? = some (.cells #[.bool true] 4 (0, 0)) := by rw [World.putObj_heap_other (by omega)]; simpa using b1
    have hg := grownBy_putObj' (Wx.setCell ⟨w.heap.size + 1, 0, none⟩ (.bool true)) D (.deferred none)
    exact ⟨_, results_bool rfl _ _ _ _ rfl b2, by rw [H1.out], ((h4.set (by simp) _).grown hg (fun k hk => by cases hk; omega)).1⟩
  case stop =>
    rintro D c pre Wx hD hSp ⟨rfl, ⟨x, hx1, hx2⟩, h3, h4⟩ hK
    have H3 := Lib.hid h3
    have HK := Lib.hid hK
    clear h3 hK
    gi_wp2
    refine ⟨by simp, .inl ⟨_, _, rfl, run_takeDeferred HK.out, ?_⟩⟩
    have b2 : (Wx.putObj D (.deferred none)).heap[w.heap.size + 1]? = some (.cells #[.bool false] 4 (0, 0)) := by rw [World.putObj_heap_other (by omega)]; exact H3.out
    have hg := grownBy_putObj' Wx D (.deferred none)
    exact ⟨_, results_bool rfl _ _ _ _ rfl b2, by rw [show (eachD d).all p = false from evens_any hSp hx1 hx2], (h4.grown hg (fun k hk => by cases hk; omega)).1⟩
end Go.Proofs.Ytacefdkfbpgedaa.Mine
namespace Go.Proofs.Ytacefdkfbpgedaa.Mine
open Go.Proofs.Ytacefdkfbpgedaa.PProgExprs
open Go.RowKit Go.Shelf Go.Proofs.YtacefdkfbpgedaaW.PrintWords Go.Proofs.YtacefdkfbpgedaaW.PrintLast Go.Proofs.YtacefdkfbpgedaaW.PrintMore
set_option linter.unusedVariables false
set_option linter.unusedSimpArgs false
theorem infoTx : (Try.prog.info? 9).map (fun i => (i.zero, i.size, i.bytes)) = some (some (.string ⟨#[]⟩), 1, 16) := by kernel_rfl
abbrev OwnT (W : World) (base : Nat) (v : Value) (l : List ByteArray) : Prop := Kd.R Kd.string 9 W base (fun _ => True) v l
theorem OwnT.new (w : World) : OwnT (w.alloc (.cells #[] 9)) w.heap.size (.slice (some ⟨w.heap.size, 0, none⟩) 0 0) [] :=
  ⟨fun _ _ => trivial, [], World.ownsRow_lit (base := w.heap.size) (e := 9) (size := 1) w #[] 0 (Nat.le_refl _) (by simp [maxLen]) (by simp), Reps.none _ _⟩
set_option maxRecDepth 100000 in
set_option maxHeartbeats 2000000 in
theorem c_Dup (A : Option Addr) (c : Nat) (l : List ByteArray) (w : World) (hr : Kd.C Kd.string w A l.length l) (hc : l.length ≤ c) (hl : l.length ≤ 1000000) :
    Calls Try.prog 13 #[.slice A l.length c] w fun en w' => ∃ v, en = .returned v ∧ OwnT w' w.heap.size v l ∧ Below w.heap.size w w' := by
  have HR := Aside0.mk hr
  clear hr
  go_enter Try.func13, Try.ntmps13
  go_wp2_with (at_builtin; refine Kd.R_append_rows Kd.string (w0 := w) w.heap.size rfl (.tmp 3) (.tmp 4) 25 9 (.string ⟨#[]⟩) 16 rfl Try.underlying25 infoTx rfl (by decide) (by decide) _ [] l A l.length c (fun _ => True) (fun _ => False) rfl rfl (OwnT.new w) (Kd.C_below HR.out (below_alloc1 _ _)) (fun _ _ h => h) (fun _ h => h.elim) (fun _ _ => trivial) (below_alloc1 _ _) (by simp) (by simp; omega) ?_; intro v1 w1 ho hb _ _; have HO := Aside0.mk ho; clear ho)
  go_ret
  exact ⟨_, rfl, by simpa using HO.out, hb⟩
set_option maxRecDepth 100000 in
set_option maxHeartbeats 2000000 in
theorem c_CloneS (A : Option Addr) (c : Nat) (l : List ByteArray) (w : World) (hr : Kd.C Kd.string w A l.length l) (hc : l.length ≤ c) (hl : l.length ≤ 1000000) :
    Calls Try.prog 118 #[.slice A l.length c] w fun en w' => ∃ v, en = .returned v ∧ OwnT w' w.heap.size v l ∧ Below w.heap.size w w' := by
  have HR := Aside0.mk hr
  cases A with
  | none =>
    have h0 : l = [] := by
      cases l with
      | nil => rfl
      | cons x xs => obtain ⟨ad, _, h, _⟩ := cget hr 0 (by simp); cases h
    subst h0
    clear hr
    have he := @Go.Lib.run_eql_slice_nil Try.prog
    go_enter Try.func118, Try.ntmps118
    go_wp2
    go_ret
    exact ⟨_, rfl, Kd.R_nil _ _ _ _ _, Below.refl _ _⟩
  | some ad =>
    clear hr
    have he := @Go.Lib.run_eql_slice_nil Try.prog
    go_enter Try.func118, Try.ntmps118
    go_wp2_with (at_builtin; refine Kd.R_append_rows Kd.string (w0 := w) w.heap.size rfl (.tmp 5) (.tmp 6) 25 9 (.string ⟨#[]⟩) 16 rfl Try.underlying25 infoTx rfl (by decide) (by decide) _ [] l (some ad) l.length c (fun _ => True) (fun _ => False) rfl rfl (OwnT.new w) (Kd.C_below HR.out (below_alloc1 _ _)) (fun _ _ h => h) (fun _ h => h.elim) (fun _ _ => trivial) (below_alloc1 _ _) (by simp) (by simp; omega) ?_; intro v1 w1 ho hb _ _; have HO := Aside0.mk ho; clear ho)
    go_ret
    exact ⟨_, rfl, by simpa using HO.out, hb⟩
set_option maxRecDepth 100000 in
set_option maxHeartbeats 2000000 in
theorem c_GrowS (n : Nat) (w : World) (hn : n ≤ 2000000) :
    Calls Try.prog 127 #[.slice none 0 0, .int .i64 n] w fun en w' => ∃ v, en = .returned v ∧ OwnT w' w.heap.size v [] ∧ Below w.heap.size w w' := by
  by_cases h0 : n = 0
  · subst h0
    go_enter Try.func127, Try.ntmps127
    go_wp2
    go_ret
    exact ⟨_, rfl, Kd.R_nil _ _ _ _ _, Below.refl _ _⟩
  · have hp : decide ((0 : Int) < (n : Int)) = true := decide_eq_true (by omega)
    have hlt : decide ((n : Int) < 0) = false := decide_eq_false (by omega)
    have hpn : 0 < n := by omega
    clear h0
    go_enter Try.func127, Try.ntmps127
    go_wp2_with (at_builtin; refine Kd.R_append_zeros Kd.string (w0 := w) w.heap.size rfl (.tmp 20) (.tmp 21) 25 3 9 (.string ⟨#[]⟩) 16 rfl Try.underlying25 Try.underlying3 infoTx rfl (by decide) (by decide) (.slice none 0 0) [] ⟨#[]⟩ n (fun _ => True) rfl rfl rfl (fun _ _ => trivial) (Kd.R_nil _ _ _ _ _) (by omega) (Below.refl _ _) (Nat.le_refl _) (by simp; omega) ?_; intro v1 w1 ho hb _ _; obtain ⟨ad, c1, hv⟩ := Kd.R_slice1 ho (by simpa using hpn); subst hv; have hc1 := own_cap ho.2.choose_spec.1; have HO := Aside0.mk ho; clear ho)
    go_ret
    exact ⟨_, rfl, by simpa using Kd.R_take HO.out (Nat.zero_le _), hb⟩
def lensN (rows : List (List ByteArray)) (k : Nat) : Nat := ((rows.take k).map List.length).sum
theorem lensN_zero (rows : List (List ByteArray)) : lensN rows 0 = 0 := by simp [lensN]
theorem lensN_le {rows : List (List ByteArray)} (k : Nat) : lensN rows k ≤ (rows.map List.length).sum := by
  unfold lensN
  conv => rhs; rw [← List.take_append_drop k rows, List.map_append, List.sum_append]
  omega
theorem lensN_succ {rows : List (List ByteArray)} {k : Nat} (h : k < rows.length) : lensN rows (k + 1) = lensN rows k + rows[k].length := by
  unfold lensN
  rw [take_snoc h, List.map_append, List.sum_append]; simp
theorem lensN_flat (rows : List (List ByteArray)) (k : Nat) : (rows.take k).flatten.length = lensN rows k := by simp [lensN, List.length_flatten]
theorem flat_succ {rows : List (List ByteArray)} {k : Nat} (h : k < rows.length) : (rows.take (k + 1)).flatten = (rows.take k).flatten ++ rows[k] := by
  rw [take_snoc h, List.flatten_append]; simp
set_option maxRecDepth 100000 in
set_option maxHeartbeats 2000000 in
theorem c_ConcatS (A : Option Addr) (c : Nat) (rows : List (List ByteArray)) (w : World) (hr : Kd.C (Kd.slice 9 Kd.string) w A rows.length rows) (hc : rows.length ≤ c) (hl : (rows.map List.length).sum ≤ 1000000) :
    Calls Try.prog 114 #[.slice A rows.length c] w fun en w' => ∃ v, en = .returned v ∧ OwnT w' w.heap.size v rows.flatten ∧ Below w.heap.size w w' := by
  have hm := hr.2.1
  have HR := Aside0.mk hr
  clear hr
  go_enter Try.func114, Try.ntmps114
  go_wp2
  go_loopg [3, 11] rows.length (fun gg s3 s11 wr => ∃ kk : Nat, kk ≤ rows.length ∧ rows.length - kk ≤ gg ∧ s11 = .int .i64 kk ∧ s3 = .int .i64 (lensN rows kk : Nat) ∧ wr = w)
  case atStart => exact ⟨0, Nat.zero_le _, by omega, rfl, by rw [lensN_zero]; rfl, rfl⟩
  case round =>
    obtain ⟨kk, hkk, hg, rfl, rfl, rfl⟩ := hrel
    have m1 := lensN_le (rows := rows) kk
    by_cases hlt : kk < rows.length
    · have hltz : (kk : Int) < (rows.length : Int) := by omega
      obtain ⟨ad, c0, rfl, hK, k0⟩ := get1 rfl HR.out kk hlt
      obtain ⟨A2, a2, he, hl2, hr2⟩ := hK
      obtain rfl : c0 = _ := by simpa using he
      have m2 := lensN_le (rows := rows) (kk + 1)
      have hs := lensN_succ hlt
      rw [hs] at m2
      have HS := Lib.hid hs
      have hn0 : decide (((lensN rows kk : Nat) : Int) + (rows[kk].length : Int) < 0) = false := decide_eq_false (by omega)
      clear hs he
      go_wp2
      go_roundg (rows.length - (kk + 1))
      case measure => omega
      case rel => exact ⟨kk + 1, by omega, by omega, by go_num, by rw [HS.out]; go_num, rfl⟩
    · have : kk = rows.length := by omega
      subst this
      obtain ⟨wo, rfl⟩ : ∃ wo : World, wo = wr := ⟨_, rfl⟩
      have HG := Lib.hid (fun W => c_GrowS (lensN rows rows.length) W (by omega))
      go_wp2_with fail
      refine (HG.out _).mono ?_
      rintro en w0 ⟨v0, rfl, ho, hb⟩
      have HO0 := Aside0.mk ho
      have HB0 := Aside0.mk hb
      have hsz := hb.size
      clear ho hb
      go_wp2
      go_loopg [6, 27] rows.length (fun gg s6 s27 wx => ∃ kk : Nat, kk ≤ rows.length ∧ rows.length - kk ≤ gg ∧ s27 = .int .i64 kk ∧ Aside0 (OwnT wx wo.heap.size s6 (rows.take kk).flatten) ∧ Aside0 (Below wo.heap.size wo wx))
      case atStart => exact ⟨0, Nat.zero_le _, by omega, rfl, HO0, HB0⟩
      case round =>
        obtain ⟨kk, hkk, hg, rfl, HO, HB⟩ := hrel
        by_cases hlt : kk < rows.length
        · have hltz : (kk : Int) < (rows.length : Int) := by omega
          obtain ⟨ad, c0, rfl, hK, k0⟩ := get1 rfl (Kd.C_below HR.out HB.out) kk hlt
          obtain ⟨A2, a2, he, hl2, hr2⟩ := hK
          obtain rfl : c0 = _ := by simpa using he
          have m2 := lensN_le (rows := rows) (kk + 1)
          have hs := lensN_succ hlt
          have hf := lensN_flat rows kk
          rw [hs] at m2
          have HR2 := Aside0.mk hr2
          have hsz := HB.out.size
          obtain ⟨acc, hacc⟩ : ∃ acc, (rows.take kk).flatten = acc := ⟨_, rfl⟩
          rw [hacc] at HO hf
          have HA := Lib.hid hacc
          have HF := Lib.hid hf
          obtain ⟨Av, cv, rfl⟩ := Kd.R_slice HO.out
          clear hs hf he hr2 hacc
          go_wp2_with (at_builtin; refine Kd.R_append_rows Kd.string (w0 := wo) wo.heap.size rfl (.tmp 31) (.tmp 32) 25 9 (.string ⟨#[]⟩) 16 rfl Try.underlying25 infoTx rfl (by decide) (by decide) _ acc rows[kk] A2 rows[kk].length a2 (fun _ => True) (fun _ => False) rfl rfl HO.out HR2.out (fun _ _ h => h) (fun _ h => h.elim) (fun _ _ => trivial) HB.out hsz (by rw [HF.out]; omega) ?_; intro v1 w1 ho hb _ _; have HO1 := Aside0.mk ho; clear ho)
          go_roundg (rows.length - (kk + 1))
          case measure => omega
          case rel => exact ⟨kk + 1, by omega, by omega, by go_num, ⟨by rw [flat_succ hlt, HA.out]; exact HO1.out⟩, ⟨hb⟩⟩
        · have : kk = rows.length := by omega
          subst this
          go_wp2
          go_ret
          exact ⟨_, rfl, by simpa using HO.out, HB.out⟩
end Go.Proofs.Ytacefdkfbpgedaa.Mine
namespace Go.Proofs.Ytacefdkfbpgedaa.Mine
open Go.Proofs.Ytacefdkfbpgedaa.PProgExprs
open Go.RowKit Go.Shelf Go.Lib Go.Proofs.YtacefdkfbpgedaaW.PrintWords Go.Proofs.YtacefdkfbpgedaaW.PrintLast Go.Proofs.YtacefdkfbpgedaaW.PrintMore
set_option linter.unusedVariables false
set_option linter.unusedSimpArgs false
def letB (b : UInt8) : Bool := decide (97 ≤ b.toNat) && decide (b.toNat ≤ 122)
def nameB (s : ByteArray) : Bool := decide (0 < s.size) && decide (s.size ≤ 8) && s.data.toList.all letB
theorem nameB_no {s : ByteArray} {k : Nat} (h : k < s.size) (hb : letB s[k] = false) : nameB s = false := by
  have : s.data.toList.all letB = false := by
    rw [List.all_eq_false]
    exact ⟨s[k], by rw [show s[k] = s.data.toList[k]'(by simpa using h) from rfl]; exact List.getElem_mem _, by rw [hb]; simp⟩
  rw [nameB, this, Bool.and_false]
theorem nameB_yes {s : ByteArray} (h : ∀ (k : Nat) (h : k < s.size), letB (s[k]'h) = true) : nameB s = (decide (0 < s.size) && decide (s.size ≤ 8)) := by
  have : s.data.toList.all letB = true := by
    rw [List.all_eq_true]
    intro x hx
    obtain ⟨i, hi, rfl⟩ := List.getElem_of_mem hx
    exact h i (by simpa using hi)
  rw [nameB, this, Bool.and_true]
set_option maxRecDepth 100000 in
set_option maxHeartbeats 2000000 in
theorem c_named (s : ByteArray) (w : World) :
    Calls Try.prog 89 #[.string s] w fun en w' => en = .returned (.bool (nameB s)) ∧ Below w.heap.size w w' := by
  obtain ⟨W0, hW0⟩ : ∃ W0, w.iter s 0 = W0 := ⟨_, rfl⟩
  have b0 : W0.heap[w.heap.size]? = some (.stringIter s 0) := by rw [← hW0]; exact alloc_at w (.stringIter s 0)
  have q0 : Below w.heap.size w W0 := by rw [← hW0]; exact below_alloc1 w (.stringIter s 0)
  have B0 := Aside0.mk b0
  have Q0 := Aside0.mk q0
  clear b0 q0
  by_cases hp : 0 < s.size
  · have hp1 : decide ((0 : Int) < (s.size : Int)) = true := decide_eq_true (by omega)
    by_cases h8 : s.size ≤ 8
    · have h81 : decide ((s.size : Int) ≤ 8) = true := decide_eq_true (by omega)
      have HN := Lib.hid (show (decide (0 < s.size) && decide (s.size ≤ 8)) = true by simp [hp, h8])
      go_enter Try.func89, Try.ntmps89
      go_wp2
      go_step3
      go_wp2
      go_step3
      go_wp2
      try rw [hW0]
      go_loopg [3] s.size (fun gg s3 wr => ∃ pos : Nat, pos ≤ s.size ∧ s.size - pos ≤ gg ∧ s3 = .bool true ∧ Aside0 (wr.heap[w.heap.size]? = some (.stringIter s pos)) ∧ Aside0 (∀ (k : Nat) (h : k < s.size), k < pos → letB (s[k]'h) = true) ∧ Aside0 (Below w.heap.size w wr))
      case atStart => exact ⟨0, Nat.zero_le _, by omega, rfl, B0, ⟨fun k h hk => absurd hk (Nat.not_lt_zero _)⟩, Q0⟩
      case round =>
        obtain ⟨pos, hle, hg, rfl, HI, HA, HB⟩ := hrel
        by_cases hlt : pos < s.size
        · by_cases hlet : letB (s[pos]'hlt) = true
          · have h2 := hlet
            simp only [letB, Bool.and_eq_true, decide_eq_true_iff] at h2
            have hn1 : decide (((s[pos]'hlt).toNat : Int) < 97) = false := decide_eq_false (by omega)
            have hn2 : decide ((122 : Int) < ((s[pos]'hlt).toNat : Int)) = false := decide_eq_false (by omega)
            have hnx : ∀ ty, (Instr.next (.pointer (some ⟨w.heap.size, 0, none⟩)) true ty).run Try.prog wr = _ := fun ty => run_next_ascii_at wr w.heap.size s pos ty HI.out hlt (by omega)
            have HL := Lib.hid hlet
            clear hlet h2
            go_wp2
            go_roundg (s.size - (pos + 1))
            case measure => omega
            case rel => exact ⟨pos + 1, by omega, by omega, rfl, ⟨iterAt_heap _ _ _ _ _ HI.out⟩, ⟨fun k h hk => by
              rcases Nat.lt_or_ge k pos with h3 | h3
              · exact HA.out k h h3
              · obtain rfl : k = pos := by omega
                exact HL.out⟩, ⟨below_iterAt HB.out (Nat.le_refl _) _ _⟩⟩
          · have hb : letB (s[pos]'hlt) = false := by simpa using hlet
            have HL := Lib.hid hb
            have hr : (decide (((Utf8.decode s pos).1 : Int) < 97) || decide ((122 : Int) < ((Utf8.decode s pos).1 : Int))) = true := by
              by_cases ha : (s[pos]'hlt).toNat < 128
              · rw [decode_ascii s pos hlt ha]
                simp only [letB, Bool.and_eq_true, decide_eq_true_iff] at hlet
                simp only [Bool.or_eq_true, decide_eq_true_iff]
                omega
              · have := (decode_high s pos hlt (by omega)).1
                simp only [Bool.or_eq_true, decide_eq_true_iff]
                omega
            obtain ⟨rn, hrn⟩ : ∃ rn, Utf8.decode s pos = rn := ⟨_, rfl⟩
            have hnx : ∀ ty, (Instr.next (.pointer (some ⟨w.heap.size, 0, none⟩)) true ty).run Try.prog wr = _ := fun ty => run_next_any_at wr w.heap.size s pos ty HI.out hlt
            rw [hrn] at hr hnx
            cases h1 : decide ((rn.1 : Int) < 97) with
            | true =>
              clear hrn hr hb hlet
              go_wp2
              rw [Exit.noGoto_ret]; go_ret
              exact ⟨retb (nameB_no hlt HL.out).symm, below_iterAt HB.out (Nat.le_refl _) _ _⟩
            | false =>
              rw [h1, Bool.false_or] at hr
              clear hrn hb hlet
              go_wp2
              rw [Exit.noGoto_ret]; go_ret
              exact ⟨retb (nameB_no hlt HL.out).symm, below_iterAt HB.out (Nat.le_refl _) _ _⟩
        · have hnx : ∀ ty, (Instr.next (.pointer (some ⟨w.heap.size, 0, none⟩)) true ty).run Try.prog wr = _ := fun ty => run_next_end_at wr w.heap.size s pos ty HI.out hlt
          go_wp2
          rw [Exit.noGoto_ret]; go_ret
          exact ⟨retb (by rw [nameB_yes (fun k h => HA.out k h (by omega)), HN.out]), HB.out⟩
    · have h81 : decide ((s.size : Int) ≤ 8) = false := decide_eq_false (by omega)
      have HN := Lib.hid (show (decide (0 < s.size) && decide (s.size ≤ 8)) = false by simp [h8])
      go_enter Try.func89, Try.ntmps89
      go_wp2
      go_step3
      go_wp2
      go_step3
      go_wp2
      try rw [hW0]
      go_loopg [3] s.size (fun gg s3 wr => ∃ pos : Nat, pos ≤ s.size ∧ s.size - pos ≤ gg ∧ s3 = .bool false ∧ Aside0 (wr.heap[w.heap.size]? = some (.stringIter s pos)) ∧ Aside0 (∀ (k : Nat) (h : k < s.size), k < pos → letB (s[k]'h) = true) ∧ Aside0 (Below w.heap.size w wr))
      case atStart => exact ⟨0, Nat.zero_le _, by omega, rfl, B0, ⟨fun k h hk => absurd hk (Nat.not_lt_zero _)⟩, Q0⟩
      case round =>
        obtain ⟨pos, hle, hg, rfl, HI, HA, HB⟩ := hrel
        by_cases hlt : pos < s.size
        · by_cases hlet : letB (s[pos]'hlt) = true
          · have h2 := hlet
            simp only [letB, Bool.and_eq_true, decide_eq_true_iff] at h2
            have hn1 : decide (((s[pos]'hlt).toNat : Int) < 97) = false := decide_eq_false (by omega)
            have hn2 : decide ((122 : Int) < ((s[pos]'hlt).toNat : Int)) = false := decide_eq_false (by omega)
            have hnx : ∀ ty, (Instr.next (.pointer (some ⟨w.heap.size, 0, none⟩)) true ty).run Try.prog wr = _ := fun ty => run_next_ascii_at wr w.heap.size s pos ty HI.out hlt (by omega)
            have HL := Lib.hid hlet
            clear hlet h2
            go_wp2
            go_roundg (s.size - (pos + 1))
            case measure => omega
            case rel => exact ⟨pos + 1, by omega, by omega, rfl, ⟨iterAt_heap _ _ _ _ _ HI.out⟩, ⟨fun k h hk => by
              rcases Nat.lt_or_ge k pos with h3 | h3
              · exact HA.out k h h3
              · obtain rfl : k = pos := by omega
                exact HL.out⟩, ⟨below_iterAt HB.out (Nat.le_refl _) _ _⟩⟩
          · have hb : letB (s[pos]'hlt) = false := by simpa using hlet
            have HL := Lib.hid hb
            have hr : (decide (((Utf8.decode s pos).1 : Int) < 97) || decide ((122 : Int) < ((Utf8.decode s pos).1 : Int))) = true := by
              by_cases ha : (s[pos]'hlt).toNat < 128
              · rw [decode_ascii s pos hlt ha]
                simp only [letB, Bool.and_eq_true, decide_eq_true_iff] at hlet
                simp only [Bool.or_eq_true, decide_eq_true_iff]
                omega
              · have := (decode_high s pos hlt (by omega)).1
                simp only [Bool.or_eq_true, decide_eq_true_iff]
                omega
            obtain ⟨rn, hrn⟩ : ∃ rn, Utf8.decode s pos = rn := ⟨_, rfl⟩
            have hnx : ∀ ty, (Instr.next (.pointer (some ⟨w.heap.size, 0, none⟩)) true ty).run Try.prog wr = _ := fun ty => run_next_any_at wr w.heap.size s pos ty HI.out hlt
            rw [hrn] at hr hnx
            cases h1 : decide ((rn.1 : Int) < 97) with
            | true =>
              clear hrn hr hb hlet
              go_wp2
              rw [Exit.noGoto_ret]; go_ret
              exact ⟨retb (nameB_no hlt HL.out).symm, below_iterAt HB.out (Nat.le_refl _) _ _⟩
            | false =>
              rw [h1, Bool.false_or] at hr
              clear hrn hb hlet
              go_wp2
              rw [Exit.noGoto_ret]; go_ret
              exact ⟨retb (nameB_no hlt HL.out).symm, below_iterAt HB.out (Nat.le_refl _) _ _⟩
        · have hnx : ∀ ty, (Instr.next (.pointer (some ⟨w.heap.size, 0, none⟩)) true ty).run Try.prog wr = _ := fun ty => run_next_end_at wr w.heap.size s pos ty HI.out hlt
          go_wp2
          rw [Exit.noGoto_ret]; go_ret
          exact ⟨retb (by rw [nameB_yes (fun k h => HA.out k h (by omega)), HN.out]), HB.out⟩
  · have hp1 : decide ((0 : Int) < (s.size : Int)) = false := decide_eq_false (by omega)
    have HN := Lib.hid (show (decide (0 < s.size) && decide (s.size ≤ 8)) = false by simp [hp])
    go_enter Try.func89, Try.ntmps89
    go_wp2
    go_step3
    go_wp2
    go_step3
    go_wp2
    try rw [hW0]
    go_loopg [3] s.size (fun gg s3 wr => ∃ pos : Nat, pos ≤ s.size ∧ s.size - pos ≤ gg ∧ s3 = .bool false ∧ Aside0 (wr.heap[w.heap.size]? = some (.stringIter s pos)) ∧ Aside0 (∀ (k : Nat) (h : k < s.size), k < pos → letB (s[k]'h) = true) ∧ Aside0 (Below w.heap.size w wr))
    case atStart => exact ⟨0, Nat.zero_le _, by omega, rfl, B0, ⟨fun k h hk => absurd hk (Nat.not_lt_zero _)⟩, Q0⟩
    case round =>
      obtain ⟨pos, hle, hg, rfl, HI, HA, HB⟩ := hrel
      by_cases hlt : pos < s.size
      · by_cases hlet : letB (s[pos]'hlt) = true
        · have h2 := hlet
          simp only [letB, Bool.and_eq_true, decide_eq_true_iff] at h2
          have hn1 : decide (((s[pos]'hlt).toNat : Int) < 97) = false := decide_eq_false (by omega)
          have hn2 : decide ((122 : Int) < ((s[pos]'hlt).toNat : Int)) = false := decide_eq_false (by omega)
          have hnx : ∀ ty, (Instr.next (.pointer (some ⟨w.heap.size, 0, none⟩)) true ty).run Try.prog wr = _ := fun ty => run_next_ascii_at wr w.heap.size s pos ty HI.out hlt (by omega)
          have HL := Lib.hid hlet
          clear hlet h2
          go_wp2
          go_roundg (s.size - (pos + 1))
          case measure => omega
          case rel => exact ⟨pos + 1, by omega, by omega, rfl, ⟨iterAt_heap _ _ _ _ _ HI.out⟩, ⟨fun k h hk => by
            rcases Nat.lt_or_ge k pos with h3 | h3
            · exact HA.out k h h3
            · obtain rfl : k = pos := by omega
              exact HL.out⟩, ⟨below_iterAt HB.out (Nat.le_refl _) _ _⟩⟩
        · have hb : letB (s[pos]'hlt) = false := by simpa using hlet
          have HL := Lib.hid hb
          have hr : (decide (((Utf8.decode s pos).1 : Int) < 97) || decide ((122 : Int) < ((Utf8.decode s pos).1 : Int))) = true := by
            by_cases ha : (s[pos]'hlt).toNat < 128
            · rw [decode_ascii s pos hlt ha]
              simp only [letB, Bool.and_eq_true, decide_eq_true_iff] at hlet
              simp only [Bool.or_eq_true, decide_eq_true_iff]
              omega
            · have := (decode_high s pos hlt (by omega)).1
              simp only [Bool.or_eq_true, decide_eq_true_iff]
              omega
          obtain ⟨rn, hrn⟩ : ∃ rn, Utf8.decode s pos = rn := ⟨_, rfl⟩
          have hnx : ∀ ty, (Instr.next (.pointer (some ⟨w.heap.size, 0, none⟩)) true ty).run Try.prog wr = _ := fun ty => run_next_any_at wr w.heap.size s pos ty HI.out hlt
          rw [hrn] at hr hnx
          cases h1 : decide ((rn.1 : Int) < 97) with
          | true =>
            clear hrn hr hb hlet
            go_wp2
            rw [Exit.noGoto_ret]; go_ret
            exact ⟨retb (nameB_no hlt HL.out).symm, below_iterAt HB.out (Nat.le_refl _) _ _⟩
          | false =>
            rw [h1, Bool.false_or] at hr
            clear hrn hb hlet
            go_wp2
            rw [Exit.noGoto_ret]; go_ret
            exact ⟨retb (nameB_no hlt HL.out).symm, below_iterAt HB.out (Nat.le_refl _) _ _⟩
      · have hnx : ∀ ty, (Instr.next (.pointer (some ⟨w.heap.size, 0, none⟩)) true ty).run Try.prog wr = _ := fun ty => run_next_end_at wr w.heap.size s pos ty HI.out hlt
        go_wp2
        rw [Exit.noGoto_ret]; go_ret
        exact ⟨retb (by rw [nameB_yes (fun k h => HA.out k h (by omega)), HN.out]), HB.out⟩
end Go.Proofs.Ytacefdkfbpgedaa.Mine
namespace Go.Proofs.Ytacefdkfbpgedaa.Mine
open Go.Proofs.Ytacefdkfbpgedaa.PProgExprs
open Go.RowKit Go.Shelf Go.Proofs.YtacefdkfbpgedaaW.PrintWords Go.Proofs.YtacefdkfbpgedaaW.PrintLast Go.Proofs.YtacefdkfbpgedaaW.PrintMore
set_option linter.unusedVariables false
set_option linter.unusedSimpArgs false
def fewB (e : Ex) : Bool := ((e.f0 != 2) || decide ((e.f2.length : Int) ≤ 4)) && ((e.f0 != 3) || decide ((e.f2.length : Int) ≤ 4))
def kindB (e : Ex) : Bool := (decide (1 ≤ e.f0) && decide (e.f0 ≤ 3)) && ((e.f0 != 1) || ((e.f2.length : Int) == 0))
set_option maxHeartbeats 2000000 in
theorem c_right1 (e : Ex) (A : Option Addr) (c : Nat) (w : World) (hm : e.f2.length ≤ 9223372036854775807) :
    Calls Try.prog 102 #[.agg #[.int .i64 e.f0, .string e.f1, .slice A e.f2.length c]] w fun en w' => en = .returned (.bool (fewB e)) ∧ Below w.heap.size w w' := by
  cases h1 : (e.f0 != 2) <;> cases h2 : decide ((e.f2.length : Int) ≤ 4) <;> cases h3 : (e.f0 != 3)
  all_goals
    have HF := Lib.hid (show fewB e = _ by rw [fewB, h1, h2, h3])
    go_enter Try.func102, Try.ntmps102
    go_wp2
    go_ret
    exact ⟨retb HF.out.symm, below_alloc1 _ _⟩
set_option maxHeartbeats 2000000 in
theorem c_right2 (e : Ex) (A : Option Addr) (c : Nat) (w : World) (hm : e.f2.length ≤ 9223372036854775807) :
    Calls Try.prog 103 #[.agg #[.int .i64 e.f0, .string e.f1, .slice A e.f2.length c]] w fun en w' => en = .returned (.bool (kindB e)) ∧ Below w.heap.size w w' := by
  cases h1 : decide (1 ≤ e.f0) <;> cases h2 : decide (e.f0 ≤ 3) <;> cases h3 : (e.f0 != 1) <;> cases h4 : ((e.f2.length : Int) == 0)
  all_goals
    have HF := Lib.hid (show kindB e = _ by rw [kindB, h1, h2, h3, h4])
    go_enter Try.func103, Try.ntmps103
    go_wp2
    go_ret
    exact ⟨retb HF.out.symm, below_alloc1 _ _⟩
set_option maxHeartbeats 1000000 in
theorem c_right4 (l : List ByteArray) (A : Option Addr) (c : Nat) (w : World) :
    Calls Try.prog 107 #[.slice A l.length c] w fun en w' => en = .returned (.bool (decide (l.length ≤ 4))) ∧ Below w.heap.size w w' := by
  go_enter Try.func107, Try.ntmps107
  go_wp2
  go_ret
  exact ⟨retb (by congr 1; exact propext (by omega)), Below.refl _ _⟩
set_option maxHeartbeats 1000000 in
theorem c_right5 (e : Ex) (A : Option Addr) (c : Nat) (w : World) (hz : szE e ≤ 1000000) (hr : Kd.C k24 w A e.f2.length e.f2) (hc : e.f2.length ≤ c) :
    Calls Try.prog 109 #[.agg #[.int .i64 e.f0, .string e.f1, .slice A e.f2.length c]] w fun en w' => en = .returned (.bool (decide (szE e ≤ 24))) ∧ Below w.heap.size w w' := by
  have q := below_alloc1 w (.cells #[.int .i64 e.f0, .string e.f1, .slice A e.f2.length c] 24)
  have HC := Lib.hid (c_Size _ e A c _ (Nat.le_refl _) hz (Kd.C_below hr q) hc)
  have HQ := Lib.hid q
  clear hr q
  go_enter Try.func109, Try.ntmps109
  go_wp2_with fail
  refine HC.out.mono ?_
  rintro en w' ⟨rfl, hb⟩
  go_wp2
  go_ret
  exact ⟨retb (by congr 1; exact propext (by omega)), HQ.out.trans (hb.mono HQ.out.size)⟩
set_option maxHeartbeats 1000000 in
theorem c_right6 (x : Ca) (cs : List Value) (w : World) (hK : k99.K w x cs) :
    Calls Try.prog 110 #[.agg cs.toArray] w fun en w' => en = .returned (.bool (nameB x.f0)) ∧ Below w.heap.size w w' := by
  obtain ⟨A1, c1, A4, c4, rfl, l1, g1, l4, g4⟩ := k99_open hK
  have HC := Lib.hid (fun W => c_named x.f0 W)
  have HQ := Lib.hid (below_alloc1 w (.cells #[.string x.f0, .slice A1 x.f1.length c1, .int .i64 x.f2.f0, .string x.f2.f1, .slice A4 x.f2.f2.length c4] 99))
  clear g1 g4 hK
  go_enter Try.func110, Try.ntmps110
  go_wp2_with fail
  refine (HC.out _).mono ?_
  rintro en w' ⟨rfl, hb⟩
  go_wp2
  go_ret
  exact ⟨rfl, HQ.out.trans (hb.mono HQ.out.size)⟩
set_option maxHeartbeats 1000000 in
theorem c_right7 (l : List ByteArray) (A : Option Addr) (c : Nat) (w : World) (hr : Kd.C Kd.string w A l.length l) (hc : l.length ≤ c) :
    Calls Try.prog 111 #[.slice A l.length c] w fun en w' => en = .returned (.bool (l.all nameB)) ∧ Below w.heap.size w w' := by
  have HC := Lib.hid (evS_p A c l w hc hr 89 #[] (enters_of Try.func89 (by kernel_rfl) rfl) nameB (fun x cs W _ _ _ => c_named x W))
  clear hr
  go_enter Try.func111, Try.ntmps111
  go_wp2_with fail
  refine HC.out.mono ?_
  rintro en w' ⟨rfl, hb⟩
  go_wp2
  go_ret
  exact ⟨rfl, hb⟩
set_option maxHeartbeats 1000000 in
theorem c_right8 (e : Ex) (A : Option Addr) (c : Nat) (w : World) :
    Calls Try.prog 112 #[.agg #[.int .i64 e.f0, .string e.f1, .slice A e.f2.length c]] w fun en w' => en = .returned (.bool (nameB e.f1)) ∧ Below w.heap.size w w' := by
  have q := below_alloc1 w (.cells #[.int .i64 e.f0, .string e.f1, .slice A e.f2.length c] 24)
  have HC := Lib.hid (fun W => c_named e.f1 W)
  have HQ := Lib.hid q
  clear q
  go_enter Try.func112, Try.ntmps112
  go_wp2_with fail
  refine (HC.out _).mono ?_
  rintro en w' ⟨rfl, hb⟩
  go_wp2
  go_ret
  exact ⟨rfl, HQ.out.trans (hb.mono HQ.out.size)⟩
theorem C_two (W : World) (A1 A2 : Option Addr) (l1 l2 : List ByteArray) (c1 c2 : Nat) (h1 : l1.length ≤ c1) (h2 : l2.length ≤ c2) (r1 : Kd.C Kd.string W A1 l1.length l1) (r2 : Kd.C Kd.string W A2 l2.length l2) :
    Kd.C (Kd.slice 9 Kd.string) (W.alloc (.cells #[.slice A1 l1.length c1, .slice A2 l2.length c2] 25)) (some ⟨W.heap.size, 0, none⟩) [l1, l2].length [l1, l2] := by
  have hb := below_alloc1 W (.cells #[.slice A1 l1.length c1, .slice A2 l2.length c2] 25)
  have ha := alloc_at W (.cells #[.slice A1 l1.length c1, .slice A2 l2.length c2] 25)
  refine ⟨rfl, by simp, fun _ => ⟨_, rfl, fun j p hj => ?_⟩⟩
  match j, hj with
  | 0, hj =>
    simp at hj; subst hj
    exact ⟨[.slice A1 l1.length c1], rfl, ⟨A1, c1, rfl, h1, Kd.C_below r1 hb⟩, fun i u hu => by
      match i, hu with
      | 0, hu => simp at hu; subst hu; exact (blk_cell ha 0).trans rfl⟩
  | 1, hj =>
    simp at hj; subst hj
    exact ⟨[.slice A2 l2.length c2], rfl, ⟨A2, c2, rfl, h2, Kd.C_below r2 hb⟩, fun i u hu => by
      match i, hu with
      | 0, hu => simp at hu; subst hu; exact (blk_cell ha 1).trans rfl⟩
  | j + 2, hj => simp at hj
set_option maxRecDepth 100000 in
set_option maxHeartbeats 2000000 in
theorem c_right9 (d : De) (cs : List Value) (Bd : Nat) (l : List ByteArray) (A : Option Addr) (c : Nat) (w : World) (hK : k58.K w d cs) (hbox : w.heap[Bd]? = some (.cells cs.toArray 58 (0, 0))) (hr : Kd.C Kd.string w A l.length l) (hc : l.length ≤ c)
    (hl : d.f1.length + l.length < 1000000) (hs1 : ∀ s ∈ d.f1, s.size ≤ nmLim) (hs2 : ∀ s ∈ l, s.size ≤ nmLim) :
    Calls Try.prog 113 #[.slice A l.length c, .pointer (some ⟨Bd, 0, none⟩)] w fun en w' => en = .returned (.bool (!twB (d.f1 ++ l))) ∧ Below w.heap.size w w' := by
  obtain ⟨A1, c1, A2, c2, A5, c5, rfl, l1, F1, _⟩ := k58_open hK
  have k1 := (blk_cell hbox 1).trans rfl
  have hT := C_two w A1 A d.f1 l c1 c l1 hc F1 hr
  have q := below_alloc1 w (.cells #[.slice A1 d.f1.length c1, .slice A l.length c] 25)
  have HC := Lib.hid (c_ConcatS (some ⟨w.heap.size, 0, none⟩) 2 [d.f1, l] _ hT (by simp) (by simp; omega))
  have HQ := Lib.hid q
  clear hT q hbox hr F1 hK
  go_enter Try.func113, Try.ntmps113
  go_wp2_with fail
  refine HC.out.mono ?_
  rintro en w' ⟨v, rfl, ho, hb⟩
  obtain ⟨Av, cv, rfl, hcv, hCv⟩ := Kd.R_reads ho
  obtain ⟨m, hm⟩ : ∃ m, [d.f1, l].flatten = m := ⟨_, rfl⟩
  have hfl : m = d.f1 ++ l := by rw [← hm]; simp
  rw [hm] at hCv hcv ⊢
  have HT := Lib.hid (c_twice Av cv m w' hCv hcv (fun s hs => by rw [hfl] at hs; rcases List.mem_append.1 hs with h | h; exact hs1 s h; exact hs2 s h) (by rw [hfl]; simp; omega))
  have HFl := Lib.hid hfl
  clear hfl hm
  have HB := Lib.hid hb
  clear ho hCv hb
  go_wp2_with fail
  refine HT.out.mono ?_
  rintro en w2 ⟨rfl, hb2⟩
  go_wp2
  go_ret
  exact ⟨by rw [← HFl.out]; simp [HFl.out], (HQ.out.trans (HB.out.mono HQ.out.size)).trans (hb2.mono (HQ.out.trans (HB.out.mono HQ.out.size)).size)⟩
set_option maxRecDepth 100000 in
set_option maxHeartbeats 2000000 in
theorem c_right31 (x : Ca) (cs : List Value) (Bf : Nat) (w : World) (hK : k99.K w x cs) (g : Nat) (lb : Array Value) (eg : ∀ args w, (callFunc g args).run Try.prog w = .ok (.enter g args) w) (hbox : w.heap[Bf]? = some (.cells #[.func (.func g) #[] lb] 27 (0, 0))) (p : List ByteArray → Bool)
    (hf : ∀ (A : Option Addr) (c : Nat) (W : World), Below w.heap.size w W → x.f1.length ≤ c → Kd.C Kd.string W A x.f1.length x.f1 → Calls Try.prog g (#[.slice A x.f1.length c] ++ lb) W fun en w' => en = .returned (.bool (p x.f1)) ∧ Below W.heap.size W w') :
    Calls Try.prog 106 #[.agg cs.toArray, .pointer (some ⟨Bf, 0, none⟩)] w fun en w' => en = .returned (.bool (p x.f1)) ∧ Below w.heap.size w w' := by
  obtain ⟨A1, c1, A4, c4, rfl, l1, g1, l4, g4⟩ := k99_open hK
  have q := below_alloc1 w (.cells #[.string x.f0, .slice A1 x.f1.length c1, .int .i64 x.f2.f0, .string x.f2.f1, .slice A4 x.f2.f2.length c4] 99)
  have k0 := cell_of_one hbox
  have hlt := lt_of_block hbox
  have hn : ¬ (Bf = w.heap.size) := by omega
  have HC := Lib.hid (hf A1 c1 _ q l1 (Kd.C_below g1 q))
  have HQ := Lib.hid q
  clear q hbox g1 g4 hK hf
  go_enter Try.func106, Try.ntmps106
  go_wp2_with (go_at_fn g; refine HC.out.mono ?_; rintro en w' ⟨rfl, hb⟩)
  go_ret
  exact ⟨rfl, HQ.out.trans (hb.mono HQ.out.size)⟩
set_option maxRecDepth 100000 in
set_option maxHeartbeats 2000000 in
theorem c_right3 (d : De) (cs : List Value) (Bd : Nat) (w : World) (hK : k58.K w d cs) (hbox : w.heap[Bd]? = some (.cells cs.toArray 58 (0, 0))) (g : Nat) (lb : Array Value) (eg : ∀ args w, (callFunc g args).run Try.prog w = .ok (.enter g args) w) (p : List ByteArray → Bool)
    (hf : ∀ (x : Ca) (A : Option Addr) (c : Nat) (W : World), x ∈ d.f2 → Below w.heap.size w W → x.f1.length ≤ c → Kd.C Kd.string W A x.f1.length x.f1 → Calls Try.prog g (#[.slice A x.f1.length c] ++ lb) W fun en w' => en = .returned (.bool (p x.f1)) ∧ Below W.heap.size W w') :
    Calls Try.prog 104 #[.func (.func g) #[] lb, .pointer (some ⟨Bd, 0, none⟩)] w fun en w' => en = .returned (.bool (d.f2.all fun c => p c.f1)) ∧ Below w.heap.size w w' := by
  obtain ⟨A1, c1, A2, c2, A5, c5, rfl, l1, F1, l2, F2, l5, F5⟩ := k58_open hK
  have q := below_alloc1 w (.cells #[.func (.func g) #[] lb] 27)
  have bF := alloc_at w (.cells #[.func (.func g) #[] lb] 27)
  have k2 := (blk_cell hbox 2).trans rfl
  have hlt := blk_lt hbox
  have hn : ¬ (Bd = w.heap.size) := by omega
  have HC := Lib.hid (evC_p A2 c2 d.f2 _ l2 (Kd.C_below F2 q) 106 #[.pointer (some ⟨w.heap.size, 0, none⟩)] (enters_of Try.func106 (by kernel_rfl) rfl) (fun c => p c.f1)
    (fun x cs W hx hKx hb => c_right31 x cs w.heap.size W hKx g lb eg (blk_below bF hb) p (fun A c W2 hb2 hc2 hr2 => hf x A c W2 hx (q.trans ((hb.trans (hb2.mono hb.size)).mono q.size)) hc2 hr2)))
  have HQ := Lib.hid q
  clear q hbox F1 F2 F5 hK hf bF
  go_enter Try.func104, Try.ntmps104
  go_wp2_with fail
  refine HC.out.mono ?_
  rintro en w' ⟨rfl, hb⟩
  go_wp2
  go_ret
  exact ⟨rfl, HQ.out.trans (hb.mono HQ.out.size)⟩
end Go.Proofs.Ytacefdkfbpgedaa.Mine
namespace Go.Proofs.Ytacefdkfbpgedaa.Mine
open Go.Proofs.Ytacefdkfbpgedaa.PProgExprs
open Go.RowKit Go.Shelf Go.Proofs.YtacefdkfbpgedaaW.PrintWords Go.Proofs.YtacefdkfbpgedaaW.PrintLast Go.Proofs.YtacefdkfbpgedaaW.PrintMore
set_option linter.unusedVariables false
set_option linter.unusedSimpArgs false
abbrev Hk := ByteArray × Int
def hkV (h : Hk) : Value := .agg #[.string h.1, .int .i64 h.2]
def hkOk (h : Hk) : Prop := h.1.size ≤ nmLim ∧ 0 ≤ h.2 ∧ h.2 ≤ 9223372036854775807
theorem head_type : Try.prog.keyType 132 = true := by kernel_rfl
theorem head_laid : laidOutB Try.prog = true := by kernel_rfl
theorem law_head : Go.Maps.Keyed Try.prog 132 := Go.Maps.Keyed.of_law (deep_law_laid head_laid (m := 4) (by omega) (of_decide_eq_true (p := 132 < Try.prog.types.size) (by kernel_rfl)) (by kernel_rfl) (by kernel_rfl))
theorem key_head {h : Hk} (hh : hkOk h) : ∃ l, keyOf Try.prog 132 (hkV h) = some l := by
  obtain ⟨s, n⟩ := h
  obtain ⟨h1, h2, h3⟩ := hh
  simp only at h1 h2 h3
  unfold nmLim at h1
  have hm : s.size ≤ maxLen := by unfold maxLen; omega
  have hw : (Lit.int .i64 n).wf = true := by simp [Lit.wf, IntKind.min, IntKind.max, IntKind.bits, IntKind.signed]; omega
  have hc : Try.prog.cellsOf 132 = 2 := by kernel_rfl
  have hcs : Try.prog.cellsOf 9 = 1 := by kernel_rfl
  have hci : Try.prog.cellsOf 3 = 1 := by kernel_rfl
  have e1 : (hkV (s, n)).formed Try.prog 132 = true := by
    unfold Value.formed hkV
    simp [Try.underlying132, hc]
  obtain ⟨m, hm2⟩ : ∃ m, Try.prog.types.size = m + 1 := ⟨Try.prog.types.size - 1, by
    have : decide (0 < Try.prog.types.size) = true := by kernel_rfl
    have := of_decide_eq_true this
    omega⟩
  have e2 : Try.prog.keyLits (Try.prog.types.size + 1) 132 (hkV (s, n)).cells.toList = some [.string s.data.toList, .int .i64 n] := by
    rw [hm2]
    simp [Program.keyLits, Try.underlying132, Try.underlying9, Try.underlying3, hkV, Value.cells, hc, hcs, hci, hm, hw]
  unfold keyOf
  rw [Try.underlying132]
  simp only [head_type, e1, Bool.and_self, if_true, e2]
  exact ⟨_, rfl⟩
noncomputable def hkL (h : Hk) : Lit := (keyOf Try.prog 132 (hkV h)).getD (.bool false)
theorem hkL_spec {h : Hk} (hh : hkOk h) : keyOf Try.prog 132 (hkV h) = some (hkL h) := by
  obtain ⟨l, hl⟩ := key_head hh
  rw [hkL, hl]; rfl
theorem hkL_inj {a b : Hk} (ha : hkOk a) (hb : hkOk b) (h : hkL a = hkL b) : a = b := by
  have h3 := hkL_spec hb
  rw [← h] at h3
  have := law_head.inj (hkL_spec ha) h3
  simp only [hkV, Value.agg.injEq, List.toArray_eq_toArray_eq] at this
  have h2 : Value.string a.1 = .string b.1 ∧ Value.int .i64 a.2 = .int .i64 b.2 := by simpa using this
  obtain ⟨h3, h4⟩ := h2
  cases a; cases b
  simp_all
def MHead (W : World) (b : Nat) (l : List Hk) : Prop :=
  ∃ (D : DataW Unit), W.ownsMap Try.prog 132 (plainElem Try.prog 4) b l.length D ∧ Maps.IsMap D ∧ ∀ h : Hk, hkOk h → D.atKey (hkL h) (.lit (.bool false)) = .lit (.bool (memB h l))
theorem MHead.made (w : World) : MHead (w.alloc (.map #[] 0)) w.heap.size [] := ⟨.map [], World.ownsMap_made _ _ _ _, Maps.isMap_empty, fun s _ => by simp [DataW.atKey, memB]⟩
theorem MHead.lt {W : World} {b : Nat} {l : List Hk} (h : MHead W b l) : b < W.heap.size := by obtain ⟨D, h, _⟩ := h; exact h.lt
theorem MHead.below {W W' : World} {b : Nat} {l : List Hk} (h : MHead W b l) (hb : Below W.heap.size W W') : MHead W' b l := by
  obtain ⟨D, h1, h2⟩ := h
  exact ⟨D, h1.kept (row := none) (grown_of_below hb none) (by simp), h2⟩
def headC (c : Ca) : Hk := (c.f0, (c.f1.length : Int))
set_option maxRecDepth 100000 in
set_option maxHeartbeats 2000000 in
theorem c_heads1 (x : Ca) (cs : List Value) (B b : Nat) (l : List Hk) (w : World) (hK : k99.K w x cs) (hs : x.f0.size ≤ nmLim) (hB : w.heap[B]? = some (.cells #[.map (some b)] 130 (0, 0))) (hm : MHead w b l) (hl : l.length < 1000000) :
    Calls Try.prog 128 #[.agg cs.toArray, .pointer (some ⟨B, 0, none⟩)] w fun e w' => e = .returned (.bool (!memB (headC x) l)) ∧ MHead w' b (l ++ [headC x]) ∧ Fr (fun k => k = b) w w' := by
  obtain ⟨A1, c1, A4, c4, rfl, l1, g1, l4, g4⟩ := k99_open hK
  have hok : hkOk (headC x) := ⟨hs, by simp [headC], by have := g1.2.1; simp only [headC]; omega⟩
  have hkey := hkL_spec hok
  have hml := g1.2.1
  obtain ⟨W2, hW2⟩ : ∃ W2, (w.alloc (.cells #[.string x.f0, .slice A1 x.f1.length c1, .int .i64 x.f2.f0, .string x.f2.f1, .slice A4 x.f2.f2.length c4] 99)).alloc (.cells #[.string x.f0, .int .i64 x.f1.length] 132) = W2 := ⟨_, rfl⟩
  have q2 : Below w.heap.size w W2 := by rw [← hW2]; exact below_alloc2 _ _ _
  obtain ⟨D, hown, hD, hat⟩ := hm.below q2
  have hB2 := blk_below hB q2
  have k0 := cell_of_one hB2
  obtain ⟨cc, hrun, hcc⟩ := lookup_bool hown law_head Try.underlying130 Try.underlying4 (zero_bool W2) hkey
  have hcc2 : cc = memB (headC x) l := (Lit.bool.inj (DataW.lit.inj ((hat _ hok).symm.trans hcc))).symm
  subst hcc2
  simp only [hkV, headC] at hrun
  rw [← hW2] at hrun k0
  have hlt := lt_of_block hB
  have hn1 : ¬ (B = w.heap.size) := by omega
  have hn2 : ¬ (B = w.heap.size + 1) := by omega
  have HO := Aside0.mk hown
  have HA := Lib.hid hat
  have HK := Lib.hid hkey
  have HD := Lib.hid hD
  have HQ := Lib.hid q2
  have HOk := Lib.hid hok
  have HW2 := Lib.hid hW2
  clear hown hat hkey hcc hB hB2 hD hm q2 hok hW2 g1 g4 hK
  go_enter Try.func128, Try.ntmps128
  go_wp2_with (at_mapUpdate; rw [HW2.out]; refine wpList_mapUpdate_own _ rfl _ _ _ 130 rfl 132 4 law_head Try.underlying130 (plainElem Try.prog 4) b l.length D rfl HO.out (by unfold maxLen; omega) _ _ (hkL (headC x)) rfl rfl HK.out (.lit (.bool true)) [] (plainElem_bool Try.underlying4 true) ?_; intro w1 hown1 hgrow1)
  go_ret
  refine ⟨retb rfl, ⟨D.put (hkL (headC x)) (.lit (.bool true)), by simpa using hown1, HD.out.put _ _, fun t ht => ?_⟩, (Fr.of_below _ HQ.out).grown hgrow1 (fun k hk => .inl (by cases hk; rfl))⟩
  by_cases he : t = headC x
  · subst he
    rw [Maps.atKey_put_same HD.out (law_head.key HK.out), memB_iff.2 (by simp)]
  · rw [Maps.atKey_put_other (fun h => he (hkL_inj ht HOk.out h)), HA.out t ht]
    have : memB t (l ++ [headC x]) = memB t l := by simp [memB]; intro h; exact absurd h.symm he
    rw [this]
set_option maxHeartbeats 2000000 in
theorem c_heads (A : Option Addr) (c : Nat) (l : List Ca) (w : World) (hr : Kd.C k99 w A l.length l) (hc : l.length ≤ c) (hs : ∀ x ∈ l, x.f0.size ≤ nmLim) (hl : l.length < 1000000) :
    Calls Try.prog 115 #[.slice A l.length c] w fun e w' => e = .returned (.bool (twB (l.map headC))) ∧ Below w.heap.size w w' := by
  have hmm := @run_makeMap Try.prog
  obtain ⟨W1, hW1⟩ : ∃ W1, (w.alloc (.map #[] 0)).alloc (.cells #[.map (some w.heap.size)] 130) = W1 := ⟨_, rfl⟩
  have b1 : Below w.heap.size w W1 := by rw [← hW1]; exact (below_alloc1 _ _).trans ((below_alloc1 _ _).mono (by simp))
  have s1 : W1.heap.size = w.heap.size + 2 := by rw [← hW1]; simp
  have m1 : MHead W1 w.heap.size [] := by rw [← hW1]; exact (MHead.made w).below (below_alloc1 _ _)
  have x1 : W1.heap[w.heap.size + 1]? = some (.cells #[.map (some w.heap.size)] 130 (0, 0)) := by rw [← hW1]; have := alloc_at (w.alloc (.map #[] 0)) (.cells #[.map (some w.heap.size)] 130); simpa using this
  have hml : ∀ i, i < l.length → ∀ (h : i < (l.map headC).length), (l.map headC)[i] = headC (l[i]'(by simpa using h)) := fun i _ h => by simp
  have HC := Lib.hid (evC A c l W1 hc (Fr (fun k => k = w.heap.size)) (Fr.rel _) (fun W W' k cs hk h ho => h.blk ho (by omega)) (fun W hW => Kd.C_below hr (((Fr.of_below _ b1).trans hW).below (Nat.le_refl _) (fun k hk he => by omega)))
    128 #[.pointer (some ⟨w.heap.size + 1, 0, none⟩)] (enters_of Try.func128 (by kernel_rfl) rfl)
    (fun i W => MHead W w.heap.size ((l.map headC).take i) ∧ W.heap[w.heap.size + 1]? = some (.cells #[.map (some w.heap.size)] 130 (0, 0)) ∧ ((l.map headC).take i).Nodup)
    (fun i W => Below w.heap.size w W ∧ ∃ h : i < (l.map headC).length, (l.map headC)[i] ∈ (l.map headC).take i)
    (fun i W W' h hb => ⟨h.1.below hb, blk_below h.2.1 hb, h.2.2⟩)
    (fun i x cs W hx hK _ hW hi => by
      obtain ⟨hil, rfl⟩ := List.getElem?_eq_some_iff.1 hx
      have hil2 : i < (l.map headC).length := by simpa using hil
      refine (c_heads1 l[i] cs (w.heap.size + 1) w.heap.size ((l.map headC).take i) W hK (hs _ (List.getElem_mem hil)) hi.2.1 hi.1 (by rw [List.length_take]; omega)).mono ?_
      rintro e W' ⟨rfl, hm, hfr⟩
      refine ⟨_, rfl, ?_⟩
      rw [← hml i hil hil2] at hm ⊢
      cases hmb : memB (l.map headC)[i] ((l.map headC).take i) with
      | true => exact ⟨((Fr.of_below _ b1).trans (hW.trans hfr)).below (Nat.le_refl _) (fun k hk he => by omega), hil2, memB_iff.1 hmb⟩
      | false => exact ⟨hfr, by rw [take_snoc hil2]; exact hm, hfr.blk hi.2.1 (by omega), nodup_take_succ hil2 hi.2.2 (memB_false.1 hmb)⟩)
    ⟨by simpa using m1, x1, by simp⟩)
  rw [← hW1] at HC
  have B1 := Aside0.mk b1
  have HW := Aside0.mk hW1
  clear m1 x1 hr hs b1 hW1 s1 hml
  go_enter Try.func115, Try.ntmps115
  go_wp2_with fail
  refine HC.out.mono ?_
  rintro e w' ⟨b, rfl, hb⟩
  cases b with
  | true =>
    have hfr := hb.1
    rw [HW.out] at hfr
    have HB := Aside0.mk (((Fr.of_below _ B1.out).trans hfr).below (n := w.heap.size) (Nat.le_refl _) (fun k hk he => by omega))
    have HI := Aside0.mk hb.2.2.2
    clear hb hfr
    go_wp2
    go_ret
    exact ⟨retb (by have := HI.out; rw [List.take_of_length_le (by simp)] at this; simp only [twB, this]; rfl), HB.out⟩
  | false =>
    obtain ⟨i, hi, hbel, hi2, hmem⟩ := hb
    have HB := Aside0.mk hbel
    have HM := Aside0.mk hmem
    clear hbel
    go_wp2
    go_ret
    exact ⟨retb (twB_of hi2 HM.out).symm, HB.out⟩
end Go.Proofs.Ytacefdkfbpgedaa.Mine
