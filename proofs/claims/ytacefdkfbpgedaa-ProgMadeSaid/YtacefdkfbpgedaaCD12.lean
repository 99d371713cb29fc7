/- What is made is right: the error of a program that is made is 0. No program here. -/
import Derived.Test.YtacefdkfbpgedaaCD6
import Derived.Test.YtacefdkfbpgedaaCD9
import Derived.Test.YtacefdkfbpgedaaCD10
import Derived.Test.YtacefdkfbpgedaaCD11
import Derived.Test.YtacefdkfbpgedaaCD7
namespace Go.Proofs.Ytacefdkfbpgedaa.Mine
open Go.Proofs.Ytacefdkfbpgedaa.PProgExprs
open Go.RowKit Go.Shelf Go.Proofs.YtacefdkfbpgedaaW.PrintWords Go.Proofs.YtacefdkfbpgedaaW.PrintLast Go.Proofs.YtacefdkfbpgedaaW.PrintMore
set_option linter.unusedVariables false
set_option linter.unusedSimpArgs false
theorem nameN_nameB : ∀ n : Fin 6, nameB (nameN n) = true := of_decide_eq_true (by kernel_rfl)
theorem nameN_inj : ∀ n m : Fin 6, nameN n = nameN m → n = m := of_decide_eq_true (by kernel_rfl)
theorem scope_nodup : ∀ a k : Fin 3, (paramsN a ++ varsN k).Nodup := of_decide_eq_true (by kernel_rfl)
theorem scope_nameB : ∀ a k : Fin 3, (paramsN a ++ varsN k).all nameB = true := of_decide_eq_true (by kernel_rfl)
theorem six_nodup : six.Nodup := of_decide_eq_true (by kernel_rfl)
theorem six_nameB : (six.all fun h => nameB h.1 && decide (h.1.size ≤ 4) && decide (h.2 ≤ 2)) = true := by kernel_rfl
theorem paramsN_length (a : Nat) : (paramsN a).length = a := by simp [paramsN]
theorem headOk_nameB {s : ByteArray} {n : Nat} (h : headOk s n) : nameB s = true ∧ n ≤ 2 := by
 unfold headOk at h
 rcases h with ⟨rfl, rfl | rfl⟩ | ⟨rfl, rfl | rfl⟩ | ⟨rfl, rfl | rfl⟩
 all_goals exact ⟨by kernel_rfl, by omega⟩
theorem gen_pl {vs : List ByteArray} {ars : List Nat} {nested : Bool} (m : Nat) : ∀ (within : Bool) (e : Ex), szE e ≤ m → GenE vs ars nested within e → ∀ x ∈ plE e, ∃ w, GenE vs ars nested w x := by
 induction m with
 | zero => intro within e h; exact absurd h (by have := szE_pos e; omega)
 | succ m ih =>
  intro within e hm h
  have hL : ∀ (w : Bool) (l : List Ex), szL l ≤ m → GenL vs ars nested w l → ∀ x ∈ plL l, ∃ w, GenE vs ars nested w x := by
   intro w l
   induction l with
   | nil => intro _ _ x hx; simp [plL] at hx
   | cons y ys ihl =>
    intro h1 h2 x hx
    rw [szL] at h1
    rw [GenL] at h2
    rw [plL] at hx
    rcases List.mem_append.1 hx with hx | hx
    ·exact ih w y (by omega) h2.1 x hx
    ·exact ihl (by omega) h2.2 x hx
  intro x hx
  rw [plE_eq] at hx
  rcases List.mem_cons.1 hx with rfl | hx
  ·exact ⟨within, h⟩
  ·have hs := szE_eq e
   rw [genE_eq] at h
   rcases h with ⟨h1, h2, h3⟩ | ⟨h1, _, h3⟩ | ⟨h1, _, _, h3⟩
   ·rw [h2] at hx; simp [plL] at hx
   ·exact hL _ _ (by omega) h3 x hx
   ·exact hL _ _ (by omega) h3 x hx
theorem gen_right {vs : List ByteArray} {ars : List Nat} {nested w : Bool} {x : Ex} (ha : ∀ a ∈ ars, a ≤ 2) (hn : ars.length ≤ 6) (hv : vs.all nameB = true) (h : GenE vs ars nested w x) :
  fewB x = true ∧ kindB x = true ∧ nameB x.f1 = true := by
 rw [genE_eq] at h
 rcases h with ⟨h1, h2, h3⟩ | ⟨h1, h2, h3⟩ | ⟨h1, _, ⟨n, h2, h3⟩, _⟩
 ·refine ⟨by simp [fewB, h1], by simp [kindB, h1, h2], List.all_eq_true.1 hv _ h3⟩
 ·obtain ⟨h4, h5⟩ := headOk_nameB h2
  refine ⟨?_, by simp [kindB, h1], h4⟩
  rw [fewB, decide_eq_true (show (x.f2.length : Int) ≤ 4 by omega)]
  simp
 ·have h4 := ha _ (List.mem_of_getElem? h2)
  have h5 : n < 6 := by have := (List.getElem?_eq_some_iff.1 h2).1; omega
  refine ⟨?_, by simp [kindB, h1], by rw [h3]; exact nameN_nameB ⟨n, h5⟩⟩
  rw [fewB, decide_eq_true (show (x.f2.length : Int) ≤ 4 by omega)]
  simp
theorem gen_okV {vs sc : List ByteArray} {ars : List Nat} {nested w : Bool} {x : Ex} (hs : ∀ s ∈ vs, s ∈ sc) (h : GenE vs ars nested w x) : okV sc x = true := by
 rw [genE_eq] at h
 rcases h with ⟨h1, h2, h3⟩ | ⟨h1, h2, h3⟩ | ⟨h1, _, _⟩
 ·have := memB_iff.2 (hs _ h3)
  simp [okV, this]
 ·simp [okV, h1]
 ·simp [okV, h1]
theorem DefOk.bodies {ars : List Nat} {nested : Bool} {i : Nat} {d : De} (h : DefOk ars nested i d) : ∀ (k : Nat) (b : Ex), (bodiesD d)[k]? = some b → GenE (scopeI d k) ars nested false b ∧ szE b ≤ 7 := by
 intro k b hb
 rcases h.body with ⟨h1, h2, h3⟩ | ⟨h1, h2, h3, h4⟩
 ·rw [bodiesD, if_pos (by rw [h1]; rfl)] at hb
  rcases k with _ | k
  ·obtain rfl : d.f3 = b := by simpa using hb
   refine ⟨?_, h3⟩
   rw [scopeI, h1]
   simpa using h2
  ·simp at hb
 ·rw [bodiesD, if_neg (by intro h; exact h1 (List.length_eq_zero_iff.1 h)), List.getElem?_map] at hb
  cases hc : d.f2[k]? with
  | none => rw [hc] at hb; cases hb
  | some c =>
   rw [hc] at hb
   obtain rfl : c.f2 = b := by simpa using hb
   have := h4.all c (List.mem_of_getElem? hc)
   refine ⟨?_, this.sz⟩
   rw [scopeI, hc]
   exact this.body
theorem DefOk.scope {ars : List Nat} {nested : Bool} {i : Nat} {d : De} (h : DefOk ars nested i d) (ha : ∀ a ∈ ars, a ≤ 2) (k : Nat) : ∃ a v : Fin 3, d.f1 = paramsN a ∧ scopeI d k = paramsN a ++ varsN v := by
 obtain ⟨a, h1, h2⟩ := h.ar
 have h3 := ha _ (List.mem_of_getElem? h1)
 rcases hc : d.f2[k]? with _ | c
 ·exact ⟨⟨a, by omega⟩, 0, h2, by rw [scopeI, hc, h2]; rfl⟩
 ·rcases h.body with ⟨h4, _⟩ | ⟨_, _, _, h4⟩
  ·rw [h4] at hc; simp at hc
  ·have h5 := h4.all c (List.mem_of_getElem? hc)
   exact ⟨⟨a, by omega⟩, ⟨c.f1.length, by have := h5.kl; omega⟩, h2, by rw [scopeI, hc]; show d.f1 ++ c.f1 = paramsN a ++ varsN c.f1.length; rw [← h5.vs, h2]⟩
theorem mem_plL {l : List Ex} {x : Ex} : x ∈ plL l → ∃ (k : Nat) (b : Ex), l[k]? = some b ∧ x ∈ plE b := by
 induction l with
 | nil => intro h; simp [plL] at h
 | cons y ys ih =>
  intro h
  rw [plL] at h
  rcases List.mem_append.1 h with h | h
  ·exact ⟨0, y, rfl, h⟩
  ·obtain ⟨k, b, h1, h2⟩ := ih h
   exact ⟨k + 1, b, by simpa using h1, h2⟩
theorem DefOk.each {ars : List Nat} {nested : Bool} {i : Nat} {d : De} (h : DefOk ars nested i d) (ha : ∀ a ∈ ars, a ≤ 2) : ∀ x ∈ eachD d, ∃ (a v : Fin 3) (w : Bool), GenE (paramsN a ++ varsN v) ars nested w x := by
 intro x hx
 obtain ⟨k, b, h1, h2⟩ := mem_plL hx
 obtain ⟨h3, h4⟩ := h.bodies k b h1
 obtain ⟨w, h5⟩ := gen_pl _ _ b (Nat.le_refl _) h3 x h2
 obtain ⟨a, v, _, h6⟩ := h.scope ha k
 exact ⟨a, v, w, by rw [← h6]; exact h5⟩
theorem CasesOk.heads {ars : List Nat} {nested : Bool} {ps : List ByteArray} {l : List (S99)} (h : CasesOk ars nested ps 6 l) : (l.map headC).Nodup ∧ (∀ c ∈ l, nameB c.f0 = true ∧ c.f0.size ≤ 4) ∧ l.length ≤ 6 := by
 have h6 : six.take 6 = six := by kernel_rfl
 have hs := h.sub
 rw [h6] at hs
 have hn := List.Sublist.nodup hs six_nodup
 refine ⟨?_, fun c hc => ?_, h.len⟩
 ·have e : l.map headC = (l.map fun c => (c.f0, c.f1.length)).map (fun p : ByteArray × Nat => (p.1, (p.2 : Int))) := by rw [List.map_map]; rfl
  rw [e]
  refine List.Pairwise.map _ (fun a b hab he => hab ?_) hn
  obtain ⟨a1, a2⟩ := a
  obtain ⟨b1, b2⟩ := b
  simp only [Prod.mk.injEq] at he ⊢
  exact ⟨he.1, by omega⟩
 ·have hm := hs.subset (List.mem_map.2 ⟨c, hc, rfl⟩)
  have := List.all_eq_true.1 six_nameB _ hm
  simp only [Bool.and_eq_true, decide_eq_true_eq] at this
  exact ⟨this.1.1, this.1.2⟩
theorem DefOk.few {ars : List Nat} {nested : Bool} {i : Nat} {d : De} (h : DefOk ars nested i d) : d.f2.length ≤ 6 := by
 rcases h.body with ⟨h1, _⟩ | ⟨_, _, _, h1⟩
 ·rw [h1]; simp
 ·exact h1.len
theorem DefOk.params {ars : List Nat} {nested : Bool} {i : Nat} {d : De} (h : DefOk ars nested i d) (ha : ∀ a ∈ ars, a ≤ 2) : ars[i]? = some d.f1.length ∧ d.f1.length ≤ 2 := by
 obtain ⟨a, h1, h2⟩ := h.ar
 rw [h2, paramsN_length]
 exact ⟨h1, ha _ (List.mem_of_getElem? h1)⟩
theorem DefOk.right {ars : List Nat} {nested : Bool} {i : Nat} {d : De} (h : DefOk ars nested i d) (ha : ∀ a ∈ ars, a ≤ 2) (hn : ars.length ≤ 6) : rightE d = 0 := by
 have hi : i < 6 := by have := (List.getElem?_eq_some_iff.1 (h.params ha).1).1; omega
 have e1 : decide ((4 : Int) < (d.f1.length : Int)) = false := decide_eq_false (by have := (h.params ha).2; omega)
 have e2 : decide ((6 : Int) < (d.f2.length : Int)) = false := decide_eq_false (by have := h.few; omega)
 have hcases : ∀ c ∈ d.f2, c.f1.length ≤ 2 ∧ nameB c.f0 = true ∧ c.f1 = varsN c.f1.length := by
  intro c hc
  rcases h.body with ⟨h1, _⟩ | ⟨_, _, _, h1⟩
  ·rw [h1] at hc; simp at hc
  ·have := h1.all c hc
   exact ⟨this.kl, (h1.heads.2.1 c hc).1, this.vs⟩
 have e3 : (d.f2.all fun c => decide (c.f1.length ≤ 4)) = true := List.all_eq_true.2 fun c hc => decide_eq_true (by have := (hcases c hc).1; omega)
 have e4 : ((bodiesD d).all fun b => decide (szE b ≤ 24)) = true := List.all_eq_true.2 fun b hb => decide_eq_true (by
  obtain ⟨k, hk⟩ := List.getElem?_of_mem hb
  have := (h.bodies k b hk).2; omega)
 have hE : ∀ x ∈ eachD d, fewB x = true ∧ kindB x = true ∧ nameB x.f1 = true := by
  intro x hx
  obtain ⟨a, v, w, hg⟩ := h.each ha x hx
  exact gen_right ha hn (scope_nameB a v) hg
 have e5 : (eachD d).all fewB = true := List.all_eq_true.2 fun x hx => (hE x hx).1
 have e6 : (eachD d).all kindB = true := List.all_eq_true.2 fun x hx => (hE x hx).2.1
 have e7 : nameB d.f0 = true := by rw [h.name]; exact nameN_nameB ⟨i, hi⟩
 obtain ⟨a, v, hp, hsc⟩ := h.scope ha 0
 have hpv := scope_nameB a 0
 have hpn := scope_nodup a 0
 have v0 : varsN (0 : Fin 3) = [] := rfl
 rw [v0, List.append_nil, ← hp] at hpv hpn
 have e8 : d.f1.all nameB = true := hpv
 have e9 : (d.f2.all fun c => nameB c.f0) = true := List.all_eq_true.2 fun c hc => (hcases c hc).2.1
 have hvs : ∀ c ∈ d.f2, (d.f1 ++ c.f1).Nodup ∧ c.f1.all nameB = true := by
  intro c hc
  obtain ⟨h1, _, h3⟩ := hcases c hc
  have n1 := scope_nodup a ⟨c.f1.length, by omega⟩
  have n2 := scope_nameB a ⟨c.f1.length, by omega⟩
  rw [← hp] at n1 n2
  simp only at n1 n2
  rw [← h3] at n1 n2
  rw [List.all_append, Bool.and_eq_true] at n2
  exact ⟨n1, n2.2⟩
 have e10 : (d.f2.all fun c => c.f1.all nameB) = true := List.all_eq_true.2 fun c hc => (hvs c hc).2
 have e11 : ((eachD d).all fun e => nameB e.f1) = true := List.all_eq_true.2 fun x hx => (hE x hx).2.2
 have e12 : twB d.f1 = false := by rw [twB, decide_eq_true hpn]; rfl
 have e13 : (d.f2.all fun c => !twB (d.f1 ++ c.f1)) = true := List.all_eq_true.2 fun c hc => by rw [twB, decide_eq_true (hvs c hc).1]; rfl
 have e14 : twB (d.f2.map headC) = false := by
  rw [twB, decide_eq_true]; rfl
  rcases h.body with ⟨h1, _⟩ | ⟨_, _, _, h1⟩
  ·rw [h1]; simp
  ·exact h1.heads.1
 have e15 : clashB d = false := by
  rw [clashB]
  rcases h.body with ⟨h1, _⟩ | ⟨_, h1, h2, _⟩
  ·rw [h1]; rfl
  ·rw [h2]
   have : d.f1.length ≠ 0 := fun h => h1 (List.length_eq_zero_iff.1 h)
   have : ((d.f1.length : Int) == 0) = false := by simp; omega
   rw [this]; simp
 have e16 : scopedD d = true := scopedD_yes fun k b hk hb => List.all_eq_true.2 fun x hx => by
  obtain ⟨h3, h4⟩ := h.bodies k b hb
  obtain ⟨w, h5⟩ := gen_pl _ _ b (Nat.le_refl _) h3 x hx
  exact gen_okV (fun s hs => hs) h5
 rw [rightE, rightD, e1, e2, e3, e4, e5, e6, e7, e8, e9, e10, e11, e12, e13, e14, e15, e16]
 rfl
theorem MadeOk.names {ars : List Nat} {nested : Bool} {ps : List De} (h : MadeOk ars nested ps) : ∀ (i : Nat) (d : De), ps[i]? = some d → d.f0 = nameN i ∧ i < 6 := fun i d hi =>
 ⟨(h.defs i d hi).name, by have := (List.getElem?_eq_some_iff.1 hi).1; have := h.len; have := h.n6; omega⟩
theorem MadeOk.nodup {ars : List Nat} {nested : Bool} {ps : List De} (h : MadeOk ars nested ps) : (ps.map (·.f0)).Nodup := by
 refine List.pairwise_iff_getElem.2 fun i j hi hj hij he => ?_
 rw [List.length_map] at hi hj
 rw [List.getElem_map, List.getElem_map] at he
 obtain ⟨h1, h2⟩ := h.names i _ (List.getElem?_eq_getElem hi)
 obtain ⟨h3, h4⟩ := h.names j _ (List.getElem?_eq_getElem hj)
 rw [h1, h3] at he
 have := nameN_inj ⟨i, h2⟩ ⟨j, h4⟩ he
 simp at this
 omega
theorem MadeOk.num {ars : List Nat} {nested : Bool} {ps : List De} (h : MadeOk ars nested ps) {i : Nat} (hi : i < ps.length) : numD ps (nameN i) = (i : Int) := by
 refine idxB_some (List.getElem?_eq_getElem hi) (decide_eq_true (h.names i _ (List.getElem?_eq_getElem hi)).1) fun j y hj hy => decide_eq_false fun he => ?_
 obtain ⟨h1, h2⟩ := h.names j y hy
 have h3 := (h.names i _ (List.getElem?_eq_getElem hi)).2
 rw [h1] at he
 have := nameN_inj ⟨j, h2⟩ ⟨i, h3⟩ he
 simp at this
 omega
theorem MadeOk.call {ars : List Nat} {nested : Bool} {ps : List De} (h : MadeOk ars nested ps) {vs : List ByteArray} {w : Bool} {x : Ex} (hg : GenE vs ars nested w x) : callErr ps x = 0 := by
 rw [genE_eq] at hg
 rcases hg with ⟨h1, h2, h3⟩ | ⟨h1, h2, h3⟩ | ⟨h1, _, ⟨n, h2, h3⟩, _⟩
 ·rw [callErr, if_neg (by omega)]
 ·rw [callErr, if_neg (by omega)]
 ·have hn : n < ps.length := by rw [h.len]; exact (List.getElem?_eq_some_iff.1 h2).1
  have hp := ((h.defs n _ (List.getElem?_eq_getElem hn)).params h.a2).1
  rw [h2] at hp
  have hp := Option.some.inj hp
  rw [callErr, if_pos h1, h3, h.num hn, if_neg (by omega), Int.toNat_natCast, List.getElem?_eq_getElem hn]
  simp only
  rw [if_pos (by omega)]
theorem MadeOk.check {ars : List Nat} {nested : Bool} {ps : List De} (h : MadeOk ars nested ps) : checkP ps = 0 := by
 have e1 : decide ((ps.length : Int) < 1) = false := decide_eq_false (by have := h.len; have := h.n0; omega)
 have e2 : decide ((12 : Int) < (ps.length : Int)) = false := decide_eq_false (by have := h.len; have := h.n6; omega)
 have e3 : firstErr rightE ps = 0 := firstErr_zero fun d hd => by
  obtain ⟨i, hi⟩ := List.getElem?_of_mem hd
  exact (h.defs i d hi).right h.a2 h.n6
 have e4 : twB (ps.map (·.f0)) = false := by rw [twB, decide_eq_true h.nodup]; rfl
 have e5 : firstErr (callsD ps) ps = 0 := firstErr_zero fun d hd => by
  obtain ⟨i, hi⟩ := List.getElem?_of_mem hd
  exact firstErr_zero fun x hx => by
   obtain ⟨a, v, w, hg⟩ := (h.defs i d hi).each h.a2 x hx
   exact h.call hg
 rw [checkP, e1, e2, if_pos e3, e4, e5]
 rfl
end Go.Proofs.Ytacefdkfbpgedaa.Mine
namespace Go.Proofs.Ytacefdkfbpgedaa.Mine
open Go.Proofs.Ytacefdkfbpgedaa.PProgExprs
open Go.RowKit Go.Shelf Go.Proofs.YtacefdkfbpgedaaW.PrintWords Go.Proofs.YtacefdkfbpgedaaW.PrintLast Go.Proofs.YtacefdkfbpgedaaW.PrintMore
set_option linter.unusedVariables false
set_option linter.unusedSimpArgs false
theorem leftE_small (m : Nat) : ∀ (e : Ex) (n : Int), szE e ≤ m → (∀ x ∈ plE e, x.f1.size < 40) → (szE e : Int) ≤ n → leftE e n = n - szE e := by
 induction m with
 | zero => intro e n h; exact absurd h (by have := szE_pos e; omega)
 | succ m ih =>
  intro e n hm hs hn
  have key : ∀ (l : List Ex) (n : Int), szL l ≤ m → (∀ x ∈ plL l, x.f1.size < 40) → (szL l : Int) ≤ n → leftL l n = n - szL l := by
   intro l
   induction l with
   | nil => intro n _ _ _; simp [leftL, szL]
   | cons x xs ihl =>
    intro n h1 h2 h3
    rw [szL] at h1 h3 ⊢
    rw [plL] at h2
    have hx := ih x n (by omega) (fun y hy => h2 y (List.mem_append_left _ hy)) (by omega)
    rw [leftL, if_pos (by omega), hx, ihl _ (by omega) (fun y hy => h2 y (List.mem_append_right _ hy)) (by omega)]
    omega
  have hsz := szE_eq e
  have h0 := hs e (by rw [plE_eq]; exact List.mem_cons_self)
  rw [leftE_eq, key e.f2 _ (by omega) (fun x hx => hs x (by rw [plE_eq]; exact List.mem_cons_of_mem _ hx)) (by omega)]
  omega
theorem nameB_size {s : ByteArray} (h : nameB s = true) : s.size ≤ 8 := by
 unfold nameB at h
 simp only [Bool.and_eq_true, decide_eq_true_eq] at h
 exact h.1.2
theorem bigE_gen {vs : List ByteArray} {ars : List Nat} {nested : Bool} {e : Ex} (ha : ∀ a ∈ ars, a ≤ 2) (hn : ars.length ≤ 6) (hv : vs.all nameB = true) (h : GenE vs ars nested false e) (hs : szE e ≤ 7) : bigE e = false := by
 rw [bigE, leftE_small _ e 60 (Nat.le_refl _) (fun x hx => by
  obtain ⟨w, hg⟩ := gen_pl _ _ e (Nat.le_refl _) h x hx
  have := nameB_size (gen_right ha hn hv hg).2.2
  omega) (by omega)]
 exact decide_eq_false (by omega)
theorem DefOk.big {ars : List Nat} {nested : Bool} {i : Nat} {d : De} (h : DefOk ars nested i d) (ha : ∀ a ∈ ars, a ≤ 2) (hn : ars.length ≤ 6) : bigD d = false := by
 have hN : d.f0.size = 2 := by rw [h.name]; rfl
 have hlong : ∀ (l : List ByteArray), l.length ≤ 2 → (∀ s ∈ l, nameB s = true) → longS l = false := by
  intro l h1 h2
  rw [longS, decide_eq_false (by omega), Bool.false_or]
  exact List.any_eq_false.2 fun s hs => by have := nameB_size (h2 s hs); simp; omega
 have hsc : ∀ k, (scopeI d k).all nameB = true := fun k => by
  obtain ⟨a, v, _, h1⟩ := h.scope ha k
  rw [h1]; exact scope_nameB a v
 have hp : ∀ s ∈ d.f1, nameB s = true := fun s hs => List.all_eq_true.1 (hsc 0) s (by rw [scopeI]; exact List.mem_append_left _ hs)
 have hbd : ∀ (k : Nat) (b : Ex), (bodiesD d)[k]? = some b → bigE b = false := fun k b hb => by
  obtain ⟨h1, h2⟩ := h.bodies k b hb
  exact bigE_gen ha hn (hsc k) h1 h2
 have e1 : bigE d.f3 = false := by
  rcases h.body with ⟨h1, h2, h3⟩ | ⟨h1, h2, h3, h4⟩
  ·exact hbd 0 d.f3 (by rw [bodiesD, if_pos (by rw [h1]; rfl)]; rfl)
  ·rw [h3]; rfl
 have e2 : d.f2.any bigC = false := List.any_eq_false.2 fun c hc => by
  rcases h.body with ⟨h1, _⟩ | ⟨h1, h2, h3, h4⟩
  ·rw [h1] at hc; simp at hc
  ·have h5 := h4.all c hc
   have h6 := (h4.heads.2.1 c hc).2
   obtain ⟨k, hk⟩ := List.getElem?_of_mem hc
   have h7 : (bodiesD d)[k]? = some c.f2 := by rw [bodiesD, if_neg (by intro h; exact h1 (List.length_eq_zero_iff.1 h)), List.getElem?_map, hk]; rfl
   have h8 := hlong c.f1 h5.kl (fun s hs => List.all_eq_true.1 (hsc k) s (by rw [scopeI, hk]; exact List.mem_append_right _ hs))
   rw [bigC, h8, hbd k _ h7, decide_eq_false (by omega)]
   simp
 rw [bigD, hlong d.f1 (h.params ha).2 hp, e1, e2, decide_eq_false (by omega), decide_eq_false (by have := h.few; omega)]
 rfl
theorem MadeOk.big {ars : List Nat} {nested : Bool} {ps : List De} (h : MadeOk ars nested ps) : ∀ d ∈ ps, bigD d = false := fun d hd => by
 obtain ⟨i, hi⟩ := List.getElem?_of_mem hd
 exact (h.defs i d hi).big h.a2 h.n6
theorem numD_append {ps : List De} {t : List De} {s : ByteArray} (h : 0 ≤ numD ps s) : numD (ps ++ t) s = numD ps s := by
 unfold numD idxB at h ⊢
 split at h
 ·next ha =>
  rw [if_pos ha, if_pos (by rw [List.any_append, ha]; rfl), List.findIdx_append]
  obtain ⟨d, hd, e⟩ := List.any_eq_true.1 ha
  rw [if_pos (List.findIdx_lt_length_of_exists ⟨d, hd, e⟩)]
 ·omega
theorem numD_none {ps : List De} {s : ByteArray} (h : s ∉ ps.map (·.f0)) : numD ps s = -1 :=
 idxB_none fun j y hj hy => decide_eq_false fun e => h (List.mem_map.2 ⟨y, List.mem_of_getElem? hy, e⟩)
theorem callErr_append {ps t : List De} {x : Ex} (h : callErr ps x = 0) : callErr (ps ++ t) x = 0 := by
 unfold callErr at h ⊢
 by_cases h3 : x.f0 = 3
 ·rw [if_pos h3] at h ⊢
  by_cases hn : numD ps x.f1 < 0
  ·rw [if_pos hn] at h; simp at h
  ·rw [if_neg hn] at h
   rw [numD_append (by omega), if_neg hn]
   obtain ⟨i, h1, h2, _⟩ := numD_at (show 0 ≤ numD ps x.f1 by omega)
   rw [h1, Int.toNat_natCast] at h ⊢
   rw [List.getElem?_append_left h2]
   exact h
 ·rw [if_neg h3]
theorem check_calls {l : List De} (h1 : 1 ≤ l.length) (h2 : l.length ≤ 12) (h3 : ∀ d ∈ l, rightE d = 0) (h4 : (l.map (·.f0)).Nodup) : checkP l = firstErr (callsD l) l := by
 rw [checkP, decide_eq_false (by omega), decide_eq_false (by omega), if_pos (firstErr_zero h3), twB, decide_eq_true h4]
 rfl
theorem MadeOk.rights {ars : List Nat} {nested : Bool} {ps : List De} (h : MadeOk ars nested ps) : ∀ d ∈ ps, rightE d = 0 := fun d hd => by
 obtain ⟨i, hi⟩ := List.getElem?_of_mem hd
 exact (h.defs i d hi).right h.a2 h.n6
theorem MadeOk.calls {ars : List Nat} {nested : Bool} {ps : List De} (h : MadeOk ars nested ps) (t : List De) : firstErr (callsD (ps ++ t)) ps = 0 := firstErr_zero fun d hd => by
 obtain ⟨i, hi⟩ := List.getElem?_of_mem hd
 exact firstErr_zero fun x hx => by
  obtain ⟨a, v, w, hg⟩ := (h.defs i d hi).each h.a2 x hx
  exact callErr_append (h.call hg)
section
variable {ars : List Nat} {nested : Bool} {ps : List De} (h : MadeOk ars nested ps) (k : Fin 5)
include h
end
theorem find_made {ps : List De} (h : checkP ps = 0) {x : De} (hx : x ∈ ps) : (findP ps x.f0).2 = 0 := by
 obtain ⟨i, hi⟩ := List.getElem?_of_mem hx
 obtain ⟨k, h1, _⟩ := numD_first hi
 rw [findP, if_pos h, h1, if_neg (by omega)]
theorem reachL_none {ps : List De} {f i : Nat} {out : List ByteArray} (h : out[i]? = none) : reachL ps f i out = out := by
 cases f with
 | zero => rfl
 | succ f => simp only [reachL, h]
theorem reachL_some {ps : List De} {f i : Nat} {out : List ByteArray} {s : ByteArray} (h : out[i]? = some s) : reachL ps (f + 1) i out = reachL ps f (i + 1) (addL out (callsOf ps s)) := by simp only [reachL, h]
theorem known_step {ps : List De} (hc : checkP ps = 0) {out : List ByteArray} (hk : Known ps out) (s : ByteArray) : Known ps (addL out (callsOf ps s)) := fun x hx => by
 rcases addL_mem.1 hx with hx | hx
 ·exact hk x hx
 ·exact callsOf_known hc s x hx
theorem reach_fuel {ps : List De} (hc : checkP ps = 0) (f : Nat) : ∀ (i : Nat) (out : List ByteArray), Known ps out → out.Nodup → ps.length < f + i → reachL ps (f + 1) i out = reachL ps f i out := by
 induction f with
 | zero =>
  intro i out hk hn hl
  have h0 := known_len hk hn
  have h1 : out[i]? = none := List.getElem?_eq_none (by omega)
  rw [reachL_none h1, reachL_none h1]
 | succ f ih =>
  intro i out hk hn hl
  cases h : out[i]? with
  | none => rw [reachL_none h, reachL_none h]
  | some s => rw [reachL_some h, reachL_some h]; exact ih (i + 1) _ (known_step hc hk s) (addL_nodup hn) (by omega)
end Go.Proofs.Ytacefdkfbpgedaa.Mine
namespace Go.Proofs.Ytacefdkfbpgedaa.Mine
open Go.Proofs.Ytacefdkfbpgedaa.PProgExprs
open Go.RowKit Go.Shelf Go.Proofs.YtacefdkfbpgedaaW.PrintWords Go.Proofs.YtacefdkfbpgedaaW.PrintLast Go.Proofs.YtacefdkfbpgedaaW.PrintMore
set_option linter.unusedVariables false
set_option linter.unusedSimpArgs false
section
variable {ars : List Nat} {nested : Bool} {ps : List De} (h : MadeOk ars nested ps) {d : De} (hd : d ∈ ps)
include h
end
end Go.Proofs.Ytacefdkfbpgedaa.Mine
namespace Go.Proofs.Ytacefdkfbpgedaa.Mine
open Go.Proofs.Ytacefdkfbpgedaa.PProgExprs
open Go.RowKit Go.Shelf Go.Proofs.YtacefdkfbpgedaaW.PrintWords Go.Proofs.YtacefdkfbpgedaaW.PrintLast Go.Proofs.YtacefdkfbpgedaaW.PrintMore
set_option linter.unusedVariables false
set_option linter.unusedSimpArgs false
def callTo (s : ByteArray) (x : Ex) : Bool := (x.f0 == 3) && decide (x.f1 = s)
end Go.Proofs.Ytacefdkfbpgedaa.Mine
namespace Go.Proofs.Ytacefdkfbpgedaa.Mine
open Go.Proofs.Ytacefdkfbpgedaa.PProgExprs
open Go.RowKit Go.Shelf Go.Proofs.YtacefdkfbpgedaaW.PrintWords Go.Proofs.YtacefdkfbpgedaaW.PrintLast Go.Proofs.YtacefdkfbpgedaaW.PrintMore
set_option linter.unusedVariables false
set_option linter.unusedSimpArgs false
theorem callsL_mem' {l : List Ex} {e : Ex} (he : e ∈ l) (h3 : e.f0 = 3) : e.f1 ∈ callsL l := by
 have key : ∀ (l : List Ex) (s : List ByteArray), (e.f1 ∈ s ∨ e ∈ l) → e.f1 ∈ l.foldl (fun s e => if e.f0 = 3 then onceL s e.f1 else s) s := by
  intro l
  induction l with
  | nil => intro s h; rcases h with h | h; exact h; simp at h
  | cons y ys ih =>
   intro s h
   refine ih _ ?_
   rcases h with h | h
   ·refine .inl ?_
    dsimp only
    split
    ·exact onceL_mem.2 (.inl h)
    ·exact h
   ·rcases List.mem_cons.1 h with rfl | h
    ·exact .inl (by dsimp only; rw [if_pos h3]; exact onceL_mem.2 (.inr rfl))
    ·exact .inr h
 exact key l [] (.inr he)
theorem callTo_eq (s : ByteArray) (x : Ex) : callTo s x = true ↔ x.f0 = 3 ∧ x.f1 = s := by rw [callTo, Bool.and_eq_true]; simp
theorem calls_has (d : De) (s : ByteArray) : s ∈ callsL (eachD d) ↔ (bodiesD d).any (anyE (callTo s)) = true := by
 rw [← any_plL]
 show _ ↔ (eachD d).any (callTo s) = true
 rw [List.any_eq_true]
 refine ⟨fun h => ?_, fun ⟨e, he, h⟩ => ?_⟩
 ·obtain ⟨e, he, h3, h1⟩ := callsL_mem h
  exact ⟨e, he, (callTo_eq s e).2 ⟨h3, h1⟩⟩
 ·obtain ⟨h3, rfl⟩ := (callTo_eq s e).1 h
  exact callsL_mem' he h3
theorem name_one {l : List De} (hn : (l.map (·.f0)).Nodup) {x y : De} (hx : x ∈ l) (hy : y ∈ l) (h : x.f0 = y.f0) : x = y := by
 induction l with
 | nil => simp at hx
 | cons z zs ih =>
  rw [List.map_cons, List.nodup_cons] at hn
  rcases List.mem_cons.1 hx with h1 | h1
  ·rcases List.mem_cons.1 hy with h2 | h2
   ·rw [h1, h2]
   ·exact (hn.1 (List.mem_map.2 ⟨y, h2, by rw [← h, h1]⟩)).elim
  ·rcases List.mem_cons.1 hy with h2 | h2
   ·exact (hn.1 (List.mem_map.2 ⟨x, h1, by rw [h, h2]⟩)).elim
   ·exact ih hn.2 h1 h2
theorem numD_here {l : List De} (hn : (l.map (·.f0)).Nodup) {x : De} (hx : x ∈ l) : ∃ i : Nat, numD l x.f0 = (i : Int) ∧ l[i]? = some x := by
 obtain ⟨j, hj⟩ := List.getElem?_of_mem hx
 obtain ⟨k, h1, _, y, h2, h3⟩ := numD_first hj
 exact ⟨k, h1, by rw [h2, name_one hn (List.mem_of_getElem? h2) hx h3]⟩
theorem callsOf_here {l : List De} (hn : (l.map (·.f0)).Nodup) {x : De} (hx : x ∈ l) : callsOf l x.f0 = callsL (eachD x) := by
 obtain ⟨i, h1, h2⟩ := numD_here hn hx
 rw [callsOf, h1, Int.toNat_natCast, h2]
theorem addL_pre {l : List ByteArray} : ∀ {out : List ByteArray}, ∃ t, addL out l = out ++ t ∧ ∀ x ∈ t, x ∈ l := by
 induction l with
 | nil => intro out; exact ⟨[], by simp [addL], by simp⟩
 | cons y ys ih =>
  intro out
  obtain ⟨t, h1, h2⟩ := ih (out := onceL out y)
  have h3 : addL out (y :: ys) = onceL out y ++ t := h1
  unfold onceL at h3
  split at h3
  ·exact ⟨t, h3, fun x hx => List.mem_cons_of_mem _ (h2 x hx)⟩
  ·refine ⟨y :: t, by rw [h3]; simp, fun x hx => ?_⟩
   rcases List.mem_cons.1 hx with rfl | hx
   ·exact List.mem_cons_self
   ·exact List.mem_cons_of_mem _ (h2 x hx)
structure RInv (ps : List De) (s0 : ByteArray) (i : Nat) (out : List ByteArray) : Prop where
 known : Known ps out
 nodup : out.Nodup
 first : out[0]? = some s0
 closed : ∀ (j : Nat) (s : ByteArray), j < i → out[j]? = some s → ∀ y ∈ callsOf ps s, y ∈ out
 least : ∀ (k : Nat) (y : ByteArray), 0 < k → out[k]? = some y → ∃ (j : Nat) (s : ByteArray), j < k ∧ out[j]? = some s ∧ y ∈ callsOf ps s
theorem RInv.step {ps : List De} (hc : checkP ps = 0) {s0 : ByteArray} {i : Nat} {out : List ByteArray} (h : RInv ps s0 i out) {s : ByteArray} (hs : out[i]? = some s) : RInv ps s0 (i + 1) (addL out (callsOf ps s)) := by
 obtain ⟨t, ht, htm⟩ := addL_pre (l := callsOf ps s) (out := out)
 have hil := (List.getElem?_eq_some_iff.1 hs).1
 have old : ∀ {j : Nat}, j < out.length → (addL out (callsOf ps s))[j]? = out[j]? := fun hj => by rw [ht, List.getElem?_append_left hj]
 refine ⟨known_step hc h.known s, addL_nodup h.nodup, ?_, ?_, ?_⟩
 ·rw [old (by omega)]; exact h.first
 ·intro j s' hj he y hy
  rw [old (by omega)] at he
  rcases Nat.lt_or_ge j i with h1 | h1
  ·exact addL_mem.2 (.inl (h.closed j s' h1 he y hy))
  ·have : j = i := by omega
   subst this
   rw [he] at hs
   obtain rfl := Option.some.inj hs
   exact addL_mem.2 (.inr hy)
 ·intro k y hk he
  rcases Nat.lt_or_ge k out.length with h1 | h1
  ·rw [old h1] at he
   obtain ⟨j, s', h2, h3, h4⟩ := h.least k y hk he
   exact ⟨j, s', h2, by rw [old (by omega)]; exact h3, h4⟩
  ·rw [ht, List.getElem?_append_right h1] at he
   exact ⟨i, s, by omega, by rw [old hil]; exact hs, htm y (List.mem_of_getElem? he)⟩
theorem reachL_inv {ps : List De} (hc : checkP ps = 0) {s0 : ByteArray} (f : Nat) : ∀ (i : Nat) (out : List ByteArray), RInv ps s0 i out → ps.length < f + i → RInv ps s0 (reachL ps f i out).length (reachL ps f i out) := by
 have done : ∀ (i : Nat) (out : List ByteArray), RInv ps s0 i out → out.length ≤ i → RInv ps s0 out.length out := fun i out h hl =>
  ⟨h.known, h.nodup, h.first, fun j s hj => h.closed j s (by omega), h.least⟩
 induction f with
 | zero =>
  intro i out h hl
  have h0 := known_len h.known h.nodup
  exact done i out h (by omega)
 | succ f ih =>
  intro i out h hl
  cases hs : out[i]? with
  | none => rw [reachL_none hs]; exact done i out h (List.getElem?_eq_none_iff.1 hs)
  | some s => rw [reachL_some hs]; exact ih (i + 1) _ (h.step hc hs) (by omega)
theorem reach_inv {ps : List De} (hc : checkP ps = 0) {s0 : ByteArray} (h0 : 0 ≤ numD ps s0) : RInv ps s0 (reachP ps s0).length (reachP ps s0) :=
 reachL_inv hc _ 0 [s0] ⟨fun x hx => by rw [List.mem_singleton.1 hx]; exact h0, by simp, rfl, fun j s hj => by omega, fun k y hk he => by rw [List.getElem?_eq_none (by simp; omega)] at he; cases he⟩ (by omega)
theorem RInv.all {ps : List De} {s0 : ByteArray} {out : List ByteArray} (h : RInv ps s0 out.length out) {s : ByteArray} (hs : s ∈ out) : ∀ y ∈ callsOf ps s, y ∈ out := by
 obtain ⟨j, hj⟩ := List.getElem?_of_mem hs
 exact h.closed j s (List.getElem?_eq_some_iff.1 hj).1 hj
section
variable {ps : List De} (hc : checkP ps = 0) (hn : (ps.map (·.f0)).Nodup) (hr : ∀ d ∈ ps, rightE d = 0) (h12 : ps.length ≤ 12) {s0 : ByteArray} (h0 : 0 ≤ numD ps s0)
theorem inR_mem {l : List ByteArray} {d : De} : inR l d = true ↔ d.f0 ∈ l := by
 rw [inR, List.any_eq_true]
 refine ⟨fun ⟨x, hx, h⟩ => by rw [← of_decide_eq_true h]; exact hx, fun h => ⟨_, h, decide_eq_true rfl⟩⟩
theorem only_mem {d : De} : d ∈ onlyP ps s0 ↔ d ∈ ps ∧ d.f0 ∈ reachP ps s0 := by rw [onlyP, List.mem_filter, inR_mem]
include hn in
theorem only_nodup : ((onlyP ps s0).map (·.f0)).Nodup := (List.Sublist.map _ List.filter_sublist).nodup hn
theorem known_def {s : ByteArray} (h : 0 ≤ numD ps s) : ∃ d ∈ ps, d.f0 = s := by
 obtain ⟨d, hd, e⟩ := List.mem_map.1 (known_mem h)
 exact ⟨d, hd, e⟩
include hc h0 in
theorem only_def {s : ByteArray} (h : s ∈ reachP ps s0) : ∃ d ∈ onlyP ps s0, d.f0 = s := by
 obtain ⟨d, hd, e⟩ := known_def ((reach_inv hc h0).known s h)
 exact ⟨d, only_mem.2 ⟨hd, by rw [e]; exact h⟩, e⟩
include hc hn h0 in
theorem only_len : (onlyP ps s0).length = (reachP ps s0).length := by
 have h1 := nodup_sub_len (only_nodup hn (s0 := s0)) (m := reachP ps s0) (fun x hx => by
  obtain ⟨d, hd, rfl⟩ := List.mem_map.1 hx
  exact (only_mem.1 hd).2)
 have h2 := nodup_sub_len (reach_inv hc h0).nodup (m := (onlyP ps s0).map (·.f0)) (fun x hx => by
  obtain ⟨d, hd, e⟩ := only_def hc h0 hx
  exact List.mem_map.2 ⟨d, hd, e⟩)
 rw [List.length_map] at h1 h2
 omega
include hc h0 in
theorem reach_first : (reachP ps s0)[0]? = some s0 := (reach_inv hc h0).first
include hc h0 in
theorem reach_pos : 0 < (reachP ps s0).length := (List.getElem?_eq_some_iff.1 (reach_first hc h0)).1
include hn in
theorem only_calls {s : ByteArray} (hs : s ∈ reachP ps s0) (h : 0 ≤ numD ps s) : callsOf (onlyP ps s0) s = callsOf ps s := by
 obtain ⟨d, hd, rfl⟩ := known_def h
 rw [callsOf_here hn hd, callsOf_here (only_nodup hn) (only_mem.2 ⟨hd, hs⟩)]
include hc hn hr h12 h0 in
theorem only_check : checkP (onlyP ps s0) = 0 := by
 have hl : (onlyP ps s0).length ≤ ps.length := List.length_filter_le _ _
 have hp := reach_pos hc h0
 have hlen := only_len hc hn h0
 rw [check_calls (by omega) (by omega) (fun d hd => hr d (only_mem.1 hd).1) (only_nodup hn)]
 refine firstErr_zero fun d hd => firstErr_zero fun e he => ?_
 obtain ⟨hd1, hd2⟩ := only_mem.1 hd
 have hce := firstErr_inv (checkP_calls hc d hd1) e he
 unfold callErr at hce ⊢
 by_cases h3 : e.f0 = 3
 ·rw [if_pos h3] at hce ⊢
  have hR : e.f1 ∈ reachP ps s0 := (reach_inv hc h0).all hd2 _ (by rw [callsOf_here hn hd1]; exact callsL_mem' he h3)
  obtain ⟨x, hx, hxe⟩ := only_def hc h0 hR
  obtain ⟨i, h1, h2⟩ := numD_here (only_nodup hn) hx
  obtain ⟨j, h4, h5⟩ := numD_here hn (only_mem.1 hx).1
  rw [hxe] at h1 h4
  rw [h1, if_neg (by omega), Int.toNat_natCast, h2]
  rw [h4, if_neg (by omega), Int.toNat_natCast, h5] at hce
  exact hce
 ·rw [if_neg h3]
include hc hn h0 in
theorem reach_only (f : Nat) : ∀ (i : Nat) (out : List ByteArray), (∀ x ∈ out, x ∈ reachP ps s0) → reachL (onlyP ps s0) f i out = reachL ps f i out := by
 induction f with
 | zero => intro i out _; rfl
 | succ f ih =>
  intro i out h
  cases hs : out[i]? with
  | none => rw [reachL_none hs, reachL_none hs]
  | some s =>
   have hm := h s (List.mem_of_getElem? hs)
   rw [reachL_some hs, reachL_some hs, only_calls hn hm ((reach_inv hc h0).known s hm)]
   refine ih (i + 1) _ fun x hx => ?_
   rcases addL_mem.1 hx with hx | hx
   ·exact h x hx
   ·exact (reach_inv hc h0).all hm x hx
theorem reach_more {l : List De} (hc : checkP l = 0) (k : Nat) : ∀ {out : List ByteArray}, Known l out → out.Nodup → reachL l (l.length + 1 + k) 0 out = reachL l (l.length + 1) 0 out := by
 induction k with
 | zero => intro out _ _; rfl
 | succ k ih => intro out hk hnd; rw [← Nat.add_assoc, reach_fuel hc _ _ _ hk hnd (by omega)]; exact ih hk hnd
include hc hn hr h12 h0 in
theorem reach_again : reachE (onlyP ps s0) s0 = reachP ps s0 := by
 have hck := only_check hc hn hr h12 h0
 have hm : s0 ∈ reachP ps s0 := List.mem_of_getElem? (reach_first hc h0)
 obtain ⟨x, hx, rfl⟩ := only_def hc h0 hm
 rw [reachE, if_pos (find_made hck hx), reachP]
 obtain ⟨i, h1, _⟩ := numD_here (only_nodup hn) hx
 have hl : (onlyP ps x.f0).length ≤ ps.length := List.length_filter_le _ _
 rw [← reach_more hck (ps.length - (onlyP ps x.f0).length) (fun y hy => by rw [List.mem_singleton.1 hy]; omega) (by simp), show (onlyP ps x.f0).length + 1 + (ps.length - (onlyP ps x.f0).length) = ps.length + 1 by omega,
  reach_only hc hn h0 _ _ _ (fun y hy => by rw [List.mem_singleton.1 hy]; exact hm)]
 rfl
include hc hn hr h12 h0 in
theorem only_find {x : De} (hx : x ∈ ps) (h : x.f0 ∈ reachP ps s0) : ∃ i : Nat, findP (onlyP ps s0) x.f0 = ((i : Int), 0) ∧ (onlyP ps s0)[i]? = some x := by
 obtain ⟨i, h1, h2⟩ := numD_here (only_nodup hn) (only_mem.2 ⟨hx, h⟩)
 exact ⟨i, by rw [findP, if_pos (only_check hc hn hr h12 h0), h1, if_neg (by omega)], h2⟩
include hc hn hr h12 h0 in
theorem only_lost {s : ByteArray} (h : s ∉ reachP ps s0) : (findP (onlyP ps s0) s).2 ≠ 0 := by
 have : numD (onlyP ps s0) s = -1 := numD_none fun hm => by
  obtain ⟨d, hd, rfl⟩ := List.mem_map.1 hm
  exact h (only_mem.1 hd).2
 rw [findP, if_pos (only_check hc hn hr h12 h0), this, if_pos (by decide)]
 decide
end
end Go.Proofs.Ytacefdkfbpgedaa.Mine
namespace Go.Proofs.Ytacefdkfbpgedaa.Mine
open Go.Proofs.Ytacefdkfbpgedaa.PProgExprs
open Go.RowKit Go.Shelf Go.Proofs.YtacefdkfbpgedaaW.PrintWords Go.Proofs.YtacefdkfbpgedaaW.PrintLast Go.Proofs.YtacefdkfbpgedaaW.PrintMore
set_option linter.unusedVariables false
set_option linter.unusedSimpArgs false
set_option maxHeartbeats 4000000 in
theorem eqfC (A B : Option Addr) (c d : Nat) (xs ys : List S99) (w : World) (hc : xs.length ≤ c) (hd : ys.length ≤ d) (hr : Kd.C k99 w A xs.length xs) (hs : Kd.C k99 w B ys.length ys) (g : Nat) (lb : Array Value) (eg : ∀ args w, (callFunc g args).run Try.prog w = .ok (.enter g args) w) (p : S99 → S99 → Bool)
  (hf : ∀ x y cs ds W, x ∈ xs → y ∈ ys → (k99).K W x cs → (k99).K W y ds → Below w.heap.size w W → Calls Try.prog g (#[.agg cs.toArray, .agg ds.toArray] ++ lb) W fun e W' => e = .returned (.bool (p x y)) ∧ Below W.heap.size W W') :
  Calls Try.prog 85 #[.slice A xs.length c, .slice B ys.length d, .func (.func g) #[] lb] w fun e W' => e = .returned (.bool (eqL p xs ys)) ∧ Below w.heap.size w W' := by
 have hm1 : xs.length ≤ 9223372036854775807 := hr.2.1
 have hm2 : ys.length ≤ 9223372036854775807 := hs.2.1
 have HR := Aside0.mk hr
 have HS := Aside0.mk hs
 have HF := Aside0.mk hf
 clear hr hs hf
 by_cases hl : xs.length = ys.length
 ·have hl1 : ((xs.length : Int) != (ys.length : Int)) = false := by simp only [bne_eq_false_iff_eq]; omega
  have HL := Lib.hid hl
  clear hl
  go_enter Try.func85, Try.ntmps85
  go_wp2
  go_loopg [7, 8, 9, 17] xs.length (fun gg _ _ _ s17 wr => ∃ kk : Nat, kk ≤ xs.length ∧ xs.length - kk ≤ gg ∧ s17 = .int .i64 kk ∧ Aside0 (∀ j x y, j < kk → xs[j]? = some x → ys[j]? = some y → p x y = true) ∧ Aside0 (Below w.heap.size w wr))
  case atStart => exact ⟨0, Nat.zero_le _, by omega, rfl, ⟨fun j x y hj => absurd hj (Nat.not_lt_zero _)⟩, ⟨Below.refl _ _⟩⟩
  case round =>
   obtain ⟨kk, hkk, hg, rfl, IW, FW⟩ := hrel
   by_cases hlt : kk < xs.length
   ·have hltz : (kk : Int) < (xs.length : Int) := by omega
    have hlt2 : kk < ys.length := by have := HL.out; omega
    have hltz2 : (kk : Int) < (ys.length : Int) := by omega
    obtain ⟨ad, c0, c1, c2, c3, c4, rfl, hK, k0, k1, k2, k3, k4⟩ := get5 rfl (Kd.C_below HR.out FW.out) kk hlt
    obtain ⟨A2, a2, A4, a4, e1, _, _⟩ := k99_open hK; obtain ⟨rfl, rfl, rfl, rfl, rfl⟩ : c0 = _ ∧ c1 = _ ∧ c2 = _ ∧ c3 = _ ∧ c4 = _ := by simpa using e1
    have q1 : Below wr.heap.size wr (wr.alloc (.cells #[.string xs[kk].f0, .slice A2 xs[kk].f1.length a2, .int .i64 xs[kk].f2.f0, .string xs[kk].f2.f1, .slice A4 xs[kk].f2.f2.length a4] 99)) := below_alloc1 _ _
    obtain ⟨bd, d0, d1, d2, d3, d4, rfl, hK2, l0, l1, l2, l3, l4⟩ := get5 rfl (Kd.C_below HS.out (FW.out.trans (q1.mono FW.out.size))) kk hlt2
    obtain ⟨B2, b2, B4, b4, e2, _, _⟩ := k99_open hK2; obtain ⟨rfl, rfl, rfl, rfl, rfl⟩ : d0 = _ ∧ d1 = _ ∧ d2 = _ ∧ d3 = _ ∧ d4 = _ := by simpa using e2
    have q2a : Below (wr.alloc (.cells #[.string xs[kk].f0, .slice A2 xs[kk].f1.length a2, .int .i64 xs[kk].f2.f0, .string xs[kk].f2.f1, .slice A4 xs[kk].f2.f2.length a4] 99)).heap.size (wr.alloc (.cells #[.string xs[kk].f0, .slice A2 xs[kk].f1.length a2, .int .i64 xs[kk].f2.f0, .string xs[kk].f2.f1, .slice A4 xs[kk].f2.f2.length a4] 99)) ((wr.alloc (.cells #[.string xs[kk].f0, .slice A2 xs[kk].f1.length a2, .int .i64 xs[kk].f2.f0, .string xs[kk].f2.f1, .slice A4 xs[kk].f2.f2.length a4] 99)).alloc (.cells #[.string ys[kk].f0, .slice B2 ys[kk].f1.length b2, .int .i64 ys[kk].f2.f0, .string ys[kk].f2.f1, .slice B4 ys[kk].f2.f2.length b4] 99)) := below_alloc1 _ _
    have q2 : Below wr.heap.size wr ((wr.alloc (.cells #[.string xs[kk].f0, .slice A2 xs[kk].f1.length a2, .int .i64 xs[kk].f2.f0, .string xs[kk].f2.f1, .slice A4 xs[kk].f2.f2.length a4] 99)).alloc (.cells #[.string ys[kk].f0, .slice B2 ys[kk].f1.length b2, .int .i64 ys[kk].f2.f0, .string ys[kk].f2.f1, .slice B4 ys[kk].f2.f2.length b4] 99)) := q1.trans ((below_alloc1 _ _).mono q1.size)
    have hcall := HF.out _ _ _ _ ((wr.alloc (.cells #[.string xs[kk].f0, .slice A2 xs[kk].f1.length a2, .int .i64 xs[kk].f2.f0, .string xs[kk].f2.f1, .slice A4 xs[kk].f2.f2.length a4] 99)).alloc (.cells #[.string ys[kk].f0, .slice B2 ys[kk].f1.length b2, .int .i64 ys[kk].f2.f0, .string ys[kk].f2.f1, .slice B4 ys[kk].f2.f2.length b4] 99)) (List.getElem_mem hlt) (List.getElem_mem hlt2) ((k99).K_below q2 hK) ((k99).K_below q2a hK2) (FW.out.trans (q2.mono FW.out.size))
    have Q2 := Aside0.mk q2
    have X1 : xs[kk]? = some xs[kk] := List.getElem?_eq_getElem hlt
    have X2 : ys[kk]? = some ys[kk] := List.getElem?_eq_getElem hlt2
    have HX1 := Lib.hid X1
    have HX2 := Lib.hid X2
    clear hK hK2 q1 q2 q2a X1 X2
    cases hp : p xs[kk] ys[kk] with
    | true =>
     rw [hp] at hcall
     have HP := Lib.hid hp
     clear hp
     go_wp2_with (go_at_fn g; refine hcall.mono ?_; rintro e w' ⟨rfl, hb'⟩)
     go_roundg (xs.length - (kk + 1))
     case measure => omega
     case rel => exact ⟨kk + 1, by omega, by omega, by go_num, ⟨fun j x y hj hx hy => by
      rcases Nat.lt_or_ge j kk with h | h
      ·exact IW.out j x y h hx hy
      ·obtain rfl : j = kk := by omega
       rw [HX1.out] at hx; rw [HX2.out] at hy
       cases hx; cases hy; exact HP.out⟩, ⟨FW.out.trans ((Q2.out.trans (hb'.mono Q2.out.size)).mono FW.out.size)⟩⟩
    | false =>
     rw [hp] at hcall
     have HP := Lib.hid hp
     clear hp
     go_wp2_with (go_at_fn g; refine hcall.mono ?_; rintro e w' ⟨rfl, hb'⟩)
     go_ret
     exact ⟨retb (eqL_false HX1.out HX2.out HP.out).symm, FW.out.trans ((Q2.out.trans (hb'.mono Q2.out.size)).mono FW.out.size)⟩
   ·have hltz : ¬ (kk : Int) < (xs.length : Int) := by omega
    have : kk = xs.length := by omega
    subst this
    go_wp2
    go_ret
    exact ⟨retb (eqL_true HL.out IW.out).symm, FW.out⟩
 ·have hl1 : ((xs.length : Int) != (ys.length : Int)) = true := by simp only [bne_iff_ne, ne_eq]; omega
  have HL := Lib.hid hl
  clear hl
  go_enter Try.func85, Try.ntmps85
  go_wp2
  go_ret
  exact ⟨retb (eqL_len HL.out).symm, Below.refl _ _⟩
set_option maxHeartbeats 4000000 in
theorem eqfD (A B : Option Addr) (c d : Nat) (xs ys : List S58) (w : World) (hc : xs.length ≤ c) (hd : ys.length ≤ d) (hr : Kd.C k58 w A xs.length xs) (hs : Kd.C k58 w B ys.length ys) (g : Nat) (lb : Array Value) (eg : ∀ args w, (callFunc g args).run Try.prog w = .ok (.enter g args) w) (p : S58 → S58 → Bool)
  (hf : ∀ x y cs ds W, x ∈ xs → y ∈ ys → (k58).K W x cs → (k58).K W y ds → Below w.heap.size w W → Calls Try.prog g (#[.agg cs.toArray, .agg ds.toArray] ++ lb) W fun e W' => e = .returned (.bool (p x y)) ∧ Below W.heap.size W W') :
  Calls Try.prog 83 #[.slice A xs.length c, .slice B ys.length d, .func (.func g) #[] lb] w fun e W' => e = .returned (.bool (eqL p xs ys)) ∧ Below w.heap.size w W' := by
 have hm1 : xs.length ≤ 9223372036854775807 := hr.2.1
 have hm2 : ys.length ≤ 9223372036854775807 := hs.2.1
 have HR := Aside0.mk hr
 have HS := Aside0.mk hs
 have HF := Aside0.mk hf
 clear hr hs hf
 by_cases hl : xs.length = ys.length
 ·have hl1 : ((xs.length : Int) != (ys.length : Int)) = false := by simp only [bne_eq_false_iff_eq]; omega
  have HL := Lib.hid hl
  clear hl
  go_enter Try.func83, Try.ntmps83
  go_wp2
  go_loopg [7, 8, 9, 17] xs.length (fun gg _ _ _ s17 wr => ∃ kk : Nat, kk ≤ xs.length ∧ xs.length - kk ≤ gg ∧ s17 = .int .i64 kk ∧ Aside0 (∀ j x y, j < kk → xs[j]? = some x → ys[j]? = some y → p x y = true) ∧ Aside0 (Below w.heap.size w wr))
  case atStart => exact ⟨0, Nat.zero_le _, by omega, rfl, ⟨fun j x y hj => absurd hj (Nat.not_lt_zero _)⟩, ⟨Below.refl _ _⟩⟩
  case round =>
   obtain ⟨kk, hkk, hg, rfl, IW, FW⟩ := hrel
   by_cases hlt : kk < xs.length
   ·have hltz : (kk : Int) < (xs.length : Int) := by omega
    have hlt2 : kk < ys.length := by have := HL.out; omega
    have hltz2 : (kk : Int) < (ys.length : Int) := by omega
    obtain ⟨ad, c0, c1, c2, c3, c4, c5, rfl, hK, k0, k1, k2, k3, k4, k5⟩ := get6 rfl (Kd.C_below HR.out FW.out) kk hlt
    obtain ⟨A1, a1, A2, a2, A5, a5, e1, _, _⟩ := k58_open hK; obtain ⟨rfl, rfl, rfl, rfl, rfl, rfl⟩ : c0 = _ ∧ c1 = _ ∧ c2 = _ ∧ c3 = _ ∧ c4 = _ ∧ c5 = _ := by simpa using e1
    have q1 : Below wr.heap.size wr (wr.alloc (.cells #[.string xs[kk].f0, .slice A1 xs[kk].f1.length a1, .slice A2 xs[kk].f2.length a2, .int .i64 xs[kk].f3.f0, .string xs[kk].f3.f1, .slice A5 xs[kk].f3.f2.length a5] 58)) := below_alloc1 _ _
    obtain ⟨bd, d0, d1, d2, d3, d4, d5, rfl, hK2, l0, l1, l2, l3, l4, l5⟩ := get6 rfl (Kd.C_below HS.out (FW.out.trans (q1.mono FW.out.size))) kk hlt2
    obtain ⟨B1, b1, B2, b2, B5, b5, e2, _, _⟩ := k58_open hK2; obtain ⟨rfl, rfl, rfl, rfl, rfl, rfl⟩ : d0 = _ ∧ d1 = _ ∧ d2 = _ ∧ d3 = _ ∧ d4 = _ ∧ d5 = _ := by simpa using e2
    have q2a : Below (wr.alloc (.cells #[.string xs[kk].f0, .slice A1 xs[kk].f1.length a1, .slice A2 xs[kk].f2.length a2, .int .i64 xs[kk].f3.f0, .string xs[kk].f3.f1, .slice A5 xs[kk].f3.f2.length a5] 58)).heap.size (wr.alloc (.cells #[.string xs[kk].f0, .slice A1 xs[kk].f1.length a1, .slice A2 xs[kk].f2.length a2, .int .i64 xs[kk].f3.f0, .string xs[kk].f3.f1, .slice A5 xs[kk].f3.f2.length a5] 58)) ((wr.alloc (.cells #[.string xs[kk].f0, .slice A1 xs[kk].f1.length a1, .slice A2 xs[kk].f2.length a2, .int .i64 xs[kk].f3.f0, .string xs[kk].f3.f1, .slice A5 xs[kk].f3.f2.length a5] 58)).alloc (.cells #[.string ys[kk].f0, .slice B1 ys[kk].f1.length b1, .slice B2 ys[kk].f2.length b2, .int .i64 ys[kk].f3.f0, .string ys[kk].f3.f1, .slice B5 ys[kk].f3.f2.length b5] 58)) := below_alloc1 _ _
    have q2 : Below wr.heap.size wr ((wr.alloc (.cells #[.string xs[kk].f0, .slice A1 xs[kk].f1.length a1, .slice A2 xs[kk].f2.length a2, .int .i64 xs[kk].f3.f0, .string xs[kk].f3.f1, .slice A5 xs[kk].f3.f2.length a5] 58)).alloc (.cells #[.string ys[kk].f0, .slice B1 ys[kk].f1.length b1, .slice B2 ys[kk].f2.length b2, .int .i64 ys[kk].f3.f0, .string ys[kk].f3.f1, .slice B5 ys[kk].f3.f2.length b5] 58)) := q1.trans ((below_alloc1 _ _).mono q1.size)
    have hcall := HF.out _ _ _ _ ((wr.alloc (.cells #[.string xs[kk].f0, .slice A1 xs[kk].f1.length a1, .slice A2 xs[kk].f2.length a2, .int .i64 xs[kk].f3.f0, .string xs[kk].f3.f1, .slice A5 xs[kk].f3.f2.length a5] 58)).alloc (.cells #[.string ys[kk].f0, .slice B1 ys[kk].f1.length b1, .slice B2 ys[kk].f2.length b2, .int .i64 ys[kk].f3.f0, .string ys[kk].f3.f1, .slice B5 ys[kk].f3.f2.length b5] 58)) (List.getElem_mem hlt) (List.getElem_mem hlt2) ((k58).K_below q2 hK) ((k58).K_below q2a hK2) (FW.out.trans (q2.mono FW.out.size))
    have Q2 := Aside0.mk q2
    have X1 : xs[kk]? = some xs[kk] := List.getElem?_eq_getElem hlt
    have X2 : ys[kk]? = some ys[kk] := List.getElem?_eq_getElem hlt2
    have HX1 := Lib.hid X1
    have HX2 := Lib.hid X2
    clear hK hK2 q1 q2 q2a X1 X2
    cases hp : p xs[kk] ys[kk] with
    | true =>
     rw [hp] at hcall
     have HP := Lib.hid hp
     clear hp
     go_wp2_with (go_at_fn g; refine hcall.mono ?_; rintro e w' ⟨rfl, hb'⟩)
     go_roundg (xs.length - (kk + 1))
     case measure => omega
     case rel => exact ⟨kk + 1, by omega, by omega, by go_num, ⟨fun j x y hj hx hy => by
      rcases Nat.lt_or_ge j kk with h | h
      ·exact IW.out j x y h hx hy
      ·obtain rfl : j = kk := by omega
       rw [HX1.out] at hx; rw [HX2.out] at hy
       cases hx; cases hy; exact HP.out⟩, ⟨FW.out.trans ((Q2.out.trans (hb'.mono Q2.out.size)).mono FW.out.size)⟩⟩
    | false =>
     rw [hp] at hcall
     have HP := Lib.hid hp
     clear hp
     go_wp2_with (go_at_fn g; refine hcall.mono ?_; rintro e w' ⟨rfl, hb'⟩)
     go_ret
     exact ⟨retb (eqL_false HX1.out HX2.out HP.out).symm, FW.out.trans ((Q2.out.trans (hb'.mono Q2.out.size)).mono FW.out.size)⟩
   ·have hltz : ¬ (kk : Int) < (xs.length : Int) := by omega
    have : kk = xs.length := by omega
    subst this
    go_wp2
    go_ret
    exact ⟨retb (eqL_true HL.out IW.out).symm, FW.out⟩
 ·have hl1 : ((xs.length : Int) != (ys.length : Int)) = true := by simp only [bne_iff_ne, ne_eq]; omega
  have HL := Lib.hid hl
  clear hl
  go_enter Try.func83, Try.ntmps83
  go_wp2
  go_ret
  exact ⟨retb (eqL_len HL.out).symm, Below.refl _ _⟩
set_option maxRecDepth 100000 in
set_option maxHeartbeats 4000000 in
theorem c_Same11 (x y : Ca) (cs ds : List Value) (w : World) (hK : k99.K w x cs) (hK2 : k99.K w y ds) (hz1 : szE x.f2 < 1000000) (hz2 : szE y.f2 < 1000000) :
  Calls Try.prog 86 #[.agg cs.toArray, .agg ds.toArray] w fun en w' => en = .returned (.bool (sameC x y)) ∧ Below w.heap.size w w' := by
 obtain ⟨A1, c1, A4, c4, rfl, l1, g1, l4, g4⟩ := k99_open hK
 obtain ⟨B1, d1, B4, d4, rfl, m1, j1, m4, j4⟩ := k99_open hK2
 obtain ⟨W1, hW1⟩ : ∃ W1, (w.alloc (.cells #[.string x.f0, .slice A1 x.f1.length c1, .int .i64 x.f2.f0, .string x.f2.f1, .slice A4 x.f2.f2.length c4] 99)).alloc (.cells #[.string y.f0, .slice B1 y.f1.length d1, .int .i64 y.f2.f0, .string y.f2.f1, .slice B4 y.f2.f2.length d4] 99) = W1 := ⟨_, rfl⟩
 have Q := Aside0.mk (show Below w.heap.size w W1 by rw [← hW1]; exact below_alloc2 _ _ _)
 have B := Aside0.mk (show W1.heap[w.heap.size]? = some (.cells #[.string x.f0, .slice A1 x.f1.length c1, .int .i64 x.f2.f0, .string x.f2.f1, .slice A4 x.f2.f2.length c4] 99 (0, 0)) by rw [← hW1]; exact blk_alloc (alloc_at _ _) _)
 have B2 := Aside0.mk (show W1.heap[w.heap.size + 1]? = some (.cells #[.string y.f0, .slice B1 y.f1.length d1, .int .i64 y.f2.f0, .string y.f2.f1, .slice B4 y.f2.f2.length d4] 99 (0, 0)) by rw [← hW1]; have := alloc_at (w.alloc (.cells #[.string x.f0, .slice A1 x.f1.length c1, .int .i64 x.f2.f0, .string x.f2.f1, .slice A4 x.f2.f2.length c4] 99)) (.cells #[.string y.f0, .slice B1 y.f1.length d1, .int .i64 y.f2.f0, .string y.f2.f1, .slice B4 y.f2.f2.length d4] 99); rw [World.size_alloc] at this; exact this)
 have HL := Lib.hid (fun W (h : Below w.heap.size w W) => c_EqS A1 B1 c1 d1 x.f1 y.f1 W (Kd.C_below g1 h) l1 (Kd.C_below j1 h) m1)
 have HE := Lib.hid (fun W (h : Below w.heap.size w W) => c_SameExpr x.f2 y.f2 A4 B4 c4 d4 W (Kd.C_below g4 h) l4 (Kd.C_below j4 h) m4 hz1 hz2)
 have HW1 := Lib.hid hW1
 clear hK hK2 g1 g4 j1 j4 hW1
 have k0 := (blk_cell B.out 0).trans rfl
 have l0 := (blk_cell B2.out 0).trans rfl
 by_cases hn : x.f0 = y.f0
 case neg =>
  have t1 : (x.f0.toList == y.f0.toList) = false := by rw [sEq]; simpa using hn
  have HN := Lib.hid (decide_eq_false hn)
  clear hn
  go_enter Try.func86, Try.ntmps86
  go_wp2_with fail
  rw [HW1.out]
  go_wp2
  go_ret
  exact ⟨retb (by simp only [sameC, HN.out, Bool.false_and]), Q.out⟩
 have t1 : (x.f0.toList == y.f0.toList) = true := by rw [sEq]; simpa using hn
 have HN := Lib.hid (decide_eq_true hn)
 clear hn
 have k1 := (blk_cell B.out 1).trans rfl
 have l1' := (blk_cell B2.out 1).trans rfl
 have HC1 := Lib.hid (HL.out _ Q.out)
 cases t2 : decide (x.f1 = y.f1) with
 | false =>
  rw [t2] at HC1
  have HT := Lib.hid t2
  clear t2
  go_enter Try.func86, Try.ntmps86
  go_wp2_with fail
  rw [HW1.out]
  go_wp2_with fail
  refine HC1.out.mono ?_
  rintro en w2 ⟨rfl, hb⟩
  go_wp2
  go_ret
  exact ⟨retb (by simp only [sameC, HT.out, Bool.false_and, Bool.and_false]), Q.out.trans (hb.mono Q.out.size)⟩
 | true =>
  rw [t2] at HC1
  have HT := Lib.hid t2
  clear t2
  go_enter Try.func86, Try.ntmps86
  go_wp2_with fail
  rw [HW1.out]
  go_wp2_with fail
  refine HC1.out.mono ?_
  rintro en w2 ⟨rfl, hb⟩
  have B := Aside0.mk (blk_below B.out hb)
  have B2 := Aside0.mk (blk_below B2.out hb)
  have Q := Aside0.mk (Q.out.trans (hb.mono Q.out.size))
  clear hb k0 l0 k1 l1' HC1
  have k2 := (blk_cell B.out 2).trans rfl
  have k3 := (blk_cell B.out 3).trans rfl
  have k4 := (blk_cell B.out 4).trans rfl
  have l2 := (blk_cell B2.out 2).trans rfl
  have l3 := (blk_cell B2.out 3).trans rfl
  have l4 := (blk_cell B2.out 4).trans rfl
  have HC2 := Lib.hid (HE.out _ Q.out)
  go_wp2_with fail
  refine HC2.out.mono ?_
  rintro en w3 ⟨rfl, hb⟩
  go_wp2
  go_ret
  exact ⟨retb (by simp only [sameC, HT.out, HN.out, Bool.true_and]), Q.out.trans (hb.mono Q.out.size)⟩
end Go.Proofs.Ytacefdkfbpgedaa.Mine
namespace Go.Proofs.Ytacefdkfbpgedaa.Mine
open Go.Proofs.Ytacefdkfbpgedaa.PProgExprs
open Go.RowKit Go.Shelf Go.Proofs.YtacefdkfbpgedaaW.PrintWords Go.Proofs.YtacefdkfbpgedaaW.PrintLast Go.Proofs.YtacefdkfbpgedaaW.PrintMore
set_option linter.unusedVariables false
set_option linter.unusedSimpArgs false
set_option maxRecDepth 100000 in
set_option maxHeartbeats 4000000 in
theorem c_Same1 (d y : De) (cs ds : List Value) (w : World) (hK : k58.K w d cs) (hK2 : k58.K w y ds) (hx : szE d.f3 < 1000000) (hy : szE y.f3 < 1000000) (hxc : ∀ c ∈ d.f2, szE c.f2 < 1000000) (hyc : ∀ c ∈ y.f2, szE c.f2 < 1000000) :
  Calls Try.prog 84 #[.agg cs.toArray, .agg ds.toArray] w fun en w' => en = .returned (.bool (sameD d y)) ∧ Below w.heap.size w w' := by
 obtain ⟨A1, c1, A2, c2, A5, c5, rfl, l1, g1, l2, g2, l5, g5⟩ := k58_open hK
 obtain ⟨B1, d1, B2, d2, B5, d5, rfl, m1, j1, m2, j2, m5, j5⟩ := k58_open hK2
 obtain ⟨W1, hW1⟩ : ∃ W1, (w.alloc (.cells #[.string d.f0, .slice A1 d.f1.length c1, .slice A2 d.f2.length c2, .int .i64 d.f3.f0, .string d.f3.f1, .slice A5 d.f3.f2.length c5] 58)).alloc (.cells #[.string y.f0, .slice B1 y.f1.length d1, .slice B2 y.f2.length d2, .int .i64 y.f3.f0, .string y.f3.f1, .slice B5 y.f3.f2.length d5] 58) = W1 := ⟨_, rfl⟩
 have Q := Aside0.mk (show Below w.heap.size w W1 by rw [← hW1]; exact below_alloc2 _ _ _)
 have HBx := Aside0.mk (show W1.heap[w.heap.size]? = some (.cells #[.string d.f0, .slice A1 d.f1.length c1, .slice A2 d.f2.length c2, .int .i64 d.f3.f0, .string d.f3.f1, .slice A5 d.f3.f2.length c5] 58 (0, 0)) by rw [← hW1]; exact blk_alloc (alloc_at _ _) _)
 have HBy := Aside0.mk (show W1.heap[w.heap.size + 1]? = some (.cells #[.string y.f0, .slice B1 y.f1.length d1, .slice B2 y.f2.length d2, .int .i64 y.f3.f0, .string y.f3.f1, .slice B5 y.f3.f2.length d5] 58 (0, 0)) by rw [← hW1]; have := alloc_at (w.alloc (.cells #[.string d.f0, .slice A1 d.f1.length c1, .slice A2 d.f2.length c2, .int .i64 d.f3.f0, .string d.f3.f1, .slice A5 d.f3.f2.length c5] 58)) (.cells #[.string y.f0, .slice B1 y.f1.length d1, .slice B2 y.f2.length d2, .int .i64 y.f3.f0, .string y.f3.f1, .slice B5 y.f3.f2.length d5] 58); rw [World.size_alloc] at this; exact this)
 have HC := Lib.hid (fun W (h : Below w.heap.size w W) => eqfC A2 B2 c2 d2 d.f2 y.f2 W l2 m2 (Kd.C_below g2 h) (Kd.C_below j2 h) 86 #[] (enters_of Try.func86 (by kernel_rfl) rfl) sameC (fun a b cs ds W' ha hb hKa hKb _ => by simpa using c_Same11 a b cs ds W' hKa hKb (hxc a ha) (hyc b hb)))
 have HL := Lib.hid (fun W (h : Below w.heap.size w W) => c_EqS A1 B1 c1 d1 d.f1 y.f1 W (Kd.C_below g1 h) l1 (Kd.C_below j1 h) m1)
 have HE := Lib.hid (fun W (h : Below w.heap.size w W) => c_SameExpr d.f3 y.f3 A5 B5 c5 d5 W (Kd.C_below g5 h) l5 (Kd.C_below j5 h) m5 hx hy)
 have HW1 := Lib.hid hW1
 clear hK hK2 g1 g2 g5 j1 j2 j5 hW1
 have k2 := (blk_cell HBx.out 2).trans rfl
 have n2 := (blk_cell HBy.out 2).trans rfl
 obtain ⟨bc, hbc⟩ : ∃ bc, eqL sameC d.f2 y.f2 = bc := ⟨_, rfl⟩
 have HBc := Lib.hid hbc
 have HC1 := Lib.hid (HC.out _ Q.out)
 rw [hbc] at HC1
 clear hbc HC
 by_cases hn : d.f0 = y.f0
 case neg =>
  have t1 : (d.f0.toList == y.f0.toList) = false := by rw [sEq]; simpa using hn
  have HN := Lib.hid (decide_eq_false hn)
  clear hn
  go_enter Try.func84, Try.ntmps84
  go_wp2_with fail
  rw [HW1.out]
  go_wp2_with fail
  refine HC1.out.mono ?_
  rintro en w2 ⟨rfl, hb⟩
  have HBx := Aside0.mk (blk_below HBx.out hb)
  have HBy := Aside0.mk (blk_below HBy.out hb)
  have Q := Aside0.mk (Q.out.trans ((hb).mono Q.out.size))
  clear hb
  clear k2 n2
  have k0 := (blk_cell HBx.out 0).trans rfl
  have n0 := (blk_cell HBy.out 0).trans rfl
  go_wp2
  go_ret
  exact ⟨retb (by simp only [sameD, HN.out, Bool.false_and]), Q.out⟩
 have t1 : (d.f0.toList == y.f0.toList) = true := by rw [sEq]; simpa using hn
 have HN := Lib.hid (decide_eq_true hn)
 clear hn
 cases t2 : decide (d.f1 = y.f1) with
 | false =>
  have HT := Lib.hid t2
  go_enter Try.func84, Try.ntmps84
  go_wp2_with fail
  rw [HW1.out]
  go_wp2_with fail
  refine HC1.out.mono ?_
  rintro en w2 ⟨rfl, hb⟩
  have HBx := Aside0.mk (blk_below HBx.out hb)
  have HBy := Aside0.mk (blk_below HBy.out hb)
  have Q := Aside0.mk (Q.out.trans ((hb).mono Q.out.size))
  clear hb
  clear k2 n2
  have k0 := (blk_cell HBx.out 0).trans rfl
  have n0 := (blk_cell HBy.out 0).trans rfl
  have k1 := (blk_cell HBx.out 1).trans rfl
  have n1 := (blk_cell HBy.out 1).trans rfl
  have HC2 := Lib.hid (HL.out _ Q.out)
  rw [t2] at HC2
  clear t2
  go_wp2_with fail
  refine HC2.out.mono ?_
  rintro en w3 ⟨rfl, hb⟩
  go_wp2
  go_ret
  exact ⟨retb (by simp only [sameD, HT.out, Bool.false_and, Bool.and_false]), Q.out.trans (hb.mono Q.out.size)⟩
 | true =>
  have HT := Lib.hid t2
  cases bc with
  | false =>
   go_enter Try.func84, Try.ntmps84
   go_wp2_with fail
   rw [HW1.out]
   go_wp2_with fail
   refine HC1.out.mono ?_
   rintro en w2 ⟨rfl, hb⟩
   have HBx := Aside0.mk (blk_below HBx.out hb)
   have HBy := Aside0.mk (blk_below HBy.out hb)
   have Q := Aside0.mk (Q.out.trans ((hb).mono Q.out.size))
   clear hb
   clear k2 n2
   have k0 := (blk_cell HBx.out 0).trans rfl
   have n0 := (blk_cell HBy.out 0).trans rfl
   have k1 := (blk_cell HBx.out 1).trans rfl
   have n1 := (blk_cell HBy.out 1).trans rfl
   have HC2 := Lib.hid (HL.out _ Q.out)
   rw [t2] at HC2
   clear t2
   go_wp2_with fail
   refine HC2.out.mono ?_
   rintro en w3 ⟨rfl, hb⟩
   go_wp2
   go_ret
   exact ⟨retb (by simp only [sameD, HBc.out, Bool.and_false]), Q.out.trans (hb.mono Q.out.size)⟩
  | true =>
   go_enter Try.func84, Try.ntmps84
   go_wp2_with fail
   rw [HW1.out]
   go_wp2_with fail
   refine HC1.out.mono ?_
   rintro en w2 ⟨rfl, hb⟩
   have HBx := Aside0.mk (blk_below HBx.out hb)
   have HBy := Aside0.mk (blk_below HBy.out hb)
   have Q := Aside0.mk (Q.out.trans ((hb).mono Q.out.size))
   clear hb
   clear k2 n2
   have k0 := (blk_cell HBx.out 0).trans rfl
   have n0 := (blk_cell HBy.out 0).trans rfl
   have k1 := (blk_cell HBx.out 1).trans rfl
   have n1 := (blk_cell HBy.out 1).trans rfl
   have HC2 := Lib.hid (HL.out _ Q.out)
   rw [t2] at HC2
   clear t2
   go_wp2_with fail
   refine HC2.out.mono ?_
   rintro en w3 ⟨rfl, hb⟩
   have HBx := Aside0.mk (blk_below HBx.out hb)
   have HBy := Aside0.mk (blk_below HBy.out hb)
   have Q := Aside0.mk (Q.out.trans ((hb).mono Q.out.size))
   clear hb
   clear k0 n0 k1 n1
   have k3 := (blk_cell HBx.out 3).trans rfl
   have n3 := (blk_cell HBy.out 3).trans rfl
   have k4 := (blk_cell HBx.out 4).trans rfl
   have n4 := (blk_cell HBy.out 4).trans rfl
   have k5 := (blk_cell HBx.out 5).trans rfl
   have n5 := (blk_cell HBy.out 5).trans rfl
   have HC3 := Lib.hid (HE.out _ Q.out)
   go_wp2_with fail
   refine HC3.out.mono ?_
   rintro en w4 ⟨rfl, hb⟩
   go_wp2
   go_ret
   exact ⟨retb (by simp only [sameD, HN.out, HT.out, HBc.out, Bool.true_and, Bool.and_true]), Q.out.trans (hb.mono Q.out.size)⟩
set_option maxRecDepth 100000 in
set_option maxHeartbeats 4000000 in
theorem c_Same (xs ys : List De) (A B : Option Addr) (c d : Nat) (w : World) (hr : Kd.C k58 w A xs.length xs) (hc : xs.length ≤ c) (hr2 : Kd.C k58 w B ys.length ys) (hd : ys.length ≤ d)
  (hx : ∀ d ∈ xs, szE d.f3 < 1000000 ∧ ∀ c ∈ d.f2, szE c.f2 < 1000000) (hy : ∀ d ∈ ys, szE d.f3 < 1000000 ∧ ∀ c ∈ d.f2, szE c.f2 < 1000000) :
  Calls Try.prog 46 #[.agg #[.slice A xs.length c], .agg #[.slice B ys.length d]] w fun en w' => en = .returned (.bool (eqL sameD xs ys)) ∧ Below w.heap.size w w' := by
 obtain ⟨W1, hW1⟩ : ∃ W1, (w.alloc (.cells #[.slice A xs.length c] 53)).alloc (.cells #[.slice B ys.length d] 53) = W1 := ⟨_, rfl⟩
 have Q := Aside0.mk (show Below w.heap.size w W1 by rw [← hW1]; exact below_alloc2 _ _ _)
 have B0 := Aside0.mk (show W1.heap[w.heap.size]? = some (.cells #[.slice A xs.length c] 53 (0, 0)) by rw [← hW1]; exact blk_alloc (alloc_at _ _) _)
 have B1 := Aside0.mk (show W1.heap[w.heap.size + 1]? = some (.cells #[.slice B ys.length d] 53 (0, 0)) by rw [← hW1]; have := alloc_at (w.alloc (.cells #[.slice A xs.length c] 53)) (.cells #[.slice B ys.length d] 53); rw [World.size_alloc] at this; exact this)
 have HC := Lib.hid (eqfD A B c d xs ys W1 hc hd (Kd.C_below hr Q.out) (Kd.C_below hr2 Q.out) 84 #[] (enters_of Try.func84 (by kernel_rfl) rfl) sameD (fun a b cs ds W' ha hb hKa hKb _ => by simpa using c_Same1 a b cs ds W' hKa hKb (hx a ha).1 (hy b hb).1 (hx a ha).2 (hy b hb).2))
 have HW1 := Lib.hid hW1
 clear hr hr2 hW1
 have k0 := (blk_cell B0.out 0).trans rfl
 have k1 := (blk_cell B1.out 0).trans rfl
 go_enter Try.func46, Try.ntmps46
 go_wp2_with fail
 rw [HW1.out]
 go_wp2_with fail
 refine HC.out.mono ?_
 rintro en w2 ⟨rfl, hb⟩
 go_wp2
 go_ret
 exact ⟨rfl, Q.out.trans (hb.mono Q.out.size)⟩
end Go.Proofs.Ytacefdkfbpgedaa.Mine
