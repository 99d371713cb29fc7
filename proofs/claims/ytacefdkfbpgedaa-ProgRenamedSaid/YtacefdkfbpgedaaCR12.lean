/- What is made is right: the error of a program that is made is 0. No program here. -/
import Derived.Test.YtacefdkfbpgedaaCR6
import Derived.Test.YtacefdkfbpgedaaCR9
import Derived.Test.YtacefdkfbpgedaaCR10
import Derived.Test.YtacefdkfbpgedaaCR11
import Derived.Test.YtacefdkfbpgedaaCR7
namespace Go.Proofs.Ytacefdkfbpgedaa.Mine
open Go.Proofs.Ytacefdkfbpgedaa.PProgExprs
open Go.RowKit Go.Shelf Go.Proofs.YtacefdkfbpgedaaW.PrintWords Go.Proofs.YtacefdkfbpgedaaW.PrintLast Go.Proofs.YtacefdkfbpgedaaW.PrintMore
set_option linter.unusedVariables false
set_option linter.unusedSimpArgs false
theorem nameN_nameB : ∀ n : Fin 6, nameB (nameN n) = true := of_decide_eq_true (by kernel_rfl)
theorem nameN_inj : ∀ n m : Fin 6, nameN n = nameN m → n = m := of_decide_eq_true (by kernel_rfl)
theorem scope_nodup : ∀ a k : Fin 3, (paramsN a ++ varsN k).Nodup := of_decide_eq_true (by kernel_rfl)
theorem scope_nameB : ∀ a k : Fin 3, (paramsN a ++ varsN k).all nameB = true := of_decide_eq_true (by kernel_rfl)
theorem six_nodup : six.Nodup := of_decide_eq_true (by kernel_rfl)
theorem six_nameB : (six.all fun h => nameB h.1 && decide (h.1.size ≤ 4) && decide (h.2 ≤ 2)) = true := by kernel_rfl
theorem paramsN_length (a : Nat) : (paramsN a).length = a := by simp [paramsN]
theorem headOk_nameB {s : ByteArray} {n : Nat} (h : headOk s n) : nameB s = true ∧ n ≤ 2 := by
 unfold headOk at h
 rcases h with ⟨rfl, rfl | rfl⟩ | ⟨rfl, rfl | rfl⟩ | ⟨rfl, rfl | rfl⟩
 all_goals exact ⟨by kernel_rfl, by omega⟩
theorem gen_pl {vs : List ByteArray} {ars : List Nat} {nested : Bool} (m : Nat) : ∀ (within : Bool) (e : Ex), szE e ≤ m → GenE vs ars nested within e → ∀ x ∈ plE e, ∃ w, GenE vs ars nested w x := by
 induction m with
 | zero => intro within e h; exact absurd h (by have := szE_pos e; omega)
 | succ m ih =>
  intro within e hm h
  have hL : ∀ (w : Bool) (l : List Ex), szL l ≤ m → GenL vs ars nested w l → ∀ x ∈ plL l, ∃ w, GenE vs ars nested w x := by
   intro w l
   induction l with
   | nil => intro _ _ x hx; simp [plL] at hx
   | cons y ys ihl =>
    intro h1 h2 x hx
    rw [szL] at h1
    rw [GenL] at h2
    rw [plL] at hx
    rcases List.mem_append.1 hx with hx | hx
    ·exact ih w y (by omega) h2.1 x hx
    ·exact ihl (by omega) h2.2 x hx
  intro x hx
  rw [plE_eq] at hx
  rcases List.mem_cons.1 hx with rfl | hx
  ·exact ⟨within, h⟩
  ·have hs := szE_eq e
   rw [genE_eq] at h
   rcases h with ⟨h1, h2, h3⟩ | ⟨h1, _, h3⟩ | ⟨h1, _, _, h3⟩
   ·rw [h2] at hx; simp [plL] at hx
   ·exact hL _ _ (by omega) h3 x hx
   ·exact hL _ _ (by omega) h3 x hx
theorem gen_right {vs : List ByteArray} {ars : List Nat} {nested w : Bool} {x : Ex} (ha : ∀ a ∈ ars, a ≤ 2) (hn : ars.length ≤ 6) (hv : vs.all nameB = true) (h : GenE vs ars nested w x) :
  fewB x = true ∧ kindB x = true ∧ nameB x.f1 = true := by
 rw [genE_eq] at h
 rcases h with ⟨h1, h2, h3⟩ | ⟨h1, h2, h3⟩ | ⟨h1, _, ⟨n, h2, h3⟩, _⟩
 ·refine ⟨by simp [fewB, h1], by simp [kindB, h1, h2], List.all_eq_true.1 hv _ h3⟩
 ·obtain ⟨h4, h5⟩ := headOk_nameB h2
  refine ⟨?_, by simp [kindB, h1], h4⟩
  rw [fewB, decide_eq_true (show (x.f2.length : Int) ≤ 4 by omega)]
  simp
 ·have h4 := ha _ (List.mem_of_getElem? h2)
  have h5 : n < 6 := by have := (List.getElem?_eq_some_iff.1 h2).1; omega
  refine ⟨?_, by simp [kindB, h1], by rw [h3]; exact nameN_nameB ⟨n, h5⟩⟩
  rw [fewB, decide_eq_true (show (x.f2.length : Int) ≤ 4 by omega)]
  simp
theorem gen_okV {vs sc : List ByteArray} {ars : List Nat} {nested w : Bool} {x : Ex} (hs : ∀ s ∈ vs, s ∈ sc) (h : GenE vs ars nested w x) : okV sc x = true := by
 rw [genE_eq] at h
 rcases h with ⟨h1, h2, h3⟩ | ⟨h1, h2, h3⟩ | ⟨h1, _, _⟩
 ·have := memB_iff.2 (hs _ h3)
  simp [okV, this]
 ·simp [okV, h1]
 ·simp [okV, h1]
theorem DefOk.bodies {ars : List Nat} {nested : Bool} {i : Nat} {d : De} (h : DefOk ars nested i d) : ∀ (k : Nat) (b : Ex), (bodiesD d)[k]? = some b → GenE (scopeI d k) ars nested false b ∧ szE b ≤ 7 := by
 intro k b hb
 rcases h.body with ⟨h1, h2, h3⟩ | ⟨h1, h2, h3, h4⟩
 ·rw [bodiesD, if_pos (by rw [h1]; rfl)] at hb
  rcases k with _ | k
  ·obtain rfl : d.f3 = b := by simpa using hb
   refine ⟨?_, h3⟩
   rw [scopeI, h1]
   simpa using h2
  ·simp at hb
 ·rw [bodiesD, if_neg (by intro h; exact h1 (List.length_eq_zero_iff.1 h)), List.getElem?_map] at hb
  cases hc : d.f2[k]? with
  | none => rw [hc] at hb; cases hb
  | some c =>
   rw [hc] at hb
   obtain rfl : c.f2 = b := by simpa using hb
   have := h4.all c (List.mem_of_getElem? hc)
   refine ⟨?_, this.sz⟩
   rw [scopeI, hc]
   exact this.body
theorem DefOk.scope {ars : List Nat} {nested : Bool} {i : Nat} {d : De} (h : DefOk ars nested i d) (ha : ∀ a ∈ ars, a ≤ 2) (k : Nat) : ∃ a v : Fin 3, d.f1 = paramsN a ∧ scopeI d k = paramsN a ++ varsN v := by
 obtain ⟨a, h1, h2⟩ := h.ar
 have h3 := ha _ (List.mem_of_getElem? h1)
 rcases hc : d.f2[k]? with _ | c
 ·exact ⟨⟨a, by omega⟩, 0, h2, by rw [scopeI, hc, h2]; rfl⟩
 ·rcases h.body with ⟨h4, _⟩ | ⟨_, _, _, h4⟩
  ·rw [h4] at hc; simp at hc
  ·have h5 := h4.all c (List.mem_of_getElem? hc)
   exact ⟨⟨a, by omega⟩, ⟨c.f1.length, by have := h5.kl; omega⟩, h2, by rw [scopeI, hc]; show d.f1 ++ c.f1 = paramsN a ++ varsN c.f1.length; rw [← h5.vs, h2]⟩
theorem mem_plL {l : List Ex} {x : Ex} : x ∈ plL l → ∃ (k : Nat) (b : Ex), l[k]? = some b ∧ x ∈ plE b := by
 induction l with
 | nil => intro h; simp [plL] at h
 | cons y ys ih =>
  intro h
  rw [plL] at h
  rcases List.mem_append.1 h with h | h
  ·exact ⟨0, y, rfl, h⟩
  ·obtain ⟨k, b, h1, h2⟩ := ih h
   exact ⟨k + 1, b, by simpa using h1, h2⟩
theorem DefOk.each {ars : List Nat} {nested : Bool} {i : Nat} {d : De} (h : DefOk ars nested i d) (ha : ∀ a ∈ ars, a ≤ 2) : ∀ x ∈ eachD d, ∃ (a v : Fin 3) (w : Bool), GenE (paramsN a ++ varsN v) ars nested w x := by
 intro x hx
 obtain ⟨k, b, h1, h2⟩ := mem_plL hx
 obtain ⟨h3, h4⟩ := h.bodies k b h1
 obtain ⟨w, h5⟩ := gen_pl _ _ b (Nat.le_refl _) h3 x h2
 obtain ⟨a, v, _, h6⟩ := h.scope ha k
 exact ⟨a, v, w, by rw [← h6]; exact h5⟩
theorem CasesOk.heads {ars : List Nat} {nested : Bool} {ps : List ByteArray} {l : List (S99)} (h : CasesOk ars nested ps 6 l) : (l.map headC).Nodup ∧ (∀ c ∈ l, nameB c.f0 = true ∧ c.f0.size ≤ 4) ∧ l.length ≤ 6 := by
 have h6 : six.take 6 = six := by kernel_rfl
 have hs := h.sub
 rw [h6] at hs
 have hn := List.Sublist.nodup hs six_nodup
 refine ⟨?_, fun c hc => ?_, h.len⟩
 ·have e : l.map headC = (l.map fun c => (c.f0, c.f1.length)).map (fun p : ByteArray × Nat => (p.1, (p.2 : Int))) := by rw [List.map_map]; rfl
  rw [e]
  refine List.Pairwise.map _ (fun a b hab he => hab ?_) hn
  obtain ⟨a1, a2⟩ := a
  obtain ⟨b1, b2⟩ := b
  simp only [Prod.mk.injEq] at he ⊢
  exact ⟨he.1, by omega⟩
 ·have hm := hs.subset (List.mem_map.2 ⟨c, hc, rfl⟩)
  have := List.all_eq_true.1 six_nameB _ hm
  simp only [Bool.and_eq_true, decide_eq_true_eq] at this
  exact ⟨this.1.1, this.1.2⟩
theorem DefOk.few {ars : List Nat} {nested : Bool} {i : Nat} {d : De} (h : DefOk ars nested i d) : d.f2.length ≤ 6 := by
 rcases h.body with ⟨h1, _⟩ | ⟨_, _, _, h1⟩
 ·rw [h1]; simp
 ·exact h1.len
theorem DefOk.params {ars : List Nat} {nested : Bool} {i : Nat} {d : De} (h : DefOk ars nested i d) (ha : ∀ a ∈ ars, a ≤ 2) : ars[i]? = some d.f1.length ∧ d.f1.length ≤ 2 := by
 obtain ⟨a, h1, h2⟩ := h.ar
 rw [h2, paramsN_length]
 exact ⟨h1, ha _ (List.mem_of_getElem? h1)⟩
theorem DefOk.right {ars : List Nat} {nested : Bool} {i : Nat} {d : De} (h : DefOk ars nested i d) (ha : ∀ a ∈ ars, a ≤ 2) (hn : ars.length ≤ 6) : rightE d = 0 := by
 have hi : i < 6 := by have := (List.getElem?_eq_some_iff.1 (h.params ha).1).1; omega
 have e1 : decide ((4 : Int) < (d.f1.length : Int)) = false := decide_eq_false (by have := (h.params ha).2; omega)
 have e2 : decide ((6 : Int) < (d.f2.length : Int)) = false := decide_eq_false (by have := h.few; omega)
 have hcases : ∀ c ∈ d.f2, c.f1.length ≤ 2 ∧ nameB c.f0 = true ∧ c.f1 = varsN c.f1.length := by
  intro c hc
  rcases h.body with ⟨h1, _⟩ | ⟨_, _, _, h1⟩
  ·rw [h1] at hc; simp at hc
  ·have := h1.all c hc
   exact ⟨this.kl, (h1.heads.2.1 c hc).1, this.vs⟩
 have e3 : (d.f2.all fun c => decide (c.f1.length ≤ 4)) = true := List.all_eq_true.2 fun c hc => decide_eq_true (by have := (hcases c hc).1; omega)
 have e4 : ((bodiesD d).all fun b => decide (szE b ≤ 24)) = true := List.all_eq_true.2 fun b hb => decide_eq_true (by
  obtain ⟨k, hk⟩ := List.getElem?_of_mem hb
  have := (h.bodies k b hk).2; omega)
 have hE : ∀ x ∈ eachD d, fewB x = true ∧ kindB x = true ∧ nameB x.f1 = true := by
  intro x hx
  obtain ⟨a, v, w, hg⟩ := h.each ha x hx
  exact gen_right ha hn (scope_nameB a v) hg
 have e5 : (eachD d).all fewB = true := List.all_eq_true.2 fun x hx => (hE x hx).1
 have e6 : (eachD d).all kindB = true := List.all_eq_true.2 fun x hx => (hE x hx).2.1
 have e7 : nameB d.f0 = true := by rw [h.name]; exact nameN_nameB ⟨i, hi⟩
 obtain ⟨a, v, hp, hsc⟩ := h.scope ha 0
 have hpv := scope_nameB a 0
 have hpn := scope_nodup a 0
 have v0 : varsN (0 : Fin 3) = [] := rfl
 rw [v0, List.append_nil, ← hp] at hpv hpn
 have e8 : d.f1.all nameB = true := hpv
 have e9 : (d.f2.all fun c => nameB c.f0) = true := List.all_eq_true.2 fun c hc => (hcases c hc).2.1
 have hvs : ∀ c ∈ d.f2, (d.f1 ++ c.f1).Nodup ∧ c.f1.all nameB = true := by
  intro c hc
  obtain ⟨h1, _, h3⟩ := hcases c hc
  have n1 := scope_nodup a ⟨c.f1.length, by omega⟩
  have n2 := scope_nameB a ⟨c.f1.length, by omega⟩
  rw [← hp] at n1 n2
  simp only at n1 n2
  rw [← h3] at n1 n2
  rw [List.all_append, Bool.and_eq_true] at n2
  exact ⟨n1, n2.2⟩
 have e10 : (d.f2.all fun c => c.f1.all nameB) = true := List.all_eq_true.2 fun c hc => (hvs c hc).2
 have e11 : ((eachD d).all fun e => nameB e.f1) = true := List.all_eq_true.2 fun x hx => (hE x hx).2.2
 have e12 : twB d.f1 = false := by rw [twB, decide_eq_true hpn]; rfl
 have e13 : (d.f2.all fun c => !twB (d.f1 ++ c.f1)) = true := List.all_eq_true.2 fun c hc => by rw [twB, decide_eq_true (hvs c hc).1]; rfl
 have e14 : twB (d.f2.map headC) = false := by
  rw [twB, decide_eq_true]; rfl
  rcases h.body with ⟨h1, _⟩ | ⟨_, _, _, h1⟩
  ·rw [h1]; simp
  ·exact h1.heads.1
 have e15 : clashB d = false := by
  rw [clashB]
  rcases h.body with ⟨h1, _⟩ | ⟨_, h1, h2, _⟩
  ·rw [h1]; rfl
  ·rw [h2]
   have : d.f1.length ≠ 0 := fun h => h1 (List.length_eq_zero_iff.1 h)
   have : ((d.f1.length : Int) == 0) = false := by simp; omega
   rw [this]; simp
 have e16 : scopedD d = true := scopedD_yes fun k b hk hb => List.all_eq_true.2 fun x hx => by
  obtain ⟨h3, h4⟩ := h.bodies k b hb
  obtain ⟨w, h5⟩ := gen_pl _ _ b (Nat.le_refl _) h3 x hx
  exact gen_okV (fun s hs => hs) h5
 rw [rightE, rightD, e1, e2, e3, e4, e5, e6, e7, e8, e9, e10, e11, e12, e13, e14, e15, e16]
 rfl
theorem MadeOk.names {ars : List Nat} {nested : Bool} {ps : List De} (h : MadeOk ars nested ps) : ∀ (i : Nat) (d : De), ps[i]? = some d → d.f0 = nameN i ∧ i < 6 := fun i d hi =>
 ⟨(h.defs i d hi).name, by have := (List.getElem?_eq_some_iff.1 hi).1; have := h.len; have := h.n6; omega⟩
theorem MadeOk.nodup {ars : List Nat} {nested : Bool} {ps : List De} (h : MadeOk ars nested ps) : (ps.map (·.f0)).Nodup := by
 refine List.pairwise_iff_getElem.2 fun i j hi hj hij he => ?_
 rw [List.length_map] at hi hj
 rw [List.getElem_map, List.getElem_map] at he
 obtain ⟨h1, h2⟩ := h.names i _ (List.getElem?_eq_getElem hi)
 obtain ⟨h3, h4⟩ := h.names j _ (List.getElem?_eq_getElem hj)
 rw [h1, h3] at he
 have := nameN_inj ⟨i, h2⟩ ⟨j, h4⟩ he
 simp at this
 omega
theorem MadeOk.num {ars : List Nat} {nested : Bool} {ps : List De} (h : MadeOk ars nested ps) {i : Nat} (hi : i < ps.length) : numD ps (nameN i) = (i : Int) := by
 refine idxB_some (List.getElem?_eq_getElem hi) (decide_eq_true (h.names i _ (List.getElem?_eq_getElem hi)).1) fun j y hj hy => decide_eq_false fun he => ?_
 obtain ⟨h1, h2⟩ := h.names j y hy
 have h3 := (h.names i _ (List.getElem?_eq_getElem hi)).2
 rw [h1] at he
 have := nameN_inj ⟨j, h2⟩ ⟨i, h3⟩ he
 simp at this
 omega
theorem MadeOk.call {ars : List Nat} {nested : Bool} {ps : List De} (h : MadeOk ars nested ps) {vs : List ByteArray} {w : Bool} {x : Ex} (hg : GenE vs ars nested w x) : callErr ps x = 0 := by
 rw [genE_eq] at hg
 rcases hg with ⟨h1, h2, h3⟩ | ⟨h1, h2, h3⟩ | ⟨h1, _, ⟨n, h2, h3⟩, _⟩
 ·rw [callErr, if_neg (by omega)]
 ·rw [callErr, if_neg (by omega)]
 ·have hn : n < ps.length := by rw [h.len]; exact (List.getElem?_eq_some_iff.1 h2).1
  have hp := ((h.defs n _ (List.getElem?_eq_getElem hn)).params h.a2).1
  rw [h2] at hp
  have hp := Option.some.inj hp
  rw [callErr, if_pos h1, h3, h.num hn, if_neg (by omega), Int.toNat_natCast, List.getElem?_eq_getElem hn]
  simp only
  rw [if_pos (by omega)]
theorem MadeOk.check {ars : List Nat} {nested : Bool} {ps : List De} (h : MadeOk ars nested ps) : checkP ps = 0 := by
 have e1 : decide ((ps.length : Int) < 1) = false := decide_eq_false (by have := h.len; have := h.n0; omega)
 have e2 : decide ((12 : Int) < (ps.length : Int)) = false := decide_eq_false (by have := h.len; have := h.n6; omega)
 have e3 : firstErr rightE ps = 0 := firstErr_zero fun d hd => by
  obtain ⟨i, hi⟩ := List.getElem?_of_mem hd
  exact (h.defs i d hi).right h.a2 h.n6
 have e4 : twB (ps.map (·.f0)) = false := by rw [twB, decide_eq_true h.nodup]; rfl
 have e5 : firstErr (callsD ps) ps = 0 := firstErr_zero fun d hd => by
  obtain ⟨i, hi⟩ := List.getElem?_of_mem hd
  exact firstErr_zero fun x hx => by
   obtain ⟨a, v, w, hg⟩ := (h.defs i d hi).each h.a2 x hx
   exact h.call hg
 rw [checkP, e1, e2, if_pos e3, e4, e5]
 rfl
end Go.Proofs.Ytacefdkfbpgedaa.Mine
namespace Go.Proofs.Ytacefdkfbpgedaa.Mine
open Go.Proofs.Ytacefdkfbpgedaa.PProgExprs
open Go.RowKit Go.Shelf Go.Proofs.YtacefdkfbpgedaaW.PrintWords Go.Proofs.YtacefdkfbpgedaaW.PrintLast Go.Proofs.YtacefdkfbpgedaaW.PrintMore
set_option linter.unusedVariables false
set_option linter.unusedSimpArgs false
theorem leftE_small (m : Nat) : ∀ (e : Ex) (n : Int), szE e ≤ m → (∀ x ∈ plE e, x.f1.size < 40) → (szE e : Int) ≤ n → leftE e n = n - szE e := by
 induction m with
 | zero => intro e n h; exact absurd h (by have := szE_pos e; omega)
 | succ m ih =>
  intro e n hm hs hn
  have key : ∀ (l : List Ex) (n : Int), szL l ≤ m → (∀ x ∈ plL l, x.f1.size < 40) → (szL l : Int) ≤ n → leftL l n = n - szL l := by
   intro l
   induction l with
   | nil => intro n _ _ _; simp [leftL, szL]
   | cons x xs ihl =>
    intro n h1 h2 h3
    rw [szL] at h1 h3 ⊢
    rw [plL] at h2
    have hx := ih x n (by omega) (fun y hy => h2 y (List.mem_append_left _ hy)) (by omega)
    rw [leftL, if_pos (by omega), hx, ihl _ (by omega) (fun y hy => h2 y (List.mem_append_right _ hy)) (by omega)]
    omega
  have hsz := szE_eq e
  have h0 := hs e (by rw [plE_eq]; exact List.mem_cons_self)
  rw [leftE_eq, key e.f2 _ (by omega) (fun x hx => hs x (by rw [plE_eq]; exact List.mem_cons_of_mem _ hx)) (by omega)]
  omega
theorem nameB_size {s : ByteArray} (h : nameB s = true) : s.size ≤ 8 := by
 unfold nameB at h
 simp only [Bool.and_eq_true, decide_eq_true_eq] at h
 exact h.1.2
theorem bigE_gen {vs : List ByteArray} {ars : List Nat} {nested : Bool} {e : Ex} (ha : ∀ a ∈ ars, a ≤ 2) (hn : ars.length ≤ 6) (hv : vs.all nameB = true) (h : GenE vs ars nested false e) (hs : szE e ≤ 7) : bigE e = false := by
 rw [bigE, leftE_small _ e 60 (Nat.le_refl _) (fun x hx => by
  obtain ⟨w, hg⟩ := gen_pl _ _ e (Nat.le_refl _) h x hx
  have := nameB_size (gen_right ha hn hv hg).2.2
  omega) (by omega)]
 exact decide_eq_false (by omega)
theorem DefOk.big {ars : List Nat} {nested : Bool} {i : Nat} {d : De} (h : DefOk ars nested i d) (ha : ∀ a ∈ ars, a ≤ 2) (hn : ars.length ≤ 6) : bigD d = false := by
 have hN : d.f0.size = 2 := by rw [h.name]; rfl
 have hlong : ∀ (l : List ByteArray), l.length ≤ 2 → (∀ s ∈ l, nameB s = true) → longS l = false := by
  intro l h1 h2
  rw [longS, decide_eq_false (by omega), Bool.false_or]
  exact List.any_eq_false.2 fun s hs => by have := nameB_size (h2 s hs); simp; omega
 have hsc : ∀ k, (scopeI d k).all nameB = true := fun k => by
  obtain ⟨a, v, _, h1⟩ := h.scope ha k
  rw [h1]; exact scope_nameB a v
 have hp : ∀ s ∈ d.f1, nameB s = true := fun s hs => List.all_eq_true.1 (hsc 0) s (by rw [scopeI]; exact List.mem_append_left _ hs)
 have hbd : ∀ (k : Nat) (b : Ex), (bodiesD d)[k]? = some b → bigE b = false := fun k b hb => by
  obtain ⟨h1, h2⟩ := h.bodies k b hb
  exact bigE_gen ha hn (hsc k) h1 h2
 have e1 : bigE d.f3 = false := by
  rcases h.body with ⟨h1, h2, h3⟩ | ⟨h1, h2, h3, h4⟩
  ·exact hbd 0 d.f3 (by rw [bodiesD, if_pos (by rw [h1]; rfl)]; rfl)
  ·rw [h3]; rfl
 have e2 : d.f2.any bigC = false := List.any_eq_false.2 fun c hc => by
  rcases h.body with ⟨h1, _⟩ | ⟨h1, h2, h3, h4⟩
  ·rw [h1] at hc; simp at hc
  ·have h5 := h4.all c hc
   have h6 := (h4.heads.2.1 c hc).2
   obtain ⟨k, hk⟩ := List.getElem?_of_mem hc
   have h7 : (bodiesD d)[k]? = some c.f2 := by rw [bodiesD, if_neg (by intro h; exact h1 (List.length_eq_zero_iff.1 h)), List.getElem?_map, hk]; rfl
   have h8 := hlong c.f1 h5.kl (fun s hs => List.all_eq_true.1 (hsc k) s (by rw [scopeI, hk]; exact List.mem_append_right _ hs))
   rw [bigC, h8, hbd k _ h7, decide_eq_false (by omega)]
   simp
 rw [bigD, hlong d.f1 (h.params ha).2 hp, e1, e2, decide_eq_false (by omega), decide_eq_false (by have := h.few; omega)]
 rfl
theorem MadeOk.big {ars : List Nat} {nested : Bool} {ps : List De} (h : MadeOk ars nested ps) : ∀ d ∈ ps, bigD d = false := fun d hd => by
 obtain ⟨i, hi⟩ := List.getElem?_of_mem hd
 exact (h.defs i d hi).big h.a2 h.n6
theorem numD_append {ps : List De} {t : List De} {s : ByteArray} (h : 0 ≤ numD ps s) : numD (ps ++ t) s = numD ps s := by
 unfold numD idxB at h ⊢
 split at h
 ·next ha =>
  rw [if_pos ha, if_pos (by rw [List.any_append, ha]; rfl), List.findIdx_append]
  obtain ⟨d, hd, e⟩ := List.any_eq_true.1 ha
  rw [if_pos (List.findIdx_lt_length_of_exists ⟨d, hd, e⟩)]
 ·omega
theorem numD_none {ps : List De} {s : ByteArray} (h : s ∉ ps.map (·.f0)) : numD ps s = -1 :=
 idxB_none fun j y hj hy => decide_eq_false fun e => h (List.mem_map.2 ⟨y, List.mem_of_getElem? hy, e⟩)
theorem callErr_append {ps t : List De} {x : Ex} (h : callErr ps x = 0) : callErr (ps ++ t) x = 0 := by
 unfold callErr at h ⊢
 by_cases h3 : x.f0 = 3
 ·rw [if_pos h3] at h ⊢
  by_cases hn : numD ps x.f1 < 0
  ·rw [if_pos hn] at h; simp at h
  ·rw [if_neg hn] at h
   rw [numD_append (by omega), if_neg hn]
   obtain ⟨i, h1, h2, _⟩ := numD_at (show 0 ≤ numD ps x.f1 by omega)
   rw [h1, Int.toNat_natCast] at h ⊢
   rw [List.getElem?_append_left h2]
   exact h
 ·rw [if_neg h3]
theorem check_calls {l : List De} (h1 : 1 ≤ l.length) (h2 : l.length ≤ 12) (h3 : ∀ d ∈ l, rightE d = 0) (h4 : (l.map (·.f0)).Nodup) : checkP l = firstErr (callsD l) l := by
 rw [checkP, decide_eq_false (by omega), decide_eq_false (by omega), if_pos (firstErr_zero h3), twB, decide_eq_true h4]
 rfl
theorem MadeOk.rights {ars : List Nat} {nested : Bool} {ps : List De} (h : MadeOk ars nested ps) : ∀ d ∈ ps, rightE d = 0 := fun d hd => by
 obtain ⟨i, hi⟩ := List.getElem?_of_mem hd
 exact (h.defs i d hi).right h.a2 h.n6
theorem MadeOk.size2 {ars : List Nat} {nested : Bool} {ps : List De} (h : MadeOk ars nested ps) {s : ByteArray} (hs : s ∈ ps.map (·.f0)) : s.size = 2 := by
 obtain ⟨d, hd, rfl⟩ := List.mem_map.1 hs
 obtain ⟨i, hi⟩ := List.getElem?_of_mem hd
 rw [(h.names i d hi).1]; rfl
theorem MadeOk.calls {ars : List Nat} {nested : Bool} {ps : List De} (h : MadeOk ars nested ps) (t : List De) : firstErr (callsD (ps ++ t)) ps = 0 := firstErr_zero fun d hd => by
 obtain ⟨i, hi⟩ := List.getElem?_of_mem hd
 exact firstErr_zero fun x hx => by
  obtain ⟨a, v, w, hg⟩ := (h.defs i d hi).each h.a2 x hx
  exact callErr_append (h.call hg)
section
variable {ars : List Nat} {nested : Bool} {ps : List De} (h : MadeOk ars nested ps) (k : Fin 5)
include h
end
end Go.Proofs.Ytacefdkfbpgedaa.Mine
namespace Go.Proofs.Ytacefdkfbpgedaa.Mine
open Go.Proofs.Ytacefdkfbpgedaa.PProgExprs
open Go.RowKit Go.Shelf Go.Proofs.YtacefdkfbpgedaaW.PrintWords Go.Proofs.YtacefdkfbpgedaaW.PrintLast Go.Proofs.YtacefdkfbpgedaaW.PrintMore
set_option linter.unusedVariables false
set_option linter.unusedSimpArgs false
theorem plE_ren (s t : ByteArray) (m : Nat) : ∀ e : Ex, szE e ≤ m → plE (renE s t e) = (plE e).map (renE s t) := by
 induction m with
 | zero => intro e h; exact absurd h (by have := szE_pos e; omega)
 | succ m ih =>
  intro e hm
  have key : ∀ l : List Ex, szL l ≤ m → plL (renL s t l) = (plL l).map (renE s t) := by
   intro l
   induction l with
   | nil => intro _; simp [renL, plL]
   | cons x xs ihl =>
    intro h
    rw [szL] at h
    rw [renL, plL, plL, List.map_append, ih x (by omega), ihl (by omega)]
  have hs := szE_eq e
  rw [plE_eq (renE s t e), plE_eq e, List.map_cons, renE_eq s t e]
  simp only
  rw [key e.f2 (by omega), ← renE_eq]
theorem plL_ren (s t : ByteArray) : ∀ l : List Ex, plL (l.map (renE s t)) = (plL l).map (renE s t)
 | [] => rfl
 | x :: xs => by rw [List.map_cons, plL, plL, List.map_append, plL_ren s t xs, plE_ren s t _ x (Nat.le_refl _)]
theorem bodies_ren (s t : ByteArray) (d : De) : bodiesD (renD s t d) = (bodiesD d).map (renE s t) := by
 unfold bodiesD renD
 simp only [List.length_map]
 by_cases h : d.f2.length = 0
 ·rw [if_pos h, if_pos h, if_pos h]; rfl
 ·rw [if_neg h, if_neg h, List.map_map, List.map_map]; rfl
theorem each_ren (s t : ByteArray) (d : De) : eachD (renD s t d) = (eachD d).map (renE s t) := by rw [eachD, bodies_ren, plL_ren]; rfl
theorem ren_f2 (s t : ByteArray) (e : Ex) : (renE s t e).f2.length = e.f2.length := by rw [renE_eq]; simp only; rw [renL_map, List.length_map]
theorem ren_f0 (s t : ByteArray) (e : Ex) : (renE s t e).f0 = e.f0 := by rw [renE_eq]
theorem ren_f1 (s t : ByteArray) (e : Ex) : (renE s t e).f1 = nmR s t e.f0 e.f1 := by rw [renE_eq]
theorem few_ren (s t : ByteArray) (e : Ex) : fewB (renE s t e) = fewB e := by rw [fewB, fewB, ren_f0, ren_f2]
theorem kind_ren (s t : ByteArray) (e : Ex) : kindB (renE s t e) = kindB e := by rw [kindB, kindB, ren_f0, ren_f2]
theorem okV_ren (s t : ByteArray) (sc : List ByteArray) (e : Ex) : okV sc (renE s t e) = okV sc e := by
 rw [okV, okV, ren_f0, ren_f1]
 by_cases h : e.f0 = 1
 ·rw [nmR, if_neg (by rw [h]; simp)]
 ·have : (e.f0 == 1) = false := by simpa using h
  rw [this]; rfl
theorem scope_ren (s t : ByteArray) (d : De) (i : Nat) : scopeI (renD s t d) i = scopeI d i := by
 unfold scopeI renD
 simp only [List.getElem?_map]
 cases d.f2[i]? <;> rfl
theorem scoped_ren (s t : ByteArray) (d : De) (h : scopedD d = true) : scopedD (renD s t d) = true := by
 refine scopedD_yes fun k b hk hb => ?_
 rw [bodies_ren, List.getElem?_map] at hb
 cases hx : (bodiesD d)[k]? with
 | none => rw [hx] at hb; cases hb
 | some x =>
  rw [hx] at hb
  obtain rfl : renE s t x = b := by simpa using hb
  rw [scope_ren, plE_ren s t _ x (Nat.le_refl _), List.all_map]
  rw [scopedD, List.all_eq_true] at h
  have h1 := h k (List.mem_range.2 (List.getElem?_eq_some_iff.1 hx).1)
  rw [List.getD_eq_getElem?_getD, hx, Option.getD_some] at h1
  rw [List.all_eq_true] at h1 ⊢
  intro y hy
  show okV _ (renE s t y) = true
  rw [okV_ren]; exact h1 y hy
theorem bif0 {a : Bool} {k X : Int} (hk : k ≠ 0) (h : (bif a then k else X) = 0) : a = false ∧ X = 0 := by
 cases a
 ·exact ⟨rfl, h⟩
 ·exact absurd h hk
theorem bif1 {a : Bool} {k X : Int} (ha : a = false) (h : X = 0) : (bif a then k else X) = 0 := by rw [ha]; exact h
theorem right_ren {s t : ByteArray} (ht : nameB t = true) {d : De} (h : rightE d = 0) : rightE (renD s t d) = 0 := by
 rw [rightE, rightD] at h
 obtain ⟨e1, h⟩ := bif0 (by decide) h
 obtain ⟨e2, h⟩ := bif0 (by decide) h
 obtain ⟨e3, h⟩ := bif0 (by decide) h
 obtain ⟨e4, h⟩ := bif0 (by decide) h
 obtain ⟨e5, h⟩ := bif0 (by decide) h
 obtain ⟨e6, h⟩ := bif0 (by decide) h
 obtain ⟨e7, h⟩ := bif0 (by decide) h
 obtain ⟨e8, h⟩ := bif0 (by decide) h
 obtain ⟨e9, h⟩ := bif0 (by decide) h
 obtain ⟨e10, h⟩ := bif0 (by decide) h
 obtain ⟨e11, h⟩ := bif0 (by decide) h
 obtain ⟨e12, h⟩ := bif0 (by decide) h
 obtain ⟨e13, h⟩ := bif0 (by decide) h
 obtain ⟨e14, h⟩ := bif0 (by decide) h
 obtain ⟨e15, h⟩ := bif0 (by decide) h
 obtain ⟨e16, _⟩ := bif0 (by decide) h
 have hl : (renD s t d).f2.length = d.f2.length := by simp [renD]
 have hp : (renD s t d).f1 = d.f1 := rfl
 have hc : ∀ q : ByteArray → List ByteArray → Bool, ((renD s t d).f2.all fun c => q c.f0 c.f1) = d.f2.all fun c => q c.f0 c.f1 := fun q => by
  show ((d.f2.map (renC s t)).all _) = _
  rw [List.all_map]; rfl
 rw [rightE, rightD, hp, hl]
 refine bif1 e1 (bif1 e2 (bif1 ((congrArg _ (hc fun _ v => decide (v.length ≤ 4))).trans e3) (bif1 ?_ (bif1 ?_ (bif1 ?_ (bif1 ?_ (bif1 e8 (bif1 ((congrArg _ (hc fun n _ => nameB n)).trans e9) (bif1 ((congrArg _ (hc fun _ v => v.all nameB)).trans e10) (bif1 ?_ (bif1 e12 (bif1 ((congrArg _ (hc fun _ v => !twB (d.f1 ++ v))).trans e13) (bif1 ?_ (bif1 ?_ (bif1 ?_ rfl)))))))))))))))
 ·rw [bodies_ren, List.all_map, ← e4]
  congr 1
  exact congrArg (fun f => (bodiesD d).all f) (funext fun b => by simp only [Function.comp]; rw [szE_ren])
 ·rw [each_ren, List.all_map, ← e5]
  congr 1
  exact congrArg (fun f => (eachD d).all f) (funext fun b => by simp only [Function.comp]; rw [few_ren])
 ·rw [each_ren, List.all_map, ← e6]
  congr 1
  exact congrArg (fun f => (eachD d).all f) (funext fun b => by simp only [Function.comp]; rw [kind_ren])
 ·show (!nameB (if d.f0 = s then t else d.f0)) = false
  by_cases hs : d.f0 = s
  ·rw [if_pos hs, ht]; rfl
  ·rw [if_neg hs]; exact e7
 ·rw [each_ren, List.all_map, Bool.not_eq_false']
  rw [Bool.not_eq_false'] at e11
  rw [List.all_eq_true] at e11 ⊢
  intro x hx
  show nameB (renE s t x).f1 = true
  rw [ren_f1, nmR]
  split
  ·exact ht
  ·exact e11 x hx
 ·show twB ((d.f2.map (renC s t)).map headC) = false
  rw [List.map_map]; exact e14
 ·rw [← e15, clashB, clashB, hl, hp]
  show (decide _ && (((if d.f2.length = 0 then renE s t d.f3 else d.f3).f0 != 0) || _)) = _
  split
  ·rw [ren_f0]
  ·rfl
 ·rw [Bool.not_eq_false'] at e16 ⊢
  exact scoped_ren s t d e16
theorem renE_same (s : ByteArray) (m : Nat) : ∀ e : Ex, szE e ≤ m → renE s s e = e := by
 induction m with
 | zero => intro e h; exact absurd h (by have := szE_pos e; omega)
 | succ m ih =>
  intro e hm
  have hs := szE_eq e
  rw [renE_eq, renL_map]
  have h1 : nmR s s e.f0 e.f1 = e.f1 := by
   unfold nmR
   split
   ·next h => exact h.2.symm
   ·rfl
  have h2 : e.f2.map (renE s s) = e.f2 := by
   refine (List.map_congr_left (g := id) fun x hx => ?_).trans (List.map_id _)
   exact ih x (by have := szE_mem hx; omega)
  rw [h1, h2]
  cases e; rfl
theorem renE_back {s t : ByteArray} (m : Nat) : ∀ e : Ex, szE e ≤ m → (∀ x ∈ plE e, x.f0 = 3 → x.f1 ≠ t) → renE t s (renE s t e) = e := by
 induction m with
 | zero => intro e h; exact absurd h (by have := szE_pos e; omega)
 | succ m ih =>
  intro e hm hn
  have hs := szE_eq e
  rw [renE_eq s t e, renE_eq]
  simp only
  have h1 : nmR t s e.f0 (nmR s t e.f0 e.f1) = e.f1 := by
   have h0 := hn e (by rw [plE_eq]; exact List.mem_cons_self)
   unfold nmR
   by_cases h : e.f0 = 3 ∧ e.f1 = s
   ·rw [if_pos h, if_pos ⟨h.1, rfl⟩]; exact h.2.symm
   ·rw [if_neg h, if_neg (fun h2 => h0 h2.1 h2.2)]
  have h2 : renL t s (renL s t e.f2) = e.f2 := by
   rw [renL_map, renL_map, List.map_map]
   refine (List.map_congr_left (g := id) fun x hx => ?_).trans (List.map_id _)
   have hsub : ∀ y ∈ plE x, y ∈ plE e := fun y hy => by
    rw [plE_eq]
    refine List.mem_cons_of_mem _ ?_
    obtain ⟨a, b, hab⟩ := List.append_of_mem hx
    rw [hab, plL_append]
    exact List.mem_append_right _ (by rw [plL]; exact List.mem_append_left _ hy)
   exact ih x (by have := szE_mem hx; omega) (fun y hy => hn y (hsub y hy))
  rw [h1, h2]
  cases e; rfl
theorem mem_each {d : De} {b x : Ex} (hb : b ∈ bodiesD d) (hx : x ∈ plE b) : x ∈ eachD d := by
 obtain ⟨a, c, hac⟩ := List.append_of_mem hb
 rw [eachD, hac, plL_append]
 exact List.mem_append_right _ (by rw [plL]; exact List.mem_append_left _ hx)
theorem case_mem {d : De} {c : Ca} (hc : c ∈ d.f2) : c.f2 ∈ bodiesD d := by
 rw [bodiesD, if_neg (by intro h; rw [List.length_eq_zero_iff.1 h] at hc; simp at hc)]
 exact List.mem_map.2 ⟨c, hc, rfl⟩
theorem renD_back {s t : ByteArray} {d : De} (h : ∀ x ∈ eachD d, x.f0 = 3 → x.f1 ≠ t) (hn : d.f0 ≠ t) : renD t s (renD s t d) = d := by
 have hl : (renD s t d).f2.length = d.f2.length := by simp [renD]
 have h0 : (if (if d.f0 = s then t else d.f0) = t then s else (if d.f0 = s then t else d.f0)) = d.f0 := by
  by_cases hs : d.f0 = s
  ·rw [if_pos hs, if_pos rfl, hs]
  ·rw [if_neg hs, if_neg hn]
 have h2 : (d.f2.map (renC s t)).map (renC t s) = d.f2 := by
  rw [List.map_map]
  refine (List.map_congr_left (g := id) fun c hc => ?_).trans (List.map_id _)
  show renC t s (renC s t c) = c
  unfold renC
  simp only
  rw [renE_back _ c.f2 (Nat.le_refl _) (fun x hx => h x (mem_each (case_mem hc) hx))]
 have h3 : (if d.f2.length = 0 then renE t s (if d.f2.length = 0 then renE s t d.f3 else d.f3) else (if d.f2.length = 0 then renE s t d.f3 else d.f3)) = d.f3 := by
  by_cases hz : d.f2.length = 0
  ·rw [if_pos hz, if_pos hz]
   exact renE_back _ d.f3 (Nat.le_refl _) (fun x hx => h x (mem_each (by rw [bodiesD, if_pos hz]; simp) hx))
  ·rw [if_neg hz, if_neg hz]
 rw [renD, hl]
 show (⟨_, _, (d.f2.map (renC s t)).map (renC t s), _⟩ : De) = d
 rw [h2]
 show (⟨if (if d.f0 = s then t else d.f0) = t then s else (if d.f0 = s then t else d.f0), d.f1, d.f2, if d.f2.length = 0 then renE t s (if d.f2.length = 0 then renE s t d.f3 else d.f3) else (if d.f2.length = 0 then renE s t d.f3 else d.f3)⟩ : De) = d
 rw [h0, h3]
theorem renD_same (s : ByteArray) (d : De) : renD s s d = d := by
 have h0 : (if d.f0 = s then s else d.f0) = d.f0 := by
  by_cases hs : d.f0 = s
  ·rw [if_pos hs, hs]
  ·rw [if_neg hs]
 have h2 : d.f2.map (renC s s) = d.f2 := by
  refine (List.map_congr_left (g := id) fun c hc => ?_).trans (List.map_id _)
  show renC s s c = c
  unfold renC
  rw [renE_same s _ c.f2 (Nat.le_refl _)]
 have h3 : (if d.f2.length = 0 then renE s s d.f3 else d.f3) = d.f3 := by
  rw [renE_same s _ d.f3 (Nat.le_refl _)]; simp
 rw [renD, h0, h2, h3]
abbrev otherN : ByteArray := ⟨#[111, 116, 104, 101, 114]⟩
section
variable {ars : List Nat} {nested : Bool} {ps : List De} (h : MadeOk ars nested ps) {d : De} (hd : d ∈ ps)
include h
theorem other_new : otherN ∉ ps.map (·.f0) := fun hm => by
 have h0 : (5 : Nat) = 2 := h.size2 hm
 omega
theorem made_calls : ∀ d ∈ ps, ∀ x ∈ eachD d, x.f0 = 3 → x.f1.size = 2 ∧ 0 ≤ numD ps x.f1 := fun d hd x hx h3 => by
 obtain ⟨i, hi⟩ := List.getElem?_of_mem hd
 obtain ⟨a, v, w, hg⟩ := (h.defs i d hi).each h.a2 x hx
 rw [genE_eq] at hg
 rcases hg with ⟨h1, _⟩ | ⟨h1, _⟩ | ⟨_, _, ⟨n, h2, h4⟩, _⟩
 ·rw [h1] at h3; exact absurd h3 (by decide)
 ·rw [h1] at h3; exact absurd h3 (by decide)
 ·have hn : n < ps.length := by rw [h.len]; exact (List.getElem?_eq_some_iff.1 h2).1
  rw [h4, h.num hn]
  exact ⟨rfl, by omega⟩
theorem ren_back (s : ByteArray) : renP otherN s (renP s otherN ps) = ps := by
 rw [renP, renP, List.map_map]
 refine (List.map_congr_left (g := id) fun d hd => ?_).trans (List.map_id _)
 refine renD_back (fun x hx h3 he => ?_) (fun he => other_new h (List.mem_map.2 ⟨d, hd, he⟩))
 have h1 := (made_calls h d hd x hx h3).1
 rw [he] at h1
 have h0 : (5 : Nat) = 2 := h1
 omega
theorem ren_names (s : ByteArray) : ((renP s otherN ps).map (·.f0)).Nodup := by
 have e : (renP s otherN ps).map (·.f0) = (ps.map (·.f0)).map (fun n => if n = s then otherN else n) := by rw [renP, List.map_map, List.map_map]; rfl
 rw [e]
 have hn := h.nodup
 have ho := other_new h
 obtain ⟨ns, hns⟩ : ∃ ns, ps.map (·.f0) = ns := ⟨_, rfl⟩
 rw [hns] at hn ho ⊢
 refine List.pairwise_iff_getElem.2 fun i j hi hj hij he => ?_
 rw [List.length_map] at hi hj
 rw [List.getElem_map, List.getElem_map] at he
 have hne := List.pairwise_iff_getElem.1 hn i j hi hj hij
 have hoi : ns[i] ≠ otherN := fun e => ho (by rw [← e]; exact List.getElem_mem hi)
 have hoj : ns[j] ≠ otherN := fun e => ho (by rw [← e]; exact List.getElem_mem hj)
 generalize ns[i] = x at *
 generalize ns[j] = y at *
 by_cases h1 : x = s
 ·rw [if_pos h1] at he
  by_cases h2 : y = s
  ·exact hne (h1.trans h2.symm)
  ·rw [if_neg h2] at he; exact hoj he.symm
 ·rw [if_neg h1] at he
  by_cases h2 : y = s
  ·rw [if_pos h2] at he; exact hoi he
  ·rw [if_neg h2] at he; exact hne he
theorem numD_ren (s : ByteArray) {i : Nat} (hi : numD ps s = (i : Int)) : numD (renP s otherN ps) otherN = (i : Int) := by
 obtain ⟨d, h1, h2⟩ := numD_get hi
 refine idxB_some (x := renD s otherN d) (by rw [renP, List.getElem?_map, h1]; rfl) (decide_eq_true (by rw [renD, if_pos h2])) fun j y hj hy => decide_eq_false fun he => ?_
 have hjl : j < ps.length := by have := (List.getElem?_eq_some_iff.1 h1).1; omega
 rw [renP, List.getElem?_map, List.getElem?_eq_getElem hjl, Option.map_some] at hy
 obtain rfl := Option.some.inj hy
 have hne : ps[j].f0 ≠ s := fun e => by
  have h3 := List.pairwise_iff_getElem.1 h.nodup j i (by simpa using hjl) (by simpa using (List.getElem?_eq_some_iff.1 h1).1) hj
  rw [List.getElem_map, List.getElem_map, (List.getElem?_eq_some_iff.1 h1).2, h2] at h3
  exact h3 e
 rw [renD, if_neg hne] at he
 exact other_new h (List.mem_map.2 ⟨_, List.getElem_mem hjl, he⟩)
theorem numD_ren2 (s n : ByteArray) (hn : n ≠ s) {i : Nat} (hi : numD ps n = (i : Int)) : numD (renP s otherN ps) n = (i : Int) := by
 obtain ⟨d, h1, h2⟩ := numD_get hi
 refine idxB_some (x := renD s otherN d) (by rw [renP, List.getElem?_map, h1]; rfl) (decide_eq_true (by rw [renD, if_neg (by rw [h2]; exact hn)]; exact h2)) fun j y hj hy => decide_eq_false fun he => ?_
 have hjl : j < ps.length := by have := (List.getElem?_eq_some_iff.1 h1).1; omega
 rw [renP, List.getElem?_map, List.getElem?_eq_getElem hjl, Option.map_some] at hy
 obtain rfl := Option.some.inj hy
 have h3 := List.pairwise_iff_getElem.1 h.nodup j i (by simpa using hjl) (by simpa using (List.getElem?_eq_some_iff.1 h1).1) hj
 rw [List.getElem_map, List.getElem_map, (List.getElem?_eq_some_iff.1 h1).2, h2] at h3
 by_cases hs : ps[j].f0 = s
 ·rw [renD, if_pos hs] at he
  have hm : n ∈ ps.map (·.f0) := List.mem_map.2 ⟨d, List.mem_of_getElem? h1, h2⟩
  rw [← he] at hm
  exact other_new h hm
 ·rw [renD, if_neg hs] at he
  exact h3 he
theorem ren_check (s : ByteArray) : checkP (renP s otherN ps) = 0 := by
 have h1 := h.n0; have h2 := h.n6; have h3 := h.len
 rw [check_calls (by simp [renP]; omega) (by simp [renP]; omega) (fun d hd => by
  obtain ⟨x, hx, rfl⟩ := List.mem_map.1 hd
  exact right_ren (by kernel_rfl) (h.rights x hx)) (ren_names h s)]
 refine firstErr_zero fun d hd => ?_
 obtain ⟨y, hy, rfl⟩ := List.mem_map.1 hd
 rw [callsD, each_ren]
 refine firstErr_zero fun x hx => ?_
 obtain ⟨z, hz, rfl⟩ := List.mem_map.1 hx
 have hc : callErr ps z = 0 := by
  obtain ⟨i, hi⟩ := List.getElem?_of_mem hy
  obtain ⟨a, v, w, hg⟩ := (h.defs i y hi).each h.a2 z hz
  exact h.call hg
 by_cases h3 : z.f0 = 3
 ·obtain ⟨h4, h5⟩ := made_calls h y hy z hz h3
  obtain ⟨i, h6, h7, _⟩ := numD_at h5
  rw [callErr, if_pos h3, if_neg (by omega), h6, Int.toNat_natCast, List.getElem?_eq_getElem h7] at hc
  have h8 : numD (renP s otherN ps) (nmR s otherN z.f0 z.f1) = (i : Int) := by
   unfold nmR
   by_cases hs : z.f1 = s
   ·rw [if_pos ⟨h3, hs⟩]; exact numD_ren h s (by rw [← hs]; exact h6)
   ·rw [if_neg (fun he => hs he.2)]; exact numD_ren2 h s _ hs h6
  rw [callErr, ren_f0, if_pos h3, ren_f1, h8, if_neg (by omega), Int.toNat_natCast, ren_f2]
  rw [renP, List.getElem?_map, List.getElem?_eq_getElem h7]
  simp only [Option.map_some]
  exact hc
 ·rw [callErr, ren_f0, if_neg h3]
theorem ren_there {i : Nat} {d : De} (hi : ps[i]? = some d) : numD ps d.f0 = (i : Int) := by
 rw [(h.names i d hi).1]
 exact h.num (List.getElem?_eq_some_iff.1 hi).1
theorem rename_there {i : Nat} {d : De} (hi : ps[i]? = some d) : renameP ps d.f0 otherN = (renP d.f0 otherN ps, 0) := by
 have hs := h.size2 (List.mem_map.2 ⟨d, List.mem_of_getElem? hi, rfl⟩)
 rw [renameP, if_pos h.check, renR, ren_there h hi, if_neg (by omega), if_neg (by rw [show nameB otherN = true by kernel_rfl]; decide), if_neg]
 rw [numD_none (other_new h)]
 rintro ⟨_, h2⟩
 exact absurd h2 (by decide)
theorem rename_back {i : Nat} {d : De} (hi : ps[i]? = some d) : renameP (renP d.f0 otherN ps) otherN d.f0 = (ps, 0) := by
 have hnm := (h.names i d hi)
 have hb : nameB d.f0 = true := by rw [hnm.1]; exact nameN_nameB ⟨i, hnm.2⟩
 have hn : numD (renP d.f0 otherN ps) d.f0 = -1 := numD_none fun hm => by
  rw [renP, List.map_map] at hm
  obtain ⟨x, hx, he⟩ := List.mem_map.1 hm
  have he : (if x.f0 = d.f0 then otherN else x.f0) = d.f0 := he
  by_cases hs : x.f0 = d.f0
  ·rw [if_pos hs] at he
   exact other_new h (List.mem_map.2 ⟨d, List.mem_of_getElem? hi, he.symm⟩)
  ·rw [if_neg hs] at he; exact hs he
 rw [renameP, if_pos (ren_check h d.f0), renR, numD_ren h d.f0 (ren_there h hi), if_neg (by omega), if_neg (by rw [hb]; decide), if_neg (by rw [hn]; rintro ⟨_, h2⟩; exact absurd h2 (by decide)), ren_back h]
theorem rename_same {i : Nat} {d : De} (hi : ps[i]? = some d) : renameP ps d.f0 d.f0 = (ps, 0) := by
 have hnm := (h.names i d hi)
 have hb : nameB d.f0 = true := by rw [hnm.1]; exact nameN_nameB ⟨i, hnm.2⟩
 rw [renameP, if_pos h.check, renR, ren_there h hi, if_neg (by omega), if_neg (by rw [hb]; decide), if_neg (by rintro ⟨h2, _⟩; exact h2 rfl)]
 rw [renP]
 exact congrArg (·, (0 : Int)) ((List.map_congr_left (g := id) fun x _ => renD_same _ x).trans (List.map_id _))
theorem rename_none : (renameP ps ⟨#[110, 111, 110, 101]⟩ ⟨#[109, 111, 114, 101]⟩) = ([], 1) := by
 have hn : numD ps ⟨#[110, 111, 110, 101]⟩ = -1 := numD_none fun hm => by
  have h0 : (4 : Nat) = 2 := h.size2 hm
  omega
 rw [renameP, if_pos h.check, renR, hn, if_pos (by decide)]
theorem ren_unlike {i : Nat} {d : De} (hi : ps[i]? = some d) : eqL sameD (renP d.f0 otherN ps) ps = false := by
 refine eqL_false (i := i) (x := renD d.f0 otherN d) (y := d) (by rw [renP, List.getElem?_map, hi]; rfl) hi ?_
 have : (renD d.f0 otherN d).f0 = otherN := by rw [renD, if_pos rfl]
 rw [sameD, this, decide_eq_false, Bool.false_and]
 intro e
 exact other_new h (List.mem_map.2 ⟨d, List.mem_of_getElem? hi, e.symm⟩)
end
end Go.Proofs.Ytacefdkfbpgedaa.Mine
namespace Go.Proofs.Ytacefdkfbpgedaa.Mine
open Go.Proofs.Ytacefdkfbpgedaa.PProgExprs
open Go.RowKit Go.Shelf Go.Proofs.YtacefdkfbpgedaaW.PrintWords Go.Proofs.YtacefdkfbpgedaaW.PrintLast Go.Proofs.YtacefdkfbpgedaaW.PrintMore
set_option linter.unusedVariables false
set_option linter.unusedSimpArgs false
theorem bigE_ren {e : Ex} (s : ByteArray) (hs : szE e ≤ 7) (hn : ∀ x ∈ plE e, x.f1.size < 40) : bigE (renE s otherN e) = false := by
 rw [bigE, leftE_small _ (renE s otherN e) 60 (Nat.le_refl _) (fun x hx => by
  rw [plE_ren s otherN _ e (Nat.le_refl _)] at hx
  obtain ⟨y, hy, rfl⟩ := List.mem_map.1 hx
  rw [ren_f1, nmR]
  split
  ·show (5 : Nat) < 40; omega
  ·exact hn y hy) (by rw [szE_ren]; omega), szE_ren]
 exact decide_eq_false (by omega)
theorem DefOk.small {ars : List Nat} {nested : Bool} {i : Nat} {d : De} (h : DefOk ars nested i d) (ha : ∀ a ∈ ars, a ≤ 2) (hn : ars.length ≤ 6) : ∀ b ∈ bodiesD d, szE b ≤ 7 ∧ ∀ x ∈ plE b, x.f1.size < 40 := fun b hb => by
 obtain ⟨k, hk⟩ := List.getElem?_of_mem hb
 obtain ⟨h1, h2⟩ := h.bodies k b hk
 refine ⟨h2, fun x hx => ?_⟩
 obtain ⟨a, v, _, h3⟩ := h.scope ha k
 obtain ⟨w, hg⟩ := gen_pl _ _ b (Nat.le_refl _) h1 x hx
 have := nameB_size (gen_right ha hn (by rw [h3]; exact scope_nameB a v) hg).2.2
 omega
theorem DefOk.big_ren {ars : List Nat} {nested : Bool} {i : Nat} {d : De} (h : DefOk ars nested i d) (ha : ∀ a ∈ ars, a ≤ 2) (hn : ars.length ≤ 6) (s : ByteArray) : bigD (renD s otherN d) = false := by
 have hb := h.big ha hn
 have hs := h.small ha hn
 rw [bigD, Bool.or_eq_false_iff, Bool.or_eq_false_iff, Bool.or_eq_false_iff, Bool.or_eq_false_iff, List.any_eq_false] at hb
 obtain ⟨b1, b2, b3, b4, b5⟩ := hb
 have e0 : (renD s otherN d).f0.size ≤ 40 := by
  show (if d.f0 = s then otherN else d.f0).size ≤ 40
  split
  ·show (5 : Nat) ≤ 40; omega
  ·have := of_decide_eq_false b1; omega
 have e3 : bigE (renD s otherN d).f3 = false := by
  show bigE (if d.f2.length = 0 then renE s otherN d.f3 else d.f3) = false
  by_cases hz : d.f2.length = 0
  ·rw [if_pos hz]
   have := hs d.f3 (by rw [bodiesD, if_pos hz]; simp)
   exact bigE_ren s this.1 this.2
  ·rw [if_neg hz]; exact b3
 have e5 : (renD s otherN d).f2.any bigC = false := List.any_eq_false.2 fun c hc => by
  obtain ⟨c0, h0, rfl⟩ := List.mem_map.1 hc
  have h1 := b5 c0 h0
  rw [Bool.not_eq_true, bigC, Bool.or_eq_false_iff, Bool.or_eq_false_iff] at h1
  have h2 := hs c0.f2 (case_mem h0)
  have h3 := bigE_ren s h2.1 h2.2
  rw [Bool.not_eq_true, bigC]
  show (decide ((40 : Int) < (c0.f0.size : Int)) || (longS c0.f1 || bigE (renE s otherN c0.f2))) = false
  rw [h1.1, h1.2.1, h3]; rfl
 have e4 : decide ((10 : Int) < ((renD s otherN d).f2.length : Int)) = false := by
  rw [show (renD s otherN d).f2.length = d.f2.length by simp [renD]]; exact b4
 rw [bigD, e3, e4, e5, decide_eq_false (by omega)]
 show (false || (longS d.f1 || _)) = false
 rw [b2]; rfl
theorem MadeOk.big_ren {ars : List Nat} {nested : Bool} {ps : List De} (h : MadeOk ars nested ps) (s : ByteArray) : ∀ d ∈ renP s otherN ps, bigD d = false := fun d hd => by
 obtain ⟨x, hx, rfl⟩ := List.mem_map.1 hd
 obtain ⟨i, hi⟩ := List.getElem?_of_mem hx
 exact (h.defs i x hi).big_ren h.a2 h.n6 s
def callTo (s : ByteArray) (x : Ex) : Bool := (x.f0 == 3) && decide (x.f1 = s)
theorem no_calls {s : ByteArray} (hs : s ≠ otherN) (d : De) : (bodiesD (renD s otherN d)).any (anyE (callTo s)) = false := by
 rw [bodies_ren]
 refine List.any_eq_false.2 fun b hb => ?_
 obtain ⟨b0, h0, rfl⟩ := List.mem_map.1 hb
 rw [Bool.not_eq_true, anyE, plE_ren s otherN _ b0 (Nat.le_refl _)]
 refine List.any_eq_false.2 fun x hx => ?_
 obtain ⟨y, hy, rfl⟩ := List.mem_map.1 hx
 rw [Bool.not_eq_true, callTo, ren_f0, ren_f1, nmR]
 by_cases h3 : y.f0 = 3
 ·by_cases h1 : y.f1 = s
  ·rw [if_pos ⟨h3, h1⟩, decide_eq_false (fun e => hs e.symm), Bool.and_false]
  ·rw [if_neg (fun e => h1 e.2), decide_eq_false h1, Bool.and_false]
 ·rw [show (y.f0 == 3) = false by simpa using h3, Bool.false_and]
end Go.Proofs.Ytacefdkfbpgedaa.Mine
namespace Go.Proofs.Ytacefdkfbpgedaa.Mine
open Go.Proofs.Ytacefdkfbpgedaa.PProgExprs
open Go.RowKit Go.Shelf Go.Proofs.YtacefdkfbpgedaaW.PrintWords Go.Proofs.YtacefdkfbpgedaaW.PrintLast Go.Proofs.YtacefdkfbpgedaaW.PrintMore
set_option linter.unusedVariables false
set_option linter.unusedSimpArgs false
set_option maxHeartbeats 4000000 in
theorem eqfC (A B : Option Addr) (c d : Nat) (xs ys : List S99) (w : World) (hc : xs.length ≤ c) (hd : ys.length ≤ d) (hr : Kd.C k99 w A xs.length xs) (hs : Kd.C k99 w B ys.length ys) (g : Nat) (lb : Array Value) (eg : ∀ args w, (callFunc g args).run Try.prog w = .ok (.enter g args) w) (p : S99 → S99 → Bool)
  (hf : ∀ x y cs ds W, x ∈ xs → y ∈ ys → (k99).K W x cs → (k99).K W y ds → Below w.heap.size w W → Calls Try.prog g (#[.agg cs.toArray, .agg ds.toArray] ++ lb) W fun e W' => e = .returned (.bool (p x y)) ∧ Below W.heap.size W W') :
  Calls Try.prog 85 #[.slice A xs.length c, .slice B ys.length d, .func (.func g) #[] lb] w fun e W' => e = .returned (.bool (eqL p xs ys)) ∧ Below w.heap.size w W' := by
 have hm1 : xs.length ≤ 9223372036854775807 := hr.2.1
 have hm2 : ys.length ≤ 9223372036854775807 := hs.2.1
 have HR := Aside0.mk hr
 have HS := Aside0.mk hs
 have HF := Aside0.mk hf
 clear hr hs hf
 by_cases hl : xs.length = ys.length
 ·have hl1 : ((xs.length : Int) != (ys.length : Int)) = false := by simp only [bne_eq_false_iff_eq]; omega
  have HL := Lib.hid hl
  clear hl
  go_enter Try.func85, Try.ntmps85
  go_wp2
  go_loopg [7, 8, 9, 17] xs.length (fun gg _ _ _ s17 wr => ∃ kk : Nat, kk ≤ xs.length ∧ xs.length - kk ≤ gg ∧ s17 = .int .i64 kk ∧ Aside0 (∀ j x y, j < kk → xs[j]? = some x → ys[j]? = some y → p x y = true) ∧ Aside0 (Below w.heap.size w wr))
  case atStart => exact ⟨0, Nat.zero_le _, by omega, rfl, ⟨fun j x y hj => absurd hj (Nat.not_lt_zero _)⟩, ⟨Below.refl _ _⟩⟩
  case round =>
   obtain ⟨kk, hkk, hg, rfl, IW, FW⟩ := hrel
   by_cases hlt : kk < xs.length
   ·have hltz : (kk : Int) < (xs.length : Int) := by omega
    have hlt2 : kk < ys.length := by have := HL.out; omega
    have hltz2 : (kk : Int) < (ys.length : Int) := by omega
    obtain ⟨ad, c0, c1, c2, c3, c4, rfl, hK, k0, k1, k2, k3, k4⟩ := get5 rfl (Kd.C_below HR.out FW.out) kk hlt
    obtain ⟨A2, a2, A4, a4, e1, _, _⟩ := k99_open hK; obtain ⟨rfl, rfl, rfl, rfl, rfl⟩ : c0 = _ ∧ c1 = _ ∧ c2 = _ ∧ c3 = _ ∧ c4 = _ := by simpa using e1
    have q1 : Below wr.heap.size wr (wr.alloc (.cells #[.string xs[kk].f0, .slice A2 xs[kk].f1.length a2, .int .i64 xs[kk].f2.f0, .string xs[kk].f2.f1, .slice A4 xs[kk].f2.f2.length a4] 99)) := below_alloc1 _ _
    obtain ⟨bd, d0, d1, d2, d3, d4, rfl, hK2, l0, l1, l2, l3, l4⟩ := get5 rfl (Kd.C_below HS.out (FW.out.trans (q1.mono FW.out.size))) kk hlt2
    obtain ⟨B2, b2, B4, b4, e2, _, _⟩ := k99_open hK2; obtain ⟨rfl, rfl, rfl, rfl, rfl⟩ : d0 = _ ∧ d1 = _ ∧ d2 = _ ∧ d3 = _ ∧ d4 = _ := by simpa using e2
    have q2a : Below (wr.alloc (.cells #[.string xs[kk].f0, .slice A2 xs[kk].f1.length a2, .int .i64 xs[kk].f2.f0, .string xs[kk].f2.f1, .slice A4 xs[kk].f2.f2.length a4] 99)).heap.size (wr.alloc (.cells #[.string xs[kk].f0, .slice A2 xs[kk].f1.length a2, .int .i64 xs[kk].f2.f0, .string xs[kk].f2.f1, .slice A4 xs[kk].f2.f2.length a4] 99)) ((wr.alloc (.cells #[.string xs[kk].f0, .slice A2 xs[kk].f1.length a2, .int .i64 xs[kk].f2.f0, .string xs[kk].f2.f1, .slice A4 xs[kk].f2.f2.length a4] 99)).alloc (.cells #[.string ys[kk].f0, .slice B2 ys[kk].f1.length b2, .int .i64 ys[kk].f2.f0, .string ys[kk].f2.f1, .slice B4 ys[kk].f2.f2.length b4] 99)) := below_alloc1 _ _
    have q2 : Below wr.heap.size wr ((wr.alloc (.cells #[.string xs[kk].f0, .slice A2 xs[kk].f1.length a2, .int .i64 xs[kk].f2.f0, .string xs[kk].f2.f1, .slice A4 xs[kk].f2.f2.length a4] 99)).alloc (.cells #[.string ys[kk].f0, .slice B2 ys[kk].f1.length b2, .int .i64 ys[kk].f2.f0, .string ys[kk].f2.f1, .slice B4 ys[kk].f2.f2.length b4] 99)) := q1.trans ((below_alloc1 _ _).mono q1.size)
    have hcall := HF.out _ _ _ _ ((wr.alloc (.cells #[.string xs[kk].f0, .slice A2 xs[kk].f1.length a2, .int .i64 xs[kk].f2.f0, .string xs[kk].f2.f1, .slice A4 xs[kk].f2.f2.length a4] 99)).alloc (.cells #[.string ys[kk].f0, .slice B2 ys[kk].f1.length b2, .int .i64 ys[kk].f2.f0, .string ys[kk].f2.f1, .slice B4 ys[kk].f2.f2.length b4] 99)) (List.getElem_mem hlt) (List.getElem_mem hlt2) ((k99).K_below q2 hK) ((k99).K_below q2a hK2) (FW.out.trans (q2.mono FW.out.size))
    have Q2 := Aside0.mk q2
    have X1 : xs[kk]? = some xs[kk] := List.getElem?_eq_getElem hlt
    have X2 : ys[kk]? = some ys[kk] := List.getElem?_eq_getElem hlt2
    have HX1 := Lib.hid X1
    have HX2 := Lib.hid X2
    clear hK hK2 q1 q2 q2a X1 X2
    cases hp : p xs[kk] ys[kk] with
    | true =>
     rw [hp] at hcall
     have HP := Lib.hid hp
     clear hp
     go_wp2_with (go_at_fn g; refine hcall.mono ?_; rintro e w' ⟨rfl, hb'⟩)
     go_roundg (xs.length - (kk + 1))
     case measure => omega
     case rel => exact ⟨kk + 1, by omega, by omega, by go_num, ⟨fun j x y hj hx hy => by
      rcases Nat.lt_or_ge j kk with h | h
      ·exact IW.out j x y h hx hy
      ·obtain rfl : j = kk := by omega
       rw [HX1.out] at hx; rw [HX2.out] at hy
       cases hx; cases hy; exact HP.out⟩, ⟨FW.out.trans ((Q2.out.trans (hb'.mono Q2.out.size)).mono FW.out.size)⟩⟩
    | false =>
     rw [hp] at hcall
     have HP := Lib.hid hp
     clear hp
     go_wp2_with (go_at_fn g; refine hcall.mono ?_; rintro e w' ⟨rfl, hb'⟩)
     go_ret
     exact ⟨retb (eqL_false HX1.out HX2.out HP.out).symm, FW.out.trans ((Q2.out.trans (hb'.mono Q2.out.size)).mono FW.out.size)⟩
   ·have hltz : ¬ (kk : Int) < (xs.length : Int) := by omega
    have : kk = xs.length := by omega
    subst this
    go_wp2
    go_ret
    exact ⟨retb (eqL_true HL.out IW.out).symm, FW.out⟩
 ·have hl1 : ((xs.length : Int) != (ys.length : Int)) = true := by simp only [bne_iff_ne, ne_eq]; omega
  have HL := Lib.hid hl
  clear hl
  go_enter Try.func85, Try.ntmps85
  go_wp2
  go_ret
  exact ⟨retb (eqL_len HL.out).symm, Below.refl _ _⟩
set_option maxHeartbeats 4000000 in
theorem eqfD (A B : Option Addr) (c d : Nat) (xs ys : List S58) (w : World) (hc : xs.length ≤ c) (hd : ys.length ≤ d) (hr : Kd.C k58 w A xs.length xs) (hs : Kd.C k58 w B ys.length ys) (g : Nat) (lb : Array Value) (eg : ∀ args w, (callFunc g args).run Try.prog w = .ok (.enter g args) w) (p : S58 → S58 → Bool)
  (hf : ∀ x y cs ds W, x ∈ xs → y ∈ ys → (k58).K W x cs → (k58).K W y ds → Below w.heap.size w W → Calls Try.prog g (#[.agg cs.toArray, .agg ds.toArray] ++ lb) W fun e W' => e = .returned (.bool (p x y)) ∧ Below W.heap.size W W') :
  Calls Try.prog 83 #[.slice A xs.length c, .slice B ys.length d, .func (.func g) #[] lb] w fun e W' => e = .returned (.bool (eqL p xs ys)) ∧ Below w.heap.size w W' := by
 have hm1 : xs.length ≤ 9223372036854775807 := hr.2.1
 have hm2 : ys.length ≤ 9223372036854775807 := hs.2.1
 have HR := Aside0.mk hr
 have HS := Aside0.mk hs
 have HF := Aside0.mk hf
 clear hr hs hf
 by_cases hl : xs.length = ys.length
 ·have hl1 : ((xs.length : Int) != (ys.length : Int)) = false := by simp only [bne_eq_false_iff_eq]; omega
  have HL := Lib.hid hl
  clear hl
  go_enter Try.func83, Try.ntmps83
  go_wp2
  go_loopg [7, 8, 9, 17] xs.length (fun gg _ _ _ s17 wr => ∃ kk : Nat, kk ≤ xs.length ∧ xs.length - kk ≤ gg ∧ s17 = .int .i64 kk ∧ Aside0 (∀ j x y, j < kk → xs[j]? = some x → ys[j]? = some y → p x y = true) ∧ Aside0 (Below w.heap.size w wr))
  case atStart => exact ⟨0, Nat.zero_le _, by omega, rfl, ⟨fun j x y hj => absurd hj (Nat.not_lt_zero _)⟩, ⟨Below.refl _ _⟩⟩
  case round =>
   obtain ⟨kk, hkk, hg, rfl, IW, FW⟩ := hrel
   by_cases hlt : kk < xs.length
   ·have hltz : (kk : Int) < (xs.length : Int) := by omega
    have hlt2 : kk < ys.length := by have := HL.out; omega
    have hltz2 : (kk : Int) < (ys.length : Int) := by omega
    obtain ⟨ad, c0, c1, c2, c3, c4, c5, rfl, hK, k0, k1, k2, k3, k4, k5⟩ := get6 rfl (Kd.C_below HR.out FW.out) kk hlt
    obtain ⟨A1, a1, A2, a2, A5, a5, e1, _, _⟩ := k58_open hK; obtain ⟨rfl, rfl, rfl, rfl, rfl, rfl⟩ : c0 = _ ∧ c1 = _ ∧ c2 = _ ∧ c3 = _ ∧ c4 = _ ∧ c5 = _ := by simpa using e1
    have q1 : Below wr.heap.size wr (wr.alloc (.cells #[.string xs[kk].f0, .slice A1 xs[kk].f1.length a1, .slice A2 xs[kk].f2.length a2, .int .i64 xs[kk].f3.f0, .string xs[kk].f3.f1, .slice A5 xs[kk].f3.f2.length a5] 58)) := below_alloc1 _ _
    obtain ⟨bd, d0, d1, d2, d3, d4, d5, rfl, hK2, l0, l1, l2, l3, l4, l5⟩ := get6 rfl (Kd.C_below HS.out (FW.out.trans (q1.mono FW.out.size))) kk hlt2
    obtain ⟨B1, b1, B2, b2, B5, b5, e2, _, _⟩ := k58_open hK2; obtain ⟨rfl, rfl, rfl, rfl, rfl, rfl⟩ : d0 = _ ∧ d1 = _ ∧ d2 = _ ∧ d3 = _ ∧ d4 = _ ∧ d5 = _ := by simpa using e2
    have q2a : Below (wr.alloc (.cells #[.string xs[kk].f0, .slice A1 xs[kk].f1.length a1, .slice A2 xs[kk].f2.length a2, .int .i64 xs[kk].f3.f0, .string xs[kk].f3.f1, .slice A5 xs[kk].f3.f2.length a5] 58)).heap.size (wr.alloc (.cells #[.string xs[kk].f0, .slice A1 xs[kk].f1.length a1, .slice A2 xs[kk].f2.length a2, .int .i64 xs[kk].f3.f0, .string xs[kk].f3.f1, .slice A5 xs[kk].f3.f2.length a5] 58)) ((wr.alloc (.cells #[.string xs[kk].f0, .slice A1 xs[kk].f1.length a1, .slice A2 xs[kk].f2.length a2, .int .i64 xs[kk].f3.f0, .string xs[kk].f3.f1, .slice A5 xs[kk].f3.f2.length a5] 58)).alloc (.cells #[.string ys[kk].f0, .slice B1 ys[kk].f1.length b1, .slice B2 ys[kk].f2.length b2, .int .i64 ys[kk].f3.f0, .string ys[kk].f3.f1, .slice B5 ys[kk].f3.f2.length b5] 58)) := below_alloc1 _ _
    have q2 : Below wr.heap.size wr ((wr.alloc (.cells #[.string xs[kk].f0, .slice A1 xs[kk].f1.length a1, .slice A2 xs[kk].f2.length a2, .int .i64 xs[kk].f3.f0, .string xs[kk].f3.f1, .slice A5 xs[kk].f3.f2.length a5] 58)).alloc (.cells #[.string ys[kk].f0, .slice B1 ys[kk].f1.length b1, .slice B2 ys[kk].f2.length b2, .int .i64 ys[kk].f3.f0, .string ys[kk].f3.f1, .slice B5 ys[kk].f3.f2.length b5] 58)) := q1.trans ((below_alloc1 _ _).mono q1.size)
    have hcall := HF.out _ _ _ _ ((wr.alloc (.cells #[.string xs[kk].f0, .slice A1 xs[kk].f1.length a1, .slice A2 xs[kk].f2.length a2, .int .i64 xs[kk].f3.f0, .string xs[kk].f3.f1, .slice A5 xs[kk].f3.f2.length a5] 58)).alloc (.cells #[.string ys[kk].f0, .slice B1 ys[kk].f1.length b1, .slice B2 ys[kk].f2.length b2, .int .i64 ys[kk].f3.f0, .string ys[kk].f3.f1, .slice B5 ys[kk].f3.f2.length b5] 58)) (List.getElem_mem hlt) (List.getElem_mem hlt2) ((k58).K_below q2 hK) ((k58).K_below q2a hK2) (FW.out.trans (q2.mono FW.out.size))
    have Q2 := Aside0.mk q2
    have X1 : xs[kk]? = some xs[kk] := List.getElem?_eq_getElem hlt
    have X2 : ys[kk]? = some ys[kk] := List.getElem?_eq_getElem hlt2
    have HX1 := Lib.hid X1
    have HX2 := Lib.hid X2
    clear hK hK2 q1 q2 q2a X1 X2
    cases hp : p xs[kk] ys[kk] with
    | true =>
     rw [hp] at hcall
     have HP := Lib.hid hp
     clear hp
     go_wp2_with (go_at_fn g; refine hcall.mono ?_; rintro e w' ⟨rfl, hb'⟩)
     go_roundg (xs.length - (kk + 1))
     case measure => omega
     case rel => exact ⟨kk + 1, by omega, by omega, by go_num, ⟨fun j x y hj hx hy => by
      rcases Nat.lt_or_ge j kk with h | h
      ·exact IW.out j x y h hx hy
      ·obtain rfl : j = kk := by omega
       rw [HX1.out] at hx; rw [HX2.out] at hy
       cases hx; cases hy; exact HP.out⟩, ⟨FW.out.trans ((Q2.out.trans (hb'.mono Q2.out.size)).mono FW.out.size)⟩⟩
    | false =>
     rw [hp] at hcall
     have HP := Lib.hid hp
     clear hp
     go_wp2_with (go_at_fn g; refine hcall.mono ?_; rintro e w' ⟨rfl, hb'⟩)
     go_ret
     exact ⟨retb (eqL_false HX1.out HX2.out HP.out).symm, FW.out.trans ((Q2.out.trans (hb'.mono Q2.out.size)).mono FW.out.size)⟩
   ·have hltz : ¬ (kk : Int) < (xs.length : Int) := by omega
    have : kk = xs.length := by omega
    subst this
    go_wp2
    go_ret
    exact ⟨retb (eqL_true HL.out IW.out).symm, FW.out⟩
 ·have hl1 : ((xs.length : Int) != (ys.length : Int)) = true := by simp only [bne_iff_ne, ne_eq]; omega
  have HL := Lib.hid hl
  clear hl
  go_enter Try.func83, Try.ntmps83
  go_wp2
  go_ret
  exact ⟨retb (eqL_len HL.out).symm, Below.refl _ _⟩
set_option maxRecDepth 100000 in
set_option maxHeartbeats 4000000 in
theorem c_Same11 (x y : Ca) (cs ds : List Value) (w : World) (hK : k99.K w x cs) (hK2 : k99.K w y ds) (hz1 : szE x.f2 < 1000000) (hz2 : szE y.f2 < 1000000) :
  Calls Try.prog 86 #[.agg cs.toArray, .agg ds.toArray] w fun en w' => en = .returned (.bool (sameC x y)) ∧ Below w.heap.size w w' := by
 obtain ⟨A1, c1, A4, c4, rfl, l1, g1, l4, g4⟩ := k99_open hK
 obtain ⟨B1, d1, B4, d4, rfl, m1, j1, m4, j4⟩ := k99_open hK2
 obtain ⟨W1, hW1⟩ : ∃ W1, (w.alloc (.cells #[.string x.f0, .slice A1 x.f1.length c1, .int .i64 x.f2.f0, .string x.f2.f1, .slice A4 x.f2.f2.length c4] 99)).alloc (.cells #[.string y.f0, .slice B1 y.f1.length d1, .int .i64 y.f2.f0, .string y.f2.f1, .slice B4 y.f2.f2.length d4] 99) = W1 := ⟨_, rfl⟩
 have Q := Aside0.mk (show Below w.heap.size w W1 by rw [← hW1]; exact below_alloc2 _ _ _)
 have B := Aside0.mk (show W1.heap[w.heap.size]? = some (.cells #[.string x.f0, .slice A1 x.f1.length c1, .int .i64 x.f2.f0, .string x.f2.f1, .slice A4 x.f2.f2.length c4] 99 (0, 0)) by rw [← hW1]; exact blk_alloc (alloc_at _ _) _)
 have B2 := Aside0.mk (show W1.heap[w.heap.size + 1]? = some (.cells #[.string y.f0, .slice B1 y.f1.length d1, .int .i64 y.f2.f0, .string y.f2.f1, .slice B4 y.f2.f2.length d4] 99 (0, 0)) by rw [← hW1]; have := alloc_at (w.alloc (.cells #[.string x.f0, .slice A1 x.f1.length c1, .int .i64 x.f2.f0, .string x.f2.f1, .slice A4 x.f2.f2.length c4] 99)) (.cells #[.string y.f0, .slice B1 y.f1.length d1, .int .i64 y.f2.f0, .string y.f2.f1, .slice B4 y.f2.f2.length d4] 99); rw [World.size_alloc] at this; exact this)
 have HL := Lib.hid (fun W (h : Below w.heap.size w W) => c_EqS A1 B1 c1 d1 x.f1 y.f1 W (Kd.C_below g1 h) l1 (Kd.C_below j1 h) m1)
 have HE := Lib.hid (fun W (h : Below w.heap.size w W) => c_SameExpr x.f2 y.f2 A4 B4 c4 d4 W (Kd.C_below g4 h) l4 (Kd.C_below j4 h) m4 hz1 hz2)
 have HW1 := Lib.hid hW1
 clear hK hK2 g1 g4 j1 j4 hW1
 have k0 := (blk_cell B.out 0).trans rfl
 have l0 := (blk_cell B2.out 0).trans rfl
 by_cases hn : x.f0 = y.f0
 case neg =>
  have t1 : (x.f0.toList == y.f0.toList) = false := by rw [sEq]; simpa using hn
  have HN := Lib.hid (decide_eq_false hn)
  clear hn
  go_enter Try.func86, Try.ntmps86
  go_wp2_with fail
  rw [HW1.out]
  go_wp2
  go_ret
  exact ⟨retb (by simp only [sameC, HN.out, Bool.false_and]), Q.out⟩
 have t1 : (x.f0.toList == y.f0.toList) = true := by rw [sEq]; simpa using hn
 have HN := Lib.hid (decide_eq_true hn)
 clear hn
 have k1 := (blk_cell B.out 1).trans rfl
 have l1' := (blk_cell B2.out 1).trans rfl
 have HC1 := Lib.hid (HL.out _ Q.out)
 cases t2 : decide (x.f1 = y.f1) with
 | false =>
  rw [t2] at HC1
  have HT := Lib.hid t2
  clear t2
  go_enter Try.func86, Try.ntmps86
  go_wp2_with fail
  rw [HW1.out]
  go_wp2_with fail
  refine HC1.out.mono ?_
  rintro en w2 ⟨rfl, hb⟩
  go_wp2
  go_ret
  exact ⟨retb (by simp only [sameC, HT.out, Bool.false_and, Bool.and_false]), Q.out.trans (hb.mono Q.out.size)⟩
 | true =>
  rw [t2] at HC1
  have HT := Lib.hid t2
  clear t2
  go_enter Try.func86, Try.ntmps86
  go_wp2_with fail
  rw [HW1.out]
  go_wp2_with fail
  refine HC1.out.mono ?_
  rintro en w2 ⟨rfl, hb⟩
  have B := Aside0.mk (blk_below B.out hb)
  have B2 := Aside0.mk (blk_below B2.out hb)
  have Q := Aside0.mk (Q.out.trans (hb.mono Q.out.size))
  clear hb k0 l0 k1 l1' HC1
  have k2 := (blk_cell B.out 2).trans rfl
  have k3 := (blk_cell B.out 3).trans rfl
  have k4 := (blk_cell B.out 4).trans rfl
  have l2 := (blk_cell B2.out 2).trans rfl
  have l3 := (blk_cell B2.out 3).trans rfl
  have l4 := (blk_cell B2.out 4).trans rfl
  have HC2 := Lib.hid (HE.out _ Q.out)
  go_wp2_with fail
  refine HC2.out.mono ?_
  rintro en w3 ⟨rfl, hb⟩
  go_wp2
  go_ret
  exact ⟨retb (by simp only [sameC, HT.out, HN.out, Bool.true_and]), Q.out.trans (hb.mono Q.out.size)⟩
end Go.Proofs.Ytacefdkfbpgedaa.Mine
namespace Go.Proofs.Ytacefdkfbpgedaa.Mine
open Go.Proofs.Ytacefdkfbpgedaa.PProgExprs
open Go.RowKit Go.Shelf Go.Proofs.YtacefdkfbpgedaaW.PrintWords Go.Proofs.YtacefdkfbpgedaaW.PrintLast Go.Proofs.YtacefdkfbpgedaaW.PrintMore
set_option linter.unusedVariables false
set_option linter.unusedSimpArgs false
set_option maxRecDepth 100000 in
set_option maxHeartbeats 4000000 in
theorem c_Same1 (d y : De) (cs ds : List Value) (w : World) (hK : k58.K w d cs) (hK2 : k58.K w y ds) (hx : szE d.f3 < 1000000) (hy : szE y.f3 < 1000000) (hxc : ∀ c ∈ d.f2, szE c.f2 < 1000000) (hyc : ∀ c ∈ y.f2, szE c.f2 < 1000000) :
  Calls Try.prog 84 #[.agg cs.toArray, .agg ds.toArray] w fun en w' => en = .returned (.bool (sameD d y)) ∧ Below w.heap.size w w' := by
 obtain ⟨A1, c1, A2, c2, A5, c5, rfl, l1, g1, l2, g2, l5, g5⟩ := k58_open hK
 obtain ⟨B1, d1, B2, d2, B5, d5, rfl, m1, j1, m2, j2, m5, j5⟩ := k58_open hK2
 obtain ⟨W1, hW1⟩ : ∃ W1, (w.alloc (.cells #[.string d.f0, .slice A1 d.f1.length c1, .slice A2 d.f2.length c2, .int .i64 d.f3.f0, .string d.f3.f1, .slice A5 d.f3.f2.length c5] 58)).alloc (.cells #[.string y.f0, .slice B1 y.f1.length d1, .slice B2 y.f2.length d2, .int .i64 y.f3.f0, .string y.f3.f1, .slice B5 y.f3.f2.length d5] 58) = W1 := ⟨_, rfl⟩
 have Q := Aside0.mk (show Below w.heap.size w W1 by rw [← hW1]; exact below_alloc2 _ _ _)
 have HBx := Aside0.mk (show W1.heap[w.heap.size]? = some (.cells #[.string d.f0, .slice A1 d.f1.length c1, .slice A2 d.f2.length c2, .int .i64 d.f3.f0, .string d.f3.f1, .slice A5 d.f3.f2.length c5] 58 (0, 0)) by rw [← hW1]; exact blk_alloc (alloc_at _ _) _)
 have HBy := Aside0.mk (show W1.heap[w.heap.size + 1]? = some (.cells #[.string y.f0, .slice B1 y.f1.length d1, .slice B2 y.f2.length d2, .int .i64 y.f3.f0, .string y.f3.f1, .slice B5 y.f3.f2.length d5] 58 (0, 0)) by rw [← hW1]; have := alloc_at (w.alloc (.cells #[.string d.f0, .slice A1 d.f1.length c1, .slice A2 d.f2.length c2, .int .i64 d.f3.f0, .string d.f3.f1, .slice A5 d.f3.f2.length c5] 58)) (.cells #[.string y.f0, .slice B1 y.f1.length d1, .slice B2 y.f2.length d2, .int .i64 y.f3.f0, .string y.f3.f1, .slice B5 y.f3.f2.length d5] 58); rw [World.size_alloc] at this; exact this)
 have HC := Lib.hid (fun W (h : Below w.heap.size w W) => eqfC A2 B2 c2 d2 d.f2 y.f2 W l2 m2 (Kd.C_below g2 h) (Kd.C_below j2 h) 86 #[] (enters_of Try.func86 (by kernel_rfl) rfl) sameC (fun a b cs ds W' ha hb hKa hKb _ => by simpa using c_Same11 a b cs ds W' hKa hKb (hxc a ha) (hyc b hb)))
 have HL := Lib.hid (fun W (h : Below w.heap.size w W) => c_EqS A1 B1 c1 d1 d.f1 y.f1 W (Kd.C_below g1 h) l1 (Kd.C_below j1 h) m1)
 have HE := Lib.hid (fun W (h : Below w.heap.size w W) => c_SameExpr d.f3 y.f3 A5 B5 c5 d5 W (Kd.C_below g5 h) l5 (Kd.C_below j5 h) m5 hx hy)
 have HW1 := Lib.hid hW1
 clear hK hK2 g1 g2 g5 j1 j2 j5 hW1
 have k2 := (blk_cell HBx.out 2).trans rfl
 have n2 := (blk_cell HBy.out 2).trans rfl
 obtain ⟨bc, hbc⟩ : ∃ bc, eqL sameC d.f2 y.f2 = bc := ⟨_, rfl⟩
 have HBc := Lib.hid hbc
 have HC1 := Lib.hid (HC.out _ Q.out)
 rw [hbc] at HC1
 clear hbc HC
 by_cases hn : d.f0 = y.f0
 case neg =>
  have t1 : (d.f0.toList == y.f0.toList) = false := by rw [sEq]; simpa using hn
  have HN := Lib.hid (decide_eq_false hn)
  clear hn
  go_enter Try.func84, Try.ntmps84
  go_wp2_with fail
  rw [HW1.out]
  go_wp2_with fail
  refine HC1.out.mono ?_
  rintro en w2 ⟨rfl, hb⟩
  have HBx := Aside0.mk (blk_below HBx.out hb)
  have HBy := Aside0.mk (blk_below HBy.out hb)
  have Q := Aside0.mk (Q.out.trans ((hb).mono Q.out.size))
  clear hb
  clear k2 n2
  have k0 := (blk_cell HBx.out 0).trans rfl
  have n0 := (blk_cell HBy.out 0).trans rfl
  go_wp2
  go_ret
  exact ⟨retb (by simp only [sameD, HN.out, Bool.false_and]), Q.out⟩
 have t1 : (d.f0.toList == y.f0.toList) = true := by rw [sEq]; simpa using hn
 have HN := Lib.hid (decide_eq_true hn)
 clear hn
 cases t2 : decide (d.f1 = y.f1) with
 | false =>
  have HT := Lib.hid t2
  go_enter Try.func84, Try.ntmps84
  go_wp2_with fail
  rw [HW1.out]
  go_wp2_with fail
  refine HC1.out.mono ?_
  rintro en w2 ⟨rfl, hb⟩
  have HBx := Aside0.mk (blk_below HBx.out hb)
  have HBy := Aside0.mk (blk_below HBy.out hb)
  have Q := Aside0.mk (Q.out.trans ((hb).mono Q.out.size))
  clear hb
  clear k2 n2
  have k0 := (blk_cell HBx.out 0).trans rfl
  have n0 := (blk_cell HBy.out 0).trans rfl
  have k1 := (blk_cell HBx.out 1).trans rfl
  have n1 := (blk_cell HBy.out 1).trans rfl
  have HC2 := Lib.hid (HL.out _ Q.out)
  rw [t2] at HC2
  clear t2
  go_wp2_with fail
  refine HC2.out.mono ?_
  rintro en w3 ⟨rfl, hb⟩
  go_wp2
  go_ret
  exact ⟨retb (by simp only [sameD, HT.out, Bool.false_and, Bool.and_false]), Q.out.trans (hb.mono Q.out.size)⟩
 | true =>
  have HT := Lib.hid t2
  cases bc with
  | false =>
   go_enter Try.func84, Try.ntmps84
   go_wp2_with fail
   rw [HW1.out]
   go_wp2_with fail
   refine HC1.out.mono ?_
   rintro en w2 ⟨rfl, hb⟩
   have HBx := Aside0.mk (blk_below HBx.out hb)
   have HBy := Aside0.mk (blk_below HBy.out hb)
   have Q := Aside0.mk (Q.out.trans ((hb).mono Q.out.size))
   clear hb
   clear k2 n2
   have k0 := (blk_cell HBx.out 0).trans rfl
   have n0 := (blk_cell HBy.out 0).trans rfl
   have k1 := (blk_cell HBx.out 1).trans rfl
   have n1 := (blk_cell HBy.out 1).trans rfl
   have HC2 := Lib.hid (HL.out _ Q.out)
   rw [t2] at HC2
   clear t2
   go_wp2_with fail
   refine HC2.out.mono ?_
   rintro en w3 ⟨rfl, hb⟩
   go_wp2
   go_ret
   exact ⟨retb (by simp only [sameD, HBc.out, Bool.and_false]), Q.out.trans (hb.mono Q.out.size)⟩
  | true =>
   go_enter Try.func84, Try.ntmps84
   go_wp2_with fail
   rw [HW1.out]
   go_wp2_with fail
   refine HC1.out.mono ?_
   rintro en w2 ⟨rfl, hb⟩
   have HBx := Aside0.mk (blk_below HBx.out hb)
   have HBy := Aside0.mk (blk_below HBy.out hb)
   have Q := Aside0.mk (Q.out.trans ((hb).mono Q.out.size))
   clear hb
   clear k2 n2
   have k0 := (blk_cell HBx.out 0).trans rfl
   have n0 := (blk_cell HBy.out 0).trans rfl
   have k1 := (blk_cell HBx.out 1).trans rfl
   have n1 := (blk_cell HBy.out 1).trans rfl
   have HC2 := Lib.hid (HL.out _ Q.out)
   rw [t2] at HC2
   clear t2
   go_wp2_with fail
   refine HC2.out.mono ?_
   rintro en w3 ⟨rfl, hb⟩
   have HBx := Aside0.mk (blk_below HBx.out hb)
   have HBy := Aside0.mk (blk_below HBy.out hb)
   have Q := Aside0.mk (Q.out.trans ((hb).mono Q.out.size))
   clear hb
   clear k0 n0 k1 n1
   have k3 := (blk_cell HBx.out 3).trans rfl
   have n3 := (blk_cell HBy.out 3).trans rfl
   have k4 := (blk_cell HBx.out 4).trans rfl
   have n4 := (blk_cell HBy.out 4).trans rfl
   have k5 := (blk_cell HBx.out 5).trans rfl
   have n5 := (blk_cell HBy.out 5).trans rfl
   have HC3 := Lib.hid (HE.out _ Q.out)
   go_wp2_with fail
   refine HC3.out.mono ?_
   rintro en w4 ⟨rfl, hb⟩
   go_wp2
   go_ret
   exact ⟨retb (by simp only [sameD, HN.out, HT.out, HBc.out, Bool.true_and, Bool.and_true]), Q.out.trans (hb.mono Q.out.size)⟩
set_option maxRecDepth 100000 in
set_option maxHeartbeats 4000000 in
theorem c_Same (xs ys : List De) (A B : Option Addr) (c d : Nat) (w : World) (hr : Kd.C k58 w A xs.length xs) (hc : xs.length ≤ c) (hr2 : Kd.C k58 w B ys.length ys) (hd : ys.length ≤ d)
  (hx : ∀ d ∈ xs, szE d.f3 < 1000000 ∧ ∀ c ∈ d.f2, szE c.f2 < 1000000) (hy : ∀ d ∈ ys, szE d.f3 < 1000000 ∧ ∀ c ∈ d.f2, szE c.f2 < 1000000) :
  Calls Try.prog 46 #[.agg #[.slice A xs.length c], .agg #[.slice B ys.length d]] w fun en w' => en = .returned (.bool (eqL sameD xs ys)) ∧ Below w.heap.size w w' := by
 obtain ⟨W1, hW1⟩ : ∃ W1, (w.alloc (.cells #[.slice A xs.length c] 53)).alloc (.cells #[.slice B ys.length d] 53) = W1 := ⟨_, rfl⟩
 have Q := Aside0.mk (show Below w.heap.size w W1 by rw [← hW1]; exact below_alloc2 _ _ _)
 have B0 := Aside0.mk (show W1.heap[w.heap.size]? = some (.cells #[.slice A xs.length c] 53 (0, 0)) by rw [← hW1]; exact blk_alloc (alloc_at _ _) _)
 have B1 := Aside0.mk (show W1.heap[w.heap.size + 1]? = some (.cells #[.slice B ys.length d] 53 (0, 0)) by rw [← hW1]; have := alloc_at (w.alloc (.cells #[.slice A xs.length c] 53)) (.cells #[.slice B ys.length d] 53); rw [World.size_alloc] at this; exact this)
 have HC := Lib.hid (eqfD A B c d xs ys W1 hc hd (Kd.C_below hr Q.out) (Kd.C_below hr2 Q.out) 84 #[] (enters_of Try.func84 (by kernel_rfl) rfl) sameD (fun a b cs ds W' ha hb hKa hKb _ => by simpa using c_Same1 a b cs ds W' hKa hKb (hx a ha).1 (hy b hb).1 (hx a ha).2 (hy b hb).2))
 have HW1 := Lib.hid hW1
 clear hr hr2 hW1
 have k0 := (blk_cell B0.out 0).trans rfl
 have k1 := (blk_cell B1.out 0).trans rfl
 go_enter Try.func46, Try.ntmps46
 go_wp2_with fail
 rw [HW1.out]
 go_wp2_with fail
 refine HC.out.mono ?_
 rintro en w2 ⟨rfl, hb⟩
 go_wp2
 go_ret
 exact ⟨rfl, Q.out.trans (hb.mono Q.out.size)⟩
end Go.Proofs.Ytacefdkfbpgedaa.Mine
