/- Walks of the program's functions and what they compute: contracts of calls; no condition beyond those that each theorem names. -/
import Derived.Test.YtbnknhpebkcpmaaGreatDoorKc
/- What does not name more constants does not see them. -/
set_option linter.unusedVariables false
set_option linter.unusedSimpArgs false
namespace Sp
open Go
mutual
def Term.nm (N : Int) : Term → Prop
  | .mk k n _ _ ks => (k = 3 → n < N) ∧ Term.nms N ks
def Term.nms (N : Int) : List Term → Prop
  | [] => True
  | t :: ts => t.nm N ∧ Term.nms N ts
end
theorem nms_iff {N : Int} : ∀ {ts : List Term}, Term.nms N ts ↔ ∀ t ∈ ts, t.nm N
  | [] => by simp [Term.nms]
  | t :: ts => by simp [Term.nms, nms_iff (ts := ts)]
theorem nm_iff {N : Int} {t : Term} : t.nm N ↔ (t.kind = 3 → t.num < N) ∧ ∀ k ∈ t.kids, k.nm N := by
  cases t with
  | mk k n a ls ks => simp [Term.nm, nms_iff, Term.kids, Term.kind, Term.num]
theorem T0_nm {N : Int} : T0.nm N := nm_iff.2 ⟨fun h => by simp [T0, Term.kind] at h, fun k hk => by simp [T0, Term.kids] at hk⟩
theorem Term.nm.mem {N : Int} {t k : Term} (h : t.nm N) (hk : k ∈ t.kids) : k.nm N := (nm_iff.1 h).2 k hk
theorem kid_nm {N : Int} {t : Term} (h : t.nm N) (k : Int) : (kid t k).nm N := by
  unfold kid; split
  · exact T0_nm
  · exact h.mem (getD_mem (by omega))
theorem mk_nm {N k n a : Int} {ls : List Level} {ks : List Term} (hk : ¬ k = 3) (h : ∀ t ∈ ks, t.nm N) : (Term.mk k n a ls ks).nm N := nm_iff.2 ⟨fun e => absurd e hk, h⟩
mutual
theorem walkM_nm {N : Int} {g : Int → Term → Term} {dn : Int → Term → Bool} (hg : ∀ b t, t.nm N → (g b t).nm N) : ∀ (t : Term) (b : Int), t.nm N → (walkM g dn b t).nm N
  | .mk k n a ls ks, b, h => by
    rw [walkM]
    have h1 := hg b _ h
    cases dn b (.mk k n a ls ks) with
    | true => exact h1
    | false =>
      rw [cond_false]
      exact nm_iff.2 ⟨(nm_iff.1 h1).1, walkMs_nm hg ks b k 0 (nm_iff.1 h).2⟩
theorem walkMs_nm {N : Int} {g : Int → Term → Term} {dn : Int → Term → Bool} (hg : ∀ b t, t.nm N → (g b t).nm N) : ∀ (ts : List Term) (b k : Int) (i : Nat), (∀ t ∈ ts, t.nm N) → ∀ u ∈ walkMs g dn b k i ts, u.nm N
  | [], b, k, i, h, u, hu => by simp [walkMs] at hu
  | t :: ts, b, k, i, h, u, hu => by
    rw [walkMs] at hu
    rcases List.mem_cons.1 hu with rfl | hu
    · exact walkM_nm hg t _ (h t (by simp))
    · exact walkMs_nm hg ts b k (i + 1) (fun t ht => h t (by simp [ht])) u hu
end
theorem lift_nm {N : Int} {t : Term} (h : t.nm N) (n f : Int) : (lift t n f).nm N :=
  walkM_nm (fun b u hu => by
    unfold liftG; split
    · rename_i h1; exact nm_iff.2 ⟨fun e => by have := h1.1; simp only [Term.kind] at e this; omega, (nm_iff.1 hu).2⟩
    · exact hu) t 0 h
theorem put_nm {N : Int} {t a : Term} (h : t.nm N) (ha : a.nm N) : (put t [a]).nm N :=
  walkM_nm (fun b u hu => by
    cases hh : putHit [a] b u with
    | true => rw [putG_hit hh]; exact lift_nm ha _ _
    | false =>
      rw [putG_num hh]
      split
      · rename_i h1; exact nm_iff.2 ⟨fun e => by have := h1.1; simp only [Term.kind] at e this; omega, (nm_iff.1 hu).2⟩
      · exact hu) t 0 h
theorem levels_nm {N : Int} {t : Term} (h : t.nm N) (ls : List Level) : (levelsM t ls).nm N :=
  walkM_nm (g := levelsG ls) (fun b u hu => nm_iff.2 ⟨fun e => (nm_iff.1 hu).1 e, fun k hk => (nm_iff.1 hu).2 k hk⟩) t 0 h
theorem with_nm {N : Int} {t x : Term} (h : t.nm N) (hx : x.nm N) (a m : Int) : (withM t x a m).nm N := by
  refine nm_iff.2 ⟨(nm_iff.1 h).1, fun k hk => ?_⟩
  obtain ⟨i, _, rfl⟩ := List.mem_map.1 (show k ∈ withKids t x a m.toNat from hk)
  split
  · exact hx
  · exact kid_nm h _
theorem tree_nm {N : Int} {t s : Term} (h : t.nm N) (hs : s.nm N) : (treeM t s).nm N := by
  have c2 : ∀ (k : Int) (a b : Term), ¬ k = 3 → a.nm N → b.nm N → (Term.mk k 0 0 [] [a, b]).nm N := fun k a b hk ha hb => mk_nm hk (fun t ht => by simp at ht; rcases ht with rfl | rfl <;> assumption)
  unfold treeM
  have hv : (Term.mk 1 0 0 [] []).nm N := mk_nm (by omega) (fun t ht => by cases ht)
  refine c2 6 _ _ (by omega) (c2 6 _ _ (by omega) (c2 6 _ _ (by omega) (kid_nm h _) (kid_nm hs _)) (kid_nm hs _)) (c2 5 _ _ (by omega) (put_nm (kid_nm h _) (kid_nm hs _)) (mk_nm (by omega) (fun u hu => ?_)))
  simp only [List.mem_cons, List.not_mem_nil, or_false] at hu
  rcases hu with rfl | rfl | rfl | rfl | rfl
  · exact lift_nm (kid_nm h _) _ _
  · exact lift_nm (kid_nm h _) _ _
  · exact lift_nm (kid_nm h _) _ _
  · exact lift_nm (kid_nm h _) _ _
  · exact c2 6 _ _ (by omega) (lift_nm (kid_nm hs _) _ _) hv
theorem place_nm {N : Int} {t : Term} (h : t.nm N) : (place t).nm N := by
  unfold place; cases (spotM t).2.2 <;> simp only [cond_true, cond_false]
  · exact T0_nm
  · exact kid_nm h _
theorem pad_nm {N : Int} : ∀ (m : Nat) (t : Term), spz t = m → t.nm N → (pad t).nm N := by
  intro m
  induction m using Nat.strongRecOn with
  | _ m ih =>
    intro t hm h
    cases hs : (spotM t).2.2 with
    | false => rw [pad_F hs]; exact h
    | true => rw [pad_T hs]; exact with_nm h (ih _ (by rw [← hm]; exact spz_kid hs) _ rfl (kid_nm h _)) _ _
def CoresN (N : Int) (cs : List Core) : Prop := ∀ c ∈ cs, c.typ.nm N ∧ c.body.nm N
section
variable {cs : List Core} (hc : CoresN cs.length cs) (ds : List Core)
theorem coreAt_wide {num : Int} (ls : List Level) (h : num < cs.length) : coreAtM (cs ++ ds) num ls = coreAtM cs num ls := by
  unfold coreAtM
  by_cases h0 : 0 ≤ num
  · have e : (cs ++ ds).getD num.toNat default = cs.getD num.toNat default := by
      rw [List.getD_eq_getElem?_getD, List.getD_eq_getElem?_getD, List.getElem?_append_left (by omega)]
    rw [e]
    by_cases hl : (cs.getD num.toNat default).levels = ls.length
    · rw [if_pos ⟨h0, by rw [List.length_append]; push_cast; omega, hl⟩, if_pos ⟨h0, h, hl⟩]
    · rw [if_neg (fun e => hl e.2.2), if_neg (fun e => hl e.2.2)]
  · rw [if_neg (fun e => h0 e.1), if_neg (fun e => h0 e.1)]
theorem body_wide {num : Int} (ls : List Level) (h : num < cs.length) : bodyM (cs ++ ds) num ls = bodyM cs num ls := by unfold bodyM; rw [coreAt_wide ds ls h]
theorem type_wide {num : Int} (ls : List Level) (h : num < cs.length) : typeM (cs ++ ds) num ls = typeM cs num ls := by unfold typeM; rw [coreAt_wide ds ls h]
include hc
theorem coreAt_nm (num : Int) (ls : List Level) : (coreAtM cs num ls).1.typ.nm cs.length ∧ (coreAtM cs num ls).1.body.nm cs.length := by
  unfold coreAtM; split
  · exact hc _ (getD_mem (by omega))
  · exact ⟨T0_nm, T0_nm⟩
theorem body_nm (num : Int) (ls : List Level) : (bodyM cs num ls).1.nm cs.length := by
  unfold bodyM; split
  · exact levels_nm (coreAt_nm hc num ls).2 ls
  · exact T0_nm
theorem type_nm (num : Int) (ls : List Level) : (typeM cs num ls).nm cs.length := by
  unfold typeM; split
  · exact levels_nm (coreAt_nm hc num ls).1 ls
  · exact T0_nm
theorem own_wide {t : Term} (h : t.nm cs.length) : ownStep (cs ++ ds) t = ownStep cs t ∧ ∀ u c, ownStep cs t = some (u, c) → u.nm cs.length := by
  unfold ownStep
  have hp := place_nm h
  by_cases k6 : t.kind = 6
  · simp only [if_pos k6]
    refine ⟨by first | rfl | trivial, fun u c e => ?_⟩
    split at e
    · cases e; exact put_nm (kid_nm hp _) (kid_nm h _)
    · cases e
  simp only [if_neg k6]
  by_cases k14 : t.kind = 14 ∨ t.kind = 15
  · simp only [if_pos k14]
    refine ⟨by first | rfl | trivial, fun u c e => ?_⟩
    split at e
    · cases e; exact kid_nm hp _
    · cases e
  simp only [if_neg k14]
  by_cases k7 : t.kind = 7
  · simp only [if_pos k7]
    refine ⟨by first | rfl | trivial, fun u c e => ?_⟩
    cases e; exact put_nm (kid_nm h _) (kid_nm h _)
  simp only [if_neg k7]
  by_cases k3 : t.kind = 3
  · simp only [if_pos k3]
    rw [body_wide ds _ ((nm_iff.1 h).1 k3)]
    refine ⟨by first | rfl | trivial, fun u c e => ?_⟩
    split at e
    · cases e; exact body_nm hc _ _
    · cases e
  simp only [if_neg k3]
  by_cases k18 : t.kind = 18
  · simp only [if_pos k18]
    refine ⟨by first | rfl | trivial, fun u c e => ?_⟩
    split at e
    · cases e; exact tree_nm h hp
    · cases e
  simp only [if_neg k18]
  by_cases k21 : t.kind = 21
  · simp only [if_pos k21]
    refine ⟨by first | rfl | trivial, fun u c e => ?_⟩
    split at e
    · cases e; exact kid_nm h _
    · cases e
  simp only [if_neg k21]
  by_cases k24 : t.kind = 24
  · simp only [if_pos k24]
    refine ⟨by first | rfl | trivial, fun u c e => ?_⟩
    split at e
    · cases e; exact kid_nm h _
    · cases e
  simp only [if_neg k24]
  exact ⟨by first | rfl | trivial, fun u c e => by cases e⟩
theorem once_wide : ∀ (m : Nat) (t : Term), spz t = m → t.nm cs.length → stepOnce (cs ++ ds) t = stepOnce cs t ∧ ∀ u c, stepOnce cs t = some (u, c) → u.nm cs.length := by
  intro m
  induction m using Nat.strongRecOn with
  | _ m ih =>
    intro t hm h
    cases hs : (spotM t).2.2 with
    | false => rw [once_F hs, once_F hs]; exact own_wide hc ds h
    | true =>
      obtain ⟨i1, i2⟩ := ih _ (by rw [← hm]; exact spz_kid hs) _ rfl (kid_nm h (spotM t).1)
      cases hk : stepOnce cs (kid t (spotM t).1) with
      | some p =>
        obtain ⟨k, d⟩ := p
        rw [once_some hs hk, once_some hs (i1.trans hk)]
        exact ⟨rfl, fun u c e => by cases e; exact with_nm h (i2 k d hk) _ _⟩
      | none =>
        rw [once_none hs hk, once_none hs (i1.trans hk)]
        exact own_wide hc ds (pad_nm _ t rfl h)
theorem multi_wide : ∀ (n : Nat) (t : Term) (F : Int) (dn : Bool), F.toNat = n → t.nm cs.length → multi (cs ++ ds) t F dn = multi cs t F dn ∧ (multi cs t F dn).2.1.nm cs.length := by
  intro n
  induction n using Nat.strongRecOn with
  | _ n ih =>
    intro t F dn hn h
    obtain ⟨o1, o2⟩ := once_wide hc ds _ t rfl h
    cases hs : stepOnce cs t with
    | none => rw [multi_none hs, multi_none (o1.trans hs)]; exact ⟨rfl, pad_nm _ t rfl h⟩
    | some p =>
      obtain ⟨u, c⟩ := p
      by_cases hb : 1 ≤ c ∧ c ≤ F
      · rw [multi_some hs hb, multi_some (o1.trans hs) hb]
        exact ih _ (by omega) u (F - c) true rfl (o2 u c hs)
      · rw [multi_gone hs hb, multi_gone (o1.trans hs) hb]; exact ⟨rfl, T0_nm⟩
theorem whnf_wide {t : Term} (h : t.nm cs.length) (F : Int) : whnfM (cs ++ ds) t F = whnfM cs t F ∧ (whnfM cs t F).1.nm cs.length := by
  unfold whnfM
  rw [(multi_wide hc ds _ t F false rfl h).1]
  refine ⟨rfl, ?_⟩
  split
  · exact T0_nm
  · split
    · exact (multi_wide hc ds _ t F false rfl h).2
    · exact T0_nm
end
theorem all_cong {N : Int} {one one' : Ask} (h : ∀ F p q, p.nm N → q.nm N → one F p q = one' F p q) : ∀ (ps qs : List Term) (F : Int), (∀ t ∈ ps, t.nm N) → (∀ t ∈ qs, t.nm N) → allM one F ps qs = allM one' F ps qs
  | [], qs, F, _, _ => by simp [allM]
  | p :: ps, qs, F, hp, hq => by
    have hh : (qs.headD T0).nm N := by
      cases qs with
      | nil => exact T0_nm
      | cons q qs => exact hq q (by simp)
    simp only [allM]
    rw [h F p _ (hp p (by simp)) hh]
    split
    · rfl
    · rfl
    · exact all_cong h ps qs.tail _ (fun t ht => hp t (by simp [ht])) (fun t ht => hq t (List.mem_of_mem_tail ht))
theorem parts_nm {N : Int} {t : Term} (h : t.nm N) (k : Int) : ∀ u ∈ partsM t k, u.nm N := by
  intro u hu
  unfold partsM at hu
  split at hu
  · split at hu
    · simp at hu; rcases hu with rfl | rfl <;> exact kid_nm h _
    · simp at hu; subst hu; exact kid_nm h _
  · split at hu
    · simp only [halvesM, List.mem_cons, List.not_mem_nil, or_false] at hu
      rcases hu with rfl | rfl <;> exact mk_nm (by omega) (fun u hu => by simp at hu; subst hu; exact h)
    · simp only [appliedM, List.mem_singleton] at hu
      subst hu
      refine mk_nm (by omega) (fun u hu => ?_)
      simp at hu
      rcases hu with rfl | rfl
      · exact lift_nm h _ _
      · exact mk_nm (by omega) (fun u hu => by cases hu)
theorem matters_nm {N : Int} {t : Term} (h : t.nm N) : ∀ u ∈ mattersM t, u.nm N := by
  intro u hu
  unfold mattersM at hu
  split at hu
  · simp at hu; rcases hu with rfl | rfl | rfl <;> exact kid_nm h _
  · split at hu
    · simp at hu; rcases hu with rfl | rfl | rfl <;> exact kid_nm h _
    · exact h.mem hu
theorem heads_cong {N : Int} {one one' : Ask} (h : ∀ F p q, p.nm N → q.nm N → one F p q = one' F p q) (F : Int) {p q : Term} (hp : p.nm N) (hq : q.nm N) : headsM one F p q = headsM one' F p q := by
  unfold headsM
  rw [all_cong h _ _ F (parts_nm hp 5) (parts_nm hq 5), all_cong h _ _ F (parts_nm hp 13) (parts_nm hq 13), all_cong h _ _ F (matters_nm hp) (matters_nm hq)]
section
variable {cs : List Core} (hc : CoresN cs.length cs) (ds : List Core)
include hc
theorem whnf2_wide {p q : Term} (hp : p.nm cs.length) (hq : q.nm cs.length) (F : Int) {k k' : Int → Term → Term → Option (Bool × Int)} (h : ∀ G x y, x.nm cs.length → y.nm cs.length → k G x y = k' G x y) : whnf2 (cs ++ ds) F p q k = whnf2 cs F p q k' := by
  unfold whnf2
  rw [(whnf_wide hc ds hp F).1, (whnf_wide hc ds hq _).1, h _ _ _ (whnf_wide hc ds hp F).2 (whnf_wide hc ds hq _).2]
theorem one_wide : ∀ (n : Nat) (F : Int) (p q : Term), p.nm cs.length → q.nm cs.length → oneM (cs ++ ds) n F p q = oneM cs n F p q
  | 0, F, p, q, hp, hq => rfl
  | n + 1, F, p, q, hp, hq => by
    simp only [oneM]
    split
    · rfl
    · split
      · rfl
      · exact whnf2_wide hc ds hp hq _ (fun G x y hx hy => heads_cong (one_wide n) G hx hy)
theorem most_wide : ∀ (n : Nat) (F : Int) (p q : Term), p.nm cs.length → q.nm cs.length → mostM (cs ++ ds) n F p q = mostM cs n F p q
  | 0, F, p, q, hp, hq => rfl
  | n + 1, F, p, q, hp, hq => by
    simp only [mostM]
    split
    · rfl
    · split
      · rfl
      · refine whnf2_wide hc ds hp hq _ (fun G x y hx hy => ?_)
        unfold mostK
        rw [all_cong (one_wide hc ds n) [kid x 0] [kid y 0] G (fun t ht => by simp at ht; subst ht; exact kid_nm hx _) (fun t ht => by simp at ht; subst ht; exact kid_nm hy _), one_wide hc ds n G x y hx hy]
        split
        · rfl
        · split
          · split
            · rfl
            · rfl
            · exact most_wide n _ _ _ (kid_nm hx _) (kid_nm hy _)
          · rfl
theorem conv_wide {p q : Term} (hp : p.nm cs.length) (hq : q.nm cs.length) (F : Int) : convM (cs ++ ds) F p q = convM cs F p q := by unfold convM; rw [one_wide hc ds _ _ _ _ hp hq]
theorem leq_wide {p q : Term} (hp : p.nm cs.length) (hq : q.nm cs.length) (F : Int) : leqM (cs ++ ds) F p q = leqM cs F p q := by unfold leqM; rw [most_wide hc ds _ _ _ _ hp hq]
end
end Sp

/- What does not name more constants does not see them: infer, cenv. -/
set_option linter.unusedVariables false
set_option linter.unusedSimpArgs false
namespace Sp
open Go
theorem RS.bind_cong {α β : Type} {r r' : RS α} {f f' : α → Int → RS β} (h : r = r') (k : ∀ a F, r' = .ok a F → f a F = f' a F) : r.bind f = r'.bind f' := by
  subst h
  cases r with
  | ok a F => exact k a F rfl
  | er e => rfl
def CtxN (N : Int) (c : List Term) : Prop := ∀ e ∈ c, e.nm N
theorem CtxN.put {N : Int} {c : List Term} {t : Term} (h : CtxN N c) (ht : t.nm N) : CtxN N (c ++ [t]) := fun e he => (List.mem_append.1 he).elim (h e) (fun q => by rw [List.mem_singleton.1 q]; exact ht)
structure Wide (N : Int) (inf inf' : List Term → Term → Int → RS Term) (chk chk' : List Term → Term → Term → Int → RS Unit) : Prop where
  hinf : ∀ c t F, CtxN N c → t.nm N → inf' c t F = inf c t F
  hnm : ∀ c t F x G, CtxN N c → t.nm N → inf c t F = .ok x G → x.nm N
  hchk : ∀ c t ty F, CtxN N c → t.nm N → ty.nm N → chk' c t ty F = chk c t ty F
theorem un_nm {N : Int} (l : Level) : (un l).nm N := mk_nm (by omega) (fun t ht => by cases ht)
theorem two_nm {N k : Int} {x y : Term} (hk : ¬ k = 3) (hx : x.nm N) (hy : y.nm N) : (ofT k [x, y]).nm N := mk_nm hk (fun u hu => by simp at hu; rcases hu with rfl | rfl <;> assumption)
theorem leaf_nm {N k n a : Int} (hk : ¬ k = 3) : (Term.mk k n a [] []).nm N := mk_nm hk (fun t ht => by cases ht)
theorem stepTy_nm {N : Int} {a b p : Term} (ha : a.nm N) (hb : b.nm N) (hp : p.nm N) : (stepTy a b p).nm N := by
  unfold stepTy
  exact two_nm (by omega) ha (two_nm (by omega) (two_nm (by omega) hb (two_nm (by omega) (lift_nm ha _ _) (lift_nm hb _ _))) (two_nm (by omega) (two_nm (by omega) (lift_nm hb _ _) (two_nm (by omega) (lift_nm hp _ _) (two_nm (by omega) (leaf_nm (by omega)) (leaf_nm (by omega))))) (two_nm (by omega) (lift_nm hp _ _) (two_nm (by omega) (leaf_nm (by omega)) (leaf_nm (by omega))))))
theorem three_nm {N k : Int} {x y z : Term} (hk : ¬ k = 3) (hx : x.nm N) (hy : y.nm N) (hz : z.nm N) : (ofT k [x, y, z]).nm N := mk_nm hk (fun u hu => by simp at hu; rcases hu with rfl | rfl | rfl <;> assumption)
theorem putI_nm {N : Int} {t a x : Term} {F G : Int} (ht : t.nm N) (ha : a.nm N) (h : putI t a F = .ok x G) : x.nm N := by
  unfold putI at h
  obtain ⟨_, _, _, h⟩ := RS.bind_inv h
  cases h; exact put_nm ht ha
section
variable {cs : List Core} (hc : CoresN cs.length cs) (ds : List Core)
include hc
theorem headI_wide {t : Term} (h : t.nm cs.length) (F : Int) : headI (cs ++ ds) t F = headI cs t F := by unfold headI; rw [(whnf_wide hc ds h F).1]
theorem headI_nm {t x : Term} (h : t.nm cs.length) {F G : Int} (e : headI cs t F = .ok x G) : x.nm cs.length := by
  obtain ⟨_, rfl, _⟩ := headI_ok e
  exact (whnf_wide hc [] h F).2
theorem asI_wide {t : Term} (h : t.nm cs.length) (k e F : Int) : asI (cs ++ ds) t k e F = asI cs t k e F := by unfold asI; rw [headI_wide hc ds h]
theorem asI_nm {t : Term} {ab : Term × Term} (h : t.nm cs.length) {k e F G : Int} (q : asI cs t k e F = .ok ab G) : ab.1.nm cs.length ∧ ab.2.nm cs.length := by
  unfold asI at q
  obtain ⟨x, _, h1, q⟩ := RS.bind_inv q
  have := headI_nm hc h h1
  split at q
  · cases q; exact ⟨kid_nm this _, kid_nm this _⟩
  · cases q
theorem oneI_wide {p q : Term} (hp : p.nm cs.length) (hq : q.nm cs.length) (e F : Int) : oneI (cs ++ ds) p q e F = oneI cs p q e F := by unfold oneI; rw [conv_wide hc ds hp hq]
theorem levelI_wide {t : Term} (h : t.nm cs.length) (F : Int) : levelI (cs ++ ds) t F = levelI cs t F := by unfold levelI; rw [headI_wide hc ds h]
variable {inf inf' : List Term → Term → Int → RS Term} {chk chk' : List Term → Term → Term → Int → RS Unit} (K : Wide cs.length inf inf' chk chk')
include K
theorem sortI_wide {c : List Term} {t : Term} (h : CtxN cs.length c) (ht : t.nm cs.length) (F : Int) : sortI (cs ++ ds) inf' c t F = sortI cs inf c t F :=
  RS.bind_cong (K.hinf c t F h ht) (fun x G e => levelI_wide hc ds (K.hnm c t F x G h ht e) G)
theorem motivI_wide {c : List Term} {p t : Term} (h : CtxN cs.length c) (hp : p.nm cs.length) (ht : t.nm cs.length) (F : Int) : motivI (cs ++ ds) inf' c p t F = motivI cs inf c p t F := by
  refine RS.bind_cong (K.hinf c p F h hp) (fun x G e => ?_)
  have hx := K.hnm c p F x G h hp e
  refine RS.bind_cong (asI_wide hc ds hx _ _ _) (fun ab G2 e2 => ?_)
  obtain ⟨ha, hb⟩ := asI_nm hc hx e2
  exact RS.bind_cong (oneI_wide hc ds ha ht _ _) (fun _ _ _ => RS.bind_cong (levelI_wide hc ds hb _) (fun _ _ _ => rfl))
theorem lettI_wide {c : List Term} {t : Term} (h : CtxN cs.length c) (ht : t.nm cs.length) (F : Int) : lettI (cs ++ ds) inf' chk' c t F = lettI cs inf chk c t F :=
  RS.bind_cong (sortI_wide hc ds K h (kid_nm ht _) F) (fun _ _ _ => RS.bind_cong (K.hchk c _ _ _ h (kid_nm ht _) (kid_nm ht _)) (fun _ _ _ => rfl))
omit hc K in
theorem lettI_nm {c : List Term} {t x : Term} (ht : t.nm cs.length) {F G : Int} (e : lettI cs inf chk c t F = .ok x G) : x.nm cs.length := by
  unfold lettI at e
  obtain ⟨_, _, _, e⟩ := RS.bind_inv e
  obtain ⟨_, _, _, e⟩ := RS.bind_inv e
  exact putI_nm (kid_nm ht _) (kid_nm ht _) e
omit hc in
theorem casesI_wide {c : List Term} {p : Term} {a : Int} (h : CtxN cs.length c) (hp : p.nm cs.length) : ∀ (bs : List Term) (k F : Int), (∀ b ∈ bs, b.nm cs.length) → casesI chk' c p a k bs F = casesI chk c p a k bs F
  | [], k, F, _ => rfl
  | b :: bs, k, F, hb => by
    simp only [casesI]
    exact RS.bind_cong (K.hchk c _ _ _ h (hb b (by simp)) (two_nm (by omega) hp (leaf_nm (by omega)))) (fun _ _ _ => casesI_wide h hp bs _ _ (fun x hx => hb x (by simp [hx])))
theorem ruleI_wide (nl : Int) {c : List Term} {t : Term} (h : CtxN cs.length c) (ht : t.nm cs.length) (F : Int) :
    ruleI (cs ++ ds) nl inf' chk' c t F = ruleI cs nl inf chk c t F ∧ ∀ x G, ruleI cs nl inf chk c t F = .ok x G → x.nm cs.length := by
  unfold ruleI
  have kd := fun i => kid_nm ht i
  by_cases k1 : t.kind = 1
  · simp only [if_pos k1]
    refine ⟨by first | rfl | trivial, fun x G e => ?_⟩
    cases e
    refine lift_nm ?_ _ _
    by_cases hl : ((c.length : Int) - 1 - t.num).toNat < c.length
    · exact h _ (getD_mem hl)
    · rw [List.getD_eq_getElem?_getD, List.getElem?_eq_none (by omega)]; exact mk_nm (by decide) (fun u hu => by cases hu)
  simp only [if_neg k1]
  by_cases k2 : t.kind = 2
  · simp only [if_pos k2]
    refine ⟨by first | rfl | trivial, fun x G e => ?_⟩
    split at e
    · cases e; exact un_nm _
    · cases e
  simp only [if_neg k2]
  by_cases k3 : t.kind = 3
  · simp only [if_pos k3]
    rw [type_wide ds _ ((nm_iff.1 ht).1 k3)]
    refine ⟨rfl, fun x G e => ?_⟩
    cases e; exact type_nm hc _ _
  simp only [if_neg k3]
  by_cases k4 : t.kind = 4 ∨ t.kind = 12 ∨ t.kind = 16
  · simp only [if_pos k4]
    refine ⟨RS.bind_cong (sortI_wide hc ds K h (kd 0) F) (fun _ _ _ => RS.bind_cong (sortI_wide hc ds K (h.put (kd 0)) (kd 1) _) (fun _ _ _ => rfl)), fun x G e => ?_⟩
    unfold formerI at e
    obtain ⟨_, _, _, e⟩ := RS.bind_inv e
    obtain ⟨_, _, _, e⟩ := RS.bind_inv e
    cases e; exact un_nm _
  simp only [if_neg k4]
  by_cases k5 : t.kind = 5
  · simp only [if_pos k5]
    refine ⟨RS.bind_cong (sortI_wide hc ds K h (kd 0) F) (fun _ _ _ => RS.bind_cong (K.hinf _ _ _ (h.put (kd 0)) (kd 1)) (fun _ _ _ => rfl)), fun x G e => ?_⟩
    unfold lamI at e
    obtain ⟨_, _, _, e⟩ := RS.bind_inv e
    obtain ⟨_, _, e2, e⟩ := RS.bind_inv e
    cases e; exact two_nm (by omega) (kd 0) (K.hnm _ _ _ _ _ (h.put (kd 0)) (kd 1) e2)
  simp only [if_neg k5]
  by_cases k6 : t.kind = 6
  · simp only [if_pos k6]
    constructor
    · refine RS.bind_cong (K.hinf _ _ _ h (kd 0)) (fun x G e => ?_)
      have hx := K.hnm _ _ _ _ _ h (kd 0) e
      refine RS.bind_cong (asI_wide hc ds hx _ _ _) (fun ab G2 e2 => ?_)
      exact RS.bind_cong (K.hchk _ _ _ _ h (kd 1) (asI_nm hc hx e2).1) (fun _ _ _ => rfl)
    · intro x G e
      unfold appI at e
      obtain ⟨_, _, e1, e⟩ := RS.bind_inv e
      obtain ⟨_, _, e2, e⟩ := RS.bind_inv e
      obtain ⟨_, _, _, e⟩ := RS.bind_inv e
      exact putI_nm (asI_nm hc (K.hnm _ _ _ _ _ h (kd 0) e1) e2).2 (kd 1) e
  simp only [if_neg k6]
  by_cases k7 : t.kind = 7
  · simp only [if_pos k7]
    constructor
    · exact RS.bind_cong (lettI_wide hc ds K h ht F) (fun x G e => K.hinf _ _ _ h (lettI_nm ht e))
    · intro x G e
      obtain ⟨_, _, e1, e⟩ := RS.bind_inv e
      exact K.hnm _ _ _ _ _ h (lettI_nm ht e1) e
  simp only [if_neg k7]
  by_cases k14 : t.kind = 14 ∨ t.kind = 15
  · simp only [if_pos k14]
    constructor
    · refine RS.bind_cong (K.hinf _ _ _ h (kd 0)) (fun x G e => ?_)
      exact RS.bind_cong (asI_wide hc ds (K.hnm _ _ _ _ _ h (kd 0) e) _ _ _) (fun _ _ _ => rfl)
    · intro x G e
      unfold halfI at e
      obtain ⟨_, _, e1, e⟩ := RS.bind_inv e
      obtain ⟨_, _, e2, e⟩ := RS.bind_inv e
      obtain ⟨ha, hb⟩ := asI_nm hc (K.hnm _ _ _ _ _ h (kd 0) e1) e2
      split at e
      · cases e; exact ha
      · exact putI_nm hb (mk_nm (by omega) (fun u hu => by simp at hu; subst hu; exact kd 0)) e
  simp only [if_neg k14]
  by_cases k18 : t.kind = 18
  · simp only [if_pos k18]
    constructor
    · exact RS.bind_cong (sortI_wide hc ds K h (kd 0) F) (fun _ _ _ => RS.bind_cong (sortI_wide hc ds K (h.put (kd 0)) (kd 1) _) (fun _ _ _ =>
        RS.bind_cong (K.hchk _ _ _ _ h (kd 4) (two_nm (by omega) (kd 0) (kd 1))) (fun _ _ _ => RS.bind_cong (motivI_wide hc ds K h (kd 2) (two_nm (by omega) (kd 0) (kd 1)) _) (fun _ _ _ =>
          RS.bind_cong (K.hchk _ _ _ _ h (kd 3) (stepTy_nm (kd 0) (kd 1) (kd 2))) (fun _ _ _ => rfl)))))
    · intro x G e
      unfold recI at e
      obtain ⟨_, _, _, e⟩ := RS.bind_inv e
      obtain ⟨_, _, _, e⟩ := RS.bind_inv e
      obtain ⟨_, _, _, e⟩ := RS.bind_inv e
      obtain ⟨_, _, _, e⟩ := RS.bind_inv e
      obtain ⟨_, _, _, e⟩ := RS.bind_inv e
      cases e; exact two_nm (by omega) (kd 2) (kd 4)
  simp only [if_neg k18]
  by_cases k19 : t.kind = 19
  · simp only [if_pos k19]
    constructor
    · exact RS.bind_cong (sortI_wide hc ds K h (kd 0) F) (fun _ _ _ => RS.bind_cong (K.hchk _ _ _ _ h (kd 1) (kd 0)) (fun _ _ _ => RS.bind_cong (K.hchk _ _ _ _ h (kd 2) (kd 0)) (fun _ _ _ => rfl)))
    · intro x G e
      unfold idI at e
      obtain ⟨_, _, _, e⟩ := RS.bind_inv e
      obtain ⟨_, _, _, e⟩ := RS.bind_inv e
      obtain ⟨_, _, _, e⟩ := RS.bind_inv e
      cases e; exact un_nm _
  simp only [if_neg k19]
  by_cases k21 : t.kind = 21
  · simp only [if_pos k21]
    constructor
    · refine RS.bind_cong (sortI_wide hc ds K h (kd 0) F) (fun _ _ _ => RS.bind_cong (K.hchk _ _ _ _ h (kd 1) (kd 0)) (fun _ _ _ => RS.bind_cong (K.hchk _ _ _ _ h (kd 4) (kd 0)) (fun _ _ _ =>
        RS.bind_cong (K.hchk _ _ _ _ h (kd 5) (three_nm (by omega) (kd 0) (kd 1) (kd 4))) (fun _ _ _ => RS.bind_cong (K.hinf _ _ _ h (kd 2)) (fun y G e => ?_)))))
      have hy := K.hnm _ _ _ _ _ h (kd 2) e
      refine RS.bind_cong (asI_wide hc ds hy _ _ _) (fun ab G2 e2 => ?_)
      obtain ⟨ha, hb⟩ := asI_nm hc hy e2
      refine RS.bind_cong (oneI_wide hc ds ha (kd 0) _ _) (fun _ _ _ => RS.bind_cong (asI_wide hc ds hb _ _ _) (fun pe G3 e3 => ?_))
      obtain ⟨hp, he⟩ := asI_nm hc hb e3
      exact RS.bind_cong (oneI_wide hc ds hp (three_nm (by omega) (lift_nm (kd 0) _ _) (lift_nm (kd 1) _ _) (leaf_nm (by omega))) _ _) (fun _ _ _ => RS.bind_cong (levelI_wide hc ds he _) (fun _ _ _ =>
        RS.bind_cong (K.hchk _ _ _ _ h (kd 3) (two_nm (by omega) (two_nm (by omega) (kd 2) (kd 1)) (leaf_nm (by omega)))) (fun _ _ _ => rfl)))
    · intro x G e
      unfold pathI at e
      obtain ⟨_, _, _, e⟩ := RS.bind_inv e
      obtain ⟨_, _, _, e⟩ := RS.bind_inv e
      obtain ⟨_, _, _, e⟩ := RS.bind_inv e
      obtain ⟨_, _, _, e⟩ := RS.bind_inv e
      obtain ⟨_, _, _, e⟩ := RS.bind_inv e
      obtain ⟨_, _, _, e⟩ := RS.bind_inv e
      obtain ⟨_, _, _, e⟩ := RS.bind_inv e
      obtain ⟨_, _, _, e⟩ := RS.bind_inv e
      obtain ⟨_, _, _, e⟩ := RS.bind_inv e
      obtain ⟨_, _, _, e⟩ := RS.bind_inv e
      obtain ⟨_, _, _, e⟩ := RS.bind_inv e
      cases e; exact two_nm (by omega) (two_nm (by omega) (kd 2) (kd 4)) (kd 5)
  simp only [if_neg k21]
  by_cases k22 : t.kind = 22
  · simp only [if_pos k22]
    exact ⟨by first | rfl | trivial, fun x G e => by cases e; exact un_nm _⟩
  simp only [if_neg k22]
  by_cases k23 : t.kind = 23
  · simp only [if_pos k23]
    exact ⟨by first | rfl | trivial, fun x G e => by cases e; exact leaf_nm (by omega)⟩
  simp only [if_neg k23]
  by_cases k24 : t.kind = 24
  · simp only [if_pos k24]
    constructor
    · exact RS.bind_cong (K.hchk _ _ _ _ h (kd _) (leaf_nm (by omega))) (fun _ _ _ => RS.bind_cong (motivI_wide hc ds K h (kd 0) (leaf_nm (by omega)) _) (fun _ _ _ =>
        RS.bind_cong (casesI_wide K h (kd 0) _ _ _ (fun b hb => ht.mem (List.mem_of_mem_drop (List.mem_of_mem_take hb)))) (fun _ _ _ => rfl)))
    · intro x G e
      unfold branchI at e
      obtain ⟨_, _, _, e⟩ := RS.bind_inv e
      obtain ⟨_, _, _, e⟩ := RS.bind_inv e
      obtain ⟨_, _, _, e⟩ := RS.bind_inv e
      cases e; exact two_nm (by omega) (kd 0) (kd _)
  simp only [if_neg k24]
  exact ⟨by first | rfl | trivial, fun x G e => by cases e⟩
theorem checkI_wide {c : List Term} {t ty : Term} (h : CtxN cs.length c) (ht : t.nm cs.length) (hy : ty.nm cs.length) (F : Int) : checkI (cs ++ ds) inf' chk' c t ty F = checkI cs inf chk c t ty F := by
  unfold checkI
  have kd := fun i => kid_nm ht i
  by_cases k5 : t.kind = 5
  · simp only [if_pos k5]
    refine RS.bind_cong (asI_wide hc ds hy _ _ _) (fun ab G e => ?_)
    obtain ⟨ha, hb⟩ := asI_nm hc hy e
    exact RS.bind_cong (sortI_wide hc ds K h (kd 0) _) (fun _ _ _ => RS.bind_cong (oneI_wide hc ds (kd 0) ha _ _) (fun _ _ _ => K.hchk _ _ _ _ (h.put (kd 0)) (kd 1) hb))
  simp only [if_neg k5]
  by_cases k13 : t.kind = 13
  · simp only [if_pos k13]
    refine RS.bind_cong (asI_wide hc ds hy _ _ _) (fun ab G e => ?_)
    obtain ⟨ha, hb⟩ := asI_nm hc hy e
    exact RS.bind_cong (K.hchk _ _ _ _ h (kd 0) ha) (fun _ _ _ => RS.bind_cong rfl (fun y _ e2 => K.hchk _ _ _ _ h (kd 1) (putI_nm hb (kd 0) e2)))
  simp only [if_neg k13]
  by_cases k17 : t.kind = 17
  · simp only [if_pos k17]
    refine RS.bind_cong (asI_wide hc ds hy _ _ _) (fun ab G e => ?_)
    obtain ⟨ha, hb⟩ := asI_nm hc hy e
    exact RS.bind_cong (K.hchk _ _ _ _ h (kd 0) ha) (fun _ _ _ => RS.bind_cong rfl (fun y _ e2 => K.hchk _ _ _ _ h (kd 1) (two_nm (by omega) (putI_nm hb (kd 0) e2) (two_nm (by omega) (lift_nm ha _ _) (lift_nm hb _ _)))))
  simp only [if_neg k17]
  by_cases k20 : t.kind = 20
  · simp only [if_pos k20]
    refine RS.bind_cong (headI_wide hc ds hy _) (fun x G e => ?_)
    have hx := headI_nm hc hy e
    rw [oneI_wide hc ds (kid_nm hx _) (kid_nm hx _)]
  simp only [if_neg k20]
  by_cases k7 : t.kind = 7
  · simp only [if_pos k7]
    exact RS.bind_cong (lettI_wide hc ds K h ht F) (fun x G e => K.hchk _ _ _ _ h (lettI_nm ht e) hy)
  simp only [if_neg k7]
  refine RS.bind_cong (K.hinf _ _ _ h ht) (fun x G e => ?_)
  rw [leq_wide hc ds (K.hnm _ _ _ _ _ h ht e) hy]
end
theorem IC_wide {cs : List Core} (hc : CoresN cs.length cs) (ds : List Core) (nl : Int) : ∀ (m : Nat), Wide cs.length (IC cs nl m).1 (IC (cs ++ ds) nl m).1 (IC cs nl m).2 (IC (cs ++ ds) nl m).2
  | 0 => ⟨fun c t F _ _ => rfl, fun c t F x G _ _ e => (by simp only [IC] at e; cases e), fun c t ty F _ _ _ => rfl⟩
  | m + 1 => by
    have K := IC_wide hc ds nl m
    refine ⟨fun c t F h ht => ?_, fun c t F x G h ht e => ?_, fun c t ty F h ht hy => ?_⟩
    · simp only [IC]
      exact RS.bind_cong rfl (fun _ G _ => (ruleI_wide hc ds K nl h ht G).1)
    · simp only [IC] at e
      obtain ⟨_, G1, _, e⟩ := RS.bind_inv e
      exact (ruleI_wide hc ds K nl h ht G1).2 x G e
    · simp only [IC]
      exact RS.bind_cong rfl (fun _ G _ => checkI_wide hc ds K h ht hy G)
theorem nm_mono {N M : Int} (h : N ≤ M) : ∀ (t : Term), t.nm N → t.nm M := by
  have go : ∀ (m : Nat) (t : Term), t.sz = m → t.nm N → t.nm M := by
    intro m
    induction m using Nat.strongRecOn with
    | _ m ih =>
      intro t hm ht
      exact nm_iff.2 ⟨fun e => by have := (nm_iff.1 ht).1 e; omega, fun k hk => ih k.sz (by rw [← hm]; exact Term.sz_lt hk) k rfl (ht.mem hk)⟩
  exact fun t => go _ t rfl
theorem rights_mem {nl : Int} {cn : List Int} {nt k : Int} : ∀ (ts : List Term) (i : Int) (t : Term), t ∈ ts → rightsM nl cn nt k i ts = true → ∃ nu, rightM nl cn nu t = true
  | [], i, t, h, _ => by cases h
  | u :: ts, i, t, h, e => by
    rw [rightsM, Bool.and_eq_true] at e
    rcases List.mem_cons.1 h with rfl | h
    · exact ⟨_, e.1⟩
    · exact rights_mem ts (i + 1) t h e.2
theorem right_nm {nl : Int} {cn : List Int} : ∀ (m : Nat) (t : Term) (nt : Int), t.sz = m → rightM nl cn nt t = true → t.nm cn.length := by
  intro m
  induction m using Nat.strongRecOn with
  | _ m ih =>
    intro t nt hm h
    obtain ⟨h1, _, h3⟩ := right_iff.1 h
    refine nm_iff.2 ⟨fun e => ?_, fun k hk => ?_⟩
    · rw [asks_at e] at h1
      have h2 : constB nl cn t = true := h1
      simp only [constB, Bool.and_eq_true, decide_eq_true_eq] at h2
      exact h2.1.1.1.2
    · obtain ⟨nu, hr⟩ := rights_mem _ _ _ hk h3
      exact ih k.sz (by rw [← hm]; exact Term.sz_lt hk) k nu rfl hr
theorem const_wide {nl : Int} {cn dn : List Int} {t : Term} (h : constB nl cn t = true) : constB nl (cn ++ dn) t = true := by
  simp only [constB, Bool.and_eq_true, decide_eq_true_eq] at h ⊢
  obtain ⟨⟨⟨⟨a, b⟩, c⟩, d⟩, e⟩ := h
  refine ⟨⟨⟨⟨a, by rw [List.length_append]; push_cast; omega⟩, c⟩, ?_⟩, e⟩
  rw [d, List.getD_eq_getElem?_getD, List.getD_eq_getElem?_getD, List.getElem?_append_left (by omega)]
theorem right_wide {nl : Int} {cn : List Int} (dn : List Int) : ∀ (m : Nat) (t : Term) (nt : Int), t.sz = m → rightM nl cn nt t = true → rightM nl (cn ++ dn) nt t = true := by
  intro m
  induction m using Nat.strongRecOn with
  | _ m ih =>
    intro t nt hm h
    obtain ⟨h1, h2, h3⟩ := right_iff.1 h
    have ha : asksM nl nt (cn ++ dn) t = asksM nl nt cn t := by
      rw [asks_F] at h1
      rw [asks_F, asks_F]
      have := asksF_mono (w := w64 (t.at_ + 2)) (k := t.kind) (fun e => e) (fun e => e) (const_wide (dn := dn)) (fun e => e) (fun e => e) (fun e => e) (fun e => e) h1
      rw [this]
      exact Prod.ext h1.symm rfl
    refine right_iff.2 ⟨by rw [ha]; exact h1, by rw [ha]; exact h2, ?_⟩
    have go : ∀ (ts : List Term) (i : Int), (∀ u ∈ ts, u.sz < m) → rightsM nl cn nt t.kind i ts = true → rightsM nl (cn ++ dn) nt t.kind i ts = true := by
      intro ts
      induction ts with
      | nil => intro i _ _; simp [rightsM]
      | cons u ts ihs =>
        intro i hu e
        rw [rightsM, Bool.and_eq_true] at e ⊢
        exact ⟨ih u.sz (hu u (by simp)) u _ rfl e.1, ihs (i + 1) (fun v hv => hu v (by simp [hv])) e.2⟩
    exact go t.kids 0 (fun u hu => by rw [← hm]; exact Term.sz_lt hu) h3
theorem lvs_append (l m : List Core) : lvs (l ++ m) = lvs l ++ lvs m := by simp [lvs]
theorem lvs_len (l : List Core) : (lvs l).length = l.length := by simp [lvs]
theorem scope_wide {nl : Int} {l : List Core} (more : List Core) {ts : List Term} (h : scopeI nl (lvs l) [] ts = true) : scopeI nl (lvs (l ++ more)) [] ts = true := by
  unfold scopeI at h ⊢
  rw [Bool.and_eq_true] at h ⊢
  refine ⟨rfl, List.all_eq_true.2 (fun t ht => ?_)⟩
  rw [lvs_append]
  exact right_wide _ _ t _ rfl (List.all_eq_true.1 h.2 t ht)
theorem scope_nm {nl : Int} {l : List Core} {ts : List Term} (h : scopeI nl (lvs l) [] ts = true) {t : Term} (ht : t ∈ ts) : t.nm l.length := by
  have := right_nm _ t _ rfl (scope_at h ht)
  rwa [lvs_len] at this
theorem told_wide {α : Type} {none : α} {nl : Int} {l : List Core} (more : List Core) {most : Int} {ts : List Term} {r r' : RS α} (h : scopeI nl (lvs l) [] ts = true) (hr : r' = r) : toldI none nl (lvs (l ++ more)) [] most ts r' = toldI none nl (lvs l) [] most ts r := by
  subst hr
  unfold toldI
  rw [h, scope_wide more h]
theorem ctxN_nil {N : Int} : CtxN N [] := fun e he => by cases he
theorem sortM_wide {l : List Core} (hl : CoresN l.length l) (more : List Core) {nl : Int} {t : Term} {F : Int} (h : scopeI nl (lvs l) [] [t] = true) : sortM (l ++ more) nl [] t F = sortM l nl [] t F :=
  told_wide more h (RS.bind_cong (sortI_wide hl more (IC_wide hl more nl _) ctxN_nil (scope_nm h (by simp)) F) (fun _ _ _ => rfl))
theorem checkM_wide {l : List Core} (hl : CoresN l.length l) (more : List Core) {nl : Int} {t ty : Term} {F : Int} (h : scopeI nl (lvs l) [] [t, ty] = true) : checkM (l ++ more) nl [] t ty F = checkM l nl [] t ty F :=
  told_wide more h (RS.bind_cong ((IC_wide hl more nl _).hchk _ _ _ _ ctxN_nil (scope_nm h (by simp)) (scope_nm h (by simp))) (fun _ _ _ => rfl))
theorem sort_scope {l : List Core} {nl : Int} {t : Term} {F : Int} (ha : ArgI nl F) (h : scopeI nl (lvs l) [] [t] = false) : (sortM l nl [] t F).2.2 = 6 := by unfold sortM; rw [told_scope ha h]
theorem check_scope {l : List Core} {nl : Int} {t ty : Term} {F : Int} (ha : ArgI nl F) (h : scopeI nl (lvs l) [] [t, ty] = false) : (checkM l nl [] t ty F).2.2 = 6 := by unfold checkM; rw [told_scope ha h]
theorem addI_wide {l : List Core} (hl : CoresN l.length l) (hs : CoresS l) (more : List Core) {c : Core} (hc : CoreS c) {F : Int} (h0 : 0 ≤ F) (hF : F ≤ 1000000) (h : addI l c F ≠ .er 6) : addI (l ++ more) c F = addI l c F := by
  unfold addI at h ⊢
  refine RS.bind_cong rfl (fun _ F1 e1 => ?_)
  rw [Ys e1] at h
  have hsh := shapeI_ok e1
  subst hsh
  have hlv : 0 ≤ c.levels ∧ c.levels ≤ 8 := by
    unfold shapeI at e1
    split at e1
    · cases e1
    · rename_i q; omega
  have ht : typI (l ++ more) c F1 = typI l c F1 := by
    cases hq : scopeI c.levels (lvs l) [] [c.typ] with
    | true => unfold typI; rw [sortM_wide hl more hq]
    | false =>
      exfalso
      have h6 := sort_scope (F := F1) ⟨hlv.1, hlv.2, h0, by omega⟩ hq
      have : typI l c F1 = .er 6 := by unfold typI; rw [h6]; rfl
      rw [RS.bind_er this] at h
      exact h rfl
  refine RS.bind_cong ht (fun _ F2 e2 => ?_)
  rw [Ys e2] at h
  obtain ⟨g0, g1⟩ := typI_ok hs hc h0 hF e2
  unfold bodyI at h ⊢
  by_cases hh : c.has = true
  · rw [if_pos hh] at h ⊢
    rw [if_pos hh]
    cases hq : scopeI c.levels (lvs l) [] [c.body, c.typ] with
    | true => rw [checkM_wide hl more hq]
    | false =>
      exfalso
      have h6 := check_scope (F := F2) ⟨hlv.1, hlv.2, g0, by omega⟩ hq
      rw [h6] at h
      exact h rfl
  · rw [if_neg hh, if_neg hh]
theorem bare_nm {N : Int} {b : Term} (h : bareC b) : b.nm N := by
  obtain ⟨h1, _, _, h4⟩ := h
  have : b.kids = [] := List.eq_nil_of_length_eq_zero (by omega)
  exact nm_iff.2 ⟨fun e => by omega, fun k hk => by rw [this] at hk; cases hk⟩
theorem addI_nm {l : List Core} {c : Core} {F G : Int} {u : Unit} (h : addI l c F = .ok u G) : c.typ.nm l.length ∧ c.body.nm l.length := by
  obtain ⟨h1, G1, h2, h3⟩ := addI_parts h
  have inScope : ∀ {α : Type} {none : α} {ts : List Term} {most : Int} {r : RS α}, (toldI none c.levels (lvs l) [] most ts r).2.2 = 0 → scopeI c.levels (lvs l) [] ts = true := by
    intro α none ts most r e
    unfold toldI at e
    split at e
    · split at e
      · assumption
      · cases e
    · cases e
  have ht : scopeI c.levels (lvs l) [] [c.typ] = true := by
    refine inScope (none := ([] : Level)) (most := F) (r := sortR l c.levels [] c.typ F) ?_
    have := typI_inv h2
    have e := congrArg (fun x : Level × Int × Int => x.2.2) this
    exact e
  refine ⟨scope_nm ht (by simp), ?_⟩
  by_cases hh : c.has = true
  · have hb : scopeI c.levels (lvs l) [] [c.body, c.typ] = true := by
      refine inScope (none := false) (most := G1) (r := checkR l c.levels [] c.body c.typ G1) ?_
      have := bodyI_inv hh h3
      exact congrArg (fun x : Bool × Int × Int => x.2.2) this
    exact scope_nm hb (by simp)
  · refine bare_nm ?_
    unfold shapeI at h1
    split at h1
    · cases h1
    · rename_i q
      exact Classical.byContradiction fun e => q (.inr (.inr ⟨by simpa using hh, e⟩))
theorem asks_nm : ∀ (l pre : List Core) (F : Int), CoresN pre.length pre → (asks pre l F).2.1 = 0 → CoresN ((pre ++ l).length) (pre ++ l)
  | [], pre, F, h, _ => by simpa using h
  | c :: l, pre, F, h, e => by
    rw [asks] at e
    cases ha : addI pre c F with
    | er q => rw [ha] at e; exact absurd e (addI_er ha)
    | ok u G =>
      rw [ha] at e
      obtain ⟨n1, n2⟩ := addI_nm ha
      have hp : CoresN ((pre ++ [c]).length) (pre ++ [c]) := fun x hx => by
        have hle : (pre.length : Int) ≤ ((pre ++ [c]).length : Nat) := by rw [List.length_append]; push_cast; omega
        rcases List.mem_append.1 hx with hx | hx
        · exact ⟨nm_mono hle _ (h x hx).1, nm_mono hle _ (h x hx).2⟩
        · rw [List.mem_singleton.1 hx]; exact ⟨nm_mono hle _ n1, nm_mono hle _ n2⟩
      have := asks_nm l (pre ++ [c]) G hp e
      rwa [List.append_assoc] at this
theorem all_nm {l : List Core} {F : Int} (hF : ¬ BigI F) (h : (allTop l F).2.2 = 0) : CoresN l.length l := by
  unfold allTop at h
  rw [if_neg hF, asked_zero hF] at h
  by_cases e : (asks [] l F).2.1 = 0
  · exact asks_nm l [] F (fun x hx => by cases hx) e
  · rw [if_pos e] at h; exact absurd h e
end Sp

/- More constants: what the law compares. -/
set_option linter.unusedVariables false
namespace Sp
open Go
theorem mid_get (w : List Core) (c : Core) : encC ((w ++ [c]).getD ((w.length : Int)).toNat default) = encC c := by
  rw [Int.toNat_natCast, List.getD_eq_getElem?_getD, List.getElem?_append_right (Nat.le_refl _)]; simp
theorem mid_len (w : List Core) (c : Core) : (w.length : Int) ≤ (((w ++ [c]).map encC).length : Nat) := by
  rw [List.length_map, List.length_append]; push_cast; omega
theorem mid_lt (w : List Core) (c : Core) : (w.length : Int) < ((w ++ [c]).length : Nat) := by
  rw [List.length_append, List.length_singleton]; push_cast; omega
theorem CoresS.app {l m : List Core} (h : CoresS l) (k : CoresS m) : CoresS (l ++ m) := fun c hc => (List.mem_append.1 hc).elim (h c) (k c)
theorem CoresS.one {c : Core} (h : CoreS c) : CoresS [c] := fun x hx => by rw [List.mem_singleton.1 hx]; exact h
theorem more_ok {l more : List Core} {c : Core} {F G : Int} {u : Unit} (hN : CoresN l.length l) (hs : CoresS l) (hc : CoreS c) (hb : ¬ BigI F) (hF : F ≤ 1000000) (h : addI l c F = .ok u G) : addTop (l ++ more) c F = (l ++ more ++ [c], G, 0) := by
  refine addTop_ok (u := u) hb ?_
  rw [addI_wide hN hs more hc (by unfold BigI at hb; omega) hF (by rw [h]; intro e; cases e)]
  exact h
theorem more_er {l more : List Core} {c : Core} {F e : Int} (hN : CoresN l.length l) (hs : CoresS l) (hc : CoreS c) (hb : ¬ BigI F) (hF : F ≤ 1000000) (h : addI l c F = .er e) (h6 : ¬ e = 6) : addTop (l ++ more) c F = ([], 0, e) := by
  refine addTop_er hb ?_
  rw [addI_wide hN hs more hc (by unfold BigI at hb; omega) hF (by rw [h]; intro e; cases e; exact h6 rfl)]
  exact h
theorem more_pos {l more : List Core} {c : Core} {F e : Int} (hb : ¬ BigI F) (h : addI l c F = .er e) (h0 : (addTop (l ++ more) c F).2.2 = 0) : (0 : Int) < (more.length : Int) := by
  cases more with
  | nil => rw [List.append_nil, addTop_er hb h] at h0; exact absurd h0 (addI_er h)
  | cons x m => simp only [List.length_cons]; omega
end Sp
