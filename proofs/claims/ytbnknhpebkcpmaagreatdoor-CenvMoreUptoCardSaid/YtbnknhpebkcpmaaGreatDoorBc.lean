/- Walks of the program's functions and what they compute: contracts of calls; no condition beyond those that each theorem names. -/
import Derived.Test.YtbnknhpebkcpmaaGreatDoorBb
import Derived.Test.YtbnknhpebkcpmaaGreatDoorKc
import Derived.Test.YtbnknhpebkcpmaaGreatDoorKb
/- The walks of levels against each other, of sameness, of conv. Written by a program of mine. -/
set_option linter.unusedVariables false
set_option linter.unusedSimpArgs false
set_option maxRecDepth 20000
namespace Sp
open Go Go.Proofs
theorem eqParts_c (a b : List Part) (hl : a.length ≤ 9223372036854775807) : AFn X 159 [.slP a, .slP b] (.bool (decide (a = b))) := by
 refine Zf Tryz.func159 ?_
 refine Yb (Ya ?_)
 refine Z2 ?_
 refine Yc (Yb (Yb (Ya ?_)))
 refine Z1 ?_
 refine Z24 ?_
 refine Z1 ?_
 refine Z24 ?_
 refine Z60 ?_
 refine Yc ?_
 refine Zc (fun h10 => ?_) (fun h10 => ?_)
 try simp only [sz] at h10
 refine Yb (Ya ?_)
 refine Z2 ?_
 refine Yc (Yd ?_)
 refine Yh rfl (.cons rfl .nil) ?_
 exact D.Le.eq (congrArg D.bool (by rw [decide_eq_false (fun e => by subst e; exact h10 rfl)]))
 try simp only [sz] at h10
 refine Ye (Yb (Yb (Ya ?_)))
 refine Z1 ?_
 refine Z24 ?_
 refine Z1 ?_
 refine Yc (Yf ?_)
 refine Yu (γ := Nat) (fun g => [(0, .slP a), (1, .slP b), (11, .slP a), (12, .int .i64 a.length), (13, .int .i64 g)]) (fun g => []) (fun g => g ≤ a.length ∧ a.take g = b.take g) (fun g => a.length - g) 0 ⟨Nat.zero_le _, by simp⟩ (by repeat first | exact Ym | refine Yl (.refl _) ?_) (by repeat first | exact X0 _ | apply X1 | apply X2 | exact X3 _) ?_
 rintro i ⟨hi, hg⟩ t1
 have hab : a.length = b.length := by omega
 refine Yb (Ya ?_)
 refine Z26 ?_
 refine Yc (Yb ?_)
 refine Zc (fun h14 => ?_) (fun h14 => ?_)
 try simp only [sz] at h14
 have hlt : i < a.length := by omega
 refine Ye (Yb (Yf (Yb (Ya ?_))))
 refine Z1 ?_
 refine Z2 ?_
 refine Yc (Yb ?_)
 refine Yj [.p 0, .p 1, .p 2, .p 3, .p 4, .p 5, .p 6, .p 7, .p 8] mixed (by kernel_rfl) ?_
 refine Z5 ?_
 refine Z5 ?_
 refine Z79 ?_
 refine Yt rfl rfl rfl rfl (fun L0 => (AVal.loadE (d := encP _) rfl rfl rfl)) ?_
 refine Z5 ?_
 refine Z5 ?_
 refine Z79 ?_
 refine Yt rfl rfl rfl rfl (fun L0 => (AVal.loadE (d := encP _) rfl rfl rfl)) ?_
 refine Yt rfl rfl rfl rfl (fun L0 => (AVal.neqPart rfl rfl (by kernel_rfl))) ?_
 refine ASeq.nil ?_
 refine Zc (fun h24 => ?_) (fun h24 => ?_)
 try simp only [sz] at h24
 refine Yb (Ya ?_)
 refine Z2 ?_
 refine Yc (Yd ?_)
 refine Yh rfl (.cons rfl .nil) ?_
 exact D.Le.eq (congrArg D.bool (by rw [decide_eq_false (ne_of_getD (by simpa using h24))]))
 try simp only [sz] at h24
 refine Ye (Ya ?_)
 refine Z19 ?_
 refine Z1 ?_
 refine Yc ?_
 refine ⟨i + 1, ⟨by omega, take_eq_succ hab hlt hg (by simpa using h24)⟩, by omega, rfl, (by repeat first | exact Ym | refine Yl (.refl _) ?_), (by repeat first | exact X0 _ | apply X1 | apply X2 | exact X3 _)⟩
 try simp only [sz] at h14
 refine Yg (Yb (Ya ?_))
 refine Z2 ?_
 refine Yc (Yd ?_)
 refine Yh rfl (.cons rfl .nil) ?_
 exact D.Le.eq (congrArg D.bool (by rw [decide_eq_true (eq_of_take hab (by omega) hg)]))
theorem lvSame_c (hS : SortedOk) (a b : Level) (ha : a.length ≤ 9223372036854775807) (hb : b.length ≤ 9223372036854775807) : AFn X 123 [encL a, encL b] (.bool (lvSame a b)) := by
 refine Zf Tryz.func123 ?_
 refine Yb (Ya ?_)
 refine Z9 (fun b2 => ?_)
 refine Z9 (fun b3 => ?_)
 refine Z2 ?_
 refine Yc (Yb ?_)
 refine Yj [.l 0, .p 1, .p 2, .l 3, .p 4, .p 5, .p 6, .p 7] mixed (by kernel_rfl) ?_
 refine ASeq.lv rfl rfl rfl rfl (Yv (d := encL _) 1 rfl rfl (.refl _)) ?_
 refine ASeq.pe rfl rfl rfl rfl (fun L0 => (Yk (norm_c hS a ha) (Yn rfl) ⟨rfl, rfl⟩)) ?_
 refine Yt rfl rfl rfl rfl (fun L0 => (AVal.fieldN rfl rfl (by kernel_rfl) rfl (by constructor))) ?_
 refine ASeq.lv rfl rfl rfl rfl (Yv (d := encL _) 0 rfl rfl (.refl _)) ?_
 refine ASeq.pe rfl rfl rfl rfl (fun L0 => (Yk (norm_c hS b hb) (Yn rfl) ⟨rfl, rfl⟩)) ?_
 refine Yt rfl rfl rfl rfl (fun L0 => (AVal.fieldN rfl rfl (by kernel_rfl) rfl (by constructor))) ?_
 refine ASeq.pe rfl rfl rfl rfl (fun L0 => (Yk (eqParts_c (normM a) (normM b) (by have := normM_len a; omega)) (Yn rfl) ⟨rfl, rfl⟩)) ?_
 refine Z17 ?_
 refine ASeq.nil (Yd ?_)
 refine Yh rfl (.cons rfl .nil) ?_
 exact D.Le.eq (congrArg D.bool (rfl))
theorem indexF_c {f : FuncId} {caps : List D} {L0 : Loc} {gg : Part → Bool} (H : ∀ p, AKeep X f ([encP p] ++ caps) L0 (.bool (gg p))) (ps : List Part) (hl : ps.length ≤ 9223372036854775807) : AKeep X 167 [.slP ps, .func (.func f) [] caps] L0 (.int .i64 (idxM gg ps 0)) := by
 refine Zf Tryz.func167 ?_
 refine Yb (Ya ?_)
 refine Z2 ?_
 refine Yc (Yb (Yb (Ya ?_)))
 refine Z1 ?_
 refine Z24 ?_
 refine Z1 ?_
 refine Yc (Yf ?_)
 refine Yu (γ := Nat) (fun g => [(0, .slP ps), (1, .func (.func f) [] caps), (6, .slP ps), (7, .int .i64 ps.length), (8, .int .i64 g)]) (fun g => L0) (fun g => g ≤ ps.length ∧ idxM gg (ps.drop g) g = idxM gg ps 0) (fun g => ps.length - g) 0 ⟨Nat.zero_le _, by simp⟩ (by repeat first | exact Ym | refine Yl (.refl _) ?_) (by repeat first | exact X0 _ | apply X1 | apply X2 | exact X3 _) ?_
 rintro i ⟨hi, hg⟩ t1
 simp only at hi hg ⊢
 refine Yb (Ya ?_)
 refine Z26 ?_
 refine Yc (Yb ?_)
 refine Zc (fun h9 => ?_) (fun h9 => ?_)
 try simp only [sz] at h9
 have hlt : i < ps.length := by omega
 refine Ye (Yb (Yf (Yb (Ya ?_))))
 refine Z1 ?_
 refine Z2 ?_
 refine Yc (Yb (Ya ?_))
 refine Z1 ?_
 refine Z1 ?_
 refine Z1 ?_
 refine Z84 ?_
 refine Z87 ?_
 refine AOps.e rfl rfl rfl (AOp.callVK [] rfl (H (ps.getD i default)) (Yn rfl) rfl ?_)
 refine Yc ?_
 refine Zc (fun h16 => ?_) (fun h16 => ?_)
 refine Yb (Ya ?_)
 refine Z1 ?_
 refine Z2 ?_
 refine Yc (Yd ?_)
 refine Yr rfl (.cons rfl .nil) (by repeat first | exact X0 _ | apply X1 | apply X2) ?_
 exact D.Le.eq (congrArg (D.int .i64) (by rw [← hg, drop_getD hlt, idxM, if_pos h16]))
 refine Ye (Ya ?_)
 refine Z19 ?_
 refine Z1 ?_
 refine Yc ?_
 refine ⟨i + 1, ⟨by omega, by rw [← hg, drop_getD hlt, idxM, if_neg (by rw [h16]; simp)]; push_cast; rfl⟩, by omega, rfl, (by repeat first | exact Ym | refine Yl (.refl _) ?_), (by repeat first | exact X0 _ | apply X1 | apply X2 | exact X3 _)⟩
 try simp only [sz] at h9
 refine Yg (Yb (Ya ?_))
 refine Z2 ?_
 refine Yc (Yd ?_)
 refine Yr rfl (.cons rfl .nil) (by repeat first | exact X0 _ | apply X1 | apply X2) ?_
 exact D.Le.eq (congrArg (D.int .i64) (by rw [← hg, List.drop_of_length_le (by omega), idxM]))
theorem containsF_c {f : FuncId} {caps : List D} {L0 : Loc} {gg : Part → Bool} (H : ∀ p, AKeep X f ([encP p] ++ caps) L0 (.bool (gg p))) (ps : List Part) (hl : ps.length ≤ 9223372036854775807) : AKeep X 129 [.slP ps, .func (.func f) [] caps] L0 (.bool (ps.any gg)) := by
 refine Zf Tryz.func129 ?_
 refine Yb (Ya ?_)
 refine Z2 ?_
 refine Yc (Yb (Ya ?_))
 refine Z1 ?_
 refine Z1 ?_
 refine AOps.e rfl rfl rfl (AOp.callK [] (indexF_c H ps hl) (Yn rfl) rfl ?_)
 refine Z85 ?_
 refine Z2 ?_
 refine Yc (Yd ?_)
 refine Yr rfl (.cons rfl .nil) (by repeat first | exact X0 _ | apply X1 | apply X2) ?_
 exact D.Le.eq (congrArg D.bool (idxM_any gg ps 0 (Int.le_refl _)))
def leqG (p q : Part) : Bool := (decide (p.v = 0) || decide (p.v = q.v)) && decide (p.p ≤ q.p)
theorem lvLeq_eq (a b : Level) : lvLeq a b = !((normM a).any fun p => !((normM b).any (leqG p))) := by
  have h : ∀ (l : List Part) (g : Part → Bool), l.all g = !(l.any fun p => !(g p)) := fun l g => by
    induction l with
    | nil => rfl
    | cons x l ih => simp [List.all_cons, List.any_cons, ih]
  exact h _ _
theorem leq11_c (p q : Part) (b2c : Nat) (R : Loc) : AKeep X 131 [encP q, .ptr b2c 0] ((b2c, .cells 114 (cellsP p)) :: R) (.bool (leqG p q)) := by
 refine Zf Tryz.func131 ?_
 refine Yb (Ya ?_)
 refine Z9 (fun b2 => ?_)
 refine Z2 ?_
 refine Yc (Yb (Ya ?_))
 refine Z6 ?_
 refine Z16 ?_
 refine Z40 ?_
 refine Z1 ?_
 refine Zs 7 (fun h7 => ?_) (fun h7 => ?_)
 try simp only [sz] at h7
 refine Z4 ?_
 refine Z4 ?_
 refine Z4 ?_
 refine Z4 ?_
 refine Z4 ?_
 refine Z15 ?_
 refine Z1 ?_
 refine Z18 ?_
 refine Z27 ?_
 refine Z18 ?_
 refine Z30 ?_
 refine Z78 ?_
 refine Z15 ?_
 refine Z2 ?_
 refine Yc (Yd ?_)
 refine Yr rfl (.cons rfl .nil) (by repeat first | exact X0 _ | apply X1 | apply X2) ?_
 exact D.Le.eq (congrArg D.bool (by simp_all [leqG]))
 try simp only [sz] at h7
 refine Z18 ?_
 refine Z27 ?_
 refine Z18 ?_
 refine Z30 ?_
 refine Z47 ?_
 refine Z13 ?_
 refine Z1 ?_
 refine Zs 14 (fun h14 => ?_) (fun h14 => ?_)
 try simp only [sz] at h14
 refine Z18 ?_
 refine Z27 ?_
 refine Z18 ?_
 refine Z30 ?_
 refine Z78 ?_
 refine Z15 ?_
 refine Z2 ?_
 refine Yc (Yd ?_)
 refine Yr rfl (.cons rfl .nil) (by repeat first | exact X0 _ | apply X1 | apply X2) ?_
 exact D.Le.eq (congrArg D.bool (by simp_all [leqG]))
 try simp only [sz] at h14
 refine Z4 ?_
 refine Z4 ?_
 refine Z4 ?_
 refine Z4 ?_
 refine Z4 ?_
 refine Z13 ?_
 refine Z2 ?_
 refine Yc (Yd ?_)
 refine Yr rfl (.cons rfl .nil) (by repeat first | exact X0 _ | apply X1 | apply X2) ?_
 exact D.Le.eq (congrArg D.bool (by simp_all [leqG]))
theorem leq1_c (p : Part) (b : Level) (b3c : Nat) (R : Loc) (hb : b.length ≤ 9223372036854775807) : AKeep X 130 [encP p, .ptr b3c 0] ((b3c, .cells 56 (cellsL b)) :: R) (.bool (!(b.any (leqG p)))) := by
 refine Zf Tryz.func130 ?_
 refine Yb (Ya ?_)
 refine Z9 (fun b2 => ?_)
 refine Z2 ?_
 refine Yc (Yb (Ya ?_))
 refine Z6 ?_
 refine Z16 ?_
 refine Z54 ?_
 refine AOps.e rfl rfl rfl (AOp.callK [] (containsF_c (gg := leqG p) (fun q => leq11_c p q b2 _) b hb) (Yn rfl) rfl ?_)
 refine Z65 ?_
 refine Z2 ?_
 refine Yc (Yd ?_)
 refine Yr rfl (.cons rfl .nil) (by repeat first | exact X0 _ | apply X1 | apply X2) ?_
 exact .refl _
theorem lvLeq_c (hS : SortedOk) (a b : Level) (ha : a.length ≤ 9223372036854775807) (hb : b.length ≤ 9223372036854775807) : AFn X 78 [encL a, encL b] (.bool (lvLeq a b)) := by
 refine Zf Tryz.func78 ?_
 refine Yb (Ya ?_)
 refine Z9 (fun b2 => ?_)
 refine Z9 (fun b3 => ?_)
 refine Z2 ?_
 refine Yc (Yb ?_)
 refine Yj [.l 0, .p 1, .l 2, .p 3, .e 4 [2], .e 5 []] mixed (by kernel_rfl) ?_
 refine ASeq.lv rfl rfl rfl rfl (Yv (d := encL _) 1 rfl rfl (.refl _)) ?_
 refine ASeq.pe rfl rfl rfl rfl (fun L0 => (Yk (norm_c hS a ha) (Yn rfl) ⟨rfl, rfl⟩)) ?_
 refine ASeq.lv rfl rfl rfl rfl (Yv (d := encL _) 0 rfl rfl (.refl _)) ?_
 refine ASeq.pe rfl rfl rfl rfl (fun L0 => (Yk (norm_c hS b hb) (Yn rfl) ⟨rfl, rfl⟩)) ?_
 refine ASeq.ee0 rfl rfl rfl rfl (AOp.storeN 1 rfl rfl rfl (by constructor) rfl rfl rfl (by repeat constructor) (by repeat constructor) ⟨(Keeps.cons (Yv 0 rfl rfl (.refl _)) Yo), ?_⟩)
 refine Z25 ?_
 refine ASeq.nil (Yb (Ya ?_))
 refine Z6 ?_
 refine Z16 ?_
 refine Z54 ?_
 refine AOps.e rfl rfl rfl (AOp.callK [] (containsF_c (gg := fun p => !((normM b).any (leqG p))) (fun p => leq1_c p (normM b) b3 _ (by have := normM_len b; omega)) (normM a) (by have := normM_len a; omega)) (Yn rfl) rfl ?_)
 refine Z65 ?_
 refine Z2 ?_
 refine Yc (Yd ?_)
 refine Yh rfl (.cons rfl .nil) ?_
 exact D.Le.eq (congrArg D.bool ((lvLeq_eq a b).symm))
theorem eqLvs_c (hS : SortedOk) (a b : List Level) (ha : a.length ≤ 9223372036854775807) (hp : ∀ l ∈ a, l.length ≤ 9223372036854775807) (hq : ∀ l ∈ b, l.length ≤ 9223372036854775807) : AFn X 122 [.slL a, .slL b, .func (.func 123) [] []] (.bool (lvsSame a b)) := by
 refine Zf Tryz.func122 ?_
 refine Yb (Ya ?_)
 refine Z2 ?_
 refine Yc (Yb (Yb (Ya ?_)))
 refine Z1 ?_
 refine Z24 ?_
 refine Z1 ?_
 refine Z24 ?_
 refine Z60 ?_
 refine Yc ?_
 refine Zc (fun h14 => ?_) (fun h14 => ?_)
 try simp only [sz] at h14
 refine Yb (Ya ?_)
 refine Z2 ?_
 refine Yc (Yd ?_)
 refine Yh rfl (.cons rfl .nil) ?_
 exact D.Le.eq (congrArg D.bool ((lvsSame_len (show a.length ≠ b.length by omega)).symm))
 try simp only [sz] at h14
 refine Ye (Yb (Yb (Ya ?_)))
 refine Z1 ?_
 refine Z24 ?_
 refine Z1 ?_
 refine Yc (Yf ?_)
 refine Yu (γ := Nat) (fun g => [(1, .slL b), (2, .func (.func 123) [] []), (15, .slL a), (16, .int .i64 a.length), (17, .int .i64 g)]) (fun g => []) (fun g => g ≤ a.length ∧ lvsSame a b = lvsSame (a.drop g) (b.drop g)) (fun g => a.length - g) 0 ⟨Nat.zero_le _, rfl⟩ (by repeat first | exact Ym | refine Yl (.refl _) ?_) (by repeat first | exact X0 _ | apply X1 | apply X2 | exact X3 _) ?_
 have hab : a.length = b.length := by omega
 rintro i ⟨hi, hg⟩ t1
 simp only at hi hg ⊢
 refine Yb (Ya ?_)
 refine Z26 ?_
 refine Yc (Yb ?_)
 refine Zc (fun h18 => ?_) (fun h18 => ?_)
 try simp only [sz] at h18
 have hlt : i < a.length := by omega
 have hltb : i < b.length := by omega
 refine Ye (Yb (Yf (Yb (Ya ?_))))
 refine Z1 ?_
 refine AOps.v rfl rfl rfl (AVal.indexLK rfl rfl rfl rfl rfl (by omega)) ?_
 refine Z77 ?_
 refine Z7 (fun b8 => ?_)
 refine Z2 ?_
 refine Z3 ?_
 refine Yc (Yb (Ya ?_))
 refine Z1 ?_
 refine Z1 ?_
 refine AOps.v rfl rfl rfl (AVal.indexLK rfl rfl rfl rfl rfl (by omega)) ?_
 refine Z77 ?_
 refine Z7 (fun b9 => ?_)
 refine Z3 ?_
 refine Yc (Yb (Ya ?_))
 refine Z1 ?_
 refine AOps.v rfl rfl rfl (AVal.loadP (d := encL _) 1 rfl rfl rfl rfl) ?_
 refine AOps.v rfl rfl rfl (AVal.loadP (d := encL _) 0 rfl rfl rfl rfl) ?_
 refine AOps.e rfl rfl rfl (AOp.callVP rfl (lvSame_c hS (a.getD i default) (b.getD i default) (hp _ (getD_mem hlt)) (hq _ (getD_mem hltb))) (Yn rfl) ?_)
 refine Z65 ?_
 refine Yc ?_
 refine Zc (fun h30 => ?_) (fun h30 => ?_)
 try simp only [sz] at h30
 refine Yb (Ya ?_)
 refine Z2 ?_
 refine Yc (Yd ?_)
 refine Yh rfl (.cons rfl .nil) ?_
 exact D.Le.eq (congrArg D.bool (by rw [hg, drop_getD hlt, drop_getD hltb, lvsSame, h30, Bool.false_and]))
 try simp only [sz] at h30
 refine Ye (Ya ?_)
 refine Z19 ?_
 refine Z1 ?_
 refine Yc ?_
 refine ⟨i + 1, ⟨by omega, by rw [hg, drop_getD hlt, drop_getD (show i < b.length by omega), lvsSame, h30, Bool.true_and]⟩, by omega, rfl, (by repeat first | exact Ym | refine Yl (.refl _) ?_), (by repeat first | exact X0 _ | apply X1 | apply X2 | exact X3 _)⟩
 try simp only [sz] at h18
 refine Yg (Yb (Ya ?_))
 refine Z2 ?_
 refine Yc (Yd ?_)
 refine Yh rfl (.cons rfl .nil) ?_
 exact D.Le.eq (congrArg D.bool (by rw [hg, List.drop_of_length_le (by omega), List.drop_of_length_le (by omega)]; simp [lvsSame]))
theorem eqTs_c (a b : List Term) (ha : a.length ≤ 9223372036854775807) (h : ∀ t ∈ a, ∀ u ∈ b, AFn X 74 [encT t, encT u] (.bool (sameM t u))) : AFn X 124 [.slT a, .slT b, .func (.func 74) [] []] (.bool (samesM a b)) := by
 refine Zf Tryz.func124 ?_
 refine Yb (Ya ?_)
 refine Z2 ?_
 refine Yc (Yb (Yb (Ya ?_)))
 refine Z1 ?_
 refine Z24 ?_
 refine Z1 ?_
 refine Z24 ?_
 refine Z60 ?_
 refine Yc ?_
 refine Zc (fun h14 => ?_) (fun h14 => ?_)
 try simp only [sz] at h14
 refine Yb (Ya ?_)
 refine Z2 ?_
 refine Yc (Yd ?_)
 refine Yh rfl (.cons rfl .nil) ?_
 exact D.Le.eq (congrArg D.bool ((samesM_len (show a.length ≠ b.length by omega)).symm))
 try simp only [sz] at h14
 refine Ye (Yb (Yb (Ya ?_)))
 refine Z1 ?_
 refine Z24 ?_
 refine Z1 ?_
 refine Yc (Yf ?_)
 refine Yu (γ := Nat) (fun g => [(1, .slT b), (2, .func (.func 74) [] []), (15, .slT a), (16, .int .i64 a.length), (17, .int .i64 g)]) (fun g => []) (fun g => g ≤ a.length ∧ samesM a b = samesM (a.drop g) (b.drop g)) (fun g => a.length - g) 0 ⟨Nat.zero_le _, rfl⟩ (by repeat first | exact Ym | refine Yl (.refl _) ?_) (by repeat first | exact X0 _ | apply X1 | apply X2 | exact X3 _) ?_
 have hab : a.length = b.length := by omega
 rintro i ⟨hi, hg⟩ t1
 simp only at hi hg ⊢
 refine Yb (Ya ?_)
 refine Z26 ?_
 refine Yc (Yb ?_)
 refine Zc (fun h18 => ?_) (fun h18 => ?_)
 try simp only [sz] at h18
 have hlt : i < a.length := by omega
 have hltb : i < b.length := by omega
 refine Ye (Yb (Yf (Yb (Ya ?_))))
 refine Z1 ?_
 refine Z88 ?_
 refine Z41 ?_
 refine Z7 (fun b8 => ?_)
 refine Z2 ?_
 refine Z3 ?_
 refine Yc (Yb (Ya ?_))
 refine Z1 ?_
 refine Z1 ?_
 refine Z88 ?_
 refine Z41 ?_
 refine Z7 (fun b9 => ?_)
 refine Z3 ?_
 refine Yc (Yb (Ya ?_))
 refine Z1 ?_
 refine Z23 ?_
 refine Z20 ?_
 refine AOps.e rfl rfl rfl (AOp.callVP rfl (h (a.getD i default) (getD_mem hlt) (b.getD i default) (getD_mem hltb)) (Yn rfl) ?_)
 refine Z65 ?_
 refine Yc ?_
 refine Zc (fun h30 => ?_) (fun h30 => ?_)
 try simp only [sz] at h30
 refine Yb (Ya ?_)
 refine Z2 ?_
 refine Yc (Yd ?_)
 refine Yh rfl (.cons rfl .nil) ?_
 exact D.Le.eq (congrArg D.bool (by rw [hg, drop_getD hlt, drop_getD hltb, samesM, h30, Bool.false_and]))
 try simp only [sz] at h30
 refine Ye (Ya ?_)
 refine Z19 ?_
 refine Z1 ?_
 refine Yc ?_
 refine ⟨i + 1, ⟨by omega, by rw [hg, drop_getD hlt, drop_getD (show i < b.length by omega), samesM, h30, Bool.true_and]⟩, by omega, rfl, (by repeat first | exact Ym | refine Yl (.refl _) ?_), (by repeat first | exact X0 _ | apply X1 | apply X2 | exact X3 _)⟩
 try simp only [sz] at h18
 refine Yg (Yb (Ya ?_))
 refine Z2 ?_
 refine Yc (Yd ?_)
 refine Yh rfl (.cons rfl .nil) ?_
 exact D.Le.eq (congrArg D.bool (by rw [hg, List.drop_of_length_le (by omega), List.drop_of_length_le (by omega)]; simp [samesM]))
theorem same_c (hS : SortedOk) : ∀ (m : Nat) (t u : Term), t.sz = m → t.fit 9223372036854775807 → u.fit 9223372036854775807 → AFn X 74 [encT t, encT u] (.bool (sameM t u)) := by
 intro m
 induction m using Nat.strongRecOn with
 | _ m ih =>
 intro t u hm hf hg
 refine Zf Tryz.func74 ?_
 refine Yb (Ya ?_)
 refine Z9 (fun b2 => ?_)
 refine Z9 (fun b3 => ?_)
 refine Z2 ?_
 refine Yc (Yb (Ya ?_))
 refine Z6 ?_
 refine Z16 ?_
 refine Z6 ?_
 refine Z11 ?_
 refine Z40 ?_
 refine Z1 ?_
 refine Zs 10 (fun h10 => ?_) (fun h10 => ?_)
 try simp only [sz] at h10
 refine Z18 ?_
 refine Z27 ?_
 refine Z18 ?_
 refine Z30 ?_
 refine Z47 ?_
 refine Z15 ?_
 refine Z1 ?_
 refine Zs 17 (fun h17 => ?_) (fun h17 => ?_)
 try simp only [sz] at h17
 refine Z18 ?_
 refine Z27 ?_
 refine Z18 ?_
 refine Z30 ?_
 refine Z47 ?_
 refine Z15 ?_
 refine Z1 ?_
 refine Zs 24 (fun h24 => ?_) (fun h24 => ?_)
 try simp only [sz] at h24
 refine Z18 ?_
 refine Z27 ?_
 refine Z18 ?_
 refine Z30 ?_
 refine AOps.eT rfl rfl rfl rfl rfl rfl (Yk (eqLvs_c hS t.levels u.levels hf.llen (fun l hl => hf.plen hl) (fun l hl => hg.plen hl)) (Yn rfl) ?_)
 refine Z15 ?_
 refine Z1 ?_
 refine Zs 31 (fun h31 => ?_) (fun h31 => ?_)
 refine Z18 ?_
 refine Z27 ?_
 refine Z18 ?_
 refine Z30 ?_
 refine AOps.eT rfl rfl rfl rfl rfl rfl (Yk (eqTs_c t.kids u.kids hf.len (fun k hk v hv => ih k.sz (by rw [← hm]; exact Term.sz_lt hk) k v rfl (hf.kid hk) (hg.kid hv))) (Yn rfl) ?_)
 refine Z15 ?_
 refine Z2 ?_
 refine Yc (Yd ?_)
 refine Yh rfl (.cons rfl .nil) ?_
 exact D.Le.eq (congrArg D.bool (by rw [sameM_eq]; simp_all))
 refine Z4 ?_
 refine Z4 ?_
 refine Z4 ?_
 refine Z4 ?_
 refine Z4 ?_
 refine Z13 ?_
 refine Z2 ?_
 refine Yc (Yd ?_)
 refine Yh rfl (.cons rfl .nil) ?_
 exact D.Le.eq (congrArg D.bool (by rw [sameM_eq]; simp_all))
 try simp only [sz] at h24
 refine Z4 ?_
 refine Z4 ?_
 refine Z4 ?_
 refine Z4 ?_
 refine Z4 ?_
 refine Z13 ?_
 refine Z1 ?_
 refine Z4 ?_
 refine Z4 ?_
 refine Z4 ?_
 refine Z4 ?_
 refine Z4 ?_
 refine Z13 ?_
 refine Z2 ?_
 refine Yc (Yd ?_)
 refine Yh rfl (.cons rfl .nil) ?_
 exact D.Le.eq (congrArg D.bool (by rw [sameM_eq]; simp_all))
 try simp only [sz] at h17
 refine Z4 ?_
 refine Z4 ?_
 refine Z4 ?_
 refine Z4 ?_
 refine Z4 ?_
 refine Z13 ?_
 refine Z1 ?_
 refine Z4 ?_
 refine Z4 ?_
 refine Z4 ?_
 refine Z4 ?_
 refine Z4 ?_
 refine Z13 ?_
 refine Z1 ?_
 refine Z4 ?_
 refine Z4 ?_
 refine Z4 ?_
 refine Z4 ?_
 refine Z4 ?_
 refine Z13 ?_
 refine Z2 ?_
 refine Yc (Yd ?_)
 refine Yh rfl (.cons rfl .nil) ?_
 exact D.Le.eq (congrArg D.bool (by rw [sameM_eq]; simp_all))
 try simp only [sz] at h10
 refine Z4 ?_
 refine Z4 ?_
 refine Z4 ?_
 refine Z4 ?_
 refine Z4 ?_
 refine Z13 ?_
 refine Z1 ?_
 refine Z4 ?_
 refine Z4 ?_
 refine Z4 ?_
 refine Z4 ?_
 refine Z4 ?_
 refine Z13 ?_
 refine Z1 ?_
 refine Z4 ?_
 refine Z4 ?_
 refine Z4 ?_
 refine Z4 ?_
 refine Z4 ?_
 refine Z13 ?_
 refine Z1 ?_
 refine Z4 ?_
 refine Z4 ?_
 refine Z4 ?_
 refine Z4 ?_
 refine Z4 ?_
 refine Z13 ?_
 refine Z2 ?_
 refine Yc (Yd ?_)
 refine Yh rfl (.cons rfl .nil) ?_
 exact D.Le.eq (congrArg D.bool (by rw [sameM_eq]; simp_all))
theorem ckids_c (t : Term) (zs : List Int) (hz : ∀ z ∈ zs, 0 ≤ z) (hl : zs.length ≤ 1000000) : AFn X 80 [encT t, .slc (zs.map (D.int .i64))] (.slT (zs.map (kid t))) := by
 refine Zf Tryz.func80 ?_
 refine Yb (Ya ?_)
 refine Z9 (fun b2 => ?_)
 refine Z2 ?_
 refine Yc (Yb (Yb (Ya ?_)))
 refine Z1 ?_
 refine AOps.v rfl rfl rfl (AVal.lenZ rfl rfl) ?_
 refine Z1 ?_
 refine Yc (Yf ?_)
 refine Yu (γ := Nat × Nat × Nat) (fun g => [(2, .ptr b2 0), (8, .slc (zs.map (D.int .i64))), (9, .int .i64 zs.length), (10, .int .i64 g.1), (4, growD g.1 g.2.1 g.2.2 (((zs.take g.1).map (kid t)).map encT))]) (fun g => growL 27 5 g.1 g.2.1 g.2.2 (((zs.take g.1).map (kid t)).map encT) ++ [(b2, .cells 27 (cellsT t))]) (fun g => g.1 ≤ zs.length) (fun g => zs.length - g.1) (0, 0, 0) (Nat.zero_le _) (by repeat first | exact Ym | refine Yl (.refl _) ?_) (by repeat first | exact X0 _ | apply X1 | apply X2 | exact X3 _) ?_
 rintro ⟨i, bb, cap⟩ hi t1
 simp only at hi ⊢
 rcases i with _ | i
 simp only [growL, growD, List.nil_append]
 refine Yb (Ya ?_)
 refine Z26 ?_
 refine Yc (Yb ?_)
 refine Zc (fun h11 => ?_) (fun h11 => ?_)
 try simp only [sz] at h11
 have hlt : (0 : Nat) < zs.length := by omega
 have hz0 := hz _ (getD_mem hlt)
 refine Ye (Yb (Yf (Yb (Ya ?_))))
 refine AOps.v rfl rfl rfl (AVal.indexZ rfl rfl rfl rfl rfl hlt) ?_
 refine Z56 ?_
 refine Z2 ?_
 refine Yc (Yb (Ya ?_))
 refine Z48 ?_
 refine Z7 (fun b7 => ?_)
 refine Z3 ?_
 refine Yc (Yb (Yb (Ya ?_)))
 refine Z1 ?_
 refine Z6 ?_
 refine Z16 ?_
 refine Z24 ?_
 refine Z26 ?_
 refine Yc ?_
 refine Zc (fun h19 => ?_) (fun h19 => ?_)
 try simp only [sz] at h19
 have hk : t.kids.getD (zs.getD (0) default).toNat default = kid t (zs.getD (0) default) := by unfold kid; rw [if_neg (by omega)]
 refine Ya ?_
 refine Z6 ?_
 refine Z16 ?_
 refine Z1 ?_
 refine Z53 ?_
 refine Z41 ?_
 refine Z3 ?_
 refine Yc (Ya ?_)
 refine Z1 ?_
 refine Z20 ?_
 refine Z62 ?_
 refine AOps.e rfl rfl rfl (AOp.app1New rfl rfl rfl rfl rfl rfl rfl rfl (fun bq cap' => ?_))
 refine Z2 ?_
 refine Yc (Ya ?_)
 refine Z19 ?_
 refine Z1 ?_
 refine Yc ?_
 refine ⟨(0 + 1, bq, cap'), by simp only; omega, by simp only; omega, rfl, ?_, ?_⟩
 · refine Yl (.refl _) (Yl (.refl _) (Yl (.refl _) (Yl (.refl _) (Yl (D.Le.eq ?_) Ym))))
   simp only [growD, kidsM_take hlt, ← hk, List.map_append, List.map_cons, List.map_nil]
   rfl
 · simp only [growL, List.cons_append, List.nil_append, kidsM_take hlt, ← hk, List.map_append, List.map_cons, List.map_nil]
   exact (by repeat first | exact X0 _ | apply X1 | apply X2 | exact X3 _)
 try simp only [sz] at h19
 have hk : T0 = kid t (zs.getD (0) default) := by unfold kid; rw [if_pos (by omega)]
 refine Ye (Ya ?_)
 refine Z1 ?_
 refine Z20 ?_
 refine Z62 ?_
 refine AOps.e rfl rfl rfl (AOp.app1New rfl rfl rfl rfl rfl rfl rfl rfl (fun bq cap' => ?_))
 refine Z2 ?_
 refine Yc (Ya ?_)
 refine Z19 ?_
 refine Z1 ?_
 refine Yc ?_
 refine ⟨(0 + 1, bq, cap'), by simp only; omega, by simp only; omega, rfl, ?_, ?_⟩
 · refine Yl (.refl _) (Yl (.refl _) (Yl (.refl _) (Yl (.refl _) (Yl (D.Le.eq ?_) Ym))))
   simp only [growD, kidsM_take hlt, ← hk, List.map_append, List.map_cons, List.map_nil]
   rfl
 · simp only [growL, List.cons_append, List.nil_append, kidsM_take hlt, ← hk, List.map_append, List.map_cons, List.map_nil]
   exact (by repeat first | exact X0 _ | apply X1 | apply X2 | exact X3 _)
 try simp only [sz] at h11
 refine Yg (Yb (Ya ?_))
 refine Z1 ?_
 refine Z2 ?_
 refine Yc (Yd ?_)
 refine Yh rfl (.cons rfl .nil) ?_
 exact .emp _ (by rw [List.eq_nil_of_length_eq_zero (by omega : zs.length = 0)]; rfl)
 simp only [growL, growD, List.cons_append, List.nil_append]
 refine Yb (Ya ?_)
 refine Z26 ?_
 refine Yc (Yb ?_)
 refine Zc (fun h11 => ?_) (fun h11 => ?_)
 try simp only [sz] at h11
 have hlt : (i + 1 : Nat) < zs.length := by omega
 have hz0 := hz _ (getD_mem hlt)
 refine Ye (Yb (Yf (Yb (Ya ?_))))
 refine AOps.v rfl rfl rfl (AVal.indexZ rfl rfl rfl rfl rfl hlt) ?_
 refine Z56 ?_
 refine Z2 ?_
 refine Yc (Yb (Ya ?_))
 refine Z48 ?_
 refine Z7 (fun b7 => ?_)
 refine Z3 ?_
 refine Yc (Yb (Yb (Ya ?_)))
 refine Z1 ?_
 refine Z6 ?_
 refine Z35 ?_
 refine Z24 ?_
 refine Z26 ?_
 refine Yc ?_
 refine Zc (fun h19 => ?_) (fun h19 => ?_)
 try simp only [sz] at h19
 have hk : t.kids.getD (zs.getD (i + 1) default).toNat default = kid t (zs.getD (i + 1) default) := by unfold kid; rw [if_neg (by omega)]
 refine Ya ?_
 refine Z6 ?_
 refine Z35 ?_
 refine Z1 ?_
 refine Z53 ?_
 refine Z41 ?_
 refine Z3 ?_
 refine Yc (Ya ?_)
 refine Z1 ?_
 refine Z20 ?_
 refine Z62 ?_
 refine AOps.e rfl rfl rfl (AOp.app1Own 1 rfl rfl rfl rfl rfl rfl rfl rfl rfl (by simp only [List.length_map, List.length_take]; omega) rfl (by repeat constructor) (fun bq cap' => ?_))
 refine Z2 ?_
 refine Yc (Ya ?_)
 refine Z19 ?_
 refine Z1 ?_
 refine Yc ?_
 refine ⟨(i + 1 + 1, bq, cap'), by simp only; omega, by simp only; omega, rfl, ?_, ?_⟩
 · refine Yl (.refl _) (Yl (.refl _) (Yl (.refl _) (Yl (.refl _) (Yl (D.Le.eq ?_) Ym))))
   simp only [growD, kidsM_take hlt, ← hk, List.map_append, List.map_cons, List.map_nil]
   rfl
 · simp only [growL, List.cons_append, List.nil_append, kidsM_take hlt, ← hk, List.map_append, List.map_cons, List.map_nil]
   exact (by repeat first | exact X0 _ | apply X1 | apply X2 | exact X3 _)
 try simp only [sz] at h19
 have hk : T0 = kid t (zs.getD (i + 1) default) := by unfold kid; rw [if_pos (by omega)]
 refine Ye (Ya ?_)
 refine Z1 ?_
 refine Z20 ?_
 refine Z62 ?_
 refine AOps.e rfl rfl rfl (AOp.app1Own 1 rfl rfl rfl rfl rfl rfl rfl rfl rfl (by simp only [List.length_map, List.length_take]; omega) rfl (by repeat constructor) (fun bq cap' => ?_))
 refine Z2 ?_
 refine Yc (Ya ?_)
 refine Z19 ?_
 refine Z1 ?_
 refine Yc ?_
 refine ⟨(i + 1 + 1, bq, cap'), by simp only; omega, by simp only; omega, rfl, ?_, ?_⟩
 · refine Yl (.refl _) (Yl (.refl _) (Yl (.refl _) (Yl (.refl _) (Yl (D.Le.eq ?_) Ym))))
   simp only [growD, kidsM_take hlt, ← hk, List.map_append, List.map_cons, List.map_nil]
   rfl
 · simp only [growL, List.cons_append, List.nil_append, kidsM_take hlt, ← hk, List.map_append, List.map_cons, List.map_nil]
   exact (by repeat first | exact X0 _ | apply X1 | apply X2 | exact X3 _)
 try simp only [sz] at h11
 refine Yg (Yb (Ya ?_))
 refine Z1 ?_
 refine Z2 ?_
 refine Yc (Yd ?_)
 refine Yh rfl (.cons rfl .nil) ?_
 exact .own _ _ _ _ (by rw [List.take_of_length_le (by omega)]; rfl)
theorem parts1_c (t : Term) (b2c : Nat) (R : Loc) : AKeep X 163 [.ptr b2c 0] ((b2c, .cells 27 (cellsT t)) :: R) (.slT [kid t 1]) := by
 refine Zf Tryz.func163 ?_
 refine Yb (Ya ?_)
 refine Z2 ?_
 refine Yc (Yb (Ya ?_))
 refine Z20 ?_
 refine AOps.e rfl rfl rfl (AOp.buildSlice (es := [.int .i64 _]) rfl rfl rfl rfl rfl ?_)
 refine AOps.e rfl rfl rfl (Yk (ckids_c t [1] (by simp) (by simp)) (Yn rfl) ?_)
 refine Z2 ?_
 refine Yc (Yd ?_)
 refine Yr rfl (.cons rfl .nil) (by repeat first | exact X0 _ | apply X1 | apply X2) ?_
 exact .refl _
theorem parts2_c (t : Term) (b2c : Nat) (R : Loc) : AKeep X 165 [.ptr b2c 0] ((b2c, .cells 27 (cellsT t)) :: R) (.slT [kid t 0, kid t 1]) := by
 refine Zf Tryz.func165 ?_
 refine Yb (Ya ?_)
 refine Z2 ?_
 refine Yc (Yb (Ya ?_))
 refine Z20 ?_
 refine AOps.e rfl rfl rfl (AOp.buildSlice (es := [.int .i64 _, .int .i64 _]) rfl rfl rfl rfl rfl ?_)
 refine AOps.e rfl rfl rfl (Yk (ckids_c t [0, 1] (by simp) (by simp)) (Yn rfl) ?_)
 refine Z2 ?_
 refine Yc (Yd ?_)
 refine Yr rfl (.cons rfl .nil) (by repeat first | exact X0 _ | apply X1 | apply X2) ?_
 exact .refl _
theorem applied_c (t : Term) (ht : t.fit 1099511627776) (hs : t.sz ≤ 4611686018427387904) : AFn X 164 [encT t] (.slT (appliedM t)) := by
 refine Zf Tryz.func164 ?_
 refine Yb (Ya ?_)
 refine Z9 (fun b1 => ?_)
 refine Z2 ?_
 refine Yc (Yb (Ya ?_))
 refine Z20 ?_
 refine AOps.e rfl rfl rfl (Yk (lift_c t 1 0 ht hs) (Yn rfl) ?_)
 refine Z48 ?_
 refine AOps.e rfl rfl rfl (AOp.buildSliceT (ts := [_, _]) rfl rfl rfl rfl rfl ?_)
 refine Z48 ?_
 refine Z62 ?_
 refine Z2 ?_
 refine Yc (Yd ?_)
 refine Yh rfl (.cons rfl .nil) ?_
 exact .refl _
theorem halves_c (t : Term) : AFn X 166 [encT t] (.slT (halvesM t)) := by
 refine Zf Tryz.func166 ?_
 refine Yb (Ya ?_)
 refine Z9 (fun b1 => ?_)
 refine Z2 ?_
 refine Yc (Yb (Ya ?_))
 refine Z20 ?_
 refine Z62 ?_
 refine Z48 ?_
 refine Z20 ?_
 refine Z62 ?_
 refine Z48 ?_
 refine AOps.e rfl rfl rfl (AOp.buildSliceT (ts := [_, _]) rfl rfl rfl rfl rfl ?_)
 refine Z2 ?_
 refine Yc (Yd ?_)
 refine Yh rfl (.cons rfl .nil) ?_
 exact .refl _
theorem parts_c (t : Term) (k : Int) (ht : t.fit 1099511627776) (hs : t.sz ≤ 4611686018427387904) : AFn X 127 [encT t, .int .i64 k] (.slT (partsM t k)) := by
 refine Zf Tryz.func127 ?_
 refine Yb (Ya ?_)
 refine Z9 (fun b2 => ?_)
 refine Z2 ?_
 refine Yc (Yb (Ya ?_))
 refine Z54 ?_
 refine Z2 ?_
 refine Z2 ?_
 refine Yc (Yb (Yb (Ya ?_)))
 refine Z1 ?_
 refine Z40 ?_
 refine Yc ?_
 refine Zc (fun h9 => ?_) (fun h9 => ?_)
 try simp only [sz] at h9
 refine Ya ?_
 refine Z54 ?_
 refine Z2 ?_
 refine Z2 ?_
 refine Yc (Yb (Yb (Ya ?_)))
 refine Z6 ?_
 refine Z11 ?_
 refine Z1 ?_
 refine Z40 ?_
 refine Yc ?_
 refine Zc (fun h14 => ?_) (fun h14 => ?_)
 try simp only [sz] at h14
 refine Yb (Ya ?_)
 refine Z1 ?_
 refine AOps.e rfl rfl rfl (AOp.callVK [] rfl (parts2_c t b2 []) (Yn rfl) rfl ?_)
 refine Z2 ?_
 refine Yc (Yd ?_)
 refine Yh rfl (.cons rfl .nil) (D.Le.eq ?_)
 unfold partsM; rw [if_pos (show t.kind = k from h14), if_pos h9]
 rfl
 try simp only [sz] at h14
 refine Ye (Yb (Ya ?_))
 refine Z1 ?_
 refine Z20 ?_
 refine AOps.e rfl rfl rfl (AOp.callVP rfl (halves_c t) (Yn rfl) ?_)
 refine Z2 ?_
 refine Yc (Yd ?_)
 refine Yh rfl (.cons rfl .nil) (D.Le.eq ?_)
 unfold partsM; rw [if_neg (show ¬ t.kind = k from h14), if_pos h9]
 rfl
 try simp only [sz] at h9
 refine Ye (Yb (Yb (Ya ?_)))
 refine Z6 ?_
 refine Z11 ?_
 refine Z1 ?_
 refine Z40 ?_
 refine Yc ?_
 refine Zc (fun h14 => ?_) (fun h14 => ?_)
 try simp only [sz] at h14
 refine Yb (Ya ?_)
 refine Z1 ?_
 refine AOps.e rfl rfl rfl (AOp.callVK [] rfl (parts1_c t b2 []) (Yn rfl) rfl ?_)
 refine Z2 ?_
 refine Yc (Yd ?_)
 refine Yh rfl (.cons rfl .nil) (D.Le.eq ?_)
 unfold partsM; rw [if_pos (show t.kind = k from h14), if_neg h9]
 rfl
 try simp only [sz] at h14
 refine Ye (Yb (Ya ?_))
 refine Z1 ?_
 refine Z20 ?_
 refine AOps.e rfl rfl rfl (AOp.callVP rfl (applied_c t ht hs) (Yn rfl) ?_)
 refine Z2 ?_
 refine Yc (Yd ?_)
 refine Yh rfl (.cons rfl .nil) (D.Le.eq ?_)
 unfold partsM; rw [if_neg (show ¬ t.kind = k from h14), if_neg h9]
 rfl
theorem matters_c (t : Term) : AFn X 128 [encT t] (.slT (mattersM t)) := by
 refine Zf Tryz.func128 ?_
 refine Yb (Ya ?_)
 refine Z9 (fun b1 => ?_)
 refine Z2 ?_
 refine Yc (Yb (Yb (Ya ?_)))
 refine Z6 ?_
 refine Z11 ?_
 refine Yc (Yf (Yb (Ya ?_)))
 refine Z40 ?_
 refine Z2 ?_
 refine Yc ?_
 refine Zc (fun h5 => ?_) (fun h5 => ?_)
 try simp only [sz] at h5
 refine Yb (Ya ?_)
 refine Z20 ?_
 refine AOps.e rfl rfl rfl (AOp.buildSlice (es := [.int .i64 _, .int .i64 _, .int .i64 _]) rfl rfl rfl rfl rfl ?_)
 refine AOps.e rfl rfl rfl (Yk (ckids_c t [2, 3, 4] (by simp) (by simp)) (Yn rfl) ?_)
 refine Z2 ?_
 refine Yc (Yd ?_)
 refine Yh rfl (.cons rfl .nil) ?_
 exact D.Le.eq (by rw [mattersM, if_pos (by assumption)]; rfl)
 try simp only [sz] at h5
 refine Yb (Ya ?_)
 refine Z40 ?_
 refine Z2 ?_
 refine Yc ?_
 refine Zc (fun h10 => ?_) (fun h10 => ?_)
 try simp only [sz] at h10
 refine Yb (Ya ?_)
 refine Z20 ?_
 refine AOps.e rfl rfl rfl (AOp.buildSlice (es := [.int .i64 _, .int .i64 _, .int .i64 _]) rfl rfl rfl rfl rfl ?_)
 refine AOps.e rfl rfl rfl (Yk (ckids_c t [2, 3, 5] (by simp) (by simp)) (Yn rfl) ?_)
 refine Z2 ?_
 refine Yc (Yd ?_)
 refine Yh rfl (.cons rfl .nil) ?_
 exact D.Le.eq (by rw [mattersM, if_neg (by assumption), if_pos (by assumption)]; rfl)
 try simp only [sz] at h10
 refine Ye (Yb (Ya ?_))
 refine Z6 ?_
 refine Z11 ?_
 refine Z2 ?_
 refine Yc (Yd ?_)
 refine Yh rfl (.cons rfl .nil) ?_
 exact D.Le.eq (by rw [mattersM, if_neg (by assumption), if_neg (by assumption)]; rfl)
end Sp

/- The walks of conv: the asker. Written by a program of mine. -/
set_option linter.unusedVariables false
set_option linter.unusedSimpArgs false
set_option maxRecDepth 20000
namespace Sp
open Go Go.Proofs
theorem acall_c (b : Nat) (cs : List Core) (F : Int) (h0 : 0 ≤ F) (h1 : F ≤ 1073741824) : AMay X 73 [.ptr b 0] [(b, .cells 119 [.int .i64 (F), .slC cs])] (¬ F = 0) (.tup []) [(b, .cells 119 [.int .i64 (F - 1), .slC cs])] (.iface 30 (.int .i64 5)) [(b, .cells 119 [.int .i64 (F), .slC cs])] := by
 refine Zf Tryz.func73 ?_
 refine Yb (Yb (Ya ?_))
 refine Z1 ?_
 refine Z44 ?_
 refine Z6 ?_
 refine Z11 ?_
 refine Z40 ?_
 refine Yc ?_
 refine Zc (fun h6 => ?_) (fun h6 => ?_)
 try simp only [sz] at h6
 refine Ya ?_
 refine Z51 ?_
 refine AOps.e0 rfl rfl (AOp.panic rfl ?_)
 exact AFin.mayPan (X := X) (fn := Tryz.f73) rfl (by repeat first | exact X0 _ | apply X1 | apply X2 | exact X3 _) (by omega)
 try simp only [sz] at h6
 refine Ye (Ya ?_)
 refine Z1 ?_
 refine Z44 ?_
 refine Z6 ?_
 refine Z11 ?_
 refine Z92 ?_
 refine Z44 ?_
 refine Z6 ?_
 refine Z3 ?_
 refine Yc ?_
 refine AFin.mayEnd rfl .nil (by repeat first | exact X0 _ | apply X1 | apply X2) ?_ (by omega)
 exact .refl _
theorem aspend_c (b : Nat) (cs : List Core) (F left e : Int) : AMay X 126 [.ptr b 0, .int .i64 left, .int .i64 e] [(b, .cells 119 [.int .i64 (F), .slC cs])] (e = 0) (.tup []) [(b, .cells 119 [.int .i64 (left), .slC cs])] (.iface 30 (.int .i64 e)) [(b, .cells 119 [.int .i64 (left), .slC cs])] := by
 refine Zf Tryz.func126 ?_
 refine Yb (Ya ?_)
 refine Z1 ?_
 refine Z1 ?_
 refine Z44 ?_
 refine Z6 ?_
 refine Z3 ?_
 refine Yc (Yb (Ya ?_))
 refine Z1 ?_
 refine Z60 ?_
 refine Yc ?_
 refine Zc (fun h11 => ?_) (fun h11 => ?_)
 try simp only [sz] at h11
 refine Ya ?_
 refine Z1 ?_
 refine Z51 ?_
 refine AOps.e0 rfl rfl (AOp.panic rfl ?_)
 exact AFin.mayPan (X := X) (fn := Tryz.f126) rfl (by repeat first | exact X0 _ | apply X1 | apply X2 | exact X3 _) (by omega)
 try simp only [sz] at h11
 refine Ye ?_
 refine AFin.mayEnd rfl .nil (by repeat first | exact X0 _ | apply X1 | apply X2) ?_ (by omega)
 exact .refl _
theorem ahead_c (hS : SortedOk) (b : Nat) (cs : List Core) (hC : CoresOk cs) (F : Int) (t : Term) (h0 : 0 ≤ F) (h1 : F ≤ 1073741824) (hw : W F t) : AMay X 75 [.ptr b 0, encT t] [(b, .cells 119 [.int .i64 (F), .slC cs])] ((whnfM cs t F).2.2 = 0) (encT (whnfM cs t F).1) [(b, .cells 119 [.int .i64 ((whnfM cs t F).2.1), .slC cs])] (.iface 30 (.int .i64 5)) [(b, .cells 119 [.int .i64 ((whnfM cs t F).2.1), .slC cs])] := by
 refine Zf Tryz.func75 ?_
 refine Yb (Ya ?_)
 refine Z9 (fun b3 => ?_)
 refine Z7 (fun b4 => ?_)
 refine Yc (Yb ?_)
 refine Yj [.p 0, .p 1, .p 2, .l 3, .l 4, .p 5, .p 6, .p 7, .p 8, .l 9, .p 10, .p 11, .p 12, .p 13, .p 14, .a 15, .e 16 [], .p 17, .p 18] mixed (by kernel_rfl) ?_
 refine Z5 ?_
 refine Z38 ?_
 refine Z8 ?_
 refine Z45 ?_
 refine Z28 ?_
 refine Z5 ?_
 refine Z38 ?_
 refine Z8 ?_
 refine Z8 ?_
 refine Z45 ?_
 refine ASeq.pe rfl rfl rfl rfl (fun L0 => (Yk (whnf_c (t := t) (fuel := F) hS cs (fun _ => ⟨hC, hw.1, by have := psz_le_fsz hw.1; have := hw.2; omega⟩)) (Yn rfl) ⟨rfl, rfl⟩)) ?_
 refine Z5 ?_
 refine Z29 ?_
 refine Z29 ?_
 refine Z29 ?_
 refine Za (fun b5 => ?_)
 refine Z25 ?_
 refine Z17 ?_
 refine Z17 ?_
 refine ASeq.nil (Yb (Ya ?_))
 refine Z1 ?_
 refine Z44 ?_
 refine Z6 ?_
 refine Z1 ?_
 refine Z1 ?_
 refine AOps.e rfl rfl rfl (AOp.callM [_, _, _] (aspend_c b cs F _ _) (Yn rfl) rfl (fun hok => ?_) (fun hno => ?_))
 refine Yc (Yb (Ya ?_))
 refine Z20 ?_
 refine Z10 ?_
 refine Yc (Yd ?_)
 refine AFin.mayRet rfl (.cons (Yi (d := encT _) 1 rfl rfl rfl rfl) .nil) (by repeat first | exact X0 _ | apply X1 | apply X2) ?_ (hok)
 exact .refl _
 have he : (whnfM cs t F) = (T0, 0, 5) := whnf_err h0 h1 hno
 rw [he]
 exact AFin.mayPan (X := X) (fn := Tryz.f75) rfl (by repeat first | exact X0 _ | apply X1 | apply X2 | exact X3 _) (by simp)
theorem aall_c (b : Nat) (cs : List Core) (hC : CoresOk cs) (n : Nat) (H : ∀ G p q, 0 ≤ G → G ≤ min (n : Int) 1073741824 → W G p → W G q → AMay X 36 [.ptr b 0, encT p, encT q] [(b, .cells 119 [.int .i64 (G), .slC cs])] ((oneM cs n G p q).isSome = true) (.bool (oB (oneM cs n G p q))) [(b, .cells 119 [.int .i64 (oL (oneM cs n G p q)), .slC cs])] (.iface 30 (.int .i64 5)) [(b, .cells 119 [.int .i64 (oL (oneM cs n G p q)), .slC cs])]) (F : Int) (ps qs : List Term) (hl : ps.length = qs.length) (h0 : 0 ≤ F) (h1 : F ≤ min (n : Int) 1073741824) (hlen : ps.length ≤ 9223372036854775807) (hp : ∀ u ∈ ps, W F u) (hq : ∀ u ∈ qs, W F u) : AMay X 79 [.ptr b 0, .slT ps, .slT qs] [(b, .cells 119 [.int .i64 (F), .slC cs])] ((allM (oneM cs n) F ps qs).isSome = true) (.bool (oB (allM (oneM cs n) F ps qs))) [(b, .cells 119 [.int .i64 (oL (allM (oneM cs n) F ps qs)), .slC cs])] (.iface 30 (.int .i64 5)) [(b, .cells 119 [.int .i64 (oL (allM (oneM cs n) F ps qs)), .slC cs])] := by
 refine Zf Tryz.func79 ?_
 refine Yb (Ya ?_)
 refine Z2 ?_
 refine Yc (Yb (Yb (Ya ?_)))
 refine Z1 ?_
 refine Z24 ?_
 refine Z1 ?_
 refine Yc (Yf ?_)
 refine Yu (γ := Nat × Int) (fun g => [(0, .ptr b 0), (1, .slT ps), (2, .slT qs), (8, .slT ps), (9, .int .i64 ps.length), (10, .int .i64 g.1)]) (fun g => [(b, .cells 119 [.int .i64 (g.2), .slC cs])]) (fun g => g.1 ≤ ps.length ∧ 0 ≤ g.2 ∧ g.2 ≤ F ∧ allM (oneM cs n) g.2 (ps.drop g.1) (qs.drop g.1) = (allM (oneM cs n) F ps qs)) (fun g => ps.length - g.1) (0, F) ⟨Nat.zero_le _, h0, Int.le_refl _, rfl⟩ (by repeat first | exact Ym | refine Yl (.refl _) ?_) (by repeat first | exact X0 _ | apply X1 | apply X2 | exact X3 _) ?_
 rintro ⟨i, G⟩ ⟨hi, hG0, hG1, hg⟩ t1
 simp only at hi hG0 hG1 hg ⊢
 refine Yb (Ya ?_)
 refine Z26 ?_
 refine Yc (Yb ?_)
 refine Zc (fun h11 => ?_) (fun h11 => ?_)
 try simp only [sz] at h11
 have hlt : i < ps.length := by omega
 have hltq : i < qs.length := by omega
 refine Ye (Yb (Yf (Yb (Ya ?_))))
 refine Z1 ?_
 refine Z2 ?_
 refine Yc (Yb ?_)
 refine Yj [.p 0, .p 1, .p 2, .p 3, .p 4, .p 5, .p 6, .p 7, .p 8, .e 9 [], .p 10] mixed (by kernel_rfl) ?_
 refine Z5 ?_
 refine Z5 ?_
 refine Z5 ?_
 refine Yt rfl rfl rfl rfl (fun L0 => (AVal.indexTK rfl rfl rfl rfl rfl (by omega))) ?_
 refine Z21 ?_
 refine Z5 ?_
 refine Z5 ?_
 refine Yt rfl rfl rfl rfl (fun L0 => (AVal.indexTK rfl rfl rfl rfl rfl (by omega))) ?_
 refine Z21 ?_
 refine ASeq.ee rfl rfl rfl rfl rfl (AOp.callM [] (H G (ps.getD i default) (qs.getD i default) hG0 (by omega) ((hp _ (getD_mem hlt)).mono (by omega)) ((hq _ (getD_mem hltq)).mono (by omega))) (Yn rfl) rfl (fun hok => ⟨Yo, ?_⟩) (fun hno => ?_))
 refine Yt rfl rfl rfl rfl (fun L0 => (AVal.not rfl)) ?_
 refine ASeq.nil ?_
 refine Zc (fun h23 => ?_) (fun h23 => ?_)
 try simp only [sz] at h23
 have hs := hok
 have hqh : (qs.drop i).headD T0 = qs.getD i default := by rw [drop_getD hltq]; rfl
 have hqt : (qs.drop i).tail = qs.drop (i + 1) := by rw [drop_getD hltq]; rfl
 have hn : (allM (oneM cs n) F ps qs) = some (false, oL (oneM cs n G (ps.getD i default) (qs.getD i default))) := by rw [← hg, drop_getD hlt]; exact allM_step_false (by rw [hqh]; exact o_false hs h23)
 rw [hn]
 refine Yb (Ya ?_)
 refine Z2 ?_
 refine Yc (Yd ?_)
 refine AFin.mayRet rfl (.cons rfl .nil) (by repeat first | exact X0 _ | apply X1 | apply X2) ?_ (rfl)
 exact .refl _
 try simp only [sz] at h23
 have hs := hok
 have hqh : (qs.drop i).headD T0 = qs.getD i default := by rw [drop_getD hltq]; rfl
 have hqt : (qs.drop i).tail = qs.drop (i + 1) := by rw [drop_getD hltq]; rfl
 have hn : allM (oneM cs n) (oL (oneM cs n G (ps.getD i default) (qs.getD i default))) (ps.drop (i + 1)) (qs.drop (i + 1)) = (allM (oneM cs n) F ps qs) := by
   rw [← hg, drop_getD hlt, allM_step_true (by rw [hqh]; exact o_true hs h23), hqt]
 have hsh := one_shift hC n 0 G _ _ _ _ hG0 (by omega) ((hp _ (getD_mem hlt)).mono (by omega)) ((hq _ (getD_mem hltq)).mono (by omega)) (o_true hs h23)
 refine Ye (Ya ?_)
 refine Z19 ?_
 refine Z1 ?_
 refine Yc ?_
 refine ⟨(i + 1, oL (oneM cs n G (ps.getD i default) (qs.getD i default))), ⟨by simp only; omega, hsh.1, by simp only; omega, hn⟩, by simp only; omega, rfl, (by repeat first | exact Ym | refine Yl (.refl _) ?_), (by repeat first | exact X0 _ | apply X1 | apply X2 | exact X3 _)⟩
 have hqh : (qs.drop i).headD T0 = qs.getD i default := by rw [drop_getD hltq]; rfl
 have hn : (allM (oneM cs n) F ps qs) = none := by rw [← hg, drop_getD hlt]; exact allM_step_none (by rw [hqh]; exact o_none hno)
 rw [o_none hno, hn]
 exact AFin.mayPan (X := X) (fn := Tryz.f79) rfl (by repeat first | exact X0 _ | apply X1 | apply X2 | exact X3 _) (by simp)
 try simp only [sz] at h11
 have hn : (allM (oneM cs n) F ps qs) = some (true, G) := by rw [← hg, List.drop_of_length_le (by omega)]; rfl
 rw [hn]
 refine Yg (Yb (Ya ?_))
 refine Z2 ?_
 refine Yc (Yd ?_)
 refine AFin.mayRet rfl (.cons rfl .nil) (by repeat first | exact X0 _ | apply X1 | apply X2) ?_ (rfl)
 exact .refl _
theorem aheads_c (hS : SortedOk) (b : Nat) (cs : List Core) (hC : CoresOk cs) (n : Nat) (H : ∀ G p q, 0 ≤ G → G ≤ min (n : Int) 1073741824 → W G p → W G q → AMay X 36 [.ptr b 0, encT p, encT q] [(b, .cells 119 [.int .i64 (G), .slC cs])] ((oneM cs n G p q).isSome = true) (.bool (oB (oneM cs n G p q))) [(b, .cells 119 [.int .i64 (oL (oneM cs n G p q)), .slC cs])] (.iface 30 (.int .i64 5)) [(b, .cells 119 [.int .i64 (oL (oneM cs n G p q)), .slC cs])]) (F : Int) (p q : Term) (h0 : 0 ≤ F) (h1 : F ≤ min (n : Int) 1073741824) (hp : p.fit 1099511627776 ∧ (fsz p : Int) + 2 + 7 * F ≤ 268435456) (hq : q.fit 1099511627776 ∧ (fsz q : Int) + 2 + 7 * F ≤ 268435456) : AMay X 76 [.ptr b 0, encT p, encT q] [(b, .cells 119 [.int .i64 (F), .slC cs])] ((headsM (oneM cs n) F p q).isSome = true) (.bool (oB (headsM (oneM cs n) F p q))) [(b, .cells 119 [.int .i64 (oL (headsM (oneM cs n) F p q)), .slC cs])] (.iface 30 (.int .i64 5)) [(b, .cells 119 [.int .i64 (oL (headsM (oneM cs n) F p q)), .slC cs])] := by
 refine Zf Tryz.func76 ?_
 refine Yb (Ya ?_)
 refine Z9 (fun b4 => ?_)
 refine Z9 (fun b5 => ?_)
 refine Z2 ?_
 refine Yc (Yb (Yb (Ya ?_)))
 refine AOps.e rfl rfl rfl (AOp.buildSlice (es := [.int .i64 _, .int .i64 _]) rfl rfl rfl rfl rfl ?_)
 refine Z24 ?_
 refine Z1 ?_
 refine Yc (Yf ?_)
 refine Yu (γ := Nat) (fun g => [(0, .ptr b 0), (4, .ptr b4 0), (5, .ptr b5 0), (10, .slc [.int .i64 5, .int .i64 13]), (11, .int .i64 2), (12, .int .i64 g)]) (fun g => [(b5, .cells 27 (cellsT q)), (b4, .cells 27 (cellsT p)), (b, .cells 119 [.int .i64 F, .slC cs])]) (fun g => g ≤ 2 ∧ (1 ≤ g → ¬ (p.kind = 5 ∨ q.kind = 5)) ∧ (2 ≤ g → ¬ (p.kind = 13 ∨ q.kind = 13))) (fun g => 2 - g) 0 ⟨by omega, by omega, by omega⟩ (by repeat first | exact Ym | refine Yl (.refl _) ?_) (by repeat first | exact X0 _ | apply X1 | apply X2 | exact X3 _) ?_
 rintro g ⟨hg2, hinv5, hinv13⟩ t1
 rcases g with _ | _ | g
 
 refine Yb (Ya ?_)
 refine Z26 ?_
 refine Yc (Yb ?_)
 refine Zc (fun h13 => ?_) (fun h13 => ?_)
 try simp only [sz] at h13
 skip
 refine Ye (Yb (Yf (Yb (Ya ?_))))
 refine AOps.v rfl rfl rfl (AVal.indexD (e := .int .i64 5) rfl rfl rfl rfl rfl (by omega) rfl (fun e he => by simp at he; rcases he with rfl | rfl <;> rfl)) ?_
 refine Z56 ?_
 refine Z2 ?_
 refine Yc (Yb (Ya ?_))
 refine Z6 ?_
 refine Z16 ?_
 refine Z1 ?_
 refine Z40 ?_
 refine Z1 ?_
 refine Zs 20 (fun h20 => ?_) (fun h20 => ?_)
 try simp only [sz] at h20
 refine Z4 ?_
 refine Z4 ?_
 refine Z4 ?_
 refine Z4 ?_
 refine Z15 ?_
 refine Yc (ACode.condT rfl ?_)
 have hc5 : p.kind = 5 ∨ q.kind = 5 := by simp_all
 have hn : (headsM (oneM cs n) F p q) = allM (oneM cs n) F (partsM p 5) (partsM q 5) := if_pos hc5
 rw [hn]
 refine Yb ?_
 refine Yj [.p 0, .l 1, .p 2, .p 3, .l 4, .p 5, .p 6, .e 7 [], .p 8] mixed (by kernel_rfl) ?_
 refine Z5 ?_
 refine Z28 ?_
 refine Z5 ?_
 refine ASeq.pe rfl rfl rfl rfl (fun L0 => (Yk (parts_c p 5 hp.1 (by have := sz_le_fsz p; omega)) (Yn rfl) ⟨rfl, rfl⟩)) ?_
 refine Z31 ?_
 refine Z5 ?_
 refine ASeq.pe rfl rfl rfl rfl (fun L0 => (Yk (parts_c q 5 hq.1 (by have := sz_le_fsz q; omega)) (Yn rfl) ⟨rfl, rfl⟩)) ?_
 refine ASeq.ee rfl rfl rfl rfl rfl (AOp.callM [_, _] (aall_c b cs hC n H F (partsM p 5) (partsM q 5) (partsM_len p q 5) h0 h1 (by unfold partsM halvesM appliedM; split <;> split <;> simp) (W_parts 5 hp.1 hp.2) (W_parts 5 hq.1 hq.2)) (Yn rfl) rfl (fun hok => ⟨Yo, ?_⟩) (fun hno => ?_))
 refine Z17 ?_
 refine ASeq.nil (Yd ?_)
 refine AFin.mayRet rfl (.cons rfl .nil) (by repeat first | exact X0 _ | apply X1 | apply X2) ?_ ((hok))
 exact .refl _
 exact AFin.mayPan (X := X) (fn := Tryz.f76) rfl (by repeat first | exact X0 _ | apply X1 | apply X2 | exact X3 _) hno
 try simp only [sz] at h20
 refine Z18 ?_
 refine Z30 ?_
 refine Z14 ?_
 refine Z47 ?_
 refine Z13 ?_
 refine Yc ?_
 refine Zc (fun h25 => ?_) (fun h25 => ?_)
 try simp only [sz] at h25
 have hc5 : p.kind = 5 ∨ q.kind = 5 := by simp_all
 have hn : (headsM (oneM cs n) F p q) = allM (oneM cs n) F (partsM p 5) (partsM q 5) := if_pos hc5
 rw [hn]
 refine Yb ?_
 refine Yj [.p 0, .l 1, .p 2, .p 3, .l 4, .p 5, .p 6, .e 7 [], .p 8] mixed (by kernel_rfl) ?_
 refine Z5 ?_
 refine Z28 ?_
 refine Z5 ?_
 refine ASeq.pe rfl rfl rfl rfl (fun L0 => (Yk (parts_c p 5 hp.1 (by have := sz_le_fsz p; omega)) (Yn rfl) ⟨rfl, rfl⟩)) ?_
 refine Z31 ?_
 refine Z5 ?_
 refine ASeq.pe rfl rfl rfl rfl (fun L0 => (Yk (parts_c q 5 hq.1 (by have := sz_le_fsz q; omega)) (Yn rfl) ⟨rfl, rfl⟩)) ?_
 refine ASeq.ee rfl rfl rfl rfl rfl (AOp.callM [_, _] (aall_c b cs hC n H F (partsM p 5) (partsM q 5) (partsM_len p q 5) h0 h1 (by unfold partsM halvesM appliedM; split <;> split <;> simp) (W_parts 5 hp.1 hp.2) (W_parts 5 hq.1 hq.2)) (Yn rfl) rfl (fun hok => ⟨Yo, ?_⟩) (fun hno => ?_))
 refine Z17 ?_
 refine ASeq.nil (Yd ?_)
 refine AFin.mayRet rfl (.cons rfl .nil) (by repeat first | exact X0 _ | apply X1 | apply X2) ?_ ((hok))
 exact .refl _
 exact AFin.mayPan (X := X) (fn := Tryz.f76) rfl (by repeat first | exact X0 _ | apply X1 | apply X2 | exact X3 _) hno
 try simp only [sz] at h25
 have hinv5 : ¬ (p.kind = 5 ∨ q.kind = 5) := by simp_all
 refine Ye (Ya ?_)
 refine Z19 ?_
 refine Z1 ?_
 refine Yc ?_
 refine ⟨1, ⟨by omega, fun _ => hinv5, fun h => absurd h (by omega)⟩, by omega, rfl, (by repeat first | exact Ym | refine Yl (.refl _) ?_), (by repeat first | exact X0 _ | apply X1 | apply X2 | exact X3 _)⟩
 try simp only [sz] at h13
 exact absurd h13 (by omega) --END
 have hinv5 := hinv5 (by omega)
 refine Yb (Ya ?_)
 refine Z26 ?_
 refine Yc (Yb ?_)
 refine Zc (fun h13 => ?_) (fun h13 => ?_)
 try simp only [sz] at h13
 skip
 refine Ye (Yb (Yf (Yb (Ya ?_))))
 refine AOps.v rfl rfl rfl (AVal.indexD (e := .int .i64 13) rfl rfl rfl rfl rfl (by omega) rfl (fun e he => by simp at he; rcases he with rfl | rfl <;> rfl)) ?_
 refine Z56 ?_
 refine Z2 ?_
 refine Yc (Yb (Ya ?_))
 refine Z6 ?_
 refine Z16 ?_
 refine Z1 ?_
 refine Z40 ?_
 refine Z1 ?_
 refine Zs 20 (fun h20 => ?_) (fun h20 => ?_)
 try simp only [sz] at h20
 refine Z4 ?_
 refine Z4 ?_
 refine Z4 ?_
 refine Z4 ?_
 refine Z15 ?_
 refine Yc (ACode.condT rfl ?_)
 have hc13 : p.kind = 13 ∨ q.kind = 13 := by simp_all
 have hn : (headsM (oneM cs n) F p q) = allM (oneM cs n) F (partsM p 13) (partsM q 13) := by unfold headsM; rw [if_neg hinv5, if_pos hc13]
 rw [hn]
 refine Yb ?_
 refine Yj [.p 0, .l 1, .p 2, .p 3, .l 4, .p 5, .p 6, .e 7 [], .p 8] mixed (by kernel_rfl) ?_
 refine Z5 ?_
 refine Z28 ?_
 refine Z5 ?_
 refine ASeq.pe rfl rfl rfl rfl (fun L0 => (Yk (parts_c p 13 hp.1 (by have := sz_le_fsz p; omega)) (Yn rfl) ⟨rfl, rfl⟩)) ?_
 refine Z31 ?_
 refine Z5 ?_
 refine ASeq.pe rfl rfl rfl rfl (fun L0 => (Yk (parts_c q 13 hq.1 (by have := sz_le_fsz q; omega)) (Yn rfl) ⟨rfl, rfl⟩)) ?_
 refine ASeq.ee rfl rfl rfl rfl rfl (AOp.callM [_, _] (aall_c b cs hC n H F (partsM p 13) (partsM q 13) (partsM_len p q 13) h0 h1 (by unfold partsM halvesM appliedM; split <;> split <;> simp) (W_parts 13 hp.1 hp.2) (W_parts 13 hq.1 hq.2)) (Yn rfl) rfl (fun hok => ⟨Yo, ?_⟩) (fun hno => ?_))
 refine Z17 ?_
 refine ASeq.nil (Yd ?_)
 refine AFin.mayRet rfl (.cons rfl .nil) (by repeat first | exact X0 _ | apply X1 | apply X2) ?_ ((hok))
 exact .refl _
 exact AFin.mayPan (X := X) (fn := Tryz.f76) rfl (by repeat first | exact X0 _ | apply X1 | apply X2 | exact X3 _) hno
 try simp only [sz] at h20
 refine Z18 ?_
 refine Z30 ?_
 refine Z14 ?_
 refine Z47 ?_
 refine Z13 ?_
 refine Yc ?_
 refine Zc (fun h25 => ?_) (fun h25 => ?_)
 try simp only [sz] at h25
 have hc13 : p.kind = 13 ∨ q.kind = 13 := by simp_all
 have hn : (headsM (oneM cs n) F p q) = allM (oneM cs n) F (partsM p 13) (partsM q 13) := by unfold headsM; rw [if_neg hinv5, if_pos hc13]
 rw [hn]
 refine Yb ?_
 refine Yj [.p 0, .l 1, .p 2, .p 3, .l 4, .p 5, .p 6, .e 7 [], .p 8] mixed (by kernel_rfl) ?_
 refine Z5 ?_
 refine Z28 ?_
 refine Z5 ?_
 refine ASeq.pe rfl rfl rfl rfl (fun L0 => (Yk (parts_c p 13 hp.1 (by have := sz_le_fsz p; omega)) (Yn rfl) ⟨rfl, rfl⟩)) ?_
 refine Z31 ?_
 refine Z5 ?_
 refine ASeq.pe rfl rfl rfl rfl (fun L0 => (Yk (parts_c q 13 hq.1 (by have := sz_le_fsz q; omega)) (Yn rfl) ⟨rfl, rfl⟩)) ?_
 refine ASeq.ee rfl rfl rfl rfl rfl (AOp.callM [_, _] (aall_c b cs hC n H F (partsM p 13) (partsM q 13) (partsM_len p q 13) h0 h1 (by unfold partsM halvesM appliedM; split <;> split <;> simp) (W_parts 13 hp.1 hp.2) (W_parts 13 hq.1 hq.2)) (Yn rfl) rfl (fun hok => ⟨Yo, ?_⟩) (fun hno => ?_))
 refine Z17 ?_
 refine ASeq.nil (Yd ?_)
 refine AFin.mayRet rfl (.cons rfl .nil) (by repeat first | exact X0 _ | apply X1 | apply X2) ?_ ((hok))
 exact .refl _
 exact AFin.mayPan (X := X) (fn := Tryz.f76) rfl (by repeat first | exact X0 _ | apply X1 | apply X2 | exact X3 _) hno
 try simp only [sz] at h25
 have hinv13 : ¬ (p.kind = 13 ∨ q.kind = 13) := by simp_all
 refine Ye (Ya ?_)
 refine Z19 ?_
 refine Z1 ?_
 refine Yc ?_
 refine ⟨2, ⟨by omega, fun _ => hinv5, fun _ => hinv13⟩, by omega, rfl, (by repeat first | exact Ym | refine Yl (.refl _) ?_), (by repeat first | exact X0 _ | apply X1 | apply X2 | exact X3 _)⟩
 try simp only [sz] at h13
 exact absurd h13 (by omega) --END
 have hinv5 := hinv5 (by omega)
 have hinv13 := hinv13 (by omega)
 refine Yb (Ya ?_)
 refine Z26 ?_
 refine Yc (Yb ?_)
 refine Zc (fun h13 => ?_) (fun h13 => ?_)
 try simp only [sz] at h13
 exfalso; omega --END
 try simp only [sz] at h13
 skip
 refine Yg (Yb (Ya ?_))
 refine Z6 ?_
 refine Z16 ?_
 refine Z6 ?_
 refine Z11 ?_
 refine Z40 ?_
 refine Z1 ?_
 refine Zs 40 (fun h40 => ?_) (fun h40 => ?_)
 try simp only [sz] at h40
 refine Z18 ?_
 refine Z27 ?_
 refine Z18 ?_
 refine Z30 ?_
 refine Z47 ?_
 refine Z15 ?_
 refine Z1 ?_
 refine Zs 47 (fun h47 => ?_) (fun h47 => ?_)
 try simp only [sz] at h47
 refine Z18 ?_
 refine Z27 ?_
 refine Z18 ?_
 refine Z30 ?_
 refine Z47 ?_
 refine Z15 ?_
 refine Z1 ?_
 refine Zs 54 (fun h54 => ?_) (fun h54 => ?_)
 try simp only [sz] at h54
 refine Z18 ?_
 refine Z27 ?_
 refine Z64 ?_
 refine Z18 ?_
 refine Z30 ?_
 refine Z64 ?_
 refine Z47 ?_
 refine Z15 ?_
 refine Z1 ?_
 refine Zs 63 (fun h63 => ?_) (fun h63 => ?_)
 try simp only [sz] at h63
 refine Z18 ?_
 refine Z27 ?_
 refine Z18 ?_
 refine Z30 ?_
 refine AOps.eT rfl rfl rfl rfl rfl rfl (Yk (eqLvs_c hS p.levels q.levels (by have := hp.1.llen; omega) (fun l hl => by have := hp.1.plen hl; omega) (fun l hl => by have := hq.1.plen hl; omega)) (Yn rfl) ?_)
 refine Z15 ?_
 refine Z2 ?_
 refine Yc (Yb ?_)
 refine Yj [.p 0, .p 1, .p 2, .l 3, .p 4, .l 5, .p 6, .e 7 [], .p 8, .p 9] mixed (by kernel_rfl) ?_
 refine Z5 ?_
 refine Z5 ?_
 refine ASeq.split 71 rfl (fun h71 => ?_) (fun h71 => ?_)
 have hal : alikeM p q = true := by
   simp only [alikeM, Bool.and_eq_true, decide_eq_true_eq]
   exact ⟨⟨⟨⟨h40, h47⟩, h54⟩, by omega⟩, h71⟩
 have hn : (headsM (oneM cs n) F p q) = allM (oneM cs n) F (mattersM p) (mattersM q) := by unfold headsM; rw [if_neg hinv5, if_neg hinv13, if_pos hal]
 rw [hn]
 refine ASeq.pvT rfl rfl rfl rfl rfl rfl rfl (fun L0 => (AVal.moveN (by constructor))) ?_
 refine ASeq.lvT rfl rfl rfl rfl rfl rfl rfl (Yv (d := encT _) 1 rfl rfl (.refl _)) ?_
 refine ASeq.peT rfl rfl rfl rfl rfl rfl rfl (fun L0 => (Yk (matters_c p) (Yn rfl) ⟨rfl, rfl⟩)) ?_
 refine ASeq.lvT rfl rfl rfl rfl rfl rfl rfl (Yv (d := encT _) 0 rfl rfl (.refl _)) ?_
 refine ASeq.peT rfl rfl rfl rfl rfl rfl rfl (fun L0 => (Yk (matters_c q) (Yn rfl) ⟨rfl, rfl⟩)) ?_
 refine ASeq.eeT rfl rfl rfl rfl rfl rfl rfl rfl (AOp.callM [_, _] ((aall_c b cs hC n H F (mattersM p) (mattersM q) (matters_len hal) h0 h1 (by unfold mattersM; have := hp.1.len; split; simp; split; simp; omega) (W_matters ⟨hp.1, by have := hp.2; omega⟩) (W_matters ⟨hq.1, by have := hq.2; omega⟩))) (Yn rfl) rfl (fun hok => ⟨Yo, ?_⟩) (fun hno => ?_))
 refine Yt rfl rfl rfl rfl (fun L0 => (AVal.pickT rfl (by constructor))) ?_
 refine Z17 ?_
 refine ASeq.nil (Yd ?_)
 refine AFin.mayRet rfl (.cons rfl .nil) (by repeat first | exact X0 _ | apply X1 | apply X2) ?_ ((hok))
 exact .refl _
 exact AFin.mayPan (X := X) (fn := Tryz.f76) rfl (by repeat first | exact X0 _ | apply X1 | apply X2 | exact X3 _) hno
 refine ASeq.pvF rfl rfl rfl rfl rfl rfl rfl rfl ?_
 refine ASeq.lvF rfl rfl rfl rfl rfl rfl (Yv (o := 0) (i := ⟨1, false, [], 0⟩) 0 rfl rfl (.refl _)) ?_
 refine ASeq.pvF rfl rfl rfl rfl rfl rfl rfl rfl ?_
 refine ASeq.lvF rfl rfl rfl rfl rfl rfl (Yv (o := 0) (i := ⟨1, false, [], 0⟩) 0 rfl rfl (.refl _)) ?_
 refine ASeq.pvF rfl rfl rfl rfl rfl rfl rfl rfl ?_
 refine ASeq.eeF rfl rfl rfl rfl rfl rfl rfl rfl rfl Yo ?_
 refine Yt rfl rfl rfl rfl (fun L0 => (AVal.pickF rfl (by constructor))) ?_
 refine Z17 ?_
 refine ASeq.nil (Yd ?_)
 have hal : ¬ alikeM p q = true := fun h => by
   simp only [alikeM, Bool.and_eq_true, decide_eq_true_eq] at h
   obtain ⟨⟨⟨⟨a1, a2⟩, a3⟩, a4⟩, a5⟩ := h
   first | exact absurd a1 h40 | exact absurd a2 h47 | exact absurd a3 h54 | exact absurd (by omega) h63 | simp_all
 have hn : (headsM (oneM cs n) F p q) = some (false, F) := by unfold headsM; rw [if_neg hinv5, if_neg hinv13, if_neg hal]
 rw [hn]
 refine AFin.mayRet rfl (.cons rfl .nil) (by repeat first | exact X0 _ | apply X1 | apply X2) ?_ ((by rfl))
 exact .refl _
 try simp only [sz] at h63
 refine Z4 ?_
 refine Z4 ?_
 refine Z4 ?_
 refine Z4 ?_
 refine Z4 ?_
 refine Z13 ?_
 refine Z2 ?_
 refine Yc (Yb ?_)
 refine Yj [.p 0, .p 1, .p 2, .l 3, .p 4, .l 5, .p 6, .e 7 [], .p 8, .p 9] mixed (by kernel_rfl) ?_
 refine Z5 ?_
 refine Z5 ?_
 refine ASeq.pvF rfl rfl rfl rfl rfl rfl rfl rfl ?_
 refine ASeq.lvF rfl rfl rfl rfl rfl rfl (Yv (o := 0) (i := ⟨1, false, [], 0⟩) 0 rfl rfl (.refl _)) ?_
 refine ASeq.pvF rfl rfl rfl rfl rfl rfl rfl rfl ?_
 refine ASeq.lvF rfl rfl rfl rfl rfl rfl (Yv (o := 0) (i := ⟨1, false, [], 0⟩) 0 rfl rfl (.refl _)) ?_
 refine ASeq.pvF rfl rfl rfl rfl rfl rfl rfl rfl ?_
 refine ASeq.eeF rfl rfl rfl rfl rfl rfl rfl rfl rfl Yo ?_
 refine Yt rfl rfl rfl rfl (fun L0 => (AVal.pickF rfl (by constructor))) ?_
 refine Z17 ?_
 refine ASeq.nil (Yd ?_)
 have hal : ¬ alikeM p q = true := fun h => by
   simp only [alikeM, Bool.and_eq_true, decide_eq_true_eq] at h
   obtain ⟨⟨⟨⟨a1, a2⟩, a3⟩, a4⟩, a5⟩ := h
   first | exact absurd a1 h40 | exact absurd a2 h47 | exact absurd a3 h54 | exact absurd (by omega) h63 | simp_all
 have hn : (headsM (oneM cs n) F p q) = some (false, F) := by unfold headsM; rw [if_neg hinv5, if_neg hinv13, if_neg hal]
 rw [hn]
 refine AFin.mayRet rfl (.cons rfl .nil) (by repeat first | exact X0 _ | apply X1 | apply X2) ?_ ((by rfl))
 exact .refl _
 try simp only [sz] at h54
 refine Z4 ?_
 refine Z4 ?_
 refine Z4 ?_
 refine Z4 ?_
 refine Z4 ?_
 refine Z4 ?_
 refine Z4 ?_
 refine Z13 ?_
 refine Z1 ?_
 refine Z4 ?_
 refine Z4 ?_
 refine Z4 ?_
 refine Z4 ?_
 refine Z4 ?_
 refine Z13 ?_
 refine Z2 ?_
 refine Yc (Yb ?_)
 refine Yj [.p 0, .p 1, .p 2, .l 3, .p 4, .l 5, .p 6, .e 7 [], .p 8, .p 9] mixed (by kernel_rfl) ?_
 refine Z5 ?_
 refine Z5 ?_
 refine ASeq.pvF rfl rfl rfl rfl rfl rfl rfl rfl ?_
 refine ASeq.lvF rfl rfl rfl rfl rfl rfl (Yv (o := 0) (i := ⟨1, false, [], 0⟩) 0 rfl rfl (.refl _)) ?_
 refine ASeq.pvF rfl rfl rfl rfl rfl rfl rfl rfl ?_
 refine ASeq.lvF rfl rfl rfl rfl rfl rfl (Yv (o := 0) (i := ⟨1, false, [], 0⟩) 0 rfl rfl (.refl _)) ?_
 refine ASeq.pvF rfl rfl rfl rfl rfl rfl rfl rfl ?_
 refine ASeq.eeF rfl rfl rfl rfl rfl rfl rfl rfl rfl Yo ?_
 refine Yt rfl rfl rfl rfl (fun L0 => (AVal.pickF rfl (by constructor))) ?_
 refine Z17 ?_
 refine ASeq.nil (Yd ?_)
 have hal : ¬ alikeM p q = true := fun h => by
   simp only [alikeM, Bool.and_eq_true, decide_eq_true_eq] at h
   obtain ⟨⟨⟨⟨a1, a2⟩, a3⟩, a4⟩, a5⟩ := h
   first | exact absurd a1 h40 | exact absurd a2 h47 | exact absurd a3 h54 | exact absurd (by omega) h63 | simp_all
 have hn : (headsM (oneM cs n) F p q) = some (false, F) := by unfold headsM; rw [if_neg hinv5, if_neg hinv13, if_neg hal]
 rw [hn]
 refine AFin.mayRet rfl (.cons rfl .nil) (by repeat first | exact X0 _ | apply X1 | apply X2) ?_ ((by rfl))
 exact .refl _
 try simp only [sz] at h47
 refine Z4 ?_
 refine Z4 ?_
 refine Z4 ?_
 refine Z4 ?_
 refine Z4 ?_
 refine Z13 ?_
 refine Z1 ?_
 refine Z4 ?_
 refine Z4 ?_
 refine Z4 ?_
 refine Z4 ?_
 refine Z4 ?_
 refine Z4 ?_
 refine Z4 ?_
 refine Z13 ?_
 refine Z1 ?_
 refine Z4 ?_
 refine Z4 ?_
 refine Z4 ?_
 refine Z4 ?_
 refine Z4 ?_
 refine Z13 ?_
 refine Z2 ?_
 refine Yc (Yb ?_)
 refine Yj [.p 0, .p 1, .p 2, .l 3, .p 4, .l 5, .p 6, .e 7 [], .p 8, .p 9] mixed (by kernel_rfl) ?_
 refine Z5 ?_
 refine Z5 ?_
 refine ASeq.pvF rfl rfl rfl rfl rfl rfl rfl rfl ?_
 refine ASeq.lvF rfl rfl rfl rfl rfl rfl (Yv (o := 0) (i := ⟨1, false, [], 0⟩) 0 rfl rfl (.refl _)) ?_
 refine ASeq.pvF rfl rfl rfl rfl rfl rfl rfl rfl ?_
 refine ASeq.lvF rfl rfl rfl rfl rfl rfl (Yv (o := 0) (i := ⟨1, false, [], 0⟩) 0 rfl rfl (.refl _)) ?_
 refine ASeq.pvF rfl rfl rfl rfl rfl rfl rfl rfl ?_
 refine ASeq.eeF rfl rfl rfl rfl rfl rfl rfl rfl rfl Yo ?_
 refine Yt rfl rfl rfl rfl (fun L0 => (AVal.pickF rfl (by constructor))) ?_
 refine Z17 ?_
 refine ASeq.nil (Yd ?_)
 have hal : ¬ alikeM p q = true := fun h => by
   simp only [alikeM, Bool.and_eq_true, decide_eq_true_eq] at h
   obtain ⟨⟨⟨⟨a1, a2⟩, a3⟩, a4⟩, a5⟩ := h
   first | exact absurd a1 h40 | exact absurd a2 h47 | exact absurd a3 h54 | exact absurd (by omega) h63 | simp_all
 have hn : (headsM (oneM cs n) F p q) = some (false, F) := by unfold headsM; rw [if_neg hinv5, if_neg hinv13, if_neg hal]
 rw [hn]
 refine AFin.mayRet rfl (.cons rfl .nil) (by repeat first | exact X0 _ | apply X1 | apply X2) ?_ ((by rfl))
 exact .refl _
 try simp only [sz] at h40
 refine Z4 ?_
 refine Z4 ?_
 refine Z4 ?_
 refine Z4 ?_
 refine Z4 ?_
 refine Z13 ?_
 refine Z1 ?_
 refine Z4 ?_
 refine Z4 ?_
 refine Z4 ?_
 refine Z4 ?_
 refine Z4 ?_
 refine Z13 ?_
 refine Z1 ?_
 refine Z4 ?_
 refine Z4 ?_
 refine Z4 ?_
 refine Z4 ?_
 refine Z4 ?_
 refine Z4 ?_
 refine Z4 ?_
 refine Z13 ?_
 refine Z1 ?_
 refine Z4 ?_
 refine Z4 ?_
 refine Z4 ?_
 refine Z4 ?_
 refine Z4 ?_
 refine Z13 ?_
 refine Z2 ?_
 refine Yc (Yb ?_)
 refine Yj [.p 0, .p 1, .p 2, .l 3, .p 4, .l 5, .p 6, .e 7 [], .p 8, .p 9] mixed (by kernel_rfl) ?_
 refine Z5 ?_
 refine Z5 ?_
 refine ASeq.pvF rfl rfl rfl rfl rfl rfl rfl rfl ?_
 refine ASeq.lvF rfl rfl rfl rfl rfl rfl (Yv (o := 0) (i := ⟨1, false, [], 0⟩) 0 rfl rfl (.refl _)) ?_
 refine ASeq.pvF rfl rfl rfl rfl rfl rfl rfl rfl ?_
 refine ASeq.lvF rfl rfl rfl rfl rfl rfl (Yv (o := 0) (i := ⟨1, false, [], 0⟩) 0 rfl rfl (.refl _)) ?_
 refine ASeq.pvF rfl rfl rfl rfl rfl rfl rfl rfl ?_
 refine ASeq.eeF rfl rfl rfl rfl rfl rfl rfl rfl rfl Yo ?_
 refine Yt rfl rfl rfl rfl (fun L0 => (AVal.pickF rfl (by constructor))) ?_
 refine Z17 ?_
 refine ASeq.nil (Yd ?_)
 have hal : ¬ alikeM p q = true := fun h => by
   simp only [alikeM, Bool.and_eq_true, decide_eq_true_eq] at h
   obtain ⟨⟨⟨⟨a1, a2⟩, a3⟩, a4⟩, a5⟩ := h
   first | exact absurd a1 h40 | exact absurd a2 h47 | exact absurd a3 h54 | exact absurd (by omega) h63 | simp_all
 have hn : (headsM (oneM cs n) F p q) = some (false, F) := by unfold headsM; rw [if_neg hinv5, if_neg hinv13, if_neg hal]
 rw [hn]
 refine AFin.mayRet rfl (.cons rfl .nil) (by repeat first | exact X0 _ | apply X1 | apply X2) ?_ ((by rfl))
 exact .refl _
end Sp

/- The walks of conv: one, at most, what is told. Written by a program of mine. -/
set_option linter.unusedVariables false
set_option linter.unusedSimpArgs false
set_option maxRecDepth 20000
namespace Sp
open Go Go.Proofs
theorem one_w (hS : SortedOk) (b : Nat) (cs : List Core) (hC : CoresOk cs) (n : Nat) (H1 : ∀ m, n = m + 1 → (∀ G p q, 0 ≤ G → G ≤ min (m : Int) 1073741824 → W G p → W G q → AMay X 36 [.ptr b 0, encT p, encT q] [(b, .cells 119 [.int .i64 (G), .slC cs])] ((oneM cs m G p q).isSome = true) (.bool (oB (oneM cs m G p q))) [(b, .cells 119 [.int .i64 (oL (oneM cs m G p q)), .slC cs])] (.iface 30 (.int .i64 5)) [(b, .cells 119 [.int .i64 (oL (oneM cs m G p q)), .slC cs])])) (F : Int) (p q : Term) (h0 : 0 ≤ F) (h1 : F ≤ min (n : Int) 1073741824) (hp : W F p) (hq : W F q) : AMay X 36 [.ptr b 0, encT p, encT q] [(b, .cells 119 [.int .i64 (F), .slC cs])] ((oneM cs n F p q).isSome = true) (.bool (oB (oneM cs n F p q))) [(b, .cells 119 [.int .i64 (oL (oneM cs n F p q)), .slC cs])] (.iface 30 (.int .i64 5)) [(b, .cells 119 [.int .i64 (oL (oneM cs n F p q)), .slC cs])] := by
 refine Zf Tryz.func36 ?_
 refine Yb (Ya ?_)
 refine Z9 (fun b4 => ?_)
 refine Z9 (fun b5 => ?_)
 refine Z2 ?_
 refine Yc (Yb (Ya ?_))
 refine Z1 ?_
 refine Z44 ?_
 refine Z6 ?_
 refine AOps.e rfl rfl rfl (AOp.callM [_, _] (acall_c b cs F h0 (by omega)) (Yn rfl) rfl (fun hok1 => ?_) (fun hno1 => ?_))
 obtain ⟨m, rfl⟩ : ∃ m, n = m + 1 := ⟨n - 1, by omega⟩
 have hp2 := hp.2
 have hq2 := hq.2
 have hF1 : F - 1 ≤ min (m : Int) 1073741824 := by push_cast at h1; omega
 have hp1 : W (F - 1) p := hp.mono (by omega)
 have hq1 : W (F - 1) q := hq.mono (by omega)
 refine Yc (Yb (Yb (Ya ?_)))
 refine Z23 ?_
 refine Z20 ?_
 refine AOps.e rfl rfl rfl (Yk (same_c hS _ p q rfl (fitMax hp.1) (fitMax hq.1)) (Yn rfl) ?_)
 refine Yc ?_
 refine Zc (fun h14 => ?_) (fun h14 => ?_)
 try simp only [decide_eq_true_eq, decide_eq_false_iff_not] at h14
 have hn : (oneM cs (m + 1) F p q) = some (true, F - 1) := by rw [oneM_succ, if_neg (by omega), if_pos h14]
 rw [hn]
 refine Yb (Ya ?_)
 refine Z2 ?_
 refine Yc (Yd ?_)
 refine AFin.mayRet rfl (.cons rfl .nil) (by repeat first | exact X0 _ | apply X1 | apply X2) ?_ ((by rfl))
 exact .refl _
 try simp only [decide_eq_true_eq, decide_eq_false_iff_not] at h14
 have hne : ¬ sameM p q = true := by rw [h14]; simp
 refine Ye (Yb (Ya ?_))
 refine Z1 ?_
 refine Z23 ?_
 refine AOps.e rfl rfl rfl (AOp.callM [_, _] (ahead_c hS b cs hC (F - 1) p (by omega) (by omega) hp1) (Yn rfl) rfl (fun hok2 => ?_) (fun hno2 => ?_))
 obtain ⟨xf, x0, x1, xz⟩ := head_ok hC (by omega) (by omega) hp1 hok2
 have hq3 : W (whnfM cs p (F - 1)).2.1 q := hq.mono (by omega)
 refine Z7 (fun b7 => ?_)
 refine Z3 ?_
 refine Yc (Yb ?_)
 refine Yj [.p 0, .l 1, .p 2, .l 3, .e 4 [1], .e 5 [], .p 6] mixed (by kernel_rfl) ?_
 refine Z5 ?_
 refine Z31 ?_
 refine Z5 ?_
 refine Z28 ?_
 refine ASeq.ee rfl rfl rfl rfl rfl (AOp.callM [_, _, _] (ahead_c hS b cs hC (whnfM cs p (F - 1)).2.1 q x0 (by omega) hq3) (Yn rfl) rfl (fun hok3 => ⟨(Keeps.cons (Yv 0 rfl rfl (.refl _)) Yo), ?_⟩) (fun hno3 => ?_))
 obtain ⟨yf, y0, y1, yz⟩ := head_ok hC x0 (by omega) hq3 hok3
 have hn : (oneM cs (m + 1) F p q) = headsM (oneM cs m) (whnfM cs q (whnfM cs p (F - 1)).2.1).2.1 (whnfM cs p (F - 1)).1 (whnfM cs q (whnfM cs p (F - 1)).2.1).1 := by rw [oneM_succ, if_neg (by omega), if_neg hne, whnf2_yes hok2 hok3]
 rw [hn]
 refine ASeq.ee rfl rfl rfl rfl rfl (AOp.callM [_, _, _] (aheads_c hS b cs hC m (H1 m rfl) (whnfM cs q (whnfM cs p (F - 1)).2.1).2.1 (whnfM cs p (F - 1)).1 (whnfM cs q (whnfM cs p (F - 1)).2.1).1 y0 (by omega) ⟨xf, by omega⟩ ⟨yf, by omega⟩) (Yn rfl) rfl (fun hok4 => ⟨Yo, ?_⟩) (fun hno4 => ?_))
 refine Z17 ?_
 refine ASeq.nil (Yd ?_)
 refine AFin.mayRet rfl (.cons rfl .nil) (by repeat first | exact X0 _ | apply X1 | apply X2) ?_ ((hok4))
 exact .refl _
 exact AFin.mayPan (X := X) (fn := Tryz.f36) rfl (by repeat first | exact X0 _ | apply X1 | apply X2 | exact X3 _) hno4
 have hn : (oneM cs (m + 1) F p q) = none := by rw [oneM_succ, if_neg (by omega), if_neg hne, whnf2_no2 hok2 hno3]
 have he : whnfM cs q (whnfM cs p (F - 1)).2.1 = (T0, 0, 5) := whnf_err x0 (by omega) hno3
 rw [hn, he]
 exact AFin.mayPan (X := X) (fn := Tryz.f36) rfl (by repeat first | exact X0 _ | apply X1 | apply X2 | exact X3 _) (by simp)
 have hn : (oneM cs (m + 1) F p q) = none := by rw [oneM_succ, if_neg (by omega), if_neg hne, whnf2_no1 hno2]
 have he : whnfM cs p (F - 1) = (T0, 0, 5) := whnf_err (by omega) (by omega) hno2
 rw [hn, he]
 exact AFin.mayPan (X := X) (fn := Tryz.f36) rfl (by repeat first | exact X0 _ | apply X1 | apply X2 | exact X3 _) (by simp)
 obtain rfl : F = 0 := by omega
 rw [one_zero]
 exact AFin.mayPan (X := X) (fn := Tryz.f36) rfl (by repeat first | exact X0 _ | apply X1 | apply X2 | exact X3 _) (by simp)
theorem one_c (hS : SortedOk) (b : Nat) (cs : List Core) (hC : CoresOk cs) (m : Nat) : ∀ G p q, 0 ≤ G → G ≤ min (m : Int) 1073741824 → W G p → W G q → AMay X 36 [.ptr b 0, encT p, encT q] [(b, .cells 119 [.int .i64 (G), .slC cs])] ((oneM cs m G p q).isSome = true) (.bool (oB (oneM cs m G p q))) [(b, .cells 119 [.int .i64 (oL (oneM cs m G p q)), .slC cs])] (.iface 30 (.int .i64 5)) [(b, .cells 119 [.int .i64 (oL (oneM cs m G p q)), .slC cs])] := by
  induction m with
  | zero => exact one_w hS b cs hC 0 (fun m h => by omega)
  | succ n ih => exact one_w hS b cs hC (n + 1) (fun m h => by cases h; exact ih)
theorem both_c (k : Int) (x y : Term) (bx by_ : Nat) (R : Loc) : AKeep X 77 [.int .i64 k, .ptr bx 0, .ptr by_ 0] ((by_, .cells 27 (cellsT y)) :: (bx, .cells 27 (cellsT x)) :: R) (.bool (decide (x.kind = k) && decide (y.kind = k))) := by
 refine Zf Tryz.func77 ?_
 refine Yb (Ya ?_)
 refine Z2 ?_
 refine Yc (Yb (Ya ?_))
 refine Z6 ?_
 refine Z16 ?_
 refine Z1 ?_
 refine Z40 ?_
 refine Z1 ?_
 refine Zs 9 (fun h9 => ?_) (fun h9 => ?_)
 try simp only [sz] at h9
 refine Z18 ?_
 refine Z30 ?_
 refine Z14 ?_
 refine Z47 ?_
 refine Z15 ?_
 refine Z2 ?_
 refine Yc (Yd ?_)
 refine Yr rfl (.cons rfl .nil) (by repeat first | exact X0 _ | apply X1 | apply X2) ?_
 exact D.Le.eq (congrArg D.bool (by rw [decide_eq_true h9, Bool.true_and]))
 try simp only [sz] at h9
 refine Z4 ?_
 refine Z4 ?_
 refine Z4 ?_
 refine Z4 ?_
 refine Z13 ?_
 refine Z2 ?_
 refine Yc (Yd ?_)
 refine Yr rfl (.cons rfl .nil) (by repeat first | exact X0 _ | apply X1 | apply X2) ?_
 exact D.Le.eq (congrArg D.bool (by rw [decide_eq_false h9, Bool.false_and]))
theorem allM_one {one : Ask} {F F' : Int} {p q : Term} (h : allM one F [p] [q] = some (true, F')) : one F p q = some (true, F') := by
  simp only [allM, List.headD_cons] at h
  cases e : one F p q with
  | none => rw [e] at h; cases h
  | some v =>
    obtain ⟨b, G⟩ := v
    rw [e] at h
    cases b with
    | false => simp at h
    | true => exact h
set_option maxHeartbeats 1600000 in
theorem most_w (hS : SortedOk) (b : Nat) (cs : List Core) (hC : CoresOk cs) (n : Nat) (H1 : ∀ m, n = m + 1 → (∀ G p q, 0 ≤ G → G ≤ min (m : Int) 1073741824 → W G p → W G q → AMay X 36 [.ptr b 0, encT p, encT q] [(b, .cells 119 [.int .i64 (G), .slC cs])] ((oneM cs m G p q).isSome = true) (.bool (oB (oneM cs m G p q))) [(b, .cells 119 [.int .i64 (oL (oneM cs m G p q)), .slC cs])] (.iface 30 (.int .i64 5)) [(b, .cells 119 [.int .i64 (oL (oneM cs m G p q)), .slC cs])])) (H2 : ∀ m, n = m + 1 → (∀ G p q, 0 ≤ G → G ≤ min (m : Int) 1073741824 → W G p → W G q → AMay X 38 [.ptr b 0, encT p, encT q] [(b, .cells 119 [.int .i64 (G), .slC cs])] ((mostM cs m G p q).isSome = true) (.bool (oB (mostM cs m G p q))) [(b, .cells 119 [.int .i64 (oL (mostM cs m G p q)), .slC cs])] (.iface 30 (.int .i64 5)) [(b, .cells 119 [.int .i64 (oL (mostM cs m G p q)), .slC cs])])) (F : Int) (p q : Term) (h0 : 0 ≤ F) (h1 : F ≤ min (n : Int) 1073741824) (hp : W F p) (hq : W F q) : AMay X 38 [.ptr b 0, encT p, encT q] [(b, .cells 119 [.int .i64 (F), .slC cs])] ((mostM cs n F p q).isSome = true) (.bool (oB (mostM cs n F p q))) [(b, .cells 119 [.int .i64 (oL (mostM cs n F p q)), .slC cs])] (.iface 30 (.int .i64 5)) [(b, .cells 119 [.int .i64 (oL (mostM cs n F p q)), .slC cs])] := by
 refine Zf Tryz.func38 ?_
 refine Yb (Ya ?_)
 refine Z9 (fun b4 => ?_)
 refine Z9 (fun b5 => ?_)
 refine Z2 ?_
 refine Yc (Yb (Ya ?_))
 refine Z1 ?_
 refine Z44 ?_
 refine Z6 ?_
 refine AOps.e rfl rfl rfl (AOp.callM [_, _] (acall_c b cs F h0 (by omega)) (Yn rfl) rfl (fun hok1 => ?_) (fun hno1 => ?_))
 obtain ⟨m, rfl⟩ : ∃ m, n = m + 1 := ⟨n - 1, by omega⟩
 have hp2 := hp.2
 have hq2 := hq.2
 have hF1 : F - 1 ≤ min (m : Int) 1073741824 := by push_cast at h1; omega
 have hp1 : W (F - 1) p := hp.mono (by omega)
 have hq1 : W (F - 1) q := hq.mono (by omega)
 refine Yc (Yb (Yb (Ya ?_)))
 refine Z23 ?_
 refine Z20 ?_
 refine AOps.e rfl rfl rfl (Yk (same_c hS _ p q rfl (fitMax hp.1) (fitMax hq.1)) (Yn rfl) ?_)
 refine Yc ?_
 refine Zc (fun h16 => ?_) (fun h16 => ?_)
 have hn : (mostM cs (m + 1) F p q) = some (true, F - 1) := by rw [mostM_succ, if_neg (by omega), if_pos h16]
 rw [hn]
 refine Yb (Ya ?_)
 refine Z2 ?_
 refine Yc (Yd ?_)
 refine AFin.mayRet rfl (.cons rfl .nil) (by repeat first | exact X0 _ | apply X1 | apply X2) ?_ ((by rfl))
 exact .refl _
 have hne : ¬ sameM p q = true := by rw [h16]; simp
 refine Ye (Yb (Ya ?_))
 refine Z1 ?_
 refine Z23 ?_
 refine AOps.e rfl rfl rfl (AOp.callM [_, _] (ahead_c hS b cs hC (F - 1) p (by omega) (by omega) hp1) (Yn rfl) rfl (fun hok2 => ?_) (fun hno2 => ?_))
 obtain ⟨xf, x0, x1, xz⟩ := head_ok hC (by omega) (by omega) hp1 hok2
 have hq3 : W (whnfM cs p (F - 1)).2.1 q := hq.mono (by omega)
 refine Z7 (fun b7 => ?_)
 refine Z3 ?_
 refine Yc (Yb (Ya ?_))
 refine Z1 ?_
 refine Z23 ?_
 refine AOps.e rfl rfl rfl (AOp.callM [_, _, _] (ahead_c hS b cs hC (whnfM cs p (F - 1)).2.1 q x0 (by omega) hq3) (Yn rfl) rfl (fun hok3 => ?_) (fun hno3 => ?_))
 obtain ⟨yf, y0, y1, yz⟩ := head_ok hC x0 (by omega) hq3 hok3
 have hn : (mostM cs (m + 1) F p q) = mostK cs (oneM cs m) (mostM cs m) (whnfM cs q (whnfM cs p (F - 1)).2.1).2.1 (whnfM cs p (F - 1)).1 (whnfM cs q (whnfM cs p (F - 1)).2.1).1 := by rw [mostM_succ, if_neg (by omega), if_neg hne, whnf2_yes hok2 hok3]
 clear hok3 hok2
 generalize (whnfM cs q (whnfM cs p (F - 1)).2.1).2.1 = G3 at *
 generalize (whnfM cs q (whnfM cs p (F - 1)).2.1).1 = y at *
 generalize (whnfM cs p (F - 1)).1 = x at *
 generalize (whnfM cs p (F - 1)).2.1 = G2 at *
 refine Z7 (fun b8 => ?_)
 refine Z3 ?_
 refine Yc (Yb (Ya ?_))
 refine Z54 ?_
 refine Z2 ?_
 refine Yc (Yb (Yf (Yb (Ya ?_))))
 refine Z1 ?_
 refine AOps.e rfl rfl rfl (AOp.callVK [] rfl (both_c 2 x y _ _ _) (Yn rfl) rfl ?_)
 refine Z1 ?_
 refine Zs 27 (fun h27 => ?_) (fun h27 => ?_)
 try simp only [sz] at h27
 refine Z18 ?_
 refine Z27 ?_
 refine Z64 ?_
 refine Z47 ?_
 refine Z15 ?_
 refine Z1 ?_
 refine Zs 33 (fun h33 => ?_) (fun h33 => ?_)
 try simp only [sz] at h33
 refine Z18 ?_
 refine Z30 ?_
 refine Z64 ?_
 refine Z47 ?_
 refine Z15 ?_
 refine Z2 ?_
 refine Yc ?_
 refine Zc (fun h24 => ?_) (fun h24 => ?_)
 try simp only [sz] at h24
 have hc : x.kind = 2 ∧ y.kind = 2 ∧ x.levels.length = 1 ∧ y.levels.length = 1 := ⟨h27.1, h27.2, by omega, by omega⟩
 rw [hn, mostK_leq hc]
 refine Yb ?_
 refine Yj [.p 0, .l 1, .p 2, .p 3, .p 4, .l 5, .p 6, .p 7, .p 8, .p 9] mixed (by kernel_rfl) ?_
 refine Z8 ?_
 refine Z36 ?_
 refine Yt rfl rfl rfl rfl (fun L0 => (AVal.indexLN rfl rfl rfl rfl rfl ⟨by omega, by first | omega | simp⟩)) ?_
 refine Yt rfl rfl rfl rfl (fun L0 => (AVal.loadE (d := encL _) rfl rfl rfl)) ?_
 refine Z8 ?_
 refine Z50 ?_
 refine Yt rfl rfl rfl rfl (fun L0 => (AVal.indexLN rfl rfl rfl rfl rfl ⟨by omega, by first | omega | simp⟩)) ?_
 refine Yt rfl rfl rfl rfl (fun L0 => (AVal.loadE (d := encL _) rfl rfl rfl)) ?_
 refine ASeq.pe rfl rfl rfl rfl (fun L0 => (Yk (lvLeq_c hS (x.levels.getD 0 default) (y.levels.getD 0 default) (by have := xf.plen (getD_mem (i := 0) (by omega)); omega) (by have := yf.plen (getD_mem (i := 0) (by omega)); omega)) (Yn rfl) ⟨rfl, rfl⟩)) ?_
 refine Z17 ?_
 refine ASeq.nil (Yd ?_)
 refine AFin.mayRet rfl (.cons rfl .nil) (by repeat first | exact X0 _ | apply X1 | apply X2) ?_ ((by rfl))
 exact .refl _
 try simp only [sz] at h24
 have hc : ¬ (x.kind = 2 ∧ y.kind = 2 ∧ x.levels.length = 1 ∧ y.levels.length = 1) := fun hh => by
   obtain ⟨a1, a2, a3, a4⟩ := hh
   first | exact absurd (by omega) h24 | exact absurd (by omega) h33 | (rcases h27 with h27 | h27 <;> omega) | (exact absurd ⟨a1, a2⟩ h27) | (simp_all)
 refine Yb (Ya ?_)
 refine Z1 ?_
 refine AOps.e rfl rfl rfl (AOp.callVK [] rfl (both_c 4 x y _ _ _) (Yn rfl) rfl ?_)
 refine Z2 ?_
 refine Yc ?_
 refine Zc (fun h48 => ?_) (fun h48 => ?_)
 try simp only [sz] at h48
 have hc4 : x.kind = 4 ∧ y.kind = 4 := h48
 refine Yb (Yb ?_)
 refine Yj [.p 0, .l 1, .p 2, .p 3, .l 4, .p 5, .p 6, .e 7 [], .p 8] mixed (by kernel_rfl) ?_
 refine Z5 ?_
 refine Z28 ?_
 refine Z49 ?_
 refine ASeq.pe rfl rfl rfl rfl (fun L0 => (Yk (ckids_c x [0] (by simp) (by simp)) (Yn rfl) ⟨rfl, rfl⟩)) ?_
 refine Z31 ?_
 refine Z49 ?_
 refine ASeq.pe rfl rfl rfl rfl (fun L0 => (Yk (ckids_c y [0] (by simp) (by simp)) (Yn rfl) ⟨rfl, rfl⟩)) ?_
 refine ASeq.ee rfl rfl rfl rfl rfl (AOp.callM [_, _, _, _] (aall_c b cs hC m (H1 m rfl) G3 [kid x 0] [kid y 0] rfl y0 (by omega) (by simp) (fun u hu => by rw [List.mem_singleton.1 hu]; exact (show W G3 x from ⟨xf, by omega⟩).kid (Int.le_refl _) 0) (fun u hu => by rw [List.mem_singleton.1 hu]; exact (show W G3 y from ⟨yf, by omega⟩).kid (Int.le_refl _) 0)) (Yn rfl) rfl (fun hok4 => ⟨Yo, ?_⟩) (fun hno4 => ?_))
 refine Yt rfl rfl rfl rfl (fun L0 => (AVal.not rfl)) ?_
 refine ASeq.nil ?_
 refine Zc (fun h59 => ?_) (fun h59 => ?_)
 try simp only [sz] at h59
 rw [hn, mostK_pi_false hc4 hok4 (by simpa using h59)]
 refine Yb (Ya ?_)
 refine Z2 ?_
 refine Yc (Yd ?_)
 refine AFin.mayRet rfl (.cons rfl .nil) (by repeat first | exact X0 _ | apply X1 | apply X2) ?_ ((by rfl))
 exact .refl _
 try simp only [sz] at h59
 have ht := o_true hok4 (by simpa using h59)
 have hsh := one_shift hC m 0 G3 _ _ _ _ y0 (by omega) ((show W G3 x from ⟨xf, by omega⟩).kid (Int.le_refl _) 0) ((show W G3 y from ⟨yf, by omega⟩).kid (Int.le_refl _) 0) (allM_one ht)
 rw [hn, mostK_pi_true hc4 hok4 (by simpa using h59)]
 refine Ye (Yb ?_)
 refine Yj [.p 0, .l 1, .p 2, .p 3, .p 4, .p 5, .l 6, .p 7, .p 8, .p 9, .p 10, .e 11 [], .p 12] mixed (by kernel_rfl) ?_
 refine Z5 ?_
 refine Z28 ?_
 refine Z49 ?_
 refine ASeq.pe rfl rfl rfl rfl (fun L0 => (Yk (ckids_c x [1] (by simp) (by simp)) (Yn rfl) ⟨rfl, rfl⟩)) ?_
 refine Z70 ?_
 refine Z21 ?_
 refine Z31 ?_
 refine Z49 ?_
 refine ASeq.pe rfl rfl rfl rfl (fun L0 => (Yk (ckids_c y [1] (by simp) (by simp)) (Yn rfl) ⟨rfl, rfl⟩)) ?_
 refine Z70 ?_
 refine Z21 ?_
 refine ASeq.ee rfl rfl rfl rfl rfl (AOp.callM [_, _, _, _] (H2 m rfl (oL (allM (oneM cs m) G3 [kid x 0] [kid y 0])) (kid x 1) (kid y 1) hsh.1 (by omega) ((show W G3 x from ⟨xf, by omega⟩).kid hsh.2.1 1) ((show W G3 y from ⟨yf, by omega⟩).kid hsh.2.1 1)) (Yn rfl) rfl (fun hok5 => ⟨Yo, ?_⟩) (fun hno5 => ?_))
 refine Z17 ?_
 refine ASeq.nil (Yd ?_)
 refine AFin.mayRet rfl (.cons rfl .nil) (by repeat first | exact X0 _ | apply X1 | apply X2) ?_ ((hok5))
 exact .refl _
 exact AFin.mayPan (X := X) (fn := Tryz.f38) rfl (by repeat first | exact X0 _ | apply X1 | apply X2 | exact X3 _) hno5
 rw [hn, mostK_pi_none hc4 hno4, o_none hno4]
 exact AFin.mayPan (X := X) (fn := Tryz.f38) rfl (by repeat first | exact X0 _ | apply X1 | apply X2 | exact X3 _) (by simp)
 have hc4 : ¬ (x.kind = 4 ∧ y.kind = 4) := fun hh => by first | (rcases h48 with h48 | h48 <;> omega) | exact absurd hh h48 | simp_all
 rw [hn, mostK_one hc hc4]
 refine Ye (Yb (Ya ?_))
 refine Z1 ?_
 refine Z23 ?_
 refine Z20 ?_
 refine AOps.e rfl rfl rfl (AOp.callM [_, _, _, _] (H1 m rfl G3 x y y0 (by omega) (show W G3 x from ⟨xf, by omega⟩) (show W G3 y from ⟨yf, by omega⟩)) (Yn rfl) rfl (fun hok6 => ?_) (fun hno6 => ?_))
 refine Z2 ?_
 refine Yc (Yd ?_)
 refine AFin.mayRet rfl (.cons rfl .nil) (by repeat first | exact X0 _ | apply X1 | apply X2) ?_ ((hok6))
 exact .refl _
 exact AFin.mayPan (X := X) (fn := Tryz.f38) rfl (by repeat first | exact X0 _ | apply X1 | apply X2 | exact X3 _) hno6
 try simp only [sz] at h33
 refine Z4 ?_
 refine Z4 ?_
 refine Z4 ?_
 refine Z4 ?_
 refine Z13 ?_
 refine Z2 ?_
 refine Yc (ACode.condF rfl ?_)
 have hc : ¬ (x.kind = 2 ∧ y.kind = 2 ∧ x.levels.length = 1 ∧ y.levels.length = 1) := fun hh => by
   obtain ⟨a1, a2, a3, a4⟩ := hh
   first | exact absurd (by omega) h24 | exact absurd (by omega) h33 | (rcases h27 with h27 | h27 <;> omega) | (exact absurd ⟨a1, a2⟩ h27) | (simp_all)
 refine Yb (Ya ?_)
 refine Z1 ?_
 refine AOps.e rfl rfl rfl (AOp.callVK [] rfl (both_c 4 x y _ _ _) (Yn rfl) rfl ?_)
 refine Z2 ?_
 refine Yc ?_
 refine Zc (fun h48 => ?_) (fun h48 => ?_)
 try simp only [sz] at h48
 have hc4 : x.kind = 4 ∧ y.kind = 4 := h48
 refine Yb (Yb ?_)
 refine Yj [.p 0, .l 1, .p 2, .p 3, .l 4, .p 5, .p 6, .e 7 [], .p 8] mixed (by kernel_rfl) ?_
 refine Z5 ?_
 refine Z28 ?_
 refine Z49 ?_
 refine ASeq.pe rfl rfl rfl rfl (fun L0 => (Yk (ckids_c x [0] (by simp) (by simp)) (Yn rfl) ⟨rfl, rfl⟩)) ?_
 refine Z31 ?_
 refine Z49 ?_
 refine ASeq.pe rfl rfl rfl rfl (fun L0 => (Yk (ckids_c y [0] (by simp) (by simp)) (Yn rfl) ⟨rfl, rfl⟩)) ?_
 refine ASeq.ee rfl rfl rfl rfl rfl (AOp.callM [_, _, _, _] (aall_c b cs hC m (H1 m rfl) G3 [kid x 0] [kid y 0] rfl y0 (by omega) (by simp) (fun u hu => by rw [List.mem_singleton.1 hu]; exact (show W G3 x from ⟨xf, by omega⟩).kid (Int.le_refl _) 0) (fun u hu => by rw [List.mem_singleton.1 hu]; exact (show W G3 y from ⟨yf, by omega⟩).kid (Int.le_refl _) 0)) (Yn rfl) rfl (fun hok4 => ⟨Yo, ?_⟩) (fun hno4 => ?_))
 refine Yt rfl rfl rfl rfl (fun L0 => (AVal.not rfl)) ?_
 refine ASeq.nil ?_
 refine Zc (fun h59 => ?_) (fun h59 => ?_)
 try simp only [sz] at h59
 rw [hn, mostK_pi_false hc4 hok4 (by simpa using h59)]
 refine Yb (Ya ?_)
 refine Z2 ?_
 refine Yc (Yd ?_)
 refine AFin.mayRet rfl (.cons rfl .nil) (by repeat first | exact X0 _ | apply X1 | apply X2) ?_ ((by rfl))
 exact .refl _
 try simp only [sz] at h59
 have ht := o_true hok4 (by simpa using h59)
 have hsh := one_shift hC m 0 G3 _ _ _ _ y0 (by omega) ((show W G3 x from ⟨xf, by omega⟩).kid (Int.le_refl _) 0) ((show W G3 y from ⟨yf, by omega⟩).kid (Int.le_refl _) 0) (allM_one ht)
 rw [hn, mostK_pi_true hc4 hok4 (by simpa using h59)]
 refine Ye (Yb ?_)
 refine Yj [.p 0, .l 1, .p 2, .p 3, .p 4, .p 5, .l 6, .p 7, .p 8, .p 9, .p 10, .e 11 [], .p 12] mixed (by kernel_rfl) ?_
 refine Z5 ?_
 refine Z28 ?_
 refine Z49 ?_
 refine ASeq.pe rfl rfl rfl rfl (fun L0 => (Yk (ckids_c x [1] (by simp) (by simp)) (Yn rfl) ⟨rfl, rfl⟩)) ?_
 refine Z70 ?_
 refine Z21 ?_
 refine Z31 ?_
 refine Z49 ?_
 refine ASeq.pe rfl rfl rfl rfl (fun L0 => (Yk (ckids_c y [1] (by simp) (by simp)) (Yn rfl) ⟨rfl, rfl⟩)) ?_
 refine Z70 ?_
 refine Z21 ?_
 refine ASeq.ee rfl rfl rfl rfl rfl (AOp.callM [_, _, _, _] (H2 m rfl (oL (allM (oneM cs m) G3 [kid x 0] [kid y 0])) (kid x 1) (kid y 1) hsh.1 (by omega) ((show W G3 x from ⟨xf, by omega⟩).kid hsh.2.1 1) ((show W G3 y from ⟨yf, by omega⟩).kid hsh.2.1 1)) (Yn rfl) rfl (fun hok5 => ⟨Yo, ?_⟩) (fun hno5 => ?_))
 refine Z17 ?_
 refine ASeq.nil (Yd ?_)
 refine AFin.mayRet rfl (.cons rfl .nil) (by repeat first | exact X0 _ | apply X1 | apply X2) ?_ ((hok5))
 exact .refl _
 exact AFin.mayPan (X := X) (fn := Tryz.f38) rfl (by repeat first | exact X0 _ | apply X1 | apply X2 | exact X3 _) hno5
 rw [hn, mostK_pi_none hc4 hno4, o_none hno4]
 exact AFin.mayPan (X := X) (fn := Tryz.f38) rfl (by repeat first | exact X0 _ | apply X1 | apply X2 | exact X3 _) (by simp)
 have hc4 : ¬ (x.kind = 4 ∧ y.kind = 4) := fun hh => by first | (rcases h48 with h48 | h48 <;> omega) | exact absurd hh h48 | simp_all
 rw [hn, mostK_one hc hc4]
 refine Ye (Yb (Ya ?_))
 refine Z1 ?_
 refine Z23 ?_
 refine Z20 ?_
 refine AOps.e rfl rfl rfl (AOp.callM [_, _, _, _] (H1 m rfl G3 x y y0 (by omega) (show W G3 x from ⟨xf, by omega⟩) (show W G3 y from ⟨yf, by omega⟩)) (Yn rfl) rfl (fun hok6 => ?_) (fun hno6 => ?_))
 refine Z2 ?_
 refine Yc (Yd ?_)
 refine AFin.mayRet rfl (.cons rfl .nil) (by repeat first | exact X0 _ | apply X1 | apply X2) ?_ ((hok6))
 exact .refl _
 exact AFin.mayPan (X := X) (fn := Tryz.f38) rfl (by repeat first | exact X0 _ | apply X1 | apply X2 | exact X3 _) hno6
 refine Z4 ?_
 refine Z4 ?_
 refine Z4 ?_
 refine Z4 ?_
 refine Z13 ?_
 refine Z1 ?_
 refine Z4 ?_
 refine Z4 ?_
 refine Z4 ?_
 refine Z4 ?_
 refine Z13 ?_
 refine Z2 ?_
 refine Yc (ACode.condF rfl ?_)
 have hc : ¬ (x.kind = 2 ∧ y.kind = 2 ∧ x.levels.length = 1 ∧ y.levels.length = 1) := fun hh => by
   obtain ⟨a1, a2, a3, a4⟩ := hh
   first | exact absurd (by omega) h24 | exact absurd (by omega) h33 | (rcases h27 with h27 | h27 <;> omega) | (exact absurd ⟨a1, a2⟩ h27) | (simp_all)
 refine Yb (Ya ?_)
 refine Z1 ?_
 refine AOps.e rfl rfl rfl (AOp.callVK [] rfl (both_c 4 x y _ _ _) (Yn rfl) rfl ?_)
 refine Z2 ?_
 refine Yc ?_
 refine Zc (fun h48 => ?_) (fun h48 => ?_)
 try simp only [sz] at h48
 have hc4 : x.kind = 4 ∧ y.kind = 4 := h48
 refine Yb (Yb ?_)
 refine Yj [.p 0, .l 1, .p 2, .p 3, .l 4, .p 5, .p 6, .e 7 [], .p 8] mixed (by kernel_rfl) ?_
 refine Z5 ?_
 refine Z28 ?_
 refine Z49 ?_
 refine ASeq.pe rfl rfl rfl rfl (fun L0 => (Yk (ckids_c x [0] (by simp) (by simp)) (Yn rfl) ⟨rfl, rfl⟩)) ?_
 refine Z31 ?_
 refine Z49 ?_
 refine ASeq.pe rfl rfl rfl rfl (fun L0 => (Yk (ckids_c y [0] (by simp) (by simp)) (Yn rfl) ⟨rfl, rfl⟩)) ?_
 refine ASeq.ee rfl rfl rfl rfl rfl (AOp.callM [_, _, _, _] (aall_c b cs hC m (H1 m rfl) G3 [kid x 0] [kid y 0] rfl y0 (by omega) (by simp) (fun u hu => by rw [List.mem_singleton.1 hu]; exact (show W G3 x from ⟨xf, by omega⟩).kid (Int.le_refl _) 0) (fun u hu => by rw [List.mem_singleton.1 hu]; exact (show W G3 y from ⟨yf, by omega⟩).kid (Int.le_refl _) 0)) (Yn rfl) rfl (fun hok4 => ⟨Yo, ?_⟩) (fun hno4 => ?_))
 refine Yt rfl rfl rfl rfl (fun L0 => (AVal.not rfl)) ?_
 refine ASeq.nil ?_
 refine Zc (fun h59 => ?_) (fun h59 => ?_)
 try simp only [sz] at h59
 rw [hn, mostK_pi_false hc4 hok4 (by simpa using h59)]
 refine Yb (Ya ?_)
 refine Z2 ?_
 refine Yc (Yd ?_)
 refine AFin.mayRet rfl (.cons rfl .nil) (by repeat first | exact X0 _ | apply X1 | apply X2) ?_ ((by rfl))
 exact .refl _
 try simp only [sz] at h59
 have ht := o_true hok4 (by simpa using h59)
 have hsh := one_shift hC m 0 G3 _ _ _ _ y0 (by omega) ((show W G3 x from ⟨xf, by omega⟩).kid (Int.le_refl _) 0) ((show W G3 y from ⟨yf, by omega⟩).kid (Int.le_refl _) 0) (allM_one ht)
 rw [hn, mostK_pi_true hc4 hok4 (by simpa using h59)]
 refine Ye (Yb ?_)
 refine Yj [.p 0, .l 1, .p 2, .p 3, .p 4, .p 5, .l 6, .p 7, .p 8, .p 9, .p 10, .e 11 [], .p 12] mixed (by kernel_rfl) ?_
 refine Z5 ?_
 refine Z28 ?_
 refine Z49 ?_
 refine ASeq.pe rfl rfl rfl rfl (fun L0 => (Yk (ckids_c x [1] (by simp) (by simp)) (Yn rfl) ⟨rfl, rfl⟩)) ?_
 refine Z70 ?_
 refine Z21 ?_
 refine Z31 ?_
 refine Z49 ?_
 refine ASeq.pe rfl rfl rfl rfl (fun L0 => (Yk (ckids_c y [1] (by simp) (by simp)) (Yn rfl) ⟨rfl, rfl⟩)) ?_
 refine Z70 ?_
 refine Z21 ?_
 refine ASeq.ee rfl rfl rfl rfl rfl (AOp.callM [_, _, _, _] (H2 m rfl (oL (allM (oneM cs m) G3 [kid x 0] [kid y 0])) (kid x 1) (kid y 1) hsh.1 (by omega) ((show W G3 x from ⟨xf, by omega⟩).kid hsh.2.1 1) ((show W G3 y from ⟨yf, by omega⟩).kid hsh.2.1 1)) (Yn rfl) rfl (fun hok5 => ⟨Yo, ?_⟩) (fun hno5 => ?_))
 refine Z17 ?_
 refine ASeq.nil (Yd ?_)
 refine AFin.mayRet rfl (.cons rfl .nil) (by repeat first | exact X0 _ | apply X1 | apply X2) ?_ ((hok5))
 exact .refl _
 exact AFin.mayPan (X := X) (fn := Tryz.f38) rfl (by repeat first | exact X0 _ | apply X1 | apply X2 | exact X3 _) hno5
 rw [hn, mostK_pi_none hc4 hno4, o_none hno4]
 exact AFin.mayPan (X := X) (fn := Tryz.f38) rfl (by repeat first | exact X0 _ | apply X1 | apply X2 | exact X3 _) (by simp)
 have hc4 : ¬ (x.kind = 4 ∧ y.kind = 4) := fun hh => by first | (rcases h48 with h48 | h48 <;> omega) | exact absurd hh h48 | simp_all
 rw [hn, mostK_one hc hc4]
 refine Ye (Yb (Ya ?_))
 refine Z1 ?_
 refine Z23 ?_
 refine Z20 ?_
 refine AOps.e rfl rfl rfl (AOp.callM [_, _, _, _] (H1 m rfl G3 x y y0 (by omega) (show W G3 x from ⟨xf, by omega⟩) (show W G3 y from ⟨yf, by omega⟩)) (Yn rfl) rfl (fun hok6 => ?_) (fun hno6 => ?_))
 refine Z2 ?_
 refine Yc (Yd ?_)
 refine AFin.mayRet rfl (.cons rfl .nil) (by repeat first | exact X0 _ | apply X1 | apply X2) ?_ ((hok6))
 exact .refl _
 exact AFin.mayPan (X := X) (fn := Tryz.f38) rfl (by repeat first | exact X0 _ | apply X1 | apply X2 | exact X3 _) hno6
 have hn : (mostM cs (m + 1) F p q) = none := by rw [mostM_succ, if_neg (by omega), if_neg hne, whnf2_no2 hok2 hno3]
 have he : whnfM cs q (whnfM cs p (F - 1)).2.1 = (T0, 0, 5) := whnf_err x0 (by omega) hno3
 rw [hn, he]
 exact AFin.mayPan (X := X) (fn := Tryz.f38) rfl (by repeat first | exact X0 _ | apply X1 | apply X2 | exact X3 _) (by simp)
 have hn : (mostM cs (m + 1) F p q) = none := by rw [mostM_succ, if_neg (by omega), if_neg hne, whnf2_no1 hno2]
 have he : whnfM cs p (F - 1) = (T0, 0, 5) := whnf_err (by omega) (by omega) hno2
 rw [hn, he]
 exact AFin.mayPan (X := X) (fn := Tryz.f38) rfl (by repeat first | exact X0 _ | apply X1 | apply X2 | exact X3 _) (by simp)
 obtain rfl : F = 0 := by omega
 rw [most_zero]
 exact AFin.mayPan (X := X) (fn := Tryz.f38) rfl (by repeat first | exact X0 _ | apply X1 | apply X2 | exact X3 _) (by simp)
theorem most_c (hS : SortedOk) (b : Nat) (cs : List Core) (hC : CoresOk cs) (m : Nat) : ∀ G p q, 0 ≤ G → G ≤ min (m : Int) 1073741824 → W G p → W G q → AMay X 38 [.ptr b 0, encT p, encT q] [(b, .cells 119 [.int .i64 (G), .slC cs])] ((mostM cs m G p q).isSome = true) (.bool (oB (mostM cs m G p q))) [(b, .cells 119 [.int .i64 (oL (mostM cs m G p q)), .slC cs])] (.iface 30 (.int .i64 5)) [(b, .cells 119 [.int .i64 (oL (mostM cs m G p q)), .slC cs])] := by
  induction m with
  | zero => exact most_w hS b cs hC 0 (fun m h => by omega) (fun m h => by omega)
  | succ n ih => exact most_w hS b cs hC (n + 1) (fun m h => by cases h; exact one_c hS b cs hC n) (fun m h => by cases h; exact ih)
end Sp

/- The walks of conv: what is told. Written by a program of mine. -/
set_option linter.unusedVariables false
set_option linter.unusedSimpArgs false
set_option maxRecDepth 20000
namespace Sp
open Go Go.Proofs
theorem convAsk_c (hS : SortedOk) (b b5 b6 : Nat) (cs : List Core) (hC : CoresOk cs) (n : Nat) (G : Int) (p q : Term) (h0 : 0 ≤ G) (h1 : G ≤ min (n : Int) 1073741824) (hp : W G p) (hq : W G q) : AMay X 35 [.ptr b 0, .ptr b5 0, .ptr b6 0] ((b6, .cells 27 (cellsT q)) :: (b5, .cells 27 (cellsT p)) :: [(b, .cells 119 [.int .i64 (G), .slC cs])]) ((oneM cs n G p q).isSome = true) (.bool (oB (oneM cs n G p q))) ((b6, .cells 27 (cellsT q)) :: (b5, .cells 27 (cellsT p)) :: [(b, .cells 119 [.int .i64 (oL (oneM cs n G p q)), .slC cs])]) (.iface 30 (.int .i64 5)) ((b6, .cells 27 (cellsT q)) :: (b5, .cells 27 (cellsT p)) :: [(b, .cells 119 [.int .i64 (oL (oneM cs n G p q)), .slC cs])]) := by
 refine Zf Tryz.func35 ?_
 refine Yb (Ya ?_)
 refine Z2 ?_
 refine Yc (Yb (Ya ?_))
 refine Z1 ?_
 refine Z23 ?_
 refine Z20 ?_
 refine AOps.e rfl rfl rfl (AOp.callM [_, _] (one_c hS b cs hC n G p q h0 h1 hp hq) (Yn rfl) rfl (fun hok => ?_) (fun hno => ?_))
 refine Z2 ?_
 refine Yc (Yd ?_)
 refine AFin.mayRet rfl (.cons rfl .nil) (by repeat first | exact X0 _ | apply X1 | apply X2) ?_ (hok)
 exact .refl _
 exact AFin.mayPan (X := X) (fn := Tryz.f35) rfl (by repeat first | exact X0 _ | apply X1 | apply X2 | exact X3 _) hno
theorem leqAsk_c (hS : SortedOk) (b b5 b6 : Nat) (cs : List Core) (hC : CoresOk cs) (n : Nat) (G : Int) (p q : Term) (h0 : 0 ≤ G) (h1 : G ≤ min (n : Int) 1073741824) (hp : W G p) (hq : W G q) : AMay X 37 [.ptr b 0, .ptr b5 0, .ptr b6 0] ((b6, .cells 27 (cellsT q)) :: (b5, .cells 27 (cellsT p)) :: [(b, .cells 119 [.int .i64 (G), .slC cs])]) ((mostM cs n G p q).isSome = true) (.bool (oB (mostM cs n G p q))) ((b6, .cells 27 (cellsT q)) :: (b5, .cells 27 (cellsT p)) :: [(b, .cells 119 [.int .i64 (oL (mostM cs n G p q)), .slC cs])]) (.iface 30 (.int .i64 5)) ((b6, .cells 27 (cellsT q)) :: (b5, .cells 27 (cellsT p)) :: [(b, .cells 119 [.int .i64 (oL (mostM cs n G p q)), .slC cs])]) := by
 refine Zf Tryz.func37 ?_
 refine Yb (Ya ?_)
 refine Z2 ?_
 refine Yc (Yb (Ya ?_))
 refine Z1 ?_
 refine Z23 ?_
 refine Z20 ?_
 refine AOps.e rfl rfl rfl (AOp.callM [_, _] (most_c hS b cs hC n G p q h0 h1 hp hq) (Yn rfl) rfl (fun hok => ?_) (fun hno => ?_))
 refine Z2 ?_
 refine Yc (Yd ?_)
 refine AFin.mayRet rfl (.cons rfl .nil) (by repeat first | exact X0 _ | apply X1 | apply X2) ?_ (hok)
 exact .refl _
 exact AFin.mayPan (X := X) (fn := Tryz.f37) rfl (by repeat first | exact X0 _ | apply X1 | apply X2 | exact X3 _) hno
theorem told1_ret (b6 b7 b8 b9 : Nat) (d0 d5 d6 : D) (m : MObj) (R : Loc) : ADef X 72 [.ptr b8 0, .ptr b6 0, .ptr b7 0] ((b9, m) :: (b8, .cells 30 [d6]) :: (b7, .cells 3 [d5]) :: (b6, .cells 4 [d0]) :: R) none ((b9, m) :: (b8, .cells 30 [d6]) :: (b7, .cells 3 [d5]) :: (b6, .cells 4 [d0]) :: R) := by
 refine ADef.of_code Tryz.func72 rfl (by rfl) (Nat.le_of_ble_eq_true rfl) rfl rfl rfl ?_
 refine Yb (Ya ?_)
 refine Z1 ?_
 refine Z90 ?_
 refine Yc (ACode.condF rfl (Ye ?_))
 exact ⟨.inl rfl, rfl, (by repeat first | exact X0 _ | apply X1 | apply X2 | exact X3 _)⟩
theorem told1_pan (b6 b7 b8 b9 : Nat) (d0 d5 d6 : D) (m : MObj) (R : Loc) : ADef X 72 [.ptr b8 0, .ptr b6 0, .ptr b7 0] ((b9, m) :: (b8, .cells 30 [d6]) :: (b7, .cells 3 [d5]) :: (b6, .cells 4 [d0]) :: R) (some (.iface 30 (.int .i64 5))) ((b9, m) :: (b8, .cells 30 [.int .i64 5]) :: (b7, .cells 3 [.int .i64 0]) :: (b6, .cells 4 [.bool false]) :: R) := by
 refine ADef.of_code Tryz.func72 rfl (by rfl) (Nat.le_of_ble_eq_true rfl) rfl rfl rfl ?_
 refine Yb (Ya ?_)
 refine Z1 ?_
 refine Z91 ?_
 refine Yc (ACode.condT rfl (Yb (Ya ?_)))
 refine Z2 ?_
 refine Yc (Yb (Yb (Ya ?_)))
 refine Z1 ?_
 refine AOps.v rfl rfl rfl (AVal.assertOk rfl Tryz.underlying30 rfl) ?_
 refine Z1 ?_
 refine Z12 ?_
 refine Z12 ?_
 refine Z10 ?_
 refine Z2 ?_
 refine Yc (Yb (Ya ?_))
 refine Z1 ?_
 refine Z65 ?_
 refine Yc (ACode.condF rfl (Ye (Ya ?_)))
 refine Z67 ?_
 refine Z34 ?_
 refine Yc ?_
 exact ⟨.inl rfl, rfl, (by repeat first | exact X0 _ | apply X1 | apply X2 | exact X3 _)⟩
theorem callToldM {ρ : Operand → D} {L0 : Loc} {dst : Option Tmp} {ty : TypeId} {pos : String} {after : Array Edge} {guard : Option (Nat × Bool)} {K Kp : D → Loc → Prop} {g : Operand} {xs : Array Operand} {tys : Array TypeId} {f : FuncId} {caps : List D} {b : Nat} {o o2 o3 x y z : Nat × MObj} {ok : Prop} {d dp : D}
    (hg : ρ g = .func (.func f) [] caps) (hc : AMay X f ([.ptr b 0] ++ caps) (L0 ++ [o]) ok d (L0 ++ [o2]) dp (L0 ++ [o3])) (hx : xs.toList.map ρ = [.ptr b 0])
    (h1 : ok → K d (o2 :: x :: y :: z :: L0)) (h2 : ¬ ok → Kp dp (o3 :: x :: y :: z :: L0)) : AOp X ⟨dst, .call ⟨.value g, xs, tys⟩, ty, pos, after, guard⟩ ρ (o :: x :: y :: z :: L0) K Kp := by
  have hp : ∀ o : Nat × MObj, (o :: x :: y :: z :: L0).Perm ((L0 ++ [o]) ++ [x, y, z]) := fun o => by
    have e : o :: x :: y :: z :: L0 = [o, x, y, z] ++ L0 := rfl
    have e2 : (L0 ++ [o]) ++ [x, y, z] = L0 ++ [o, x, y, z] := by simp
    rw [e, e2]; exact List.perm_append_comm
  refine AOp.callVQ (L0 := L0 ++ [o]) (L1 := [x, y, z]) hg hc (Yn (by simp [hx])) (hp o) (fun d' L' h => ?_) (fun d' L' h => ?_)
  · rcases h with ⟨h, e1, rfl⟩ | ⟨h, e1, rfl⟩
    · cases e1; exact ⟨_, (hp o2).symm, h1 h⟩
    · cases e1
  · rcases h with ⟨h, e1, rfl⟩ | ⟨h, e1, rfl⟩
    · cases e1
    · cases e1; exact ⟨_, (hp o3).symm, h2 h⟩
theorem told_c {f : FuncId} {caps : List D} {L0 : Loc} {r : Option (Bool × Int)} (cs : List Core) (fuel : Int) (H : 0 ≤ fuel ∧ fuel ≤ 1073741824 → ∀ b, AMay X f ([.ptr b 0] ++ caps) (L0 ++ [(b, .cells 119 [.int .i64 (fuel), .slC cs])]) (r.isSome = true) (.bool (oB r)) (L0 ++ [(b, .cells 119 [.int .i64 (oL r), .slC cs])]) (.iface 30 (.int .i64 5)) (L0 ++ [(b, .cells 119 [.int .i64 (oL r), .slC cs])])) : AKeep X 34 [.slC cs, .int .i64 fuel, .func (.func f) [] caps] L0 (.tup [.bool (toldM fuel r).1, .int .i64 (toldM fuel r).2.1, .int .i64 (toldM fuel r).2.2]) := by
 refine ACalls.of_codeD Tryz.func34 rfl (by rfl) (Nat.le_of_ble_eq_true rfl) ?_
 refine Yb (Ya ?_)
 refine Z7 (fun b6 => ?_)
 refine Z7 (fun b7 => ?_)
 refine Z7 (fun b8 => ?_)
 refine Yc (Yb (Yb (Ya ?_)))
 refine Z1 ?_
 refine Z26 ?_
 refine Z1 ?_
 refine Zs 12 (fun h12 => ?_) (fun h12 => ?_)
 try simp only [sz] at h12
 refine Z4 ?_
 refine Z4 ?_
 refine Z15 ?_
 refine Yc (ACode.condT rfl (Yb (Ya ?_)))
 refine Z34 ?_
 refine Z10 ?_
 refine Z3 ?_
 refine Yc (Yd ?_)
 refine AFinD.ret0 (X := X) (fn := Tryz.f34) (R := fun x L2 => x = .ret (.tup [.bool (toldM fuel r).1, .int .i64 (toldM fuel r).2.1, .int .i64 (toldM fuel r).2.2]) ∧ L2 = L0) (.cons (Yi 2 rfl rfl rfl rfl) (.cons (Yi 1 rfl rfl rfl rfl) (.cons (Yi 0 rfl rfl rfl rfl) .nil))) (by repeat first | exact X0 _ | apply X2) (D.Le.eq ?_) ⟨rfl, rfl⟩
 rw [toldM_arg (by omega)]; rfl
 try simp only [sz] at h12
 refine Z14 ?_
 refine Z59 ?_
 refine Z13 ?_
 refine Yc ?_
 refine Zc (fun h15 => ?_) (fun h15 => ?_)
 try simp only [sz] at h15
 refine Yb (Ya ?_)
 refine Z34 ?_
 refine Z10 ?_
 refine Z3 ?_
 refine Yc (Yd ?_)
 refine AFinD.ret0 (X := X) (fn := Tryz.f34) (R := fun x L2 => x = .ret (.tup [.bool (toldM fuel r).1, .int .i64 (toldM fuel r).2.1, .int .i64 (toldM fuel r).2.2]) ∧ L2 = L0) (.cons (Yi 2 rfl rfl rfl rfl) (.cons (Yi 1 rfl rfl rfl rfl) (.cons (Yi 0 rfl rfl rfl rfl) .nil))) (by repeat first | exact X0 _ | apply X2) (D.Le.eq ?_) ⟨rfl, rfl⟩
 rw [toldM_arg (by omega)]; rfl
 try simp only [sz] at h15
 refine Ye (Yb (Ya ?_))
 refine Z54 ?_
 refine AOps.deferP (ps := [b8, b6, b7]) rfl ?_
 refine Yc (Yb (Ya ?_))
 refine Z1 ?_
 refine Z52 ?_
 refine Z1 ?_
 refine Z52 ?_
 refine Z9 (fun b21 => ?_)
 refine Z2 ?_
 refine Yc (Yb (Ya ?_))
 refine Z1 ?_
 refine Z1 ?_
 refine AOps.e rfl rfl rfl (callToldM rfl (H (by omega) b21) rfl (fun hok => ?_) (fun hno => ?_))
 refine Z67 ?_
 refine Yc (Yb ?_)
 refine Yj [.l 0, .p 1, .p 2, .p 3, .p 4, .l 5, .e 6 [5], .e 7 [], .e 8 []] mixed (by kernel_rfl) ?_
 refine Z43 ?_
 refine Z5 ?_
 refine Z38 ?_
 refine Z8 ?_
 refine Z8 ?_
 refine Z50 ?_
 refine ASeq.ee0 rfl rfl rfl rfl (AOp.storeN 3 rfl rfl rfl (by constructor) rfl rfl rfl (by repeat constructor) (by repeat constructor) ⟨(Keeps.cons (Yv 0 rfl rfl (.refl _)) Yo), ?_⟩)
 refine Z46 ?_
 refine Z42 ?_
 refine ASeq.nil (Yd ?_)
 refine AFinD.retD (X := X) (fn := Tryz.f34) (R := fun x L2 => x = .ret (.tup [.bool (toldM fuel r).1, .int .i64 (toldM fuel r).2.1, .int .i64 (toldM fuel r).2.2]) ∧ L2 = L0) (g := 72) (ps := [b8, b6, b7]) (told1_ret b6 b7 b8 b21 _ _ _ _ _) (.cons (Yi 3 rfl rfl rfl rfl) (.cons (Yi 2 rfl rfl rfl rfl) (.cons (Yi 1 rfl rfl rfl rfl) .nil))) (by repeat first | exact X0 _ | apply X2) (D.Le.eq ?_) ⟨rfl, rfl⟩
 rw [toldM_ok (by omega) hok]; rfl
 refine AFinD.panD (X := X) (fn := Tryz.f34) (R := fun x L2 => x = .ret (.tup [.bool (toldM fuel r).1, .int .i64 (toldM fuel r).2.1, .int .i64 (toldM fuel r).2.2]) ∧ L2 = L0) (g := 72) (ps := [b8, b6, b7]) (told1_pan b6 b7 b8 b21 _ _ _ _ _) (.cons (Yi 3 rfl rfl rfl rfl) (.cons (Yi 2 rfl rfl rfl rfl) (.cons (Yi 1 rfl rfl rfl rfl) .nil))) (by repeat first | exact X0 _ | apply X2) (D.Le.eq ?_) ⟨rfl, rfl⟩
 rw [toldM_gone (by omega) hno]; rfl
theorem convTop_c (hS : SortedOk) (cs : List Core) (p q : Term) (F : Int) (hc : 0 ≤ F ∧ F ≤ 1073741824 → CoresOk cs ∧ W F p ∧ W F q) : AFn X 9 [.slC cs, encT p, encT q, .int .i64 F] (.tup [.bool (convM cs F p q).1, .int .i64 (convM cs F p q).2.1, .int .i64 (convM cs F p q).2.2]) := by
 refine Zf Tryz.func9 ?_
 refine Yb (Ya ?_)
 refine Z9 (fun b5 => ?_)
 refine Z9 (fun b6 => ?_)
 refine Z2 ?_
 refine Z2 ?_
 refine Z2 ?_
 refine Yc (Yb (Ya ?_))
 refine Z1 ?_
 refine Z1 ?_
 refine Z54 ?_
 refine AOps.e rfl rfl rfl (AOp.callK [] (told_c (r := oneM cs (F.toNat + 1) F p q) (L0 := [(b6, .cells 27 (cellsT q)), (b5, .cells 27 (cellsT p))]) cs F (fun hF b => convAsk_c hS b b5 b6 cs (hc hF).1 (F.toNat + 1) F p q hF.1 (by omega) (hc hF).2.1 (hc hF).2.2)) (Yn rfl) rfl ?_)
 refine Z12 ?_
 refine Z12 ?_
 refine Z12 ?_
 refine Z2 ?_
 refine Z2 ?_
 refine Z2 ?_
 refine Yc (Yd ?_)
 refine Yh rfl (.cons rfl (.cons rfl (.cons rfl .nil))) ?_
 exact D.Le.eq rfl
theorem leqTop_c (hS : SortedOk) (cs : List Core) (p q : Term) (F : Int) (hc : 0 ≤ F ∧ F ≤ 1073741824 → CoresOk cs ∧ W F p ∧ W F q) : AFn X 10 [.slC cs, encT p, encT q, .int .i64 F] (.tup [.bool (leqM cs F p q).1, .int .i64 (leqM cs F p q).2.1, .int .i64 (leqM cs F p q).2.2]) := by
 refine Zf Tryz.func10 ?_
 refine Yb (Ya ?_)
 refine Z9 (fun b5 => ?_)
 refine Z9 (fun b6 => ?_)
 refine Z2 ?_
 refine Z2 ?_
 refine Z2 ?_
 refine Yc (Yb (Ya ?_))
 refine Z1 ?_
 refine Z1 ?_
 refine Z54 ?_
 refine AOps.e rfl rfl rfl (AOp.callK [] (told_c (r := mostM cs (F.toNat + 1) F p q) (L0 := [(b6, .cells 27 (cellsT q)), (b5, .cells 27 (cellsT p))]) cs F (fun hF b => leqAsk_c hS b b5 b6 cs (hc hF).1 (F.toNat + 1) F p q hF.1 (by omega) (hc hF).2.1 (hc hF).2.2)) (Yn rfl) rfl ?_)
 refine Z12 ?_
 refine Z12 ?_
 refine Z12 ?_
 refine Z2 ?_
 refine Z2 ?_
 refine Z2 ?_
 refine Yc (Yd ?_)
 refine Yh rfl (.cons rfl (.cons rfl (.cons rfl .nil))) ?_
 exact D.Le.eq rfl
end Sp
