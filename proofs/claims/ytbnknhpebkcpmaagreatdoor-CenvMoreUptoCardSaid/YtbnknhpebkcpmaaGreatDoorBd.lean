/- Walks of the program's functions and what they compute: contracts of calls; no condition beyond those that each theorem names. -/
import Derived.Test.YtbnknhpebkcpmaaGreatDoorBb
import Derived.Test.YtbnknhpebkcpmaaGreatDoorKc
import Derived.Test.YtbnknhpebkcpmaaGreatDoorKb
import Derived.Test.YtbnknhpebkcpmaaGreatDoorBc
/- The walks of what is right in the core. Written by a program of mine. -/
set_option linter.unusedVariables false
set_option linter.unusedSimpArgs false
set_option maxRecDepth 20000
namespace Sp
open Go Go.Proofs
theorem indexBo_c (bs : List Bool) (hl : bs.length ≤ 9223372036854775807) : AFn X 132 [.slc (bs.map D.bool), .bool false] (.int .i64 (idxB bs 0)) := by
 refine Zf Tryz.func132 ?_
 refine Yb (Ya ?_)
 refine Z2 ?_
 refine Yc (Yb (Yb (Ya ?_)))
 refine Z1 ?_
 refine AOps.v rfl rfl rfl (AVal.lenBo rfl rfl) ?_
 refine Z1 ?_
 refine Yc (Yf ?_)
 refine Yu (γ := Nat) (fun g => [(0, .slc (bs.map D.bool)), (1, .bool false), (6, .slc (bs.map D.bool)), (7, .int .i64 bs.length), (8, .int .i64 g)]) (fun g => []) (fun g => g ≤ bs.length ∧ idxB (bs.drop g) g = idxB bs 0) (fun g => bs.length - g) 0 ⟨Nat.zero_le _, by simp⟩ (by repeat first | exact Ym | refine Yl (.refl _) ?_) (by repeat first | exact X0 _ | apply X1 | apply X2 | exact X3 _) ?_
 rintro i ⟨hi, hg⟩ t1
 simp only at hi hg ⊢
 refine Yb (Ya ?_)
 refine Z26 ?_
 refine Yc (Yb ?_)
 refine Zc (fun h9 => ?_) (fun h9 => ?_)
 try simp only [sz] at h9
 have hlt : i < bs.length := by omega
 refine Ye (Yb (Yf (Yb (Ya ?_))))
 refine Z1 ?_
 refine Z2 ?_
 refine Yc (Yb (Ya ?_))
 refine Z1 ?_
 refine Z1 ?_
 refine Z1 ?_
 refine AOps.v rfl rfl rfl (AVal.indexBo rfl rfl rfl rfl rfl hlt) ?_
 refine Z56 ?_
 refine AOps.v rfl rfl rfl (AVal.eqlB rfl rfl (by kernel_rfl)) ?_
 refine Yc ?_
 refine Zc (fun h16 => ?_) (fun h16 => ?_)
 try simp only [sz] at h16
 refine Yb (Ya ?_)
 refine Z1 ?_
 refine Z2 ?_
 refine Yc (Yd ?_)
 refine Yh rfl (.cons rfl .nil) ?_
 exact D.Le.eq (congrArg (D.int .i64) (by rw [← hg, drop_getD hlt, idxB, if_pos (by simpa using h16.symm)]))
 try simp only [sz] at h16
 refine Ye (Ya ?_)
 refine Z19 ?_
 refine Z1 ?_
 refine Yc ?_
 refine ⟨i + 1, ⟨by omega, by rw [← hg, drop_getD hlt, idxB, if_neg (fun e => by rw [e] at h16; simp at h16)]; push_cast; rfl⟩, by omega, rfl, (by repeat first | exact Ym | refine Yl (.refl _) ?_), (by repeat first | exact X0 _ | apply X1 | apply X2 | exact X3 _)⟩
 try simp only [sz] at h9
 refine Yg (Yb (Ya ?_))
 refine Z2 ?_
 refine Yc (Yd ?_)
 refine Yh rfl (.cons rfl .nil) ?_
 exact D.Le.eq (congrArg (D.int .i64) (by rw [← hg, List.drop_of_length_le (by omega), idxB]))
theorem containsBo_c (bs : List Bool) (hl : bs.length ≤ 9223372036854775807) : AFn X 81 [.slc (bs.map D.bool), .bool false] (.bool (!(bs.all id))) := by
 refine Zf Tryz.func81 ?_
 refine Yb (Ya ?_)
 refine Z2 ?_
 refine Yc (Yb (Ya ?_))
 refine Z1 ?_
 refine Z1 ?_
 refine AOps.e rfl rfl rfl (Yk (indexBo_c bs hl) (Yn rfl) ?_)
 refine Z85 ?_
 refine Z2 ?_
 refine Yc (Yd ?_)
 refine Yh rfl (.cons rfl .nil) ?_
 exact D.Le.eq (congrArg D.bool (idxB_all bs 0 (Int.le_refl _)))
theorem must_c (bs : List Bool) (hl : bs.length ≤ 9223372036854775807) : AMay X 45 [.slc (bs.map D.bool)] [] (bs.all id = true) (.tup []) [] (.iface 73 (.agg [])) [] := by
 refine Zf Tryz.func45 ?_
 refine Yb (Ya ?_)
 refine Z1 ?_
 refine AOps.e rfl rfl rfl (Yk (containsBo_c bs hl) (Yn rfl) ?_)
 refine Yc ?_
 refine Zc (fun h3 => ?_) (fun h3 => ?_)
 try simp only [sz] at h3
 skip
 refine Ya ?_
 refine AOps.v rfl rfl rfl (AVal.build0 (by kernel_rfl)) ?_
 refine Z51 ?_
 refine AOps.e0 rfl rfl (AOp.panic rfl ?_)
 exact AFin.mayPan (X := X) (fn := Tryz.f45) rfl (by repeat first | exact X0 _ | apply X1 | apply X2 | exact X3 _) (by simpa using h3)
 try simp only [sz] at h3
 refine Ye ?_
 refine AFin.mayEnd rfl .nil (by repeat first | exact X0 _ | apply X1 | apply X2) ?_ (by simpa using h3)
 exact .refl _
theorem isNaN_c (a : Int) : AFn X 210 [.int .i64 a] (.bool false) := by
 refine Zf Tryz.func210 ?_
 refine Yb (Ya ?_)
 refine Z2 ?_
 refine Yc (Yb (Ya ?_))
 refine Z1 ?_
 refine Z1 ?_
 refine Z60 ?_
 refine Z2 ?_
 refine Yc (Yd ?_)
 refine Yh rfl (.cons rfl .nil) ?_
 exact D.Le.eq (congrArg D.bool (by simp))
theorem compare_c (a b : Int) : AFn X 194 [.int .i64 a, .int .i64 b] (.int .i64 (compM a b)) := by
 refine Zf Tryz.func194 ?_
 refine Yb (Ya ?_)
 refine Z2 ?_
 refine Yc (Yb (Ya ?_))
 refine Z1 ?_
 refine AOps.e rfl rfl rfl (Yk (isNaN_c a) (Yn rfl) ?_)
 refine Z2 ?_
 refine Yc (Yb (Ya ?_))
 refine Z1 ?_
 refine AOps.e rfl rfl rfl (Yk (isNaN_c b) (Yn rfl) ?_)
 refine Z2 ?_
 refine Yc (Yb (Yb (Ya ?_)))
 refine Z1 ?_
 refine Yc (ACode.condF rfl (Ye (Yb (Yb (Ya ?_)))))
 refine Z1 ?_
 refine Yc (ACode.condF rfl (Ye (Yb (Yb (Ya ?_)))))
 refine Z1 ?_
 refine Z1 ?_
 refine Z26 ?_
 refine Yc ?_
 refine Zc (fun h16 => ?_) (fun h16 => ?_)
 try simp only [decide_eq_true_eq, decide_eq_false_iff_not] at h16
 refine Yb (Ya ?_)
 refine Z2 ?_
 refine Yc (Yd ?_)
 refine Yh rfl (.cons rfl .nil) ?_
 exact D.Le.eq (congrArg (D.int .i64) (by rw [compM, if_pos h16]))
 try simp only [decide_eq_true_eq, decide_eq_false_iff_not] at h16
 refine Ye (Yb (Yb (Ya ?_)))
 refine Z1 ?_
 refine Z1 ?_
 refine Z89 ?_
 refine Yc ?_
 refine Zc (fun h19 => ?_) (fun h19 => ?_)
 try simp only [decide_eq_true_eq, decide_eq_false_iff_not] at h19
 refine Yb (Ya ?_)
 refine Z2 ?_
 refine Yc (Yd ?_)
 refine Yh rfl (.cons rfl .nil) ?_
 exact D.Le.eq (congrArg (D.int .i64) (by rw [compM, if_neg h16, if_pos h19]))
 try simp only [decide_eq_true_eq, decide_eq_false_iff_not] at h19
 refine Ye (Yb (Ya ?_))
 refine Z2 ?_
 refine Yc (Yd ?_)
 refine Yh rfl (.cons rfl .nil) ?_
 exact D.Le.eq (congrArg (D.int .i64) (by rw [compM, if_neg h16, if_neg h19]))
theorem or_c (zs : List Int) (hl : zs.length ≤ 9223372036854775807) : AFn X 193 [.slc (zs.map (D.int .i64))] (.int .i64 (orM zs)) := by
 refine Zf Tryz.func193 ?_
 refine Yb (Ya ?_)
 refine Z2 ?_
 refine Yc (Yb (Ya ?_))
 refine Z2 ?_
 refine Yc (Yb (Yb (Ya ?_)))
 refine Z1 ?_
 refine AOps.v rfl rfl rfl (AVal.lenZ rfl rfl) ?_
 refine Z1 ?_
 refine Yc (Yf ?_)
 refine Yu (γ := Nat) (fun g => [(3, .int .i64 0), (6, .slc (zs.map (D.int .i64))), (7, .int .i64 zs.length), (8, .int .i64 g)]) (fun g => []) (fun g => g ≤ zs.length ∧ orM (zs.drop g) = orM zs) (fun g => zs.length - g) 0 ⟨Nat.zero_le _, by simp⟩ (by repeat first | exact Ym | refine Yl (.refl _) ?_) (by repeat first | exact X0 _ | apply X1 | apply X2 | exact X3 _) ?_
 rintro i ⟨hi, hg⟩ t1
 simp only at hi hg ⊢
 refine Yb (Ya ?_)
 refine Z26 ?_
 refine Yc (Yb ?_)
 refine Zc (fun h9 => ?_) (fun h9 => ?_)
 try simp only [sz] at h9
 have hlt : i < zs.length := by omega
 refine Ye (Yb (Yf (Yb (Ya ?_))))
 refine AOps.v rfl rfl rfl (AVal.indexZ rfl rfl rfl rfl rfl hlt) ?_
 refine Z56 ?_
 refine Z2 ?_
 refine Yc (Yb (Ya ?_))
 refine Z1 ?_
 refine Z1 ?_
 refine Z60 ?_
 refine Yc ?_
 refine Zc (fun h14 => ?_) (fun h14 => ?_)
 try simp only [sz] at h14
 refine Yb (Ya ?_)
 refine Z1 ?_
 refine Z2 ?_
 refine Yc (Yd ?_)
 refine Yh rfl (.cons rfl .nil) ?_
 exact D.Le.eq (congrArg (D.int .i64) (by rw [← hg, drop_getD hlt, orM, if_pos (by simpa using h14)]))
 try simp only [sz] at h14
 refine Ye (Ya ?_)
 refine Z19 ?_
 refine Z1 ?_
 refine Yc ?_
 refine ⟨i + 1, ⟨by omega, by rw [← hg, drop_getD hlt, orM, if_neg (by simpa using h14)]⟩, by omega, rfl, (by repeat first | exact Ym | refine Yl (.refl _) ?_), (by repeat first | exact X0 _ | apply X1 | apply X2 | exact X3 _)⟩
 try simp only [sz] at h9
 refine Yg (Yb (Ya ?_))
 refine Z1 ?_
 refine Z2 ?_
 refine Yc (Yd ?_)
 refine Yh rfl (.cons rfl .nil) ?_
 exact D.Le.eq (congrArg (D.int .i64) (by rw [← hg, List.drop_of_length_le (by omega), orM]))
theorem cmpR_c (a b : Part) : AFn X 192 [encP a, encP b] (.int .i64 (cmpM a b)) := by
 refine Zf Tryz.func192 ?_
 refine Yb (Ya ?_)
 refine Z9 (fun b2 => ?_)
 refine Z9 (fun b3 => ?_)
 refine Z2 ?_
 refine Yc (Yb (Ya ?_))
 refine Z6 ?_
 refine Z16 ?_
 refine Z6 ?_
 refine Z11 ?_
 refine AOps.e rfl rfl rfl (Yk (compare_c a.v b.v) (Yn rfl) ?_)
 refine AOps.e rfl rfl rfl (AOp.buildSlice (es := [.int .i64 _, .int .i64 _]) rfl rfl rfl rfl rfl ?_)
 refine AOps.e rfl rfl rfl (Yk (or_c [compM a.v b.v, -1] (by simp)) (Yn rfl) ?_)
 refine Z2 ?_
 refine Yc (Yd ?_)
 refine Yh rfl (.cons rfl .nil) ?_
 exact D.Le.eq (congrArg (D.int .i64) (or_comp a b))
theorem isSorted_c (l : Level) (hl : l.length ≤ 9223372036854775807) : AFn X 191 [.slP l, .func (.func 192) [] []] (.bool (strictM l)) := by
 refine Zf Tryz.func191 ?_
 refine Yb (Ya ?_)
 refine Z2 ?_
 refine Yc (Yb (Yb (Ya ?_)))
 refine Z1 ?_
 refine Z24 ?_
 refine Z92 ?_
 refine Z2 ?_
 refine Yc (Yf ?_)
 refine Yu (γ := Int) (fun g => [(0, .slP l), (1, .func (.func 192) [] []), (5, .int .i64 g)]) (fun g => []) (fun g => -1 ≤ g ∧ g ≤ (l.length : Int) - 1 ∧ strictM (l.drop g.toNat) = true) (fun g => (g + 1).toNat) ((l.length : Int) - 1) ⟨by omega, by omega, strict_last (by omega)⟩ (by repeat first | exact Ym | refine Yl (.refl _) ?_) (by repeat first | exact X0 _ | apply X1 | apply X2 | exact X3 _) ?_
 rintro i ⟨h0, h1, hg⟩ t1
 simp only at h0 h1 hg ⊢
 refine Yb (Yb (Ya ?_))
 refine Z1 ?_
 refine Z89 ?_
 refine Yc ?_
 refine Zc (fun h10 => ?_) (fun h10 => ?_)
 try simp only [decide_eq_true_eq, decide_eq_false_iff_not] at h10
 have hs := strict_step (l := l) (i := (i - 1).toNat) (by omega)
 rw [show (i - 1).toNat + 1 = i.toNat by omega, hg, Bool.and_true] at hs
 refine Ye (Yb (Yf (Yb ?_)))
 refine Yj [.p 0, .p 1, .p 2, .p 3, .p 4, .p 5, .p 6, .p 7, .p 8, .p 9, .p 10, .p 11] mixed (by kernel_rfl) ?_
 refine Z5 ?_
 refine Z5 ?_
 refine Z5 ?_
 refine Z79 ?_
 refine Yt rfl rfl rfl rfl (fun L0 => (AVal.loadE (d := encP _) rfl rfl rfl)) ?_
 refine Z5 ?_
 refine Z5 ?_
 refine Yt rfl rfl rfl rfl (fun L0 => (AVal.subn rfl rfl (by omega))) ?_
 refine Z79 ?_
 refine Yt rfl rfl rfl rfl (fun L0 => (AVal.loadE (d := encP _) rfl rfl rfl)) ?_
 refine ASeq.pe rfl rfl rfl rfl (fun L0 => (AOp.callVK [] rfl ((cmpR_c _ _).keep _) (Yn rfl) rfl ⟨rfl, rfl⟩)) ?_
 refine Yt rfl rfl rfl rfl (fun L0 => (AVal.lss rfl rfl)) ?_
 refine ASeq.nil ?_
 refine Zc (fun h24 => ?_) (fun h24 => ?_)
 try simp only [decide_eq_true_eq, decide_eq_false_iff_not] at h24
 have hv : ¬ (l.getD (i - 1).toNat default).v < (l.getD i.toNat default).v := fun e => by rw [cmpM, if_pos e] at h24; omega
 have hn : strictM l = false := by
   cases e : strictM l with
   | false => rfl
   | true => have := strict_drop (i - 1).toNat l e; rw [hs, decide_eq_false hv] at this; cases this
 refine Yb (Ya ?_)
 refine Z2 ?_
 refine Yc (Yd ?_)
 refine Yh rfl (.cons rfl .nil) ?_
 exact D.Le.eq (congrArg D.bool (by rw [hn]))
 try simp only [decide_eq_true_eq, decide_eq_false_iff_not] at h24
 have hv : (l.getD (i - 1).toNat default).v < (l.getD i.toNat default).v := by
   by_cases e : (l.getD (i - 1).toNat default).v < (l.getD i.toNat default).v
   · exact e
   · rw [cmpM, if_neg e] at h24; omega
 have hn : strictM (l.drop (i - 1).toNat) = true := by rw [hs, decide_eq_true hv]
 refine Ye (Ya ?_)
 refine Z1 ?_
 refine Z92 ?_
 refine Z2 ?_
 refine Yc ?_
 refine ⟨i - 1, ⟨by omega, by omega, hn⟩, by omega, rfl, (by repeat first | exact Ym | refine Yl (.refl _) ?_), (by repeat first | exact X0 _ | apply X1 | apply X2 | exact X3 _)⟩
 try simp only [decide_eq_true_eq, decide_eq_false_iff_not] at h10
 have hn : strictM l = true := by rw [show i.toNat = 0 by omega] at hg; simpa using hg
 refine Yg (Yb (Ya ?_))
 refine Z2 ?_
 refine Yc (Yd ?_)
 refine Yh rfl (.cons rfl .nil) ?_
 exact D.Le.eq (congrArg D.bool (by rw [hn]))
theorem badP_c (p : Part) (n : Int) (b3 : Nat) (R : Loc) : AKeep X 195 [encP p, .ptr b3 0] ((b3, .cells 3 [.int .i64 n]) :: R) (.bool (badP n p)) := by
 refine Zf Tryz.func195 ?_
 refine Yb (Ya ?_)
 refine Z9 (fun b2 => ?_)
 refine Z2 ?_
 refine Yc (Yb (Ya ?_))
 refine Z6 ?_
 refine Z11 ?_
 refine Z26 ?_
 refine Z1 ?_
 refine Zs 7 (fun h7 => ?_) (fun h7 => ?_)
 try simp only [decide_eq_true_eq, decide_eq_false_iff_not] at h7
 refine Z4 ?_
 refine Z4 ?_
 refine Z4 ?_
 refine Z4 ?_
 refine Z15 ?_
 refine Z1 ?_
 refine Z4 ?_
 refine Z4 ?_
 refine Z4 ?_
 refine Z15 ?_
 refine Z1 ?_
 refine Z4 ?_
 refine Z4 ?_
 refine Z4 ?_
 refine Z15 ?_
 refine Z2 ?_
 refine Yc (Yd ?_)
 refine Yr rfl (.cons rfl .nil) (by repeat first | exact X0 _ | apply X1 | apply X2) ?_
 first | exact D.Le.eq (congrArg D.bool (by simp [badP, *])) | exact D.Le.eq (congrArg D.bool (by simp_all [badP]))
 try simp only [decide_eq_true_eq, decide_eq_false_iff_not] at h7
 refine Z18 ?_
 refine Z30 ?_
 refine Z27 ?_
 refine Z59 ?_
 refine Z13 ?_
 refine Z1 ?_
 refine Zs 13 (fun h13 => ?_) (fun h13 => ?_)
 try simp only [decide_eq_true_eq, decide_eq_false_iff_not] at h13
 refine Z4 ?_
 refine Z4 ?_
 refine Z4 ?_
 refine Z15 ?_
 refine Z1 ?_
 refine Z4 ?_
 refine Z4 ?_
 refine Z4 ?_
 refine Z15 ?_
 refine Z2 ?_
 refine Yc (Yd ?_)
 refine Yr rfl (.cons rfl .nil) (by repeat first | exact X0 _ | apply X1 | apply X2) ?_
 first | exact D.Le.eq (congrArg D.bool (by simp [badP, *])) | exact D.Le.eq (congrArg D.bool (by simp_all [badP]))
 try simp only [decide_eq_true_eq, decide_eq_false_iff_not] at h13
 refine Z18 ?_
 refine Z30 ?_
 refine Yp rfl rfl rfl rfl rfl rfl (AVal.lss rfl rfl) ?_
 refine Z13 ?_
 refine Z1 ?_
 refine Zs 18 (fun h18 => ?_) (fun h18 => ?_)
 try simp only [decide_eq_true_eq, decide_eq_false_iff_not] at h18
 refine Z4 ?_
 refine Z4 ?_
 refine Z4 ?_
 refine Z15 ?_
 refine Z2 ?_
 refine Yc (Yd ?_)
 refine Yr rfl (.cons rfl .nil) (by repeat first | exact X0 _ | apply X1 | apply X2) ?_
 first | exact D.Le.eq (congrArg D.bool (by simp [badP, *])) | exact D.Le.eq (congrArg D.bool (by simp_all [badP]))
 try simp only [decide_eq_true_eq, decide_eq_false_iff_not] at h18
 refine Z18 ?_
 refine Z30 ?_
 refine Z59 ?_
 refine Z13 ?_
 refine Z2 ?_
 refine Yc (Yd ?_)
 refine Yr rfl (.cons rfl .nil) (by repeat first | exact X0 _ | apply X1 | apply X2) ?_
 first | exact D.Le.eq (congrArg D.bool (by simp [badP, *])) | exact D.Le.eq (congrArg D.bool (by simp_all [badP]))
def idxP (g : Part → Bool) : List Part → Int → Int
  | [], _ => -1
  | p :: ps, i => if g p = true then i else idxP g ps (i + 1)
theorem idxP_any (g : Part → Bool) : ∀ (ps : List Part) (i : Int), 0 ≤ i → decide (0 ≤ idxP g ps i) = ps.any g
  | [], i, h => by simp [idxP]
  | p :: ps, i, h => by
    rw [idxP, List.any_cons]
    cases hg : g p with
    | true => simp [h]
    | false => simp only [Bool.false_eq_true, if_false, Bool.false_or]; exact idxP_any g ps (i + 1) (by omega)
theorem indexFP_c {f : FuncId} {caps : List D} {L0 : Loc} {gg : Part → Bool} (H : ∀ p, AKeep X f ([encP p] ++ caps) L0 (.bool (gg p))) (ps : List Part) (hl : ps.length ≤ 9223372036854775807) : AKeep X 167 [.slP ps, .func (.func f) [] caps] L0 (.int .i64 (idxP gg ps 0)) := by
 refine Zf Tryz.func167 ?_
 refine Yb (Ya ?_)
 refine Z2 ?_
 refine Yc (Yb (Yb (Ya ?_)))
 refine Z1 ?_
 refine Z24 ?_
 refine Z1 ?_
 refine Yc (Yf ?_)
 refine Yu (γ := Nat) (fun g => [(0, .slP ps), (1, .func (.func f) [] caps), (6, .slP ps), (7, .int .i64 ps.length), (8, .int .i64 g)]) (fun g => L0) (fun g => g ≤ ps.length ∧ idxP gg (ps.drop g) g = idxP gg ps 0) (fun g => ps.length - g) 0 ⟨Nat.zero_le _, by simp⟩ (by repeat first | exact Ym | refine Yl (.refl _) ?_) (by repeat first | exact X0 _ | apply X1 | apply X2 | exact X3 _) ?_
 rintro i ⟨hi, hg⟩ t1
 simp only at hi hg ⊢
 refine Yb (Ya ?_)
 refine Z26 ?_
 refine Yc (Yb ?_)
 refine Zc (fun h9 => ?_) (fun h9 => ?_)
 try simp only [sz] at h9
 have hlt : i < ps.length := by omega
 refine Ye (Yb (Yf (Yb (Ya ?_))))
 refine Z1 ?_
 refine Z2 ?_
 refine Yc (Yb (Ya ?_))
 refine Z1 ?_
 refine Z1 ?_
 refine Z1 ?_
 refine Z84 ?_
 refine Z87 ?_
 refine AOps.e rfl rfl rfl (AOp.callVK [] rfl (H (ps.getD i default)) (Yn rfl) rfl ?_)
 refine Yc ?_
 refine Zc (fun h16 => ?_) (fun h16 => ?_)
 refine Yb (Ya ?_)
 refine Z1 ?_
 refine Z2 ?_
 refine Yc (Yd ?_)
 refine Yr rfl (.cons rfl .nil) (by repeat first | exact X0 _ | apply X1 | apply X2) ?_
 exact D.Le.eq (congrArg (D.int .i64) (by rw [← hg, drop_getD hlt, idxP, if_pos h16]))
 refine Ye (Ya ?_)
 refine Z19 ?_
 refine Z1 ?_
 refine Yc ?_
 refine ⟨i + 1, ⟨by omega, by rw [← hg, drop_getD hlt, idxP, if_neg (by rw [h16]; simp)]; push_cast; rfl⟩, by omega, rfl, (by repeat first | exact Ym | refine Yl (.refl _) ?_), (by repeat first | exact X0 _ | apply X1 | apply X2 | exact X3 _)⟩
 try simp only [sz] at h9
 refine Yg (Yb (Ya ?_))
 refine Z2 ?_
 refine Yc (Yd ?_)
 refine Yr rfl (.cons rfl .nil) (by repeat first | exact X0 _ | apply X1 | apply X2) ?_
 exact D.Le.eq (congrArg (D.int .i64) (by rw [← hg, List.drop_of_length_le (by omega), idxP]))
theorem containsFP_c {f : FuncId} {caps : List D} {L0 : Loc} {gg : Part → Bool} (H : ∀ p, AKeep X f ([encP p] ++ caps) L0 (.bool (gg p))) (ps : List Part) (hl : ps.length ≤ 9223372036854775807) : AKeep X 129 [.slP ps, .func (.func f) [] caps] L0 (.bool (ps.any gg)) := by
 refine Zf Tryz.func129 ?_
 refine Yb (Ya ?_)
 refine Z2 ?_
 refine Yc (Yb (Ya ?_))
 refine Z1 ?_
 refine Z1 ?_
 refine AOps.e rfl rfl rfl (AOp.callK [] (indexFP_c H ps hl) (Yn rfl) rfl ?_)
 refine Z85 ?_
 refine Z2 ?_
 refine Yc (Yd ?_)
 refine Yr rfl (.cons rfl .nil) (by repeat first | exact X0 _ | apply X1 | apply X2) ?_
 exact D.Le.eq (congrArg D.bool (idxP_any gg ps 0 (Int.le_refl _)))
theorem lvRight_c (l : Level) (n : Int) (hl : l.length ≤ 9223372036854775807) : AFn X 168 [encL l, .int .i64 n] (.bool (lvRight n l)) := by
 refine Zf Tryz.func168 ?_
 refine Yb (Ya ?_)
 refine Z9 (fun b2 => ?_)
 refine Z71 (fun b3 => ?_)
 refine Z2 ?_
 refine Yc (Yb (Ya ?_))
 refine Z6 ?_
 refine Z16 ?_
 refine AOps.e rfl rfl rfl (Yk (isSorted_c l hl) (Yn rfl) ?_)
 refine Z2 ?_
 refine Yc (Yb (Ya ?_))
 refine Z1 ?_
 refine Z1 ?_
 refine Zs 10 (fun h10 => ?_) (fun h10 => ?_)
 try simp only [decide_eq_true_eq, decide_eq_false_iff_not] at h10
 refine Z18 ?_
 refine Z27 ?_
 refine Z64 ?_
 refine Z78 ?_
 refine Z15 ?_
 refine Z1 ?_
 refine Zs 16 (fun h16 => ?_) (fun h16 => ?_)
 try simp only [decide_eq_true_eq, decide_eq_false_iff_not] at h16
 refine Z18 ?_
 refine Z27 ?_
 refine Yp rfl rfl rfl rfl rfl rfl (AVal.makeFunc) ?_
 refine AOps.eT rfl rfl rfl rfl rfl rfl (AOp.callK [] (containsFP_c (gg := badP n) (fun p => badP_c p n _ _) l hl) (Yn rfl) rfl ?_)
 refine Z69 ?_
 refine Z15 ?_
 refine Z2 ?_
 refine Yc (Yd ?_)
 refine Yh rfl (.cons rfl .nil) ?_
 exact D.Le.eq (congrArg D.bool (by rw [lvRight, h10, decide_eq_true (by omega)]; simp))
 try simp only [decide_eq_true_eq, decide_eq_false_iff_not] at h16
 refine Z4 ?_
 refine Z4 ?_
 refine Z4 ?_
 refine Z4 ?_
 refine Z4 ?_
 refine Z13 ?_
 refine Z2 ?_
 refine Yc (Yd ?_)
 refine Yh rfl (.cons rfl .nil) ?_
 exact D.Le.eq (congrArg D.bool (by rw [lvRight, decide_eq_false (by omega), Bool.and_false, Bool.false_and]))
 try simp only [decide_eq_true_eq, decide_eq_false_iff_not] at h10
 refine Z4 ?_
 refine Z4 ?_
 refine Z4 ?_
 refine Z4 ?_
 refine Z13 ?_
 refine Z1 ?_
 refine Z4 ?_
 refine Z4 ?_
 refine Z4 ?_
 refine Z4 ?_
 refine Z4 ?_
 refine Z13 ?_
 refine Z2 ?_
 refine Yc (Yd ?_)
 refine Yh rfl (.cons rfl .nil) ?_
 exact D.Le.eq (congrArg D.bool (by rw [lvRight, h10]; simp))
end Sp

/- The walks of core.Right: the kinds, the walk. Written by a program of mine. -/
set_option linter.unusedVariables false
set_option linter.unusedSimpArgs false
set_option maxRecDepth 20000
namespace Sp
open Go Go.Proofs
theorem scopeRight_c (nl nt : Int) (ls : List Level) (hl : ls.length ≤ 9223372036854775807) (hp : ∀ l ∈ ls, l.length ≤ 9223372036854775807) : AMay X 133 [.agg [.int .i64 nl, .int .i64 nt], .slL ls] [] (ls.all (lvRight nl) = true) (.tup []) [] (.iface 73 (.agg [])) [] := by
 refine Zf Tryz.func133 ?_
 refine Yb (Ya ?_)
 refine Z9 (fun b2 => ?_)
 refine Yc (Yb (Ya ?_))
 refine Z1 ?_
 refine Z24 ?_
 refine Z1 ?_
 refine Yc (Yf ?_)
 refine Yu (γ := Nat) (fun g => [(2, .ptr b2 0), (6, .slL ls), (7, .int .i64 ls.length), (8, .int .i64 g)]) (fun g => [(b2, .cells 77 [.int .i64 nl, .int .i64 nt])]) (fun g => g ≤ ls.length ∧ (ls.take g).all (lvRight nl) = true) (fun g => ls.length - g) 0 ⟨Nat.zero_le _, by simp⟩ (by repeat first | exact Ym | refine Yl (.refl _) ?_) (by repeat first | exact X0 _ | apply X1 | apply X2 | exact X3 _) ?_
 rintro i ⟨hi, hg⟩ t1
 simp only at hi hg ⊢
 refine Yb (Ya ?_)
 refine Z26 ?_
 refine Yc (Yb ?_)
 refine Zc (fun h9 => ?_) (fun h9 => ?_)
 try simp only [sz] at h9
 have hlt : i < ls.length := by omega
 refine Ye (Yb (Yf (Yb (Ya ?_))))
 refine AOps.v rfl rfl rfl (AVal.indexLK rfl rfl rfl rfl rfl (by omega)) ?_
 refine Z77 ?_
 refine Z7 (fun b5 => ?_)
 refine Z3 ?_
 refine Yc (Ya ?_)
 refine AOps.v rfl rfl rfl (AVal.loadP (d := encL _) 0 rfl rfl rfl rfl) ?_
 refine Z6 ?_
 refine Z16 ?_
 refine AOps.e rfl rfl rfl (Yk (lvRight_c (ls.getD i default) nl (hp _ (getD_mem hlt))) (Yn rfl) ?_)
 refine AOps.e rfl rfl rfl (AOp.buildSlice (es := [.bool _]) rfl rfl rfl rfl rfl ?_)
 refine AOps.e rfl rfl rfl (AOp.callM [_, _] (must_c [_] (by simp)) (Yn rfl) rfl (fun hok => ?_) (fun hno => ?_))
 refine Yc (Ya ?_)
 refine Z19 ?_
 refine Z1 ?_
 refine Yc ?_
 refine ⟨i + 1, ⟨by omega, by rw [take_succ_getD hlt, List.all_append, hg]; simpa using hok⟩, by omega, rfl, (by repeat first | exact Ym | refine Yl (.refl _) ?_), (by repeat first | exact X0 _ | apply X1 | apply X2 | exact X3 _)⟩
 exact AFin.mayPan (X := X) (fn := Tryz.f133) rfl (by repeat first | exact X0 _ | apply X1 | apply X2 | exact X3 _) (fun e => hno (by have := List.all_eq_true.1 e _ (getD_mem hlt); simpa using this))
 try simp only [sz] at h9
 refine Yg ?_
 refine AFin.mayEnd rfl .nil (by repeat first | exact X0 _ | apply X1 | apply X2) ?_ (by rw [List.take_of_length_le (by omega)] at hg; exact hg)
 exact .refl _
theorem bare_c (t : Term) : AMay X 134 [encT t] [] (bareB t = true) (.tup []) [] (.iface 73 (.agg [])) [] := by
 refine Zf Tryz.func134 ?_
 refine Yb (Ya ?_)
 refine Z9 (fun b1 => ?_)
 refine Yc (Ya ?_)
 refine Z6 ?_
 refine Z11 ?_
 refine Z40 ?_
 refine Z6 ?_
 refine Z11 ?_
 refine Z40 ?_
 refine Z6 ?_
 refine Z11 ?_
 refine Z24 ?_
 refine Z40 ?_
 refine Z80 ?_
 refine AOps.e rfl rfl rfl (AOp.callM [_] (must_c [_, _, _] (by simp)) (Yn rfl) rfl (fun hok => ?_) (fun hno => ?_))
 refine Yc ?_
 refine AFin.mayEnd rfl .nil (by repeat first | exact X0 _ | apply X1 | apply X2) ?_ (by simp only [List.all_cons, List.all_nil, id_eq, Bool.and_true, Bool.and_eq_true, decide_eq_true_eq] at hok; simpa [bareB, and_assoc] using hok)
 exact .refl _
 simp only [List.all_cons, List.all_nil, id_eq, Bool.and_true, Bool.and_eq_true, decide_eq_true_eq] at hno
 exact AFin.mayPan (X := X) (fn := Tryz.f134) rfl (by repeat first | exact X0 _ | apply X1 | apply X2 | exact X3 _) (by simpa [bareB, and_assoc] using hno)
theorem kvar_c (nl nt : Int) (cn : List Int) (bm : Nat) (t : Term) : AMay X 82 [(.agg [.int .i64 nl, .int .i64 (nt), .slc (cn.map (D.int .i64)), .map bm]), encT t] [] (varB nt t = true) (.int .i64 0) [] (.iface 73 (.agg [])) [] := by
 refine Zf Tryz.func82 ?_
 refine Yb (Ya ?_)
 refine Z9 (fun b2 => ?_)
 refine Z9 (fun b3 => ?_)
 refine Z2 ?_
 refine Yc (Yb (Ya ?_))
 refine Z6 ?_
 refine Z11 ?_
 refine Z85 ?_
 refine Z6 ?_
 refine Z11 ?_
 refine Z6 ?_
 refine Z6 ?_
 refine Z16 ?_
 refine Z26 ?_
 refine Z6 ?_
 refine Z11 ?_
 refine Z40 ?_
 refine Z6 ?_
 refine Z11 ?_
 refine Z24 ?_
 refine Z40 ?_
 refine AOps.e rfl rfl rfl (AOp.buildSlice (es := [.bool _, .bool _, .bool _, .bool _]) rfl rfl rfl rfl rfl ?_)
 refine AOps.e rfl rfl rfl (AOp.callM [_, _] (must_c [_, _, _, _] (by simp)) (Yn rfl) rfl (fun hok => ?_) (fun hno => ?_))
 refine Yc (Yb (Ya ?_))
 refine Z2 ?_
 refine Yc (Yd ?_)
 refine AFin.mayRet rfl (.cons rfl .nil) (by repeat first | exact X0 _ | apply X1 | apply X2) ?_ (by simp only [List.all_cons, List.all_nil, id_eq, Bool.and_true, Bool.and_eq_true, decide_eq_true_eq] at hok; simpa [varB, and_assoc] using hok)
 exact .refl _
 simp only [List.all_cons, List.all_nil, id_eq, Bool.and_true, Bool.and_eq_true, decide_eq_true_eq] at hno
 exact AFin.mayPan (X := X) (fn := Tryz.f82) rfl (by repeat first | exact X0 _ | apply X1 | apply X2 | exact X3 _) (by simpa [varB, and_assoc] using hno)
theorem kfin_c (nl nt : Int) (cn : List Int) (bm : Nat) (t : Term) : AMay X 91 [(.agg [.int .i64 nl, .int .i64 (nt), .slc (cn.map (D.int .i64)), .map bm]), encT t] [] (finB t = true) (.int .i64 0) [] (.iface 73 (.agg [])) [] := by
 refine Zf Tryz.func91 ?_
 refine Yb (Ya ?_)
 refine Z9 (fun b2 => ?_)
 refine Z9 (fun b3 => ?_)
 refine Z2 ?_
 refine Yc (Yb (Ya ?_))
 refine Z6 ?_
 refine Z11 ?_
 refine Z85 ?_
 refine Z6 ?_
 refine Z11 ?_
 refine Z40 ?_
 refine Z6 ?_
 refine Z11 ?_
 refine Z24 ?_
 refine Z40 ?_
 refine Z80 ?_
 refine AOps.e rfl rfl rfl (AOp.callM [_, _] (must_c [_, _, _] (by simp)) (Yn rfl) rfl (fun hok => ?_) (fun hno => ?_))
 refine Yc (Yb (Ya ?_))
 refine Z2 ?_
 refine Yc (Yd ?_)
 refine AFin.mayRet rfl (.cons rfl .nil) (by repeat first | exact X0 _ | apply X1 | apply X2) ?_ (by simp only [List.all_cons, List.all_nil, id_eq, Bool.and_true, Bool.and_eq_true, decide_eq_true_eq] at hok; simpa [finB, and_assoc] using hok)
 exact .refl _
 simp only [List.all_cons, List.all_nil, id_eq, Bool.and_true, Bool.and_eq_true, decide_eq_true_eq] at hno
 exact AFin.mayPan (X := X) (fn := Tryz.f91) rfl (by repeat first | exact X0 _ | apply X1 | apply X2 | exact X3 _) (by simpa [finB, and_assoc] using hno)
theorem kelem_c (nl nt : Int) (cn : List Int) (bm : Nat) (t : Term) : AMay X 92 [(.agg [.int .i64 nl, .int .i64 (nt), .slc (cn.map (D.int .i64)), .map bm]), encT t] [] (elemB t = true) (.int .i64 0) [] (.iface 73 (.agg [])) [] := by
 refine Zf Tryz.func92 ?_
 refine Yb (Ya ?_)
 refine Z9 (fun b2 => ?_)
 refine Z9 (fun b3 => ?_)
 refine Z2 ?_
 refine Yc (Yb (Ya ?_))
 refine Z6 ?_
 refine Z11 ?_
 refine Z85 ?_
 refine Z6 ?_
 refine Z11 ?_
 refine Z6 ?_
 refine Z11 ?_
 refine Z26 ?_
 refine Z6 ?_
 refine Z11 ?_
 refine Z24 ?_
 refine Z40 ?_
 refine Z80 ?_
 refine AOps.e rfl rfl rfl (AOp.callM [_, _] (must_c [_, _, _] (by simp)) (Yn rfl) rfl (fun hok => ?_) (fun hno => ?_))
 refine Yc (Yb (Ya ?_))
 refine Z2 ?_
 refine Yc (Yd ?_)
 refine AFin.mayRet rfl (.cons rfl .nil) (by repeat first | exact X0 _ | apply X1 | apply X2) ?_ (by simp only [List.all_cons, List.all_nil, id_eq, Bool.and_true, Bool.and_eq_true, decide_eq_true_eq] at hok; simpa [elemB, and_assoc] using hok)
 exact .refl _
 simp only [List.all_cons, List.all_nil, id_eq, Bool.and_true, Bool.and_eq_true, decide_eq_true_eq] at hno
 exact AFin.mayPan (X := X) (fn := Tryz.f92) rfl (by repeat first | exact X0 _ | apply X1 | apply X2 | exact X3 _) (by simpa [elemB, and_assoc] using hno)
theorem kcas_c (nl nt : Int) (cn : List Int) (bm : Nat) (t : Term) : AMay X 93 [(.agg [.int .i64 nl, .int .i64 (nt), .slc (cn.map (D.int .i64)), .map bm]), encT t] [] (casB t = true) (.int .i64 (w64 (t.at_ + 2))) [] (.iface 73 (.agg [])) [] := by
 refine Zf Tryz.func93 ?_
 refine Yb (Ya ?_)
 refine Z9 (fun b2 => ?_)
 refine Z9 (fun b3 => ?_)
 refine Z2 ?_
 refine Yc (Yb (Ya ?_))
 refine Z6 ?_
 refine Z11 ?_
 refine Z40 ?_
 refine Z6 ?_
 refine Z11 ?_
 refine Z85 ?_
 refine Z6 ?_
 refine Z11 ?_
 refine Z24 ?_
 refine Z40 ?_
 refine Z80 ?_
 refine AOps.e rfl rfl rfl (AOp.callM [_, _] (must_c [_, _, _] (by simp)) (Yn rfl) rfl (fun hok => ?_) (fun hno => ?_))
 refine Yc (Yb (Ya ?_))
 refine Z6 ?_
 refine Z11 ?_
 refine Z63 ?_
 refine Z2 ?_
 refine Yc (Yd ?_)
 refine AFin.mayRet rfl (.cons rfl .nil) (by repeat first | exact X0 _ | apply X1 | apply X2) ?_ (by simp only [List.all_cons, List.all_nil, id_eq, Bool.and_true, Bool.and_eq_true, decide_eq_true_eq] at hok; simpa [casB, and_assoc] using hok)
 exact .refl _
 simp only [List.all_cons, List.all_nil, id_eq, Bool.and_true, Bool.and_eq_true, decide_eq_true_eq] at hno
 exact AFin.mayPan (X := X) (fn := Tryz.f93) rfl (by repeat first | exact X0 _ | apply X1 | apply X2 | exact X3 _) (by simpa [casB, and_assoc] using hno)
theorem ktwo_c (nl nt : Int) (cn : List Int) (bm : Nat) (t : Term) : AMay X 85 [(.agg [.int .i64 nl, .int .i64 (nt), .slc (cn.map (D.int .i64)), .map bm]), encT t] [] (bareB t = true) (.int .i64 2) [] (.iface 73 (.agg [])) [] := by
 refine Zf Tryz.func85 ?_
 refine Yb (Ya ?_)
 refine Z9 (fun b2 => ?_)
 refine Z9 (fun b3 => ?_)
 refine Z2 ?_
 refine Yc (Yb (Ya ?_))
 refine Z20 ?_
 refine AOps.e rfl rfl rfl (AOp.callM [_, _] (bare_c t) (Yn rfl) rfl (fun hok => ?_) (fun hno => ?_))
 refine Yc (Yb (Ya ?_))
 refine Z2 ?_
 refine Yc (Yd ?_)
 refine AFin.mayRet rfl (.cons rfl .nil) (by repeat first | exact X0 _ | apply X1 | apply X2) ?_ (hok)
 exact .refl _
 exact AFin.mayPan (X := X) (fn := Tryz.f85) rfl (by repeat first | exact X0 _ | apply X1 | apply X2 | exact X3 _) (hno)
theorem kthree_c (nl nt : Int) (cn : List Int) (bm : Nat) (t : Term) : AMay X 86 [(.agg [.int .i64 nl, .int .i64 (nt), .slc (cn.map (D.int .i64)), .map bm]), encT t] [] (bareB t = true) (.int .i64 3) [] (.iface 73 (.agg [])) [] := by
 refine Zf Tryz.func86 ?_
 refine Yb (Ya ?_)
 refine Z9 (fun b2 => ?_)
 refine Z9 (fun b3 => ?_)
 refine Z2 ?_
 refine Yc (Yb (Ya ?_))
 refine Z20 ?_
 refine AOps.e rfl rfl rfl (AOp.callM [_, _] (bare_c t) (Yn rfl) rfl (fun hok => ?_) (fun hno => ?_))
 refine Yc (Yb (Ya ?_))
 refine Z2 ?_
 refine Yc (Yd ?_)
 refine AFin.mayRet rfl (.cons rfl .nil) (by repeat first | exact X0 _ | apply X1 | apply X2) ?_ (hok)
 exact .refl _
 exact AFin.mayPan (X := X) (fn := Tryz.f86) rfl (by repeat first | exact X0 _ | apply X1 | apply X2 | exact X3 _) (hno)
theorem kone_c (nl nt : Int) (cn : List Int) (bm : Nat) (t : Term) : AMay X 87 [(.agg [.int .i64 nl, .int .i64 (nt), .slc (cn.map (D.int .i64)), .map bm]), encT t] [] (bareB t = true) (.int .i64 1) [] (.iface 73 (.agg [])) [] := by
 refine Zf Tryz.func87 ?_
 refine Yb (Ya ?_)
 refine Z9 (fun b2 => ?_)
 refine Z9 (fun b3 => ?_)
 refine Z2 ?_
 refine Yc (Yb (Ya ?_))
 refine Z20 ?_
 refine AOps.e rfl rfl rfl (AOp.callM [_, _] (bare_c t) (Yn rfl) rfl (fun hok => ?_) (fun hno => ?_))
 refine Yc (Yb (Ya ?_))
 refine Z2 ?_
 refine Yc (Yd ?_)
 refine AFin.mayRet rfl (.cons rfl .nil) (by repeat first | exact X0 _ | apply X1 | apply X2) ?_ (hok)
 exact .refl _
 exact AFin.mayPan (X := X) (fn := Tryz.f87) rfl (by repeat first | exact X0 _ | apply X1 | apply X2 | exact X3 _) (hno)
theorem kfive_c (nl nt : Int) (cn : List Int) (bm : Nat) (t : Term) : AMay X 88 [(.agg [.int .i64 nl, .int .i64 (nt), .slc (cn.map (D.int .i64)), .map bm]), encT t] [] (bareB t = true) (.int .i64 5) [] (.iface 73 (.agg [])) [] := by
 refine Zf Tryz.func88 ?_
 refine Yb (Ya ?_)
 refine Z9 (fun b2 => ?_)
 refine Z9 (fun b3 => ?_)
 refine Z2 ?_
 refine Yc (Yb (Ya ?_))
 refine Z20 ?_
 refine AOps.e rfl rfl rfl (AOp.callM [_, _] (bare_c t) (Yn rfl) rfl (fun hok => ?_) (fun hno => ?_))
 refine Yc (Yb (Ya ?_))
 refine Z2 ?_
 refine Yc (Yd ?_)
 refine AFin.mayRet rfl (.cons rfl .nil) (by repeat first | exact X0 _ | apply X1 | apply X2) ?_ (hok)
 exact .refl _
 exact AFin.mayPan (X := X) (fn := Tryz.f88) rfl (by repeat first | exact X0 _ | apply X1 | apply X2 | exact X3 _) (hno)
theorem kleaf_c (nl nt : Int) (cn : List Int) (bm : Nat) (t : Term) : AMay X 89 [(.agg [.int .i64 nl, .int .i64 (nt), .slc (cn.map (D.int .i64)), .map bm]), encT t] [] (bareB t = true) (.int .i64 0) [] (.iface 73 (.agg [])) [] := by
 refine Zf Tryz.func89 ?_
 refine Yb (Ya ?_)
 refine Z9 (fun b2 => ?_)
 refine Z9 (fun b3 => ?_)
 refine Z2 ?_
 refine Yc (Yb (Ya ?_))
 refine Z20 ?_
 refine AOps.e rfl rfl rfl (AOp.callM [_, _] (bare_c t) (Yn rfl) rfl (fun hok => ?_) (fun hno => ?_))
 refine Yc (Yb (Ya ?_))
 refine Z2 ?_
 refine Yc (Yd ?_)
 refine AFin.mayRet rfl (.cons rfl .nil) (by repeat first | exact X0 _ | apply X1 | apply X2) ?_ (hok)
 exact .refl _
 exact AFin.mayPan (X := X) (fn := Tryz.f89) rfl (by repeat first | exact X0 _ | apply X1 | apply X2 | exact X3 _) (hno)
theorem ksix_c (nl nt : Int) (cn : List Int) (bm : Nat) (t : Term) : AMay X 90 [(.agg [.int .i64 nl, .int .i64 (nt), .slc (cn.map (D.int .i64)), .map bm]), encT t] [] (bareB t = true) (.int .i64 6) [] (.iface 73 (.agg [])) [] := by
 refine Zf Tryz.func90 ?_
 refine Yb (Ya ?_)
 refine Z9 (fun b2 => ?_)
 refine Z9 (fun b3 => ?_)
 refine Z2 ?_
 refine Yc (Yb (Ya ?_))
 refine Z20 ?_
 refine AOps.e rfl rfl rfl (AOp.callM [_, _] (bare_c t) (Yn rfl) rfl (fun hok => ?_) (fun hno => ?_))
 refine Yc (Yb (Ya ?_))
 refine Z2 ?_
 refine Yc (Yd ?_)
 refine AFin.mayRet rfl (.cons rfl .nil) (by repeat first | exact X0 _ | apply X1 | apply X2) ?_ (hok)
 exact .refl _
 exact AFin.mayPan (X := X) (fn := Tryz.f90) rfl (by repeat first | exact X0 _ | apply X1 | apply X2 | exact X3 _) (hno)
theorem ksort_c (nl nt : Int) (cn : List Int) (bm : Nat) (t : Term) (ht : t.fit 9223372036854775807) : AMay X 83 [(.agg [.int .i64 nl, .int .i64 (nt), .slc (cn.map (D.int .i64)), .map bm]), encT t] [] (sortB nl t = true) (.int .i64 0) [] (.iface 73 (.agg [])) [] := by
 refine Zf Tryz.func83 ?_
 refine Yb (Ya ?_)
 refine Z9 (fun b2 => ?_)
 refine Z9 (fun b3 => ?_)
 refine Z2 ?_
 refine Yc (Yb (Ya ?_))
 refine Z6 ?_
 refine Z11 ?_
 refine Z40 ?_
 refine Z6 ?_
 refine Z11 ?_
 refine Z40 ?_
 refine Z6 ?_
 refine Z11 ?_
 refine Z24 ?_
 refine Z40 ?_
 refine Z80 ?_
 refine AOps.e rfl rfl rfl (AOp.callM [_, _] (must_c [_, _, _] (by simp)) (Yn rfl) rfl (fun hok => ?_) (fun hno => ?_))
 refine Yc (Yb (Ya ?_))
 refine Z6 ?_
 refine Z16 ?_
 refine Z6 ?_
 refine Z11 ?_
 refine AOps.e rfl rfl rfl (AOp.callM [_, _] (scopeRight_c nl nt t.levels (ht.llen) (fun l hl => ht.plen hl)) (Yn rfl) rfl (fun hok2 => ?_) (fun hno2 => ?_))
 refine Yc (Yb (Ya ?_))
 refine Z2 ?_
 refine Yc (Yd ?_)
 refine AFin.mayRet rfl (.cons rfl .nil) (by repeat first | exact X0 _ | apply X1 | apply X2) ?_ (by simp only [List.all_cons, List.all_nil, id_eq, Bool.and_true, Bool.and_eq_true, decide_eq_true_eq] at hok; simp [sortB, hok, hok2])
 exact .refl _
 simp only [List.all_cons, List.all_nil, id_eq, Bool.and_true, Bool.and_eq_true, decide_eq_true_eq] at hok
 exact AFin.mayPan (X := X) (fn := Tryz.f83) rfl (by repeat first | exact X0 _ | apply X1 | apply X2 | exact X3 _) (fun e => hno2 (by simp only [sortB, Bool.and_eq_true] at e; exact e.2))
 simp only [List.all_cons, List.all_nil, id_eq, Bool.and_true, Bool.and_eq_true, decide_eq_true_eq] at hno
 exact AFin.mayPan (X := X) (fn := Tryz.f83) rfl (by repeat first | exact X0 _ | apply X1 | apply X2 | exact X3 _) (fun e => hno (by simp [sortB] at e; simp [e]))
theorem kconst_c (nl nt : Int) (cn : List Int) (bm : Nat) (t : Term) (ht : t.fit 9223372036854775807) (hcn : cn.length ≤ 9223372036854775807) : AMay X 84 [(.agg [.int .i64 nl, .int .i64 (nt), .slc (cn.map (D.int .i64)), .map bm]), encT t] [] (constB nl cn t = true) (.int .i64 0) [] (.iface 73 (.agg [])) [] := by
 refine Zf Tryz.func84 ?_
 refine Yb (Ya ?_)
 refine Z9 (fun b2 => ?_)
 refine Z9 (fun b3 => ?_)
 refine Z2 ?_
 refine Yc (Yb (Ya ?_))
 refine Z6 ?_
 refine Z11 ?_
 refine Z85 ?_
 refine Z6 ?_
 refine Z11 ?_
 refine Z6 ?_
 refine Z16 ?_
 refine AOps.v rfl rfl rfl (AVal.lenZ rfl rfl) ?_
 refine Z26 ?_
 refine Z6 ?_
 refine Z11 ?_
 refine Z40 ?_
 refine Z80 ?_
 refine AOps.e rfl rfl rfl (AOp.callM [_, _] (must_c [_, _, _] (by simp)) (Yn rfl) rfl (fun hok => ?_) (fun hno => ?_))
 simp only [List.all_cons, List.all_nil, id_eq, Bool.and_true, Bool.and_eq_true, decide_eq_true_eq] at hok
 refine Yc (Yb ?_)
 refine Yj [.p 0, .l 1, .p 2, .p 3, .l 4, .p 5, .l 6, .p 7, .p 8, .p 9, .p 10, .e 11 []] mixed (by kernel_rfl) ?_
 refine Z8 ?_
 refine Z50 ?_
 refine Yt rfl rfl rfl rfl (fun L0 => (AVal.len rfl rfl rfl)) ?_
 refine Z8 ?_
 refine Z36 ?_
 refine Z8 ?_
 refine Z50 ?_
 refine Yt rfl rfl rfl rfl (fun L0 => (AVal.indexZi rfl rfl rfl rfl rfl ⟨hok.1, hok.2.1⟩)) ?_
 refine Yt rfl rfl rfl rfl (fun L0 => (AVal.loadEN rfl rfl rfl (by constructor))) ?_
 refine Yt rfl rfl rfl rfl (fun L0 => (AVal.eql rfl rfl)) ?_
 refine ASeq.pe rfl rfl rfl rfl (fun L0 => (AOp.buildSlice (es := [.bool _]) rfl rfl rfl rfl rfl ⟨rfl, rfl⟩)) ?_
 refine ASeq.ee rfl rfl rfl rfl rfl (AOp.callM [_, _] (must_c [_] (by simp)) (Yn rfl) rfl (fun hok3 => ⟨Yo, ?_⟩) (fun hno3 => ?_))
 refine ASeq.nil (Yb (Ya ?_))
 refine Z6 ?_
 refine Z16 ?_
 refine Z6 ?_
 refine Z11 ?_
 refine AOps.e rfl rfl rfl (AOp.callM [_, _] (scopeRight_c nl nt t.levels (ht.llen) (fun l hl => ht.plen hl)) (Yn rfl) rfl (fun hok2 => ?_) (fun hno2 => ?_))
 refine Yc (Yb (Ya ?_))
 refine Z2 ?_
 refine Yc (Yd ?_)
 refine AFin.mayRet rfl (.cons rfl .nil) (by repeat first | exact X0 _ | apply X1 | apply X2) ?_ (by simp only [List.all_cons, List.all_nil, id_eq, Bool.and_true, Bool.and_eq_true, decide_eq_true_eq] at hok3; simp only [constB, Bool.and_eq_true, decide_eq_true_eq]; exact ⟨⟨⟨⟨hok.1, hok.2.1⟩, hok.2.2⟩, hok3⟩, hok2⟩)
 exact .refl _
 exact AFin.mayPan (X := X) (fn := Tryz.f84) rfl (by repeat first | exact X0 _ | apply X1 | apply X2 | exact X3 _) (fun e => hno2 (by simp only [constB, Bool.and_eq_true] at e; exact e.2))
 simp only [List.all_cons, List.all_nil, id_eq, Bool.and_true, Bool.and_eq_true, decide_eq_true_eq] at hno3
 exact AFin.mayPan (X := X) (fn := Tryz.f84) rfl (by repeat first | exact X0 _ | apply X1 | apply X2 | exact X3 _) (fun e => hno3 (by simp only [constB, Bool.and_eq_true, decide_eq_true_eq] at e; rw [e.1.2]))
 simp only [List.all_cons, List.all_nil, id_eq, Bool.and_true, Bool.and_eq_true, decide_eq_true_eq] at hno
 exact AFin.mayPan (X := X) (fn := Tryz.f84) rfl (by repeat first | exact X0 _ | apply X1 | apply X2 | exact X3 _) (fun e => hno (by simp only [constB, Bool.and_eq_true, decide_eq_true_eq] at e; exact ⟨e.1.1.1.1, e.1.1.1.2, e.1.1.2⟩))
end Sp

/- The walks of core.Right: the table, the walk, what is told. Written by a program of mine. -/
set_option linter.unusedVariables false
set_option linter.unusedSimpArgs false
set_option maxRecDepth 20000
namespace Sp
open Go Go.Proofs
def KM : List (Int × D) := [(1, .func (.func 82) [] []), (2, .func (.func 83) [] []), (3, .func (.func 84) [] []), (4, .func (.func 85) [] []), (5, .func (.func 85) [] []), (6, .func (.func 85) [] []), (7, .func (.func 86) [] []), (12, .func (.func 85) [] []), (13, .func (.func 85) [] []), (14, .func (.func 87) [] []), (15, .func (.func 87) [] []), (16, .func (.func 85) [] []), (17, .func (.func 85) [] []), (18, .func (.func 88) [] []), (19, .func (.func 86) [] []), (20, .func (.func 89) [] []), (21, .func (.func 90) [] []), (22, .func (.func 91) [] []), (23, .func (.func 92) [] []), (24, .func (.func 93) [] [])]
theorem kindsC_c  : ACalls X 46 [] [] (fun r L' => ∃ b, r = .ret (.map b) ∧ L' = [(b, .map KM)]) := by
 refine Zf Tryz.func46 ?_
 refine Yb (Ya ?_)
 refine Z2 ?_
 refine Yc (Yb (Ya ?_))
 refine AOps.e rfl rfl rfl (AOp.makeMapN (fun mb => ?_))
 refine Z33 ?_
 refine Z33 ?_
 refine Z33 ?_
 refine Z33 ?_
 refine Z33 ?_
 refine Z33 ?_
 refine Z33 ?_
 refine Z33 ?_
 refine Z33 ?_
 refine Z33 ?_
 refine Z33 ?_
 refine Z33 ?_
 refine Z33 ?_
 refine Z33 ?_
 refine Z33 ?_
 refine Z33 ?_
 refine Z33 ?_
 refine Z33 ?_
 refine Z33 ?_
 refine Z33 ?_
 refine Z1 ?_
 refine Z2 ?_
 refine Yc (Yd ?_)
 refine AFin.ret (X := X) (fn := Tryz.f46) (R := fun r L' => ∃ b, r = .ret (.map b) ∧ L' = [(b, .map KM)]) (L' := [(mb, .map KM)]) rfl (.cons rfl .nil) (by repeat first | exact X0 _ | apply X1 | apply X2 | exact X3 _) (.refl _) ⟨mb, rfl, rfl⟩
theorem callKinds {ρ : Operand → D} {L : Loc} {dst : Option Tmp} {ty : TypeId} {pos : String} {after : Array Edge} {guard : Option (Nat × Bool)} {K Kp : D → Loc → Prop} {xs : Array Operand} {tys : Array TypeId} (hx : xs.toList.map ρ = [])
    (h : ∀ b, K (.map b) (L ++ [(b, .map KM)])) : AOp X ⟨dst, .call ⟨.value (.func 46), xs, tys⟩, ty, pos, after, guard⟩ ρ L K Kp :=
  AOp.callB L kindsC_c (Yn hx) (by simp) (fun d L' h' => by
    obtain ⟨b, e, rfl⟩ := h'
    cases e; exact h b) (fun d L' h' => by obtain ⟨b, e, _⟩ := h'; cases e)
theorem scopeBelow_c (nl nt : Int) (h : 0 ≤ nt ∧ nt ≤ 4611686018427387904) : AFn X 95 [.agg [.int .i64 nl, .int .i64 nt], .int .i64 1] (.agg [.int .i64 nl, .int .i64 (nt + 1)]) := by
 refine Zf Tryz.func95 ?_
 refine Yb (Ya ?_)
 refine Z9 (fun b2 => ?_)
 refine Z7 (fun b4 => ?_)
 refine Yc (Yb (Ya ?_))
 refine Z6 ?_
 refine Z16 ?_
 refine Z6 ?_
 refine Z16 ?_
 refine Z1 ?_
 refine Z19 ?_
 refine Z52 ?_
 refine Z3 ?_
 refine Yc (Yd ?_)
 refine Yh rfl (.cons (Yi 0 rfl rfl rfl rfl) .nil) ?_
 exact .refl _
theorem right_in (nl nt : Int) (cn : List Int) (bm : Nat) (t : Term) (ht : t.fit 9223372036854775807) (f : FuncId) (ok : Prop) (m : Int) (h0 : 0 ≤ nt) (h1 : nt ≤ 4611686018427387904) (hget : mget KM t.kind = some (.func (.func f) [] [])) (hc : AMay X f [(.agg [.int .i64 nl, .int .i64 (nt), .slc (cn.map (D.int .i64)), .map bm]), encT t] [] ok (.int .i64 m) [] (.iface 73 (.agg [])) []) (ih : ∀ k ∈ t.kids, ∀ nu : Int, 0 ≤ nu → nu ≤ nt + 1 → AMay X 47 [(.agg [.int .i64 nl, .int .i64 (nu), .slc (cn.map (D.int .i64)), .map bm]), encT k] [(bm, .map KM)] (rightM nl cn nu k = true) (.tup []) [(bm, .map KM)] (.iface 73 (.agg [])) [(bm, .map KM)]) : AMay X 47 [(.agg [.int .i64 nl, .int .i64 (nt), .slc (cn.map (D.int .i64)), .map bm]), encT t] [(bm, .map KM)] (ok ∧ (t.kids.length : Int) = m ∧ rightsM nl cn nt t.kind 0 t.kids = true) (.tup []) [(bm, .map KM)] (.iface 73 (.agg [])) [(bm, .map KM)] := by
 refine Zf Tryz.func47 ?_
 refine Yb (Ya ?_)
 refine Z9 (fun b2 => ?_)
 refine Z9 (fun b3 => ?_)
 refine Yc (Yb (Ya ?_))
 refine Z6 ?_
 refine Z16 ?_
 refine Z6 ?_
 refine Z11 ?_
 refine AOps.v rfl rfl rfl (AVal.lookupOk (e := 125) (d0 := .nilf) (d1 := .func (.func f) [] []) (ok := true) 2 rfl rfl rfl (by kernel_rfl) (by kernel_rfl) (by rw [hget]; rfl) (by rw [hget]; rfl)) ?_
 refine Z1 ?_
 refine Z12 ?_
 refine Z12 ?_
 refine Z2 ?_
 refine Z2 ?_
 refine Yc (Yb (Ya ?_))
 refine Z1 ?_
 refine AOps.e rfl rfl rfl (AOp.buildSlice (es := [.bool _]) rfl rfl rfl rfl rfl ?_)
 refine AOps.e rfl rfl rfl (AOp.callM [_, _, _] (must_c [_] (by simp)) (Yn rfl) rfl (fun hok1 => ?_) (fun hno1 => ?_))
 refine Yc (Yb ?_)
 refine Yj [.p 0, .l 1, .p 2, .p 3, .l 4, .l 5, .e 6 [1], .p 7, .p 8, .e 9 []] mixed (by kernel_rfl) ?_
 refine Z8 ?_
 refine Z50 ?_
 refine Yt rfl rfl rfl rfl (fun L0 => (AVal.len rfl rfl rfl)) ?_
 refine Z5 ?_
 refine Z36 ?_
 refine Z31 ?_
 refine ASeq.ee rfl rfl rfl rfl rfl (AOp.callVM [_, _, _] rfl hc (Yn rfl) rfl (fun hok => ⟨(Keeps.cons (Yv 0 rfl rfl (.refl _)) Yo), ?_⟩) (fun hno => ?_))
 refine Yt rfl rfl rfl rfl (fun L0 => (AVal.eql rfl rfl)) ?_
 refine ASeq.pe rfl rfl rfl rfl (fun L0 => (AOp.buildSlice (es := [.bool _]) rfl rfl rfl rfl rfl ⟨rfl, rfl⟩)) ?_
 refine ASeq.ee rfl rfl rfl rfl rfl (AOp.callM [_, _, _] (must_c [_] (by simp)) (Yn rfl) rfl (fun hok2 => ⟨Yo, ?_⟩) (fun hno2 => ?_))
 refine ASeq.nil (Yb (Ya ?_))
 refine Z6 ?_
 refine Z11 ?_
 refine Z24 ?_
 refine Z1 ?_
 refine Yc (Yf ?_)
 refine Yu (γ := Nat) (fun g => [(2, .ptr b2 0), (3, .ptr b3 0), (31, .slT t.kids), (32, .int .i64 t.kids.length), (33, .int .i64 g)]) (fun g => [(b3, .cells 27 (cellsT t)), (b2, .cells 81 [.int .i64 nl, .int .i64 nt, .slc (cn.map (D.int .i64)), .map bm]), (bm, .map KM)]) (fun g => g ≤ t.kids.length ∧ rightsM nl cn nt t.kind 0 (t.kids.take g) = true) (fun g => t.kids.length - g) 0 ⟨Nat.zero_le _, by simp [rightsM]⟩ (by repeat first | exact Ym | refine Yl (.refl _) ?_) (by repeat first | exact X0 _ | apply X1 | apply X2 | exact X3 _) ?_
 have hlen := ht.len
 rintro i ⟨hi, hg⟩ t1
 simp only at hi hg ⊢
 refine Yb (Ya ?_)
 refine Z26 ?_
 refine Yc (Yb ?_)
 refine Zc (fun h34 => ?_) (fun h34 => ?_)
 try simp only [sz] at h34
 have hlt : i < t.kids.length := by omega
 refine Ye (Yb (Yf (Yb (Ya ?_))))
 refine Z1 ?_
 refine Z88 ?_
 refine Z41 ?_
 refine Z7 (fun b7 => ?_)
 refine Z2 ?_
 refine Z3 ?_
 refine Yc (Yb (Ya ?_))
 refine Z35 ?_
 refine Z7 (fun b8 => ?_)
 refine Z3 ?_
 refine Yc (Yb (Yb (Ya ?_)))
 refine Z6 ?_
 refine Z35 ?_
 refine Z1 ?_
 refine AOps.e rfl rfl rfl (Yk (binds_c _ _) (Yn rfl) ?_)
 refine Yc ?_
 refine Zc (fun h42 => ?_) (fun h42 => ?_)
 have hnu : (bif binds t.kind (i : Int) then nt + 1 else nt) = nt + 1 := by rw [h42]; rfl
 refine Ya ?_
 refine Z6 ?_
 refine Z66 ?_
 refine AOps.e rfl rfl rfl (Yk (scopeBelow_c nl nt (by omega)) (Yn rfl) ?_)
 refine Z6 ?_
 refine Z3 ?_
 refine Yc (Ya ?_)
 refine Z11 ?_
 refine Z23 ?_
 refine AOps.e rfl rfl rfl (AOp.callM [_, _, _, _] (ih _ (getD_mem hlt) (nt + 1) (by omega) (by omega)) (Yn rfl) rfl (fun hok3 => ?_) (fun hno3 => ?_))
 refine Yc (Ya ?_)
 refine Z19 ?_
 refine Z1 ?_
 refine Yc ?_
 refine ⟨i + 1, ⟨by omega, by rw [rights_take _ _ _ hlt, hg, Int.zero_add, hnu, hok3]; rfl⟩, by omega, rfl, (by repeat first | exact Ym | refine Yl (.refl _) ?_), (by repeat first | exact X0 _ | apply X1 | apply X2 | exact X3 _)⟩
 exact AFin.mayPan (X := X) (fn := Tryz.f47) rfl (by repeat first | exact X0 _ | apply X1 | apply X2 | exact X3 _) (fun e => by have := rights_fall (nl := nl) (cn := cn) (nt := nt) (k := t.kind) hlt (by rw [hnu]; simpa using hno3); rw [this] at e; exact absurd e.2.2 (by simp))
 have hnu : (bif binds t.kind (i : Int) then nt + 1 else nt) = nt := by rw [h42]; rfl
 refine Ye (Ya ?_)
 refine Z11 ?_
 refine Z23 ?_
 refine AOps.e rfl rfl rfl (AOp.callM [_, _, _, _] (ih _ (getD_mem hlt) nt (by omega) (by omega)) (Yn rfl) rfl (fun hok3 => ?_) (fun hno3 => ?_))
 refine Yc (Ya ?_)
 refine Z19 ?_
 refine Z1 ?_
 refine Yc ?_
 refine ⟨i + 1, ⟨by omega, by rw [rights_take _ _ _ hlt, hg, Int.zero_add, hnu, hok3]; rfl⟩, by omega, rfl, (by repeat first | exact Ym | refine Yl (.refl _) ?_), (by repeat first | exact X0 _ | apply X1 | apply X2 | exact X3 _)⟩
 exact AFin.mayPan (X := X) (fn := Tryz.f47) rfl (by repeat first | exact X0 _ | apply X1 | apply X2 | exact X3 _) (fun e => by have := rights_fall (nl := nl) (cn := cn) (nt := nt) (k := t.kind) hlt (by rw [hnu]; simpa using hno3); rw [this] at e; exact absurd e.2.2 (by simp))
 try simp only [sz] at h34
 refine Yg ?_
 refine AFin.mayEnd rfl .nil (by repeat first | exact X0 _ | apply X1 | apply X2) ?_ (⟨hok, by simpa using hok2, by rw [List.take_of_length_le (by omega)] at hg; exact hg⟩)
 exact .refl _
 exact AFin.mayPan (X := X) (fn := Tryz.f47) rfl (by repeat first | exact X0 _ | apply X1 | apply X2 | exact X3 _) (fun e => hno2 (by simpa using e.2.1))
 exact AFin.mayPan (X := X) (fn := Tryz.f47) rfl (by repeat first | exact X0 _ | apply X1 | apply X2 | exact X3 _) (fun e => hno e.1)
 exact absurd (by rfl) hno1
theorem right_none (nl nt : Int) (cn : List Int) (bm : Nat) (t : Term) (hget : mget KM t.kind = none) : AMay X 47 [(.agg [.int .i64 nl, .int .i64 (nt), .slc (cn.map (D.int .i64)), .map bm]), encT t] [(bm, .map KM)] (False) (.tup []) [(bm, .map KM)] (.iface 73 (.agg [])) [(bm, .map KM)] := by
 refine Zf Tryz.func47 ?_
 refine Yb (Ya ?_)
 refine Z9 (fun b2 => ?_)
 refine Z9 (fun b3 => ?_)
 refine Yc (Yb (Ya ?_))
 refine Z6 ?_
 refine Z16 ?_
 refine Z6 ?_
 refine Z11 ?_
 refine AOps.v rfl rfl rfl (AVal.lookupOk (e := 125) (d0 := .nilf) (d1 := .nilf) (ok := false) 2 rfl rfl rfl (by kernel_rfl) (by kernel_rfl) (by rw [hget]; rfl) (by rw [hget]; rfl)) ?_
 refine Z1 ?_
 refine Z12 ?_
 refine Z12 ?_
 refine Z2 ?_
 refine Z2 ?_
 refine Yc (Yb (Ya ?_))
 refine Z1 ?_
 refine AOps.e rfl rfl rfl (AOp.buildSlice (es := [.bool _]) rfl rfl rfl rfl rfl ?_)
 refine AOps.e rfl rfl rfl (AOp.callM [_, _, _] (must_c [_] (by simp)) (Yn rfl) rfl (fun hok => absurd hok (by simp)) (fun hno => ?_))
 exact AFin.mayPan (X := X) (fn := Tryz.f47) rfl (by repeat first | exact X0 _ | apply X1 | apply X2 | exact X3 _) (fun e => e)
theorem right_c (nl : Int) (cn : List Int) (bm : Nat) (hcn : cn.length ≤ 9223372036854775807) : ∀ (m : Nat) (t : Term), t.sz = m → t.fit 9223372036854775807 → ∀ nt : Int, 0 ≤ nt → nt + m ≤ 4611686018427387904 →
    AMay X 47 [(.agg [.int .i64 nl, .int .i64 (nt), .slc (cn.map (D.int .i64)), .map bm]), encT t] [(bm, .map KM)] (rightM nl cn nt t = true) (.tup []) [(bm, .map KM)] (.iface 73 (.agg [])) [(bm, .map KM)] := by
  intro m
  induction m using Nat.strongRecOn with
  | _ m ihm =>
  intro t hm ht nt h0 h1
  have ih : ∀ k ∈ t.kids, ∀ nu : Int, 0 ≤ nu → nu ≤ nt + 1 → AMay X 47 [(.agg [.int .i64 nl, .int .i64 (nu), .slc (cn.map (D.int .i64)), .map bm]), encT k] [(bm, .map KM)] (rightM nl cn nu k = true) (.tup []) [(bm, .map KM)] (.iface 73 (.agg [])) [(bm, .map KM)] := fun k hk nu n0 n1 => by
    have := Term.sz_lt hk
    exact ihm k.sz (by omega) k rfl (ht.kid hk) nu n0 (by omega)
  have go : ∀ (f : FuncId) (ok : Bool) (m : Int), mget KM t.kind = some (.func (.func f) [] []) → AMay X f [(.agg [.int .i64 nl, .int .i64 (nt), .slc (cn.map (D.int .i64)), .map bm]), encT t] [] (ok = true) (.int .i64 m) [] (.iface 73 (.agg [])) [] → asksM nl nt cn t = (ok, m) →
      AMay X 47 [(.agg [.int .i64 nl, .int .i64 (nt), .slc (cn.map (D.int .i64)), .map bm]), encT t] [(bm, .map KM)] (rightM nl cn nt t = true) (.tup []) [(bm, .map KM)] (.iface 73 (.agg [])) [(bm, .map KM)] := fun f ok m hg hc ha =>
    (right_in nl nt cn bm t ht f (ok = true) m h0 (by omega) hg hc ih).iff (by rw [rightM_eq, ha]; simp [and_assoc])
  by_cases k1 : t.kind = 1
  · exact go _ _ _ (by rw [k1]; rfl) (kvar_c nl nt cn bm t) (by simp [asksM, k1])
  by_cases k2 : t.kind = 2
  · exact go _ _ _ (by rw [k2]; rfl) (ksort_c nl nt cn bm t ht) (by simp [asksM, k2])
  by_cases k3 : t.kind = 3
  · exact go _ _ _ (by rw [k3]; rfl) (kconst_c nl nt cn bm t ht hcn) (by simp [asksM, k3])
  by_cases k4 : t.kind = 4
  · exact go _ _ _ (by rw [k4]; rfl) (ktwo_c nl nt cn bm t) (by simp [asksM, k4])
  by_cases k5 : t.kind = 5
  · exact go _ _ _ (by rw [k5]; rfl) (ktwo_c nl nt cn bm t) (by simp [asksM, k5])
  by_cases k6 : t.kind = 6
  · exact go _ _ _ (by rw [k6]; rfl) (ktwo_c nl nt cn bm t) (by simp [asksM, k6])
  by_cases k12 : t.kind = 12
  · exact go _ _ _ (by rw [k12]; rfl) (ktwo_c nl nt cn bm t) (by simp [asksM, k12])
  by_cases k13 : t.kind = 13
  · exact go _ _ _ (by rw [k13]; rfl) (ktwo_c nl nt cn bm t) (by simp [asksM, k13])
  by_cases k16 : t.kind = 16
  · exact go _ _ _ (by rw [k16]; rfl) (ktwo_c nl nt cn bm t) (by simp [asksM, k16])
  by_cases k17 : t.kind = 17
  · exact go _ _ _ (by rw [k17]; rfl) (ktwo_c nl nt cn bm t) (by simp [asksM, k17])
  by_cases k7 : t.kind = 7
  · exact go _ _ _ (by rw [k7]; rfl) (kthree_c nl nt cn bm t) (by simp [asksM, k7])
  by_cases k19 : t.kind = 19
  · exact go _ _ _ (by rw [k19]; rfl) (kthree_c nl nt cn bm t) (by simp [asksM, k19])
  by_cases k14 : t.kind = 14
  · exact go _ _ _ (by rw [k14]; rfl) (kone_c nl nt cn bm t) (by simp [asksM, k14])
  by_cases k15 : t.kind = 15
  · exact go _ _ _ (by rw [k15]; rfl) (kone_c nl nt cn bm t) (by simp [asksM, k15])
  by_cases k18 : t.kind = 18
  · exact go _ _ _ (by rw [k18]; rfl) (kfive_c nl nt cn bm t) (by simp [asksM, k18])
  by_cases k20 : t.kind = 20
  · exact go _ _ _ (by rw [k20]; rfl) (kleaf_c nl nt cn bm t) (by simp [asksM, k20])
  by_cases k21 : t.kind = 21
  · exact go _ _ _ (by rw [k21]; rfl) (ksix_c nl nt cn bm t) (by simp [asksM, k21])
  by_cases k22 : t.kind = 22
  · exact go _ _ _ (by rw [k22]; rfl) (kfin_c nl nt cn bm t) (by simp [asksM, k22])
  by_cases k23 : t.kind = 23
  · exact go _ _ _ (by rw [k23]; rfl) (kelem_c nl nt cn bm t) (by simp [asksM, k23])
  by_cases k24 : t.kind = 24
  · exact go _ _ _ (by rw [k24]; rfl) (kcas_c nl nt cn bm t) (by simp [asksM, k24])
  have hget : mget KM t.kind = none := by
    have e : mpos KM t.kind = none := by
      simp only [mpos, KM, List.findIdx?_eq_none_iff, List.mem_cons, List.not_mem_nil, or_false]
      rintro e (rfl | rfl | rfl | rfl | rfl | rfl | rfl | rfl | rfl | rfl | rfl | rfl | rfl | rfl | rfl | rfl | rfl | rfl | rfl | rfl) <;> simp only [decide_eq_false_iff_not] <;> omega
    simp only [mget, e]
  exact (right_none nl nt cn bm t hget).iff ⟨fun e => e.elim, fun e => by
    have ha : asksM nl nt cn t = (false, 0) := by simp [asksM, k1, k2, k3, k4, k5, k6, k7, k12, k13, k14, k15, k16, k17, k18, k19, k20, k21, k22, k23, k24]
    rw [rightM_eq, ha] at e; simp at e⟩
theorem right1_ret (b8 : Nat) (d : D) (R : Loc) : ADef X 44 [.ptr b8 0] ((b8, .cells 4 [d]) :: R) none ((b8, .cells 4 [d]) :: R) := by
 refine ADef.of_code Tryz.func44 rfl (by rfl) (Nat.le_of_ble_eq_true rfl) rfl rfl rfl ?_
 refine Yb (Ya ?_)
 refine Z1 ?_
 refine Z90 ?_
 refine Yc (ACode.condF rfl (Ye ?_))
 exact ⟨.inl rfl, rfl, (by repeat first | exact X0 _ | apply X1 | apply X2 | exact X3 _)⟩
theorem right1_pan (b8 : Nat) (d : D) (R : Loc) : ADef X 44 [.ptr b8 0] ((b8, .cells 4 [d]) :: R) (some (.iface 73 (.agg []))) ((b8, .cells 4 [.bool false]) :: R) := by
 refine ADef.of_code Tryz.func44 rfl (by rfl) (Nat.le_of_ble_eq_true rfl) rfl rfl rfl ?_
 refine Yb (Ya ?_)
 refine Z1 ?_
 refine Z91 ?_
 refine Yc (ACode.condT rfl (Yb (Yb (Ya ?_))))
 refine Z1 ?_
 refine AOps.v rfl rfl rfl (AVal.assertOk rfl Tryz.underlying73 rfl) ?_
 refine Z1 ?_
 refine Z12 ?_
 refine Z12 ?_
 refine Z7 (fun b2 => ?_)
 refine Z3 ?_
 refine Z2 ?_
 refine Yc (Yb (Ya ?_))
 refine Z1 ?_
 refine Z65 ?_
 refine Yc (ACode.condF rfl (Ye (Ya ?_)))
 refine Z10 ?_
 refine Yc ?_
 exact ⟨.inl rfl, rfl, (by repeat first | exact X0 _ | apply X1 | apply X2 | exact X3 _)⟩
def rightTop (nl nt : Int) (cn : List Int) (t : Term) : Bool := decide (0 ≤ nl) && decide (0 ≤ nt) && rightM nl cn nt t
theorem coreRight_c (nl nt : Int) (cn : List Int) (t : Term) (ht : t.fit 9223372036854775807) (hcn : cn.length ≤ 9223372036854775807) (h1 : nt ≤ 1099511627776) (hs : t.sz ≤ 2305843009213693952) : AFn X 14 [.int .i64 nl, .int .i64 nt, .slc (cn.map (D.int .i64)), encT t] (.bool (rightTop nl nt cn t)) := by
 refine ACalls.of_codeD Tryz.func14 rfl (by rfl) (Nat.le_of_ble_eq_true rfl) ?_
 refine Yb (Ya ?_)
 refine Z9 (fun b7 => ?_)
 refine Z7 (fun b8 => ?_)
 refine Yc (Yb (Ya ?_))
 refine Z54 ?_
 refine AOps.deferP (ps := [b8]) rfl ?_
 refine Yc (Yb (Ya ?_))
 refine Z1 ?_
 refine Z85 ?_
 refine Z1 ?_
 refine Z85 ?_
 refine AOps.e rfl rfl rfl (AOp.buildSlice (es := [.bool _, .bool _]) rfl rfl rfl rfl rfl ?_)
 refine AOps.e rfl rfl rfl (AOp.callM [_, _] (must_c [_, _] (by simp)) (Yn rfl) rfl (fun hok1 => ?_) (fun hno1 => ?_))
 simp only [List.all_cons, List.all_nil, id_eq, Bool.and_true, Bool.and_eq_true, decide_eq_true_eq] at hok1
 refine Yc (Yb ?_)
 refine Yj [.p 0, .p 1, .p 2, .p 3, .l 6, .e 4 [6], .p 5, .e 7 []] mixed (by kernel_rfl) ?_
 refine Z5 ?_
 refine Z5 ?_
 refine Yt rfl rfl rfl rfl (fun L0 => (AVal.build rfl rfl rfl)) ?_
 refine Z5 ?_
 refine Z28 ?_
 refine ASeq.ee rfl rfl rfl rfl rfl (callKinds rfl (fun bm => ⟨(Keeps.cons (Yv 1 rfl rfl (.refl _)) Yo), ?_⟩))
 refine Yt rfl rfl rfl rfl (fun L0 => (AVal.build rfl rfl rfl)) ?_
 refine ASeq.ee rfl rfl rfl rfl rfl (AOp.callM [_, _] (right_c nl cn bm hcn _ t rfl ht nt hok1.2 (by omega)) (Yn rfl) rfl (fun hok => ⟨Yo, ?_⟩) (fun hno => ?_))
 refine ASeq.nil (Yb (Ya ?_))
 refine Z3 ?_
 refine Yc (Yd ?_)
 refine AFinD.retD (X := X) (fn := Tryz.f14) (R := fun x _ => x = .ret (.bool (rightTop nl nt cn t))) (g := 44) (ps := [b8]) (right1_ret b8 _ _) (.cons (Yi 0 rfl rfl rfl rfl) .nil) (List.nil_sublist _) (D.Le.eq ?_) rfl
 rw [show rightTop nl nt cn t = true by simp [rightTop, hok1.1, hok1.2, hok]]; rfl
 refine AFinD.panD (X := X) (fn := Tryz.f14) (R := fun x _ => x = .ret (.bool (rightTop nl nt cn t))) (g := 44) (ps := [b8]) (right1_pan b8 _ _) (.cons (Yi 0 rfl rfl rfl rfl) .nil) (List.nil_sublist _) (D.Le.eq ?_) rfl
 rw [show rightTop nl nt cn t = false by simp only [rightTop]; rw [Bool.eq_false_iff.2 hno, Bool.and_false]]; rfl
 simp only [List.all_cons, List.all_nil, id_eq, Bool.and_true, Bool.and_eq_true, decide_eq_true_eq] at hno1
 refine AFinD.panD (X := X) (fn := Tryz.f14) (R := fun x _ => x = .ret (.bool (rightTop nl nt cn t))) (g := 44) (ps := [b8]) (right1_pan b8 _ _) (.cons (Yi 0 rfl rfl rfl rfl) .nil) (List.nil_sublist _) (D.Le.eq ?_) rfl
 rw [show rightTop nl nt cn t = false by simp only [rightTop]; rw [← Bool.decide_and, decide_eq_false hno1, Bool.false_and]]; rfl
end Sp

/- The walks of infer: its small steps. Written by a program of mine. -/
set_option linter.unusedVariables false
set_option linter.unusedSimpArgs false
set_option maxRecDepth 20000
namespace Sp
open Go Go.Proofs
theorem imust_c (v : Bool) (e : Int) : AMay X 97 [.bool v, .int .i64 e] [] (v = true) (.tup []) [] (.iface 30 (.int .i64 e)) [] := by
 refine Zf Tryz.func97 ?_
 refine Yb (Ya ?_)
 refine Z1 ?_
 refine Z65 ?_
 refine Yc ?_
 refine Zc (fun h5 => ?_) (fun h5 => ?_)
 try simp only [sz] at h5
 refine Ya ?_
 refine Z1 ?_
 refine Z51 ?_
 refine AOps.e0 rfl rfl (AOp.panic rfl ?_)
 exact AFin.mayPan (X := X) (fn := Tryz.f97) rfl (by repeat first | exact X0 _ | apply X1 | apply X2 | exact X3 _) (by simpa using h5)
 try simp only [sz] at h5
 refine Ye ?_
 refine AFin.mayEnd rfl .nil (by repeat first | exact X0 _ | apply X1 | apply X2) ?_ (by simpa using h5)
 exact .refl _
theorem iburn_c (b bm : Nat) (cs : List Core) (nl : Int) (RM : List (Int × D)) (F : Int) (n : Int) (h0 : 0 ≤ n) (h1 : F ≤ 1073741824) : ARs X 99 [.ptr b 0, .int .i64 n] 30 (fun F => [(b, .cells 136 [.int .i64 (F), .slC cs, .int .i64 nl, .map bm]), (bm, .map RM)]) F (fun _ => D.tup []) (burnI n F) := by
 refine Zf Tryz.func99 ?_
 refine Yb (Ya ?_)
 refine Z1 ?_
 refine Z1 ?_
 refine Z44 ?_
 refine Z6 ?_
 refine Z11 ?_
 refine AOps.v rfl rfl rfl (AVal.leq rfl rfl) ?_
 refine AOps.e rfl rfl rfl (AOp.callME (imust_c _ 5) (Yn rfl) (fun hok => ?_) (fun hno => ?_))
 refine Yc (Ya ?_)
 refine Z1 ?_
 refine Z44 ?_
 refine Z6 ?_
 refine Z11 ?_
 refine Z1 ?_
 refine AOps.v rfl rfl rfl (AVal.subn rfl rfl (by simp only [decide_eq_true_eq] at hok; omega)) ?_
 refine Z44 ?_
 refine Z6 ?_
 refine Z3 ?_
 refine Yc ?_
 refine AFin.rEnd (()) (F - n) rfl .nil (by repeat first | exact X0 _ | apply X1 | apply X2) ?_ (by unfold burnI; rw [if_pos (by simpa using hok)])
 exact .refl _
 exact AFin.rPan (X := X) (fn := Tryz.f99) (F) rfl (by repeat first | exact X0 _ | apply X1 | apply X2 | exact X3 _) (by unfold burnI; rw [if_neg (by simpa using hno)])
theorem ispend_c (b bm : Nat) (cs : List Core) (nl : Int) (RM : List (Int × D)) (F : Int) (G e : Int) : ARs X 113 [.ptr b 0, .int .i64 G, .int .i64 e] 30 (fun F => [(b, .cells 136 [.int .i64 (F), .slC cs, .int .i64 nl, .map bm]), (bm, .map RM)]) F (fun _ => D.tup []) (if e = 0 then .ok () G else .er e) := by
 refine Zf Tryz.func113 ?_
 refine Yb (Ya ?_)
 refine Z1 ?_
 refine Z1 ?_
 refine Z44 ?_
 refine Z6 ?_
 refine Z3 ?_
 refine Yc (Ya ?_)
 refine Z1 ?_
 refine Z40 ?_
 refine Z1 ?_
 refine AOps.e rfl rfl rfl (AOp.callME (imust_c _ e) (Yn rfl) (fun hok => ?_) (fun hno => ?_))
 refine Yc ?_
 refine AFin.rEnd (()) (G) rfl .nil (by repeat first | exact X0 _ | apply X1 | apply X2) ?_ (if_pos (by simpa using hok))
 exact .refl _
 exact AFin.rPan (X := X) (fn := Tryz.f113) (G) rfl (by repeat first | exact X0 _ | apply X1 | apply X2 | exact X3 _) (if_neg (by simpa using hno))
theorem ihead_c (b bm : Nat) (cs : List Core) (nl : Int) (RM : List (Int × D)) (F : Int) (hS : SortedOk) (hC : CoresOk cs) (t : Term) (h0 : 0 ≤ F) (h1 : F ≤ 1073741824) (hw : W F t) : ARs X 110 [.ptr b 0, encT t] 30 (fun F => [(b, .cells 136 [.int .i64 (F), .slC cs, .int .i64 nl, .map bm]), (bm, .map RM)]) F encT (headI cs t F) := by
 refine Zf Tryz.func110 ?_
 refine Yb (Ya ?_)
 refine Z9 (fun b3 => ?_)
 refine Z7 (fun b4 => ?_)
 refine Yc (Yb ?_)
 refine Yj [.p 0, .p 1, .p 2, .l 3, .l 4, .p 5, .p 6, .p 7, .p 8, .l 9, .p 10, .p 11, .p 12, .p 13, .p 14, .a 15, .e 16 [], .p 17, .p 18] mixed (by kernel_rfl) ?_
 refine Z5 ?_
 refine Z38 ?_
 refine Z8 ?_
 refine Z45 ?_
 refine Z28 ?_
 refine Z5 ?_
 refine Z38 ?_
 refine Z8 ?_
 refine Z8 ?_
 refine Z45 ?_
 refine ASeq.pe rfl rfl rfl rfl (fun L0 => (Yk (whnf_c (t := t) (fuel := F) hS cs (fun _ => ⟨hC, hw.1, by have := psz_le_fsz hw.1; have := hw.2; omega⟩)) (Yn rfl) ⟨rfl, rfl⟩)) ?_
 refine Z5 ?_
 refine Z29 ?_
 refine Z29 ?_
 refine Z29 ?_
 refine Za (fun b5 => ?_)
 refine Z25 ?_
 refine Z17 ?_
 refine Z17 ?_
 refine ASeq.nil (Yb (Ya ?_))
 refine Z1 ?_
 refine Z44 ?_
 refine Z6 ?_
 refine Z1 ?_
 refine Z1 ?_
 refine AOps.e rfl rfl rfl (AOp.callR [_, _, _] (ispend_c b bm cs nl RM F (whnfM cs t F).2.1 (whnfM cs t F).2.2) (Yn rfl) rfl (fun x G he => ?_) (fun er Ge he => ?_))
 refine Yc (Yb (Ya ?_))
 refine Z20 ?_
 refine Z10 ?_
 refine Yc (Yd ?_)
 refine AFin.rRet ((whnfM cs t F).1) (G) rfl (.cons (Yi (d := encT _) 1 rfl rfl rfl rfl) .nil) (by repeat first | exact X0 _ | apply X1 | apply X2) ?_ (by unfold headI; split at he <;> simp_all)
 exact .refl _
 exact AFin.rPan (X := X) (fn := Tryz.f110) (Ge) rfl (by repeat first | exact X0 _ | apply X1 | apply X2 | exact X3 _) (by unfold headI; split at he <;> simp_all)
theorem ikid_c (t : Term) (k : Int) (h : 0 ≤ k) : AFn X 111 [encT t, .int .i64 k] (encT (kid t k)) := by
 refine Zf Tryz.func111 ?_
 refine Yb (Ya ?_)
 refine Z9 (fun b2 => ?_)
 refine Z7 (fun b4 => ?_)
 refine Yc (Yb (Yb (Ya ?_)))
 refine Z1 ?_
 refine Z6 ?_
 refine Z16 ?_
 refine Z24 ?_
 refine Z85 ?_
 refine Yc ?_
 refine Zc (fun h9 => ?_) (fun h9 => ?_)
 try simp only [sz] at h9
 refine Yb (Ya ?_)
 refine Z48 ?_
 refine Z3 ?_
 refine Yc (Yd ?_)
 refine Yh rfl (.cons (Yi (d := encT _) 0 rfl rfl rfl rfl) .nil) ?_
 unfold kid; rw [if_pos (by omega)]; first | exact .refl _ | exact leT' .emp .emp rfl
 try simp only [sz] at h9
 refine Ye (Yb (Ya ?_))
 refine Z6 ?_
 refine Z16 ?_
 refine Z1 ?_
 refine Z53 ?_
 refine Z41 ?_
 refine Z3 ?_
 refine Yc (Yd ?_)
 refine Yh rfl (.cons (Yi (d := encT _) 0 rfl rfl rfl rfl) .nil) ?_
 exact D.Le.eq (by unfold kid; rw [if_neg (by omega)]; rfl)
theorem ias_c (b bm : Nat) (cs : List Core) (nl : Int) (RM : List (Int × D)) (F : Int) (hS : SortedOk) (hC : CoresOk cs) (t : Term) (k e : Int) (h0 : 0 ≤ F) (h1 : F ≤ 1073741824) (hw : W F t) : ARs X 105 [.ptr b 0, encT t, .int .i64 k, .int .i64 e] 30 (fun F => [(b, .cells 136 [.int .i64 (F), .slC cs, .int .i64 nl, .map bm]), (bm, .map RM)]) F (fun p : Term × Term => .tup [encT p.1, encT p.2]) (asI cs t k e F) := by
 refine Zf Tryz.func105 ?_
 refine Yb (Ya ?_)
 refine Z9 (fun b5 => ?_)
 refine Z7 (fun b8 => ?_)
 refine Z7 (fun b9 => ?_)
 refine Yc (Yb (Ya ?_))
 refine Z1 ?_
 refine Z39 ?_
 refine AOps.e rfl rfl rfl (AOp.callR [_, _, _] (ihead_c b bm cs nl RM F hS hC t h0 h1 hw) (Yn rfl) rfl (fun x G he => ?_) (fun er Ge he => ?_))
 refine Z7 (fun b10 => ?_)
 refine Z3 ?_
 refine Yc (Yb (Ya ?_))
 refine Z6 ?_
 refine Z11 ?_
 refine Z1 ?_
 refine Z40 ?_
 refine Z1 ?_
 refine AOps.e rfl rfl rfl (AOp.callME (imust_c _ e) (Yn rfl) (fun hok => ?_) (fun hno => ?_))
 refine Yc (Yb ?_)
 refine Yj [.l 0, .p 1, .l 2, .p 3, .e 4 [], .e 5 []] mixed (by kernel_rfl) ?_
 refine Z31 ?_
 refine ASeq.pe rfl rfl rfl rfl (fun L0 => (Yk (ikid_c x 0 (by omega)) (Yn rfl) ⟨rfl, rfl⟩)) ?_
 refine Z31 ?_
 refine ASeq.pe rfl rfl rfl rfl (fun L0 => (Yk (ikid_c x 1 (by omega)) (Yn rfl) ⟨rfl, rfl⟩)) ?_
 refine Z46 ?_
 refine Z42 ?_
 refine ASeq.nil (Yd ?_)
 refine AFin.rRet ((kid x 0, kid x 1)) (G) rfl (.cons (Yi (d := encT _) 2 rfl rfl rfl rfl) (.cons (Yi (d := encT _) 1 rfl rfl rfl rfl) .nil)) (by repeat first | exact X0 _ | apply X1 | apply X2) ?_ (by unfold asI; rw [Ys he, if_pos (by simpa using hok)])
 exact .refl _
 exact AFin.rPan (X := X) (fn := Tryz.f105) (G) rfl (by repeat first | exact X0 _ | apply X1 | apply X2 | exact X3 _) (by unfold asI; rw [Ys he, if_neg (by simpa using hno)])
 exact AFin.rPan (X := X) (fn := Tryz.f105) (Ge) rfl (by repeat first | exact X0 _ | apply X1 | apply X2 | exact X3 _) (by unfold asI; rw [RS.bind_er he])
theorem ione_c (b bm : Nat) (cs : List Core) (nl : Int) (RM : List (Int × D)) (F : Int) (hS : SortedOk) (hC : CoresOk cs) (p q : Term) (e : Int) (h0 : 0 ≤ F) (h1 : F ≤ 1073741824) (hp : W F p) (hq : W F q) : ARs X 106 [.ptr b 0, encT p, encT q, .int .i64 e] 30 (fun F => [(b, .cells 136 [.int .i64 (F), .slC cs, .int .i64 nl, .map bm]), (bm, .map RM)]) F (fun _ => D.tup []) (oneI cs p q e F) := by
 refine Zf Tryz.func106 ?_
 refine Yb (Ya ?_)
 refine Z9 (fun b5 => ?_)
 refine Z9 (fun b6 => ?_)
 refine Yc (Yb ?_)
 refine Yj [.p 0, .p 1, .p 2, .l 3, .l 4, .l 5, .p 6, .p 7, .p 8, .p 9, .l 10, .p 11, .p 12, .p 13, .p 14, .p 15, .p 16, .p 17, .p 18] mixed (by kernel_rfl) ?_
 refine Z5 ?_
 refine Z38 ?_
 refine Z8 ?_
 refine Z45 ?_
 refine Z28 ?_
 refine Z31 ?_
 refine Z5 ?_
 refine Z38 ?_
 refine Z8 ?_
 refine Z8 ?_
 refine Z45 ?_
 refine ASeq.pe rfl rfl rfl rfl (fun L0 => (Yk (convTop_c hS cs p q F (fun _ => ⟨hC, hp, hq⟩)) (Yn rfl) ⟨rfl, rfl⟩)) ?_
 refine Z5 ?_
 refine Z29 ?_
 refine Z29 ?_
 refine Z29 ?_
 refine Z17 ?_
 refine Z17 ?_
 refine Z17 ?_
 refine ASeq.nil (Yb (Ya ?_))
 refine Z1 ?_
 refine Z44 ?_
 refine Z6 ?_
 refine Z1 ?_
 refine Z1 ?_
 refine AOps.e rfl rfl rfl (AOp.callR [_, _] (ispend_c b bm cs nl RM F (convM cs F p q).2.1 (convM cs F p q).2.2) (Yn rfl) rfl (fun x G he => ?_) (fun er Ge he => ?_))
 refine Yc (Ya ?_)
 refine Z1 ?_
 refine Z1 ?_
 refine AOps.e rfl rfl rfl (AOp.callME (imust_c _ e) (Yn rfl) (fun hok => ?_) (fun hno => ?_))
 refine Yc ?_
 refine AFin.rEnd (()) (G) rfl .nil (by repeat first | exact X0 _ | apply X1 | apply X2) ?_ (by unfold oneI; split at he <;> simp_all)
 exact .refl _
 exact AFin.rPan (X := X) (fn := Tryz.f106) (G) rfl (by repeat first | exact X0 _ | apply X1 | apply X2 | exact X3 _) (by unfold oneI; split at he <;> simp_all)
 exact AFin.rPan (X := X) (fn := Tryz.f106) (Ge) rfl (by repeat first | exact X0 _ | apply X1 | apply X2 | exact X3 _) (by unfold oneI; split at he <;> simp_all)
theorem ilevel_c (b bm : Nat) (cs : List Core) (nl : Int) (RM : List (Int × D)) (F : Int) (hS : SortedOk) (hC : CoresOk cs) (t : Term) (h0 : 0 ≤ F) (h1 : F ≤ 1073741824) (hw : W F t) : ARs X 120 [.ptr b 0, encT t] 30 (fun F => [(b, .cells 136 [.int .i64 (F), .slC cs, .int .i64 nl, .map bm]), (bm, .map RM)]) F encL (levelI cs t F) := by
 refine Zf Tryz.func120 ?_
 refine Yb (Ya ?_)
 refine Z9 (fun b3 => ?_)
 refine Z7 (fun b4 => ?_)
 refine Yc (Yb (Ya ?_))
 refine Z1 ?_
 refine Z23 ?_
 refine AOps.e rfl rfl rfl (AOp.callR [_, _] (ihead_c b bm cs nl RM F hS hC t h0 h1 hw) (Yn rfl) rfl (fun x G he => ?_) (fun er Ge he => ?_))
 refine Z7 (fun b5 => ?_)
 refine Z3 ?_
 refine Yc (Yb (Ya ?_))
 refine Z6 ?_
 refine Z11 ?_
 refine Z40 ?_
 refine Z1 ?_
 refine Zs 12 (fun h12 => ?_) (fun h12 => ?_)
 try simp only [sz] at h12
 refine Z18 ?_
 refine Z30 ?_
 refine Z64 ?_
 refine Z47 ?_
 refine Z15 ?_
 refine AOps.e rfl rfl rfl (AOp.callME (imust_c _ 7) (Yn rfl) (fun hok => ?_) (fun hno => ?_))
 have hx2 : x.kind = 2 ∧ x.levels.length = 1 := by first | (simp only [decide_eq_true_eq] at hok; exact ⟨h12, by omega⟩) | exact absurd hok (by simp)
 refine Yc (Yb (Ya ?_))
 refine Z6 ?_
 refine Z11 ?_
 refine Z82 ?_
 refine Z77 ?_
 refine Z10 ?_
 refine Yc (Yd ?_)
 refine AFin.rRet (x.levels.getD 0 default) (G) rfl (.cons (Yi (d := encL _) 1 rfl rfl rfl rfl) .nil) (by repeat first | exact X0 _ | apply X1 | apply X2) ?_ (by unfold levelI; rw [Ys he, if_pos hx2])
 exact .refl _
 exact AFin.rPan (X := X) (fn := Tryz.f120) (G) rfl (by repeat first | exact X0 _ | apply X1 | apply X2 | exact X3 _) (by unfold levelI; rw [Ys he, if_neg (fun hh => by simp_all)])
 try simp only [sz] at h12
 refine Z4 ?_
 refine Z4 ?_
 refine Z4 ?_
 refine Z4 ?_
 refine Z13 ?_
 refine AOps.e rfl rfl rfl (AOp.callME (imust_c _ 7) (Yn rfl) (fun hok => ?_) (fun hno => ?_))
 have hx2 : x.kind = 2 ∧ x.levels.length = 1 := by first | (simp only [decide_eq_true_eq] at hok; exact ⟨h12, by omega⟩) | exact absurd hok (by simp)
 refine Yc (Yb (Ya ?_))
 refine Z6 ?_
 refine Z11 ?_
 refine Z82 ?_
 refine Z77 ?_
 refine Z10 ?_
 refine Yc (Yd ?_)
 refine AFin.rRet (x.levels.getD 0 default) (G) rfl (.cons (Yi (d := encL _) 1 rfl rfl rfl rfl) .nil) (by repeat first | exact X0 _ | apply X1 | apply X2) ?_ (by unfold levelI; rw [Ys he, if_pos hx2])
 exact .refl _
 exact AFin.rPan (X := X) (fn := Tryz.f120) (G) rfl (by repeat first | exact X0 _ | apply X1 | apply X2 | exact X3 _) (by unfold levelI; rw [Ys he, if_neg (fun hh => by simp_all)])
 exact AFin.rPan (X := X) (fn := Tryz.f120) (Ge) rfl (by repeat first | exact X0 _ | apply X1 | apply X2 | exact X3 _) (by unfold levelI; rw [RS.bind_er he])
theorem iv_c (n : Int) : AFn X 175 [.int .i64 n] (encT (.mk 1 n 0 [] [])) := by
 refine Zf Tryz.func175 ?_
 refine Yb (Ya ?_)
 refine Z7 (fun b2 => ?_)
 refine Yc (Yb (Ya ?_))
 refine Z1 ?_
 refine Z48 ?_
 refine Z3 ?_
 refine Yc (Yd ?_)
 refine Yh rfl (.cons (Yi (d := encT _) 0 rfl rfl rfl rfl) .nil) ?_
 exact .refl _
theorem iof_c (k : Int) (ts : List Term) : AFn X 109 [.int .i64 k, .slT ts] (encT (.mk k 0 0 [] ts)) := by
 refine Zf Tryz.func109 ?_
 refine Yb (Ya ?_)
 refine Z7 (fun b4 => ?_)
 refine Yc (Yb (Ya ?_))
 refine Z1 ?_
 refine Z1 ?_
 refine Z48 ?_
 refine Z3 ?_
 refine Yc (Yd ?_)
 refine Yh rfl (.cons (Yi (d := encT _) 0 rfl rfl rfl rfl) .nil) ?_
 exact D.Le.refl _
theorem iuniv_c (l : Level) : AFn X 170 [encL l] (encT (.mk 2 0 0 [l] [])) := by
 refine Zf Tryz.func170 ?_
 refine Yb (Ya ?_)
 refine Z9 (fun b1 => ?_)
 refine Z7 (fun b2 => ?_)
 refine Yc (Yb (Ya ?_))
 refine AOps.v rfl rfl rfl (AVal.loadP (d := encL _) 1 rfl rfl rfl rfl) ?_
 refine AOps.e rfl rfl rfl (AOp.buildSliceL (ts := [_]) rfl rfl rfl rfl rfl ?_)
 refine Z48 ?_
 refine Z3 ?_
 refine Yc (Yd ?_)
 refine Yh rfl (.cons (Yi (d := encT _) 0 rfl rfl rfl rfl) .nil) ?_
 exact .refl _
theorem iup_c (t : Term) (n : Int) (ht : t.fit 1099511627776) (hs : t.sz ≤ 4611686018427387904) : AFn X 50 [encT t, .int .i64 n] (encT (lift t n 0)) := by
 refine Zf Tryz.func50 ?_
 refine Yb (Ya ?_)
 refine Z9 (fun b2 => ?_)
 refine Z7 (fun b4 => ?_)
 refine Yc (Yb (Ya ?_))
 refine Z23 ?_
 refine Z1 ?_
 refine AOps.e rfl rfl rfl (Yk (lift_c t n 0 ht hs) (Yn rfl) ?_)
 refine Z3 ?_
 refine Yc (Yd ?_)
 refine Yh rfl (.cons (Yi (d := encT _) 0 rfl rfl rfl rfl) .nil) ?_
 exact .refl _
end Sp

/- The walks of infer: contexts, what is put. Written by a program of mine. -/
set_option linter.unusedVariables false
set_option linter.unusedSimpArgs false
set_option maxRecDepth 20000
namespace Sp
open Go Go.Proofs
theorem growC_c (n : Nat) (hn : 0 < n) (hsm : n ≤ 1099511627776) : ACalls X 176 [.emp, .int .i64 n] [] (fun r L' => ∃ b cap, r = .ret (.own b cap []) ∧ L' = [(b, .buf 27 5 cap [])]) := by
 refine Zf Tryz.func176 ?_
 refine Yb (Ya ?_)
 refine Z2 ?_
 refine Yc (Yb (Yb (Ya ?_)))
 refine Z1 ?_
 refine Z26 ?_
 refine Yc ?_
 refine Zc (fun h6 => ?_) (fun h6 => ?_)
 try simp only [sz] at h6
 exfalso; omega --END
 try simp only [sz] at h6
 refine Ye (Yb (Yb (Ya ?_)))
 refine Z1 ?_
 refine Z1 ?_
 refine AOps.v rfl rfl rfl (AVal.capEmp rfl rfl) ?_
 refine Z1 ?_
 refine Z24 ?_
 refine Z92 ?_
 refine Z92 ?_
 refine Z2 ?_
 refine Yc (Yb (Ya ?_))
 refine Z1 ?_
 refine Z89 ?_
 refine Yc ?_
 refine Zc (fun h16 => ?_) (fun h16 => ?_)
 try simp only [sz] at h16
 refine Ya ?_
 refine Z1 ?_
 refine Z1 ?_
 refine AOps.v rfl rfl rfl (AVal.capEmp rfl rfl) ?_
 refine AOps.v rfl rfl rfl (AVal.sliceEmpH rfl rfl rfl rfl) ?_
 refine Z1 ?_
 refine AOps.e rfl rfl rfl (AOp.appendZeros (n := n) rfl Tryz.underlying3 rfl rfl (show D.int .i64 ((n : Int) - ((0 : Int) - ((0 : Nat) : Int))) = .int .i64 n from congrArg (D.int .i64) (by omega)) hn hsm rfl (fun b22 cap22 => ?_))
 refine Z1 ?_
 refine Z24 ?_
 refine AOps.v rfl rfl rfl (AVal.sliceRoom rfl rfl rfl rfl) ?_
 refine Z2 ?_
 refine Yc (Yb (Ya ?_))
 refine Z1 ?_
 refine Z2 ?_
 refine Yc (Yd ?_)
 refine AFin.ret (X := X) (fn := Tryz.f176) (R := fun r L' => ∃ b cap, r = .ret (.own b cap []) ∧ L' = [(b, .buf 27 5 cap [])]) (L' := [(b22, .buf 27 5 cap22 [])]) rfl (.cons rfl .nil) (by repeat first | exact X0 _ | apply X1 | apply X2 | exact X3 _) (.refl _) ⟨b22, cap22, rfl, rfl⟩
 try simp only [sz] at h16
 exfalso; omega --END
theorem callGrow {ρ : Operand → D} {L : Loc} {dst : Option Tmp} {ty : TypeId} {pos : String} {after : Array Edge} {guard : Option (Nat × Bool)} {K Kp : D → Loc → Prop} {xs : Array Operand} {tys : Array TypeId} {n : Nat} (hn : 0 < n) (hsm : n ≤ 1099511627776)
    (hx : LeL (xs.toList.map ρ) [.emp, .int .i64 n]) (h : ∀ b cap, K (.own b cap []) (L ++ [(b, .buf 27 5 cap [])])) : AOp X ⟨dst, .call ⟨.value (.func 176), xs, tys⟩, ty, pos, after, guard⟩ ρ L K Kp :=
  AOp.callB L (growC_c n hn hsm) hx (by simp) (fun d L' h' => by
    obtain ⟨b, cap, e, rfl⟩ := h'
    cases e; exact h b cap) (fun d L' h' => by obtain ⟨b, cap, e, _⟩ := h'; cases e)
def rowG (c ts : List Term) (g : Nat) : List Term := if g = 0 then [] else if g = 1 then c else c ++ ts
theorem concat_c (c ts : List Term) (hc : c.length ≤ 500000000000) (ht : ts.length ≤ 500000000000) (hp : 0 < c.length + ts.length) : AFn X 150 [(.slc [.slT c, .slT ts])] (.slT (c ++ ts)) := by
 refine Zf Tryz.func150 ?_
 refine Yb (Ya ?_)
 refine Z2 ?_
 refine Yc (Yb (Ya ?_))
 refine Z2 ?_
 refine Yc (Yb (Yb (Ya ?_)))
 refine Z1 ?_
 refine Z24 ?_
 refine Z1 ?_
 refine Yc (Yf ?_)
 refine Yu (γ := Nat) (fun g => [(0, (.slc [.slT c, .slT ts])), (9, (.slc [.slT c, .slT ts])), (10, .int .i64 2), (11, .int .i64 g), (3, .int .i64 (rowG c ts g).length)]) (fun g => []) (fun g => g ≤ 2) (fun g => 2 - g) 0 (by omega) (by repeat first | exact Ym | refine Yl (.refl _) ?_) (by repeat first | exact X0 _ | apply X1 | apply X2 | exact X3 _) ?_
 rintro g hg2 t1
 rcases g with _ | _ | g
 
 refine Yb (Ya ?_)
 refine Z26 ?_
 refine Yc (Yb ?_)
 refine Zc (fun h12 => ?_) (fun h12 => ?_)
 try simp only [sz] at h12
 skip
 refine Ye (Yb (Yf (Yb (Ya ?_))))
 refine AOps.v rfl rfl rfl (AVal.indexD (e := .slT c) rfl rfl rfl rfl rfl (by omega) rfl (fun e he => by simp at he; rcases he with rfl | rfl <;> rfl)) ?_
 refine Z56 ?_
 refine Z2 ?_
 refine Yc (Yb (Ya ?_))
 refine Z1 ?_
 refine Z1 ?_
 refine Z24 ?_
 refine AOps.v rfl rfl rfl (AVal.addn rfl rfl (by simp [rowG]; omega)) ?_
 refine Z2 ?_
 refine Yc (Yb (Ya ?_))
 refine Z1 ?_
 refine Z26 ?_
 refine Yc ?_
 refine Zc (fun h20 => ?_) (fun h20 => ?_)
 try simp only [sz] at h20
 exfalso; simp [rowG] at h20; omega --END
 try simp only [sz] at h20
 refine Ye (Ya ?_)
 refine Z19 ?_
 refine Z1 ?_
 refine Yc ?_
 refine ⟨1, by omega, by omega, rfl, (by refine Yl (.refl _) (Yl (.refl _) (Yl (.refl _) (Yl (.refl _) (Yl (D.Le.eq (congrArg (D.int .i64) (by simp [rowG]))) Ym))))), (by repeat first | exact X0 _ | apply X1 | apply X2 | exact X3 _)⟩
 try simp only [sz] at h12
 exact absurd h12 (by omega) --END
 
 refine Yb (Ya ?_)
 refine Z26 ?_
 refine Yc (Yb ?_)
 refine Zc (fun h12 => ?_) (fun h12 => ?_)
 try simp only [sz] at h12
 skip
 refine Ye (Yb (Yf (Yb (Ya ?_))))
 refine AOps.v rfl rfl rfl (AVal.indexD (e := .slT ts) rfl rfl rfl rfl rfl (by omega) rfl (fun e he => by simp at he; rcases he with rfl | rfl <;> rfl)) ?_
 refine Z56 ?_
 refine Z2 ?_
 refine Yc (Yb (Ya ?_))
 refine Z1 ?_
 refine Z1 ?_
 refine Z24 ?_
 refine AOps.v rfl rfl rfl (AVal.addn rfl rfl (by simp [rowG]; omega)) ?_
 refine Z2 ?_
 refine Yc (Yb (Ya ?_))
 refine Z1 ?_
 refine Z26 ?_
 refine Yc ?_
 refine Zc (fun h20 => ?_) (fun h20 => ?_)
 try simp only [sz] at h20
 exfalso; simp [rowG] at h20; omega --END
 try simp only [sz] at h20
 refine Ye (Ya ?_)
 refine Z19 ?_
 refine Z1 ?_
 refine Yc ?_
 refine ⟨2, by omega, by omega, rfl, (by refine Yl (.refl _) (Yl (.refl _) (Yl (.refl _) (Yl (.refl _) (Yl (D.Le.eq (congrArg (D.int .i64) (by simp [rowG]))) Ym))))), (by repeat first | exact X0 _ | apply X1 | apply X2 | exact X3 _)⟩
 try simp only [sz] at h12
 exact absurd h12 (by omega) --END
 
 refine Yb (Ya ?_)
 refine Z26 ?_
 refine Yc (Yb ?_)
 refine Zc (fun h12 => ?_) (fun h12 => ?_)
 try simp only [sz] at h12
 exfalso; omega --END
 try simp only [sz] at h12
 skip
 refine Yg (Yb (Ya ?_))
 refine Z1 ?_
 refine AOps.e rfl rfl rfl (callGrow (n := c.length + ts.length) (by omega) (by omega) (LeL.cons (.refl _) (LeL.cons (D.Le.eq (congrArg (D.int .i64) (by simp [rowG]))) .nil)) (fun bq capq => ?_))
 refine Z2 ?_
 refine Yc (Yb (Yb (Ya ?_)))
 refine Z1 ?_
 refine Z24 ?_
 refine Z1 ?_
 refine Yc (Yf ?_)
 refine Yu (γ := Nat × Nat × Nat) (fun g => [(25, (.slc [.slT c, .slT ts])), (26, .int .i64 2), (27, .int .i64 g.1), (6, .own g.2.1 g.2.2 ((rowG c ts g.1).map encT))]) (fun g => [(g.2.1, .buf 27 5 g.2.2 ((rowG c ts g.1).map encT))]) (fun g => g.1 ≤ 2) (fun g => 2 - g.1) (0, bq, capq) (by simp only; omega) (by repeat first | exact Ym | refine Yl (.refl _) ?_) (by repeat first | exact X0 _ | apply X1 | apply X2 | exact X3 _) ?_
 rintro ⟨g2, bb, cap⟩ hg3 t2
 simp only at hg3 ⊢
 rcases g2 with _ | _ | g2
 
 refine Yb (Ya ?_)
 refine Z26 ?_
 refine Yc (Yb ?_)
 refine Zc (fun h28 => ?_) (fun h28 => ?_)
 try simp only [sz] at h28
 skip
 refine Ye (Yb (Yf (Yb (Ya ?_))))
 refine AOps.v rfl rfl rfl (AVal.indexD (e := .slT c) rfl rfl rfl rfl rfl (by omega) rfl (fun e he => by simp at he; rcases he with rfl | rfl <;> rfl)) ?_
 refine Z56 ?_
 refine Z2 ?_
 refine Yc (Ya ?_)
 refine Z1 ?_
 refine Z1 ?_
 refine AOps.e rfl rfl rfl (AOp.appOwn (es := (c).map encT) 0 rfl rfl rfl rfl rfl rfl rfl (fun e he => by obtain ⟨u, _, rfl⟩ := List.mem_map.1 he; rfl) rfl (by simp [rowG]; omega) rfl (by repeat constructor) (fun b33 cap33 => ?_))
 refine Z2 ?_
 refine Yc (Ya ?_)
 refine Z19 ?_
 refine Z1 ?_
 refine Yc ?_
 refine ⟨(1, b33, cap33), by simp only; omega, by simp only; omega, rfl, (by repeat first | exact Ym | refine Yl (.refl _) ?_), (by repeat first | exact X0 _ | apply X1 | apply X2 | exact X3 _)⟩
 try simp only [sz] at h28
 exact absurd h28 (by omega) --END
 
 refine Yb (Ya ?_)
 refine Z26 ?_
 refine Yc (Yb ?_)
 refine Zc (fun h28 => ?_) (fun h28 => ?_)
 try simp only [sz] at h28
 skip
 refine Ye (Yb (Yf (Yb (Ya ?_))))
 refine AOps.v rfl rfl rfl (AVal.indexD (e := .slT ts) rfl rfl rfl rfl rfl (by omega) rfl (fun e he => by simp at he; rcases he with rfl | rfl <;> rfl)) ?_
 refine Z56 ?_
 refine Z2 ?_
 refine Yc (Ya ?_)
 refine Z1 ?_
 refine Z1 ?_
 refine AOps.e rfl rfl rfl (AOp.appOwn (es := (ts).map encT) 0 rfl rfl rfl rfl rfl rfl rfl (fun e he => by obtain ⟨u, _, rfl⟩ := List.mem_map.1 he; rfl) rfl (by simp [rowG]; omega) rfl (by repeat constructor) (fun b33 cap33 => ?_))
 refine Z2 ?_
 refine Yc (Ya ?_)
 refine Z19 ?_
 refine Z1 ?_
 refine Yc ?_
 refine ⟨(2, b33, cap33), by simp only; omega, by simp only; omega, rfl, (by refine Yl (.refl _) (Yl (.refl _) (Yl (.refl _) (Yl (D.Le.eq (show _ = D.own b33 cap33 ((c ++ ts).map encT) by rw [List.map_append]; rfl)) Ym)))), (by simp [rowG])⟩
 try simp only [sz] at h28
 exact absurd h28 (by omega) --END
 
 refine Yb (Ya ?_)
 refine Z26 ?_
 refine Yc (Yb ?_)
 refine Zc (fun h28 => ?_) (fun h28 => ?_)
 try simp only [sz] at h28
 exfalso; omega --END
 try simp only [sz] at h28
 skip
 refine Yg (Yb (Ya ?_))
 refine Z1 ?_
 refine Z2 ?_
 refine Yc (Yd ?_)
 refine Yh rfl (.cons rfl .nil) ?_
 exact .own _ _ _ _ (by simp [rowG, D.elems])
theorem ibelow_c (c : List Term) (t : Term) (hc : c.length ≤ 500000000000) : AFn X 107 [.slT c, .slT [t]] (.slT (c ++ [t])) := by
 refine Zf Tryz.func107 ?_
 refine Yb (Ya ?_)
 refine Z2 ?_
 refine Yc (Yb (Ya ?_))
 refine Z1 ?_
 refine Z1 ?_
 refine AOps.e rfl rfl rfl (AOp.buildSlice (es := [.slT c, .slT [t]]) rfl rfl rfl rfl rfl ?_)
 refine AOps.e rfl rfl rfl (Yk (concat_c c [t] hc (by simp) (by simp)) (Yn rfl) ?_)
 refine Z2 ?_
 refine Yc (Yd ?_)
 refine Yh rfl (.cons rfl .nil) ?_
 exact .refl _
theorem inodes_c  : ∀ (m : Nat) (t : Term), t.sz = m → t.fit 9223372036854775807 → ∀ (many below : Int), (-9223372036854775808 ≤ many ∧ many ≤ 9223372036854775807) → 0 ≤ below → below + m ≤ 4611686018427387904 → AFn X 151 [encT t, .int .i64 many, .int .i64 below] (.int .i64 (w64 (sizedM many below t))) := by
 intro m
 induction m using Nat.strongRecOn with
 | _ m ih =>
 intro t hm hf many below hmr hb0 hb1
 have hlen := hf.len
 have hpos := Term.sz_pos t
 refine Zf Tryz.func151 ?_
 refine Yb (Ya ?_)
 refine Z9 (fun b3 => ?_)
 refine Z2 ?_
 refine Yc (Yb (Yb (Ya ?_)))
 refine Z6 ?_
 refine Z11 ?_
 refine Z40 ?_
 refine Z1 ?_
 refine Zs 14 (fun h14 => ?_) (fun h14 => ?_)
 try simp only [sz] at h14
 refine Z18 ?_
 refine Z30 ?_
 refine Z14 ?_
 refine Z47 ?_
 refine Z15 ?_
 refine Yc ?_
 refine Zc (fun h19 => ?_) (fun h19 => ?_)
 try simp only [sz] at h19
 refine Yb (Ya ?_)
 refine Z1 ?_
 refine Z2 ?_
 refine Yc (Yd ?_)
 refine Yh rfl (.cons rfl .nil) ?_
 exact D.Le.eq (congrArg (D.int .i64) (by rw [sizedM_eq, if_pos ⟨h14, h19⟩, w64_id hmr.1 hmr.2]))
 try simp only [sz] at h19
 refine Ye (Yb (Ya ?_))
 refine Z2 ?_
 refine Yc (Yb (Yb (Ya ?_)))
 refine Z6 ?_
 refine Z11 ?_
 refine Z24 ?_
 refine Z1 ?_
 refine Yc (Yf ?_)
 refine Yu (γ := Nat) (fun g => [(1, .int .i64 many), (2, .int .i64 below), (3, .ptr b3 0), (22, .slT t.kids), (23, .int .i64 t.kids.length), (24, .int .i64 g), (7, .int .i64 (w64 (1 + sizedsM many below t.kind 0 (t.kids.take g))))]) (fun g => [(b3, .cells 27 (cellsT t))]) (fun g => g ≤ t.kids.length) (fun g => t.kids.length - g) 0 (Nat.zero_le _) (by repeat first | exact Ym | refine Yl (.refl _) ?_) (by repeat first | exact X0 _ | apply X1 | apply X2 | exact X3 _) ?_
 intro i hi t1
 refine Yb (Ya ?_)
 refine Z26 ?_
 refine Yc (Yb ?_)
 refine Zc (fun h25 => ?_) (fun h25 => ?_)
 try simp only [sz] at h25
 have hlt : i < t.kids.length := by omega
 have hmem : t.kids.getD i default ∈ t.kids := getD_mem hlt
 refine Ye (Yb (Yf (Yb (Ya ?_))))
 refine Z1 ?_
 refine Z53 ?_
 refine Z41 ?_
 refine Z7 (fun b9 => ?_)
 refine Z2 ?_
 refine Z3 ?_
 refine Yc (Yb (Ya ?_))
 refine Z1 ?_
 refine Z2 ?_
 refine Yc (Yb (Yb (Ya ?_)))
 refine Z6 ?_
 refine Z16 ?_
 refine Z1 ?_
 refine AOps.e rfl rfl rfl (Yk (binds_c t.kind i) (Yn rfl) ?_)
 refine Yc ?_
 refine Zc (fun h33 => ?_) (fun h33 => ?_)
 refine Ya ?_
 refine Z1 ?_
 refine Z19 ?_
 refine Z2 ?_
 refine Yc (Ya ?_)
 refine Z1 ?_
 refine Z20 ?_
 refine Z1 ?_
 refine Z1 ?_
 refine AOps.e rfl rfl rfl (Yk (ih (t.kids.getD i default).sz (by rw [← hm]; exact Term.sz_lt hmem) _ rfl (hf.kid hmem) many (below + 1) hmr (by omega) (by have := Term.sz_lt hmem; omega)) (Yn rfl) ?_)
 refine Z63 ?_
 refine Z2 ?_
 refine Yc (Ya ?_)
 refine Z19 ?_
 refine Z1 ?_
 refine Yc ?_
 refine ⟨i + 1, by omega, by omega, rfl, (by refine Yl (.refl _) (Yl (.refl _) (Yl (.refl _) (Yl (.refl _) (Yl (.refl _) (Yl (.refl _) (Yl (D.Le.eq (congrArg (D.int .i64) ((w64_add _ _).trans (congrArg w64 ?_)))) Ym)))))); rw [sizedsM_take_succ _ _ _ hlt, h33]; simp only [cond_true, cond_false]; omega), (by repeat first | exact X0 _ | apply X1 | apply X2 | exact X3 _)⟩
 refine Ye (Ya ?_)
 refine Z1 ?_
 refine Z20 ?_
 refine Z1 ?_
 refine Z1 ?_
 refine AOps.e rfl rfl rfl (Yk (ih (t.kids.getD i default).sz (by rw [← hm]; exact Term.sz_lt hmem) _ rfl (hf.kid hmem) many (below) hmr (by omega) (by have := Term.sz_lt hmem; omega)) (Yn rfl) ?_)
 refine Z63 ?_
 refine Z2 ?_
 refine Yc (Ya ?_)
 refine Z19 ?_
 refine Z1 ?_
 refine Yc ?_
 refine ⟨i + 1, by omega, by omega, rfl, (by refine Yl (.refl _) (Yl (.refl _) (Yl (.refl _) (Yl (.refl _) (Yl (.refl _) (Yl (.refl _) (Yl (D.Le.eq (congrArg (D.int .i64) ((w64_add _ _).trans (congrArg w64 ?_)))) Ym)))))); rw [sizedsM_take_succ _ _ _ hlt, h33]; simp only [cond_true, cond_false]; omega), (by repeat first | exact X0 _ | apply X1 | apply X2 | exact X3 _)⟩
 try simp only [sz] at h25
 refine Yg (Yb (Ya ?_))
 refine Z1 ?_
 refine Z2 ?_
 refine Yc (Yd ?_)
 refine Yh rfl (.cons rfl .nil) ?_
 exact D.Le.eq (congrArg (D.int .i64) (by rw [sizedM_eq, if_neg (fun e => h19 e.2), List.take_of_length_le (by omega)]))
 try simp only [sz] at h14
 refine Z4 ?_
 refine Z4 ?_
 refine Z4 ?_
 refine Z4 ?_
 refine Z13 ?_
 refine Yc (ACode.condF rfl (Ye (Yb (Ya ?_))))
 refine Z2 ?_
 refine Yc (Yb (Yb (Ya ?_)))
 refine Z6 ?_
 refine Z11 ?_
 refine Z24 ?_
 refine Z1 ?_
 refine Yc (Yf ?_)
 refine Yu (γ := Nat) (fun g => [(1, .int .i64 many), (2, .int .i64 below), (3, .ptr b3 0), (22, .slT t.kids), (23, .int .i64 t.kids.length), (24, .int .i64 g), (7, .int .i64 (w64 (1 + sizedsM many below t.kind 0 (t.kids.take g))))]) (fun g => [(b3, .cells 27 (cellsT t))]) (fun g => g ≤ t.kids.length) (fun g => t.kids.length - g) 0 (Nat.zero_le _) (by repeat first | exact Ym | refine Yl (.refl _) ?_) (by repeat first | exact X0 _ | apply X1 | apply X2 | exact X3 _) ?_
 intro i hi t1
 refine Yb (Ya ?_)
 refine Z26 ?_
 refine Yc (Yb ?_)
 refine Zc (fun h25 => ?_) (fun h25 => ?_)
 try simp only [sz] at h25
 have hlt : i < t.kids.length := by omega
 have hmem : t.kids.getD i default ∈ t.kids := getD_mem hlt
 refine Ye (Yb (Yf (Yb (Ya ?_))))
 refine Z1 ?_
 refine Z53 ?_
 refine Z41 ?_
 refine Z7 (fun b9 => ?_)
 refine Z2 ?_
 refine Z3 ?_
 refine Yc (Yb (Ya ?_))
 refine Z1 ?_
 refine Z2 ?_
 refine Yc (Yb (Yb (Ya ?_)))
 refine Z6 ?_
 refine Z16 ?_
 refine Z1 ?_
 refine AOps.e rfl rfl rfl (Yk (binds_c t.kind i) (Yn rfl) ?_)
 refine Yc ?_
 refine Zc (fun h33 => ?_) (fun h33 => ?_)
 refine Ya ?_
 refine Z1 ?_
 refine Z19 ?_
 refine Z2 ?_
 refine Yc (Ya ?_)
 refine Z1 ?_
 refine Z20 ?_
 refine Z1 ?_
 refine Z1 ?_
 refine AOps.e rfl rfl rfl (Yk (ih (t.kids.getD i default).sz (by rw [← hm]; exact Term.sz_lt hmem) _ rfl (hf.kid hmem) many (below + 1) hmr (by omega) (by have := Term.sz_lt hmem; omega)) (Yn rfl) ?_)
 refine Z63 ?_
 refine Z2 ?_
 refine Yc (Ya ?_)
 refine Z19 ?_
 refine Z1 ?_
 refine Yc ?_
 refine ⟨i + 1, by omega, by omega, rfl, (by refine Yl (.refl _) (Yl (.refl _) (Yl (.refl _) (Yl (.refl _) (Yl (.refl _) (Yl (.refl _) (Yl (D.Le.eq (congrArg (D.int .i64) ((w64_add _ _).trans (congrArg w64 ?_)))) Ym)))))); rw [sizedsM_take_succ _ _ _ hlt, h33]; simp only [cond_true, cond_false]; omega), (by repeat first | exact X0 _ | apply X1 | apply X2 | exact X3 _)⟩
 refine Ye (Ya ?_)
 refine Z1 ?_
 refine Z20 ?_
 refine Z1 ?_
 refine Z1 ?_
 refine AOps.e rfl rfl rfl (Yk (ih (t.kids.getD i default).sz (by rw [← hm]; exact Term.sz_lt hmem) _ rfl (hf.kid hmem) many (below) hmr (by omega) (by have := Term.sz_lt hmem; omega)) (Yn rfl) ?_)
 refine Z63 ?_
 refine Z2 ?_
 refine Yc (Ya ?_)
 refine Z19 ?_
 refine Z1 ?_
 refine Yc ?_
 refine ⟨i + 1, by omega, by omega, rfl, (by refine Yl (.refl _) (Yl (.refl _) (Yl (.refl _) (Yl (.refl _) (Yl (.refl _) (Yl (.refl _) (Yl (D.Le.eq (congrArg (D.int .i64) ((w64_add _ _).trans (congrArg w64 ?_)))) Ym)))))); rw [sizedsM_take_succ _ _ _ hlt, h33]; simp only [cond_true, cond_false]; omega), (by repeat first | exact X0 _ | apply X1 | apply X2 | exact X3 _)⟩
 try simp only [sz] at h25
 refine Yg (Yb (Ya ?_))
 refine Z1 ?_
 refine Z2 ?_
 refine Yc (Yd ?_)
 refine Yh rfl (.cons rfl .nil) ?_
 exact D.Le.eq (congrArg (D.int .i64) (by rw [sizedM_eq, if_neg (fun e => h14 e.1), List.take_of_length_le (by omega)]))
theorem iput_c (b bm : Nat) (cs : List Core) (nl : Int) (RM : List (Int × D)) (F : Int) (t a : Term) (h0 : 0 ≤ F) (h1 : F ≤ 1073741824) (ht : t.fit 1099511627776) (ha : a.fit 1099511627776) (hs : t.sz ≤ 268435456) (hs2 : a.sz ≤ 268435456) : ARs X 108 [.ptr b 0, encT t, encT a] 30 (fun F => [(b, .cells 136 [.int .i64 (F), .slC cs, .int .i64 nl, .map bm]), (bm, .map RM)]) F encT (putI t a F) := by
 have hbnd := sizeM_small hs hs2
 have hwz : w64 (sizedM (w64 a.sz) 0 t) = sizeM t a := by
   rw [w64_id (a := (a.sz : Int)) (by omega) (by omega)]
   exact w64_id (by have := sizeM_pos t a; unfold sizeM at this; omega) (by unfold sizeM at hbnd; omega)
 have hnn : 0 ≤ w64 (sizedM (w64 a.sz) 0 t) := by rw [hwz]; have := sizeM_pos t a; omega
 refine Zf Tryz.func108 ?_
 refine Yb (Ya ?_)
 refine Z9 (fun b4 => ?_)
 refine Z9 (fun b5 => ?_)
 refine Z7 (fun b6 => ?_)
 refine Yc (Yb ?_)
 refine Yj [.p 0, .p 1, .p 2, .l 3, .l 4, .p 5, .p 6, .e 7 []] mixed (by kernel_rfl) ?_
 refine Z5 ?_
 refine Z38 ?_
 refine Z8 ?_
 refine Z55 ?_
 refine Z28 ?_
 refine ASeq.pe rfl rfl rfl rfl (fun L0 => (Yk (size_c _ a rfl (fitMax ha)) (Yn rfl) ⟨rfl, rfl⟩)) ?_
 refine ASeq.pe rfl rfl rfl rfl (fun L0 => (Yk (inodes_c _ t rfl (fitMax ht) (w64 a.sz) 0 (w64_range _) (by omega) (by omega)) (Yn rfl) ⟨rfl, rfl⟩)) ?_
 refine ASeq.ee rfl rfl rfl rfl rfl (AOp.callR [_, _, _] (iburn_c b bm cs nl RM F (w64 (sizedM (w64 a.sz) 0 t)) hnn h1) (Yn rfl) rfl (fun x G he => ⟨Yo, ?_⟩) (fun er Ge he => ?_))
 refine ASeq.nil (Yb (Ya ?_))
 refine Z39 ?_
 refine Z23 ?_
 refine Z62 ?_
 refine AOps.e rfl rfl rfl (Yk (put_c t [a] ht (by omega) (by simp) (fun u hu => by rw [List.mem_singleton.1 hu]; exact ⟨ha, by omega⟩)) (Yn rfl) ?_)
 refine Z3 ?_
 refine Yc (Yd ?_)
 refine AFin.rRet (put t [a]) (G) rfl (.cons (Yi (d := encT _) 0 rfl rfl rfl rfl) .nil) (by repeat first | exact X0 _ | apply X1 | apply X2) ?_ (by unfold putI; rw [← hwz, Ys he])
 exact .refl _
 exact AFin.rPan (X := X) (fn := Tryz.f108) (Ge) rfl (by repeat first | exact X0 _ | apply X1 | apply X2 | exact X3 _) (by unfold putI; rw [← hwz, RS.bind_er he])
end Sp
