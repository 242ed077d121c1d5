/- Walks of the program's functions and what they compute: contracts of calls; no condition beyond those that each theorem names. -/
import Derived.Test.YtoonoeadgnednaaGreatDoorBc
import Derived.Test.YtoonoeadgnednaaGreatDoorKc
import Derived.Test.YtoonoeadgnednaaGreatDoorKb
/- The walks of what is right in the core. Written by a program of mine. -/
set_option linter.unusedVariables false
set_option linter.unusedSimpArgs false
set_option maxRecDepth 20000
namespace Sp
open Go Go.Proofs

theorem indexBo_c (bs : List Bool) (hl : bs.length ≤ 9223372036854775807) : AFn X 64 [.slc (bs.map D.bool), .bool false] (.int .i64 (idxB bs 0)) := by
  refine ACalls.of_code Tryz.func64 rfl (by rfl) (Nat.le_of_ble_eq_true rfl) ?_
  refine ACode.seq ?_
  refine ACode.region ?_
  refine AOps.v rfl rfl rfl (AVal.assignN (by constructor)) ?_
  refine AOps.nil ?_
  refine ACode.seq ?_
  refine ACode.seq ?_
  refine ACode.region ?_
  refine AOps.v rfl rfl rfl (AVal.moveN (by constructor)) ?_
  refine AOps.v rfl rfl rfl (AVal.lenBo rfl rfl) ?_
  refine AOps.v rfl rfl rfl (AVal.moveN (by constructor)) ?_
  refine AOps.nil ?_
  refine ACode.block ?_
  refine ACode.loop (γ := Nat) (fun g => [(0, .slc (bs.map D.bool)), (1, .bool false), (6, .slc (bs.map D.bool)), (7, .int .i64 bs.length), (8, .int .i64 g)]) (fun g => []) (fun g => g ≤ bs.length ∧ idxB (bs.drop g) g = idxB bs 0) (fun g => bs.length - g) 0 ⟨Nat.zero_le _, by simp⟩ (by repeat first | exact Agree.nil | refine Agree.cons (.refl _) ?_) (by repeat first | exact List.Sublist.refl _ | apply List.Sublist.cons_cons | apply List.Sublist.cons | exact List.nil_sublist _) ?_
  rintro i ⟨hi, hg⟩ t1
  simp only at hi hg ⊢
  refine ACode.seq ?_
  refine ACode.region ?_
  refine AOps.v rfl rfl rfl (AVal.lss rfl rfl) ?_
  refine AOps.nil ?_
  refine ACode.seq ?_
  refine ACode.condS rfl (fun h9 => ?_) (fun h9 => ?_)
  ·
    try simp only [decide_eq_true_eq, decide_eq_false_iff_not, Bool.not_eq_true', Bool.not_eq_false', Bool.and_eq_true, Bool.or_eq_true, beq_iff_eq, beq_eq_false_iff_ne] at h9
    have hlt : i < bs.length := by omega
    refine ACode.skip ?_
    refine ACode.seq ?_
    refine ACode.block ?_
    refine ACode.seq ?_
    refine ACode.region ?_
    refine AOps.v rfl rfl rfl (AVal.moveN (by constructor)) ?_
    refine AOps.v rfl rfl rfl (AVal.assignN (by constructor)) ?_
    refine AOps.nil ?_
    refine ACode.seq ?_
    refine ACode.region ?_
    refine AOps.v rfl rfl rfl (AVal.moveN (by constructor)) ?_
    refine AOps.v rfl rfl rfl (AVal.moveN (by constructor)) ?_
    refine AOps.v rfl rfl rfl (AVal.moveN (by constructor)) ?_
    refine AOps.v rfl rfl rfl (AVal.indexBo rfl rfl rfl rfl rfl hlt) ?_
    refine AOps.v rfl rfl rfl (AVal.loadEN rfl rfl rfl (by constructor)) ?_
    refine AOps.v rfl rfl rfl (AVal.eqlB rfl rfl (by kernel_rfl)) ?_
    refine AOps.nil ?_
    refine ACode.condS rfl (fun h16 => ?_) (fun h16 => ?_)
    ·
      try simp only [decide_eq_true_eq, decide_eq_false_iff_not, Bool.not_eq_true', Bool.not_eq_false', Bool.and_eq_true, Bool.or_eq_true, beq_iff_eq, beq_eq_false_iff_ne] at h16
      refine ACode.seq ?_
      refine ACode.region ?_
      refine AOps.v rfl rfl rfl (AVal.moveN (by constructor)) ?_
      refine AOps.v rfl rfl rfl (AVal.assignN (by constructor)) ?_
      refine AOps.nil ?_
      refine ACode.ret ?_
      refine AFin.pureRet rfl (.cons rfl .nil) ?_
      exact D.Le.eq (congrArg (D.int .i64) (by rw [← hg, drop_getD hlt, idxB, if_pos (by simpa using h16.symm)]))
    ·
      try simp only [decide_eq_true_eq, decide_eq_false_iff_not, Bool.not_eq_true', Bool.not_eq_false', Bool.and_eq_true, Bool.or_eq_true, beq_iff_eq, beq_eq_false_iff_ne] at h16
      refine ACode.skip ?_
      refine ACode.region ?_
      refine AOps.v rfl rfl rfl (AVal.addn rfl rfl (by omega)) ?_
      refine AOps.v rfl rfl rfl (AVal.moveN (by constructor)) ?_
      refine AOps.nil ?_
      refine ⟨i + 1, ⟨by omega, by rw [← hg, drop_getD hlt, idxB, if_neg (fun e => by rw [e] at h16; simp at h16)]; push_cast; rfl⟩, by omega, rfl, (by repeat first | exact Agree.nil | refine Agree.cons (.refl _) ?_), (by repeat first | exact List.Sublist.refl _ | apply List.Sublist.cons_cons | apply List.Sublist.cons | exact List.nil_sublist _)⟩
  ·
    try simp only [decide_eq_true_eq, decide_eq_false_iff_not, Bool.not_eq_true', Bool.not_eq_false', Bool.and_eq_true, Bool.or_eq_true, beq_iff_eq, beq_eq_false_iff_ne] at h9
    refine ACode.exit ?_
    refine ACode.seq ?_
    refine ACode.region ?_
    refine AOps.v rfl rfl rfl (AVal.assignN (by constructor)) ?_
    refine AOps.nil ?_
    refine ACode.ret ?_
    refine AFin.pureRet rfl (.cons rfl .nil) ?_
    exact D.Le.eq (congrArg (D.int .i64) (by rw [← hg, List.drop_of_length_le (by omega), idxB]))

theorem containsBo_c (bs : List Bool) (hl : bs.length ≤ 9223372036854775807) : AFn X 32 [.slc (bs.map D.bool), .bool false] (.bool (!(bs.all id))) := by
  refine ACalls.of_code Tryz.func32 rfl (by rfl) (Nat.le_of_ble_eq_true rfl) ?_
  refine ACode.seq ?_
  refine ACode.region ?_
  refine AOps.v rfl rfl rfl (AVal.assignN (by constructor)) ?_
  refine AOps.nil ?_
  refine ACode.seq ?_
  refine ACode.region ?_
  refine AOps.v rfl rfl rfl (AVal.moveN (by constructor)) ?_
  refine AOps.v rfl rfl rfl (AVal.moveN (by constructor)) ?_
  refine AOps.e rfl rfl rfl (AOp.callP (indexBo_c bs hl) (by first | exact LeL.eq rfl | (repeat constructor)) ?_)
  refine AOps.v rfl rfl rfl (AVal.geq rfl rfl) ?_
  refine AOps.v rfl rfl rfl (AVal.assignN (by constructor)) ?_
  refine AOps.nil ?_
  refine ACode.ret ?_
  refine AFin.pureRet rfl (.cons rfl .nil) ?_
  exact D.Le.eq (congrArg D.bool (idxB_all bs 0 (Int.le_refl _)))

theorem must_c (bs : List Bool) (hl : bs.length ≤ 9223372036854775807) : AMay X 21 [.slc (bs.map D.bool)] [] (bs.all id = true) (.tup []) [] (.iface 50 (.agg [])) [] := by
  refine ACalls.of_code Tryz.func21 rfl (by rfl) (Nat.le_of_ble_eq_true rfl) ?_
  refine ACode.seq ?_
  refine ACode.region ?_
  refine AOps.v rfl rfl rfl (AVal.moveN (by constructor)) ?_
  refine AOps.e rfl rfl rfl (AOp.callP (containsBo_c bs hl) (by first | exact LeL.eq rfl | (repeat constructor)) ?_)
  refine AOps.nil ?_
  refine ACode.condS rfl (fun h3 => ?_) (fun h3 => ?_)
  ·
    try simp only [decide_eq_true_eq, decide_eq_false_iff_not, Bool.not_eq_true', Bool.not_eq_false', Bool.and_eq_true, Bool.or_eq_true, beq_iff_eq, beq_eq_false_iff_ne] at h3
    skip
    refine ACode.region ?_
    refine AOps.v rfl rfl rfl (AVal.build0 (by kernel_rfl)) ?_
    refine AOps.v rfl rfl rfl (AVal.makeInterface rfl (by kernel_rfl)) ?_
    refine AOps.e0 rfl rfl (AOp.panic rfl ?_)
    exact AFin.mayPan (X := X) (fn := Tryz.f21) rfl (by repeat first | exact List.Sublist.refl _ | apply List.Sublist.cons_cons | apply List.Sublist.cons | exact List.nil_sublist _) (by simpa using h3)
  ·
    try simp only [decide_eq_true_eq, decide_eq_false_iff_not, Bool.not_eq_true', Bool.not_eq_false', Bool.and_eq_true, Bool.or_eq_true, beq_iff_eq, beq_eq_false_iff_ne] at h3
    refine ACode.skip ?_
    refine AFin.mayEnd rfl .nil (by repeat first | exact List.Sublist.refl _ | apply List.Sublist.cons_cons | apply List.Sublist.cons) ?_ (by simpa using h3)
    exact .refl _

theorem isNaN_c (a : Int) : AFn X 94 [.int .i64 a] (.bool false) := by
  refine ACalls.of_code Tryz.func94 rfl (by rfl) (Nat.le_of_ble_eq_true rfl) ?_
  refine ACode.seq ?_
  refine ACode.region ?_
  refine AOps.v rfl rfl rfl (AVal.assignN (by constructor)) ?_
  refine AOps.nil ?_
  refine ACode.seq ?_
  refine ACode.region ?_
  refine AOps.v rfl rfl rfl (AVal.moveN (by constructor)) ?_
  refine AOps.v rfl rfl rfl (AVal.moveN (by constructor)) ?_
  refine AOps.v rfl rfl rfl (AVal.neq rfl rfl) ?_
  refine AOps.v rfl rfl rfl (AVal.assignN (by constructor)) ?_
  refine AOps.nil ?_
  refine ACode.ret ?_
  refine AFin.pureRet rfl (.cons rfl .nil) ?_
  exact D.Le.eq (congrArg D.bool (by simp))

theorem compare_c (a b : Int) : AFn X 89 [.int .i64 a, .int .i64 b] (.int .i64 (compM a b)) := by
  refine ACalls.of_code Tryz.func89 rfl (by rfl) (Nat.le_of_ble_eq_true rfl) ?_
  refine ACode.seq ?_
  refine ACode.region ?_
  refine AOps.v rfl rfl rfl (AVal.assignN (by constructor)) ?_
  refine AOps.nil ?_
  refine ACode.seq ?_
  refine ACode.region ?_
  refine AOps.v rfl rfl rfl (AVal.moveN (by constructor)) ?_
  refine AOps.e rfl rfl rfl (AOp.callP (isNaN_c a) (by first | exact LeL.eq rfl | (repeat constructor)) ?_)
  refine AOps.v rfl rfl rfl (AVal.assignN (by constructor)) ?_
  refine AOps.nil ?_
  refine ACode.seq ?_
  refine ACode.region ?_
  refine AOps.v rfl rfl rfl (AVal.moveN (by constructor)) ?_
  refine AOps.e rfl rfl rfl (AOp.callP (isNaN_c b) (by first | exact LeL.eq rfl | (repeat constructor)) ?_)
  refine AOps.v rfl rfl rfl (AVal.assignN (by constructor)) ?_
  refine AOps.nil ?_
  refine ACode.seq ?_
  refine ACode.seq ?_
  refine ACode.region ?_
  refine AOps.v rfl rfl rfl (AVal.moveN (by constructor)) ?_
  refine AOps.nil ?_
  refine ACode.condF rfl ?_
  refine ACode.skip ?_
  refine ACode.seq ?_
  refine ACode.seq ?_
  refine ACode.region ?_
  refine AOps.v rfl rfl rfl (AVal.moveN (by constructor)) ?_
  refine AOps.nil ?_
  refine ACode.condF rfl ?_
  refine ACode.skip ?_
  refine ACode.seq ?_
  refine ACode.seq ?_
  refine ACode.region ?_
  refine AOps.v rfl rfl rfl (AVal.moveN (by constructor)) ?_
  refine AOps.v rfl rfl rfl (AVal.moveN (by constructor)) ?_
  refine AOps.v rfl rfl rfl (AVal.lss rfl rfl) ?_
  refine AOps.nil ?_
  refine ACode.condS rfl (fun h16 => ?_) (fun h16 => ?_)
  ·
    try simp only [decide_eq_true_eq, decide_eq_false_iff_not] at h16
    refine ACode.seq ?_
    refine ACode.region ?_
    refine AOps.v rfl rfl rfl (AVal.assignN (by constructor)) ?_
    refine AOps.nil ?_
    refine ACode.ret ?_
    refine AFin.pureRet rfl (.cons rfl .nil) ?_
    exact D.Le.eq (congrArg (D.int .i64) (by rw [compM, if_pos h16]))
  ·
    try simp only [decide_eq_true_eq, decide_eq_false_iff_not] at h16
    refine ACode.skip ?_
    refine ACode.seq ?_
    refine ACode.seq ?_
    refine ACode.region ?_
    refine AOps.v rfl rfl rfl (AVal.moveN (by constructor)) ?_
    refine AOps.v rfl rfl rfl (AVal.moveN (by constructor)) ?_
    refine AOps.v rfl rfl rfl (AVal.gtr rfl rfl) ?_
    refine AOps.nil ?_
    refine ACode.condS rfl (fun h19 => ?_) (fun h19 => ?_)
    ·
      try simp only [decide_eq_true_eq, decide_eq_false_iff_not] at h19
      refine ACode.seq ?_
      refine ACode.region ?_
      refine AOps.v rfl rfl rfl (AVal.assignN (by constructor)) ?_
      refine AOps.nil ?_
      refine ACode.ret ?_
      refine AFin.pureRet rfl (.cons rfl .nil) ?_
      exact D.Le.eq (congrArg (D.int .i64) (by rw [compM, if_neg h16, if_pos h19]))
    ·
      try simp only [decide_eq_true_eq, decide_eq_false_iff_not] at h19
      refine ACode.skip ?_
      refine ACode.seq ?_
      refine ACode.region ?_
      refine AOps.v rfl rfl rfl (AVal.assignN (by constructor)) ?_
      refine AOps.nil ?_
      refine ACode.ret ?_
      refine AFin.pureRet rfl (.cons rfl .nil) ?_
      exact D.Le.eq (congrArg (D.int .i64) (by rw [compM, if_neg h16, if_neg h19]))

theorem or_c (zs : List Int) (hl : zs.length ≤ 9223372036854775807) : AFn X 88 [.slc (zs.map (D.int .i64))] (.int .i64 (orM zs)) := by
  refine ACalls.of_code Tryz.func88 rfl (by rfl) (Nat.le_of_ble_eq_true rfl) ?_
  refine ACode.seq ?_
  refine ACode.region ?_
  refine AOps.v rfl rfl rfl (AVal.assignN (by constructor)) ?_
  refine AOps.nil ?_
  refine ACode.seq ?_
  refine ACode.region ?_
  refine AOps.v rfl rfl rfl (AVal.assignN (by constructor)) ?_
  refine AOps.nil ?_
  refine ACode.seq ?_
  refine ACode.seq ?_
  refine ACode.region ?_
  refine AOps.v rfl rfl rfl (AVal.moveN (by constructor)) ?_
  refine AOps.v rfl rfl rfl (AVal.lenZ rfl rfl) ?_
  refine AOps.v rfl rfl rfl (AVal.moveN (by constructor)) ?_
  refine AOps.nil ?_
  refine ACode.block ?_
  refine ACode.loop (γ := Nat) (fun g => [(3, .int .i64 0), (6, .slc (zs.map (D.int .i64))), (7, .int .i64 zs.length), (8, .int .i64 g)]) (fun g => []) (fun g => g ≤ zs.length ∧ orM (zs.drop g) = orM zs) (fun g => zs.length - g) 0 ⟨Nat.zero_le _, by simp⟩ (by repeat first | exact Agree.nil | refine Agree.cons (.refl _) ?_) (by repeat first | exact List.Sublist.refl _ | apply List.Sublist.cons_cons | apply List.Sublist.cons | exact List.nil_sublist _) ?_
  rintro i ⟨hi, hg⟩ t1
  simp only at hi hg ⊢
  refine ACode.seq ?_
  refine ACode.region ?_
  refine AOps.v rfl rfl rfl (AVal.lss rfl rfl) ?_
  refine AOps.nil ?_
  refine ACode.seq ?_
  refine ACode.condS rfl (fun h9 => ?_) (fun h9 => ?_)
  ·
    try simp only [decide_eq_true_eq, decide_eq_false_iff_not, Bool.not_eq_true', Bool.not_eq_false', Bool.and_eq_true, Bool.or_eq_true, beq_iff_eq, beq_eq_false_iff_ne] at h9
    have hlt : i < zs.length := by omega
    refine ACode.skip ?_
    refine ACode.seq ?_
    refine ACode.block ?_
    refine ACode.seq ?_
    refine ACode.region ?_
    refine AOps.v rfl rfl rfl (AVal.indexZ rfl rfl rfl rfl rfl hlt) ?_
    refine AOps.v rfl rfl rfl (AVal.loadEN rfl rfl rfl (by constructor)) ?_
    refine AOps.v rfl rfl rfl (AVal.assignN (by constructor)) ?_
    refine AOps.nil ?_
    refine ACode.seq ?_
    refine ACode.region ?_
    refine AOps.v rfl rfl rfl (AVal.moveN (by constructor)) ?_
    refine AOps.v rfl rfl rfl (AVal.moveN (by constructor)) ?_
    refine AOps.v rfl rfl rfl (AVal.neq rfl rfl) ?_
    refine AOps.nil ?_
    refine ACode.condS rfl (fun h14 => ?_) (fun h14 => ?_)
    ·
      try simp only [decide_eq_true_eq, decide_eq_false_iff_not, Bool.not_eq_true', Bool.not_eq_false', Bool.and_eq_true, Bool.or_eq_true, beq_iff_eq, beq_eq_false_iff_ne] at h14
      refine ACode.seq ?_
      refine ACode.region ?_
      refine AOps.v rfl rfl rfl (AVal.moveN (by constructor)) ?_
      refine AOps.v rfl rfl rfl (AVal.assignN (by constructor)) ?_
      refine AOps.nil ?_
      refine ACode.ret ?_
      refine AFin.pureRet rfl (.cons rfl .nil) ?_
      exact D.Le.eq (congrArg (D.int .i64) (by rw [← hg, drop_getD hlt, orM, if_pos (by simpa using h14)]))
    ·
      try simp only [decide_eq_true_eq, decide_eq_false_iff_not, Bool.not_eq_true', Bool.not_eq_false', Bool.and_eq_true, Bool.or_eq_true, beq_iff_eq, beq_eq_false_iff_ne] at h14
      refine ACode.skip ?_
      refine ACode.region ?_
      refine AOps.v rfl rfl rfl (AVal.addn rfl rfl (by omega)) ?_
      refine AOps.v rfl rfl rfl (AVal.moveN (by constructor)) ?_
      refine AOps.nil ?_
      refine ⟨i + 1, ⟨by omega, by rw [← hg, drop_getD hlt, orM, if_neg (by simpa using h14)]⟩, by omega, rfl, (by repeat first | exact Agree.nil | refine Agree.cons (.refl _) ?_), (by repeat first | exact List.Sublist.refl _ | apply List.Sublist.cons_cons | apply List.Sublist.cons | exact List.nil_sublist _)⟩
  ·
    try simp only [decide_eq_true_eq, decide_eq_false_iff_not, Bool.not_eq_true', Bool.not_eq_false', Bool.and_eq_true, Bool.or_eq_true, beq_iff_eq, beq_eq_false_iff_ne] at h9
    refine ACode.exit ?_
    refine ACode.seq ?_
    refine ACode.region ?_
    refine AOps.v rfl rfl rfl (AVal.moveN (by constructor)) ?_
    refine AOps.v rfl rfl rfl (AVal.assignN (by constructor)) ?_
    refine AOps.nil ?_
    refine ACode.ret ?_
    refine AFin.pureRet rfl (.cons rfl .nil) ?_
    exact D.Le.eq (congrArg (D.int .i64) (by rw [← hg, List.drop_of_length_le (by omega), orM]))

theorem cmpR_c (a b : Part) : AFn X 87 [encP a, encP b] (.int .i64 (cmpM a b)) := by
  refine ACalls.of_code Tryz.func87 rfl (by rfl) (Nat.le_of_ble_eq_true rfl) ?_
  refine ACode.seq ?_
  refine ACode.region ?_
  refine AOps.e rfl rfl rfl (AOp.boxA rfl (fun b2 => ?_))
  refine AOps.e rfl rfl rfl (AOp.boxA rfl (fun b3 => ?_))
  refine AOps.v rfl rfl rfl (AVal.assignN (by constructor)) ?_
  refine AOps.nil ?_
  refine ACode.seq ?_
  refine ACode.region ?_
  refine AOps.v rfl rfl rfl (AVal.fieldP rfl rfl) ?_
  refine AOps.v rfl rfl rfl (AVal.loadPN 1 rfl rfl rfl rfl (by constructor)) ?_
  refine AOps.v rfl rfl rfl (AVal.fieldP rfl rfl) ?_
  refine AOps.v rfl rfl rfl (AVal.loadPN 0 rfl rfl rfl rfl (by constructor)) ?_
  refine AOps.e rfl rfl rfl (AOp.callP (compare_c a.v b.v) (by first | exact LeL.eq rfl | (repeat constructor)) ?_)
  refine AOps.e rfl rfl rfl (AOp.buildSlice (es := [.int .i64 _, .int .i64 _]) rfl rfl rfl rfl rfl ?_)
  refine AOps.e rfl rfl rfl (AOp.callP (or_c [compM a.v b.v, -1] (by simp)) (by first | exact LeL.eq rfl | (repeat constructor)) ?_)
  refine AOps.v rfl rfl rfl (AVal.assignN (by constructor)) ?_
  refine AOps.nil ?_
  refine ACode.ret ?_
  refine AFin.pureRet rfl (.cons rfl .nil) ?_
  exact D.Le.eq (congrArg (D.int .i64) (or_comp a b))

theorem isSorted_c (l : Level) (hl : l.length ≤ 9223372036854775807) : AFn X 86 [.slP l, .func (.func 87) [] []] (.bool (strictM l)) := by
  refine ACalls.of_code Tryz.func86 rfl (by rfl) (Nat.le_of_ble_eq_true rfl) ?_
  refine ACode.seq ?_
  refine ACode.region ?_
  refine AOps.v rfl rfl rfl (AVal.assignN (by constructor)) ?_
  refine AOps.nil ?_
  refine ACode.seq ?_
  refine ACode.seq ?_
  refine ACode.region ?_
  refine AOps.v rfl rfl rfl (AVal.moveN (by constructor)) ?_
  refine AOps.v rfl rfl rfl (AVal.len rfl rfl rfl) ?_
  refine AOps.v rfl rfl rfl (AVal.subn rfl rfl (by omega)) ?_
  refine AOps.v rfl rfl rfl (AVal.assignN (by constructor)) ?_
  refine AOps.nil ?_
  refine ACode.block ?_
  refine ACode.loop (γ := Int) (fun g => [(0, .slP l), (1, .func (.func 87) [] []), (5, .int .i64 g)]) (fun g => []) (fun g => -1 ≤ g ∧ g ≤ (l.length : Int) - 1 ∧ strictM (l.drop g.toNat) = true) (fun g => (g + 1).toNat) ((l.length : Int) - 1) ⟨by omega, by omega, strict_last (by omega)⟩ (by repeat first | exact Agree.nil | refine Agree.cons (.refl _) ?_) (by repeat first | exact List.Sublist.refl _ | apply List.Sublist.cons_cons | apply List.Sublist.cons | exact List.nil_sublist _) ?_
  rintro i ⟨h0, h1, hg⟩ t1
  simp only at h0 h1 hg ⊢
  refine ACode.seq ?_
  refine ACode.seq ?_
  refine ACode.region ?_
  refine AOps.v rfl rfl rfl (AVal.moveN (by constructor)) ?_
  refine AOps.v rfl rfl rfl (AVal.gtr rfl rfl) ?_
  refine AOps.nil ?_
  refine ACode.condS rfl (fun h10 => ?_) (fun h10 => ?_)
  ·
    try simp only [decide_eq_true_eq, decide_eq_false_iff_not] at h10
    have hs := strict_step (l := l) (i := (i - 1).toNat) (by omega)
    rw [show (i - 1).toNat + 1 = i.toNat by omega, hg, Bool.and_true] at hs
    refine ACode.skip ?_
    refine ACode.seq ?_
    refine ACode.block ?_
    refine ACode.seq ?_
    refine ACode.draws [.p 0, .p 1, .p 2, .p 3, .p 4, .p 5, .p 6, .p 7, .p 8, .p 9, .p 10, .p 11] mixed (by kernel_rfl) ?_
    refine ASeq.pv rfl rfl rfl rfl (fun L0 => (AVal.moveN (by constructor))) ?_
    refine ASeq.pv rfl rfl rfl rfl (fun L0 => (AVal.moveN (by constructor))) ?_
    refine ASeq.pv rfl rfl rfl rfl (fun L0 => (AVal.moveN (by constructor))) ?_
    refine ASeq.pv rfl rfl rfl rfl (fun L0 => (AVal.indexPN rfl rfl rfl rfl rfl ⟨by omega, by omega⟩)) ?_
    refine ASeq.pv rfl rfl rfl rfl (fun L0 => (AVal.loadE (d := encP _) rfl rfl rfl)) ?_
    refine ASeq.pv rfl rfl rfl rfl (fun L0 => (AVal.moveN (by constructor))) ?_
    refine ASeq.pv rfl rfl rfl rfl (fun L0 => (AVal.moveN (by constructor))) ?_
    refine ASeq.pv rfl rfl rfl rfl (fun L0 => (AVal.subn rfl rfl (by omega))) ?_
    refine ASeq.pv rfl rfl rfl rfl (fun L0 => (AVal.indexPN rfl rfl rfl rfl rfl ⟨by omega, by omega⟩)) ?_
    refine ASeq.pv rfl rfl rfl rfl (fun L0 => (AVal.loadE (d := encP _) rfl rfl rfl)) ?_
    refine ASeq.pe rfl rfl rfl rfl (fun L0 => (AOp.callVK [] rfl ((cmpR_c _ _).keep _) (LeL.eq rfl) rfl ⟨rfl, rfl⟩)) ?_
    refine ASeq.pv rfl rfl rfl rfl (fun L0 => (AVal.lss rfl rfl)) ?_
    refine ASeq.nil ?_
    refine ACode.condS rfl (fun h24 => ?_) (fun h24 => ?_)
    ·
      try simp only [decide_eq_true_eq, decide_eq_false_iff_not] at h24
      have hv : ¬ (l.getD (i - 1).toNat default).v < (l.getD i.toNat default).v := fun e => by rw [cmpM, if_pos e] at h24; omega
      have hn : strictM l = false := by
        cases e : strictM l with
        | false => rfl
        | true => have := strict_drop (i - 1).toNat l e; rw [hs, decide_eq_false hv] at this; cases this
      refine ACode.seq ?_
      refine ACode.region ?_
      refine AOps.v rfl rfl rfl (AVal.assignN (by constructor)) ?_
      refine AOps.nil ?_
      refine ACode.ret ?_
      refine AFin.pureRet rfl (.cons rfl .nil) ?_
      exact D.Le.eq (congrArg D.bool (by rw [hn]))
    ·
      try simp only [decide_eq_true_eq, decide_eq_false_iff_not] at h24
      have hv : (l.getD (i - 1).toNat default).v < (l.getD i.toNat default).v := by
        by_cases e : (l.getD (i - 1).toNat default).v < (l.getD i.toNat default).v
        · exact e
        · rw [cmpM, if_neg e] at h24; omega
      have hn : strictM (l.drop (i - 1).toNat) = true := by rw [hs, decide_eq_true hv]
      refine ACode.skip ?_
      refine ACode.region ?_
      refine AOps.v rfl rfl rfl (AVal.moveN (by constructor)) ?_
      refine AOps.v rfl rfl rfl (AVal.subn rfl rfl (by omega)) ?_
      refine AOps.v rfl rfl rfl (AVal.assignN (by constructor)) ?_
      refine AOps.nil ?_
      refine ⟨i - 1, ⟨by omega, by omega, hn⟩, by omega, rfl, (by repeat first | exact Agree.nil | refine Agree.cons (.refl _) ?_), (by repeat first | exact List.Sublist.refl _ | apply List.Sublist.cons_cons | apply List.Sublist.cons | exact List.nil_sublist _)⟩
  ·
    try simp only [decide_eq_true_eq, decide_eq_false_iff_not] at h10
    have hn : strictM l = true := by rw [show i.toNat = 0 by omega] at hg; simpa using hg
    refine ACode.exit ?_
    refine ACode.seq ?_
    refine ACode.region ?_
    refine AOps.v rfl rfl rfl (AVal.assignN (by constructor)) ?_
    refine AOps.nil ?_
    refine ACode.ret ?_
    refine AFin.pureRet rfl (.cons rfl .nil) ?_
    exact D.Le.eq (congrArg D.bool (by rw [hn]))

theorem badP_c (p : Part) (n : Int) (b3 : Nat) (R : Loc) : AKeep X 91 [encP p, .ptr b3 0] ((b3, .cells 3 [.int .i64 n]) :: R) (.bool (badP n p)) := by
  refine ACalls.of_code Tryz.func91 rfl (by rfl) (Nat.le_of_ble_eq_true rfl) ?_
  refine ACode.seq ?_
  refine ACode.region ?_
  refine AOps.e rfl rfl rfl (AOp.boxA rfl (fun b2 => ?_))
  refine AOps.v rfl rfl rfl (AVal.assignN (by constructor)) ?_
  refine AOps.nil ?_
  refine ACode.seq ?_
  refine ACode.region ?_
  refine AOps.v rfl rfl rfl (AVal.fieldP rfl rfl) ?_
  refine AOps.v rfl rfl rfl (AVal.loadPN 0 rfl rfl rfl rfl (by constructor)) ?_
  refine AOps.v rfl rfl rfl (AVal.lss rfl rfl) ?_
  refine AOps.v rfl rfl rfl (AVal.moveN (by constructor)) ?_
  refine AOps.split 7 rfl (fun h7 => ?_) (fun h7 => ?_)
  ·
    try simp only [decide_eq_true_eq, decide_eq_false_iff_not] at h7
    refine AOps.vF rfl rfl rfl rfl rfl rfl rfl ?_
    refine AOps.vF rfl rfl rfl rfl rfl rfl rfl ?_
    refine AOps.vF rfl rfl rfl rfl rfl rfl rfl ?_
    refine AOps.vF rfl rfl rfl rfl rfl rfl rfl ?_
    refine AOps.v rfl rfl rfl (AVal.pickT rfl (by constructor)) ?_
    refine AOps.v rfl rfl rfl (AVal.moveN (by constructor)) ?_
    refine AOps.vF rfl rfl rfl rfl rfl rfl rfl ?_
    refine AOps.vF rfl rfl rfl rfl rfl rfl rfl ?_
    refine AOps.vF rfl rfl rfl rfl rfl rfl rfl ?_
    refine AOps.v rfl rfl rfl (AVal.pickT rfl (by constructor)) ?_
    refine AOps.v rfl rfl rfl (AVal.moveN (by constructor)) ?_
    refine AOps.vF rfl rfl rfl rfl rfl rfl rfl ?_
    refine AOps.vF rfl rfl rfl rfl rfl rfl rfl ?_
    refine AOps.vF rfl rfl rfl rfl rfl rfl rfl ?_
    refine AOps.v rfl rfl rfl (AVal.pickT rfl (by constructor)) ?_
    refine AOps.v rfl rfl rfl (AVal.assignN (by constructor)) ?_
    refine AOps.nil ?_
    refine ACode.ret ?_
    refine AFin.keepRet rfl (.cons rfl .nil) (by repeat first | exact List.Sublist.refl _ | apply List.Sublist.cons_cons | apply List.Sublist.cons) ?_
    first | exact D.Le.eq (congrArg D.bool (by simp [badP, *])) | exact D.Le.eq (congrArg D.bool (by simp_all [badP]))
  ·
    try simp only [decide_eq_true_eq, decide_eq_false_iff_not] at h7
    refine AOps.vT rfl rfl rfl rfl rfl rfl (AVal.fieldP rfl rfl) ?_
    refine AOps.vT rfl rfl rfl rfl rfl rfl (AVal.loadPN 0 rfl rfl rfl rfl (by constructor)) ?_
    refine AOps.vT rfl rfl rfl rfl rfl rfl (AVal.loadPN 1 rfl rfl rfl rfl (by constructor)) ?_
    refine AOps.vT rfl rfl rfl rfl rfl rfl (AVal.gtr rfl rfl) ?_
    refine AOps.v rfl rfl rfl (AVal.pickF rfl (by constructor)) ?_
    refine AOps.v rfl rfl rfl (AVal.moveN (by constructor)) ?_
    refine AOps.split 13 rfl (fun h13 => ?_) (fun h13 => ?_)
    ·
      try simp only [decide_eq_true_eq, decide_eq_false_iff_not] at h13
      refine AOps.vF rfl rfl rfl rfl rfl rfl rfl ?_
      refine AOps.vF rfl rfl rfl rfl rfl rfl rfl ?_
      refine AOps.vF rfl rfl rfl rfl rfl rfl rfl ?_
      refine AOps.v rfl rfl rfl (AVal.pickT rfl (by constructor)) ?_
      refine AOps.v rfl rfl rfl (AVal.moveN (by constructor)) ?_
      refine AOps.vF rfl rfl rfl rfl rfl rfl rfl ?_
      refine AOps.vF rfl rfl rfl rfl rfl rfl rfl ?_
      refine AOps.vF rfl rfl rfl rfl rfl rfl rfl ?_
      refine AOps.v rfl rfl rfl (AVal.pickT rfl (by constructor)) ?_
      refine AOps.v rfl rfl rfl (AVal.assignN (by constructor)) ?_
      refine AOps.nil ?_
      refine ACode.ret ?_
      refine AFin.keepRet rfl (.cons rfl .nil) (by repeat first | exact List.Sublist.refl _ | apply List.Sublist.cons_cons | apply List.Sublist.cons) ?_
      first | exact D.Le.eq (congrArg D.bool (by simp [badP, *])) | exact D.Le.eq (congrArg D.bool (by simp_all [badP]))
    ·
      try simp only [decide_eq_true_eq, decide_eq_false_iff_not] at h13
      refine AOps.vT rfl rfl rfl rfl rfl rfl (AVal.fieldP rfl rfl) ?_
      refine AOps.vT rfl rfl rfl rfl rfl rfl (AVal.loadPN 0 rfl rfl rfl rfl (by constructor)) ?_
      refine AOps.vT rfl rfl rfl rfl rfl rfl (AVal.lss rfl rfl) ?_
      refine AOps.v rfl rfl rfl (AVal.pickF rfl (by constructor)) ?_
      refine AOps.v rfl rfl rfl (AVal.moveN (by constructor)) ?_
      refine AOps.split 18 rfl (fun h18 => ?_) (fun h18 => ?_)
      ·
        try simp only [decide_eq_true_eq, decide_eq_false_iff_not] at h18
        refine AOps.vF rfl rfl rfl rfl rfl rfl rfl ?_
        refine AOps.vF rfl rfl rfl rfl rfl rfl rfl ?_
        refine AOps.vF rfl rfl rfl rfl rfl rfl rfl ?_
        refine AOps.v rfl rfl rfl (AVal.pickT rfl (by constructor)) ?_
        refine AOps.v rfl rfl rfl (AVal.assignN (by constructor)) ?_
        refine AOps.nil ?_
        refine ACode.ret ?_
        refine AFin.keepRet rfl (.cons rfl .nil) (by repeat first | exact List.Sublist.refl _ | apply List.Sublist.cons_cons | apply List.Sublist.cons) ?_
        first | exact D.Le.eq (congrArg D.bool (by simp [badP, *])) | exact D.Le.eq (congrArg D.bool (by simp_all [badP]))
      ·
        try simp only [decide_eq_true_eq, decide_eq_false_iff_not] at h18
        refine AOps.vT rfl rfl rfl rfl rfl rfl (AVal.fieldP rfl rfl) ?_
        refine AOps.vT rfl rfl rfl rfl rfl rfl (AVal.loadPN 0 rfl rfl rfl rfl (by constructor)) ?_
        refine AOps.vT rfl rfl rfl rfl rfl rfl (AVal.gtr rfl rfl) ?_
        refine AOps.v rfl rfl rfl (AVal.pickF rfl (by constructor)) ?_
        refine AOps.v rfl rfl rfl (AVal.assignN (by constructor)) ?_
        refine AOps.nil ?_
        refine ACode.ret ?_
        refine AFin.keepRet rfl (.cons rfl .nil) (by repeat first | exact List.Sublist.refl _ | apply List.Sublist.cons_cons | apply List.Sublist.cons) ?_
        first | exact D.Le.eq (congrArg D.bool (by simp [badP, *])) | exact D.Le.eq (congrArg D.bool (by simp_all [badP]))

def idxP (g : Part → Bool) : List Part → Int → Int
  | [], _ => -1
  | p :: ps, i => if g p = true then i else idxP g ps (i + 1)
theorem idxP_any (g : Part → Bool) : ∀ (ps : List Part) (i : Int), 0 ≤ i → decide (0 ≤ idxP g ps i) = ps.any g
  | [], i, h => by simp [idxP]
  | p :: ps, i, h => by
    rw [idxP, List.any_cons]
    cases hg : g p with
    | true => simp [h]
    | false => simp only [Bool.false_eq_true, if_false, Bool.false_or]; exact idxP_any g ps (i + 1) (by omega)

theorem indexFP_c {f : FuncId} {caps : List D} {L0 : Loc} {gg : Part → Bool} (H : ∀ p, AKeep X f ([encP p] ++ caps) L0 (.bool (gg p))) (ps : List Part) (hl : ps.length ≤ 9223372036854775807) : AKeep X 95 [.slP ps, .func (.func f) [] caps] L0 (.int .i64 (idxP gg ps 0)) := by
  refine ACalls.of_code Tryz.func95 rfl (by rfl) (Nat.le_of_ble_eq_true rfl) ?_
  refine ACode.seq ?_
  refine ACode.region ?_
  refine AOps.v rfl rfl rfl (AVal.assignN (by constructor)) ?_
  refine AOps.nil ?_
  refine ACode.seq ?_
  refine ACode.seq ?_
  refine ACode.region ?_
  refine AOps.v rfl rfl rfl (AVal.moveN (by constructor)) ?_
  refine AOps.v rfl rfl rfl (AVal.len rfl rfl rfl) ?_
  refine AOps.v rfl rfl rfl (AVal.moveN (by constructor)) ?_
  refine AOps.nil ?_
  refine ACode.block ?_
  refine ACode.loop (γ := Nat) (fun g => [(0, .slP ps), (1, .func (.func f) [] caps), (6, .slP ps), (7, .int .i64 ps.length), (8, .int .i64 g)]) (fun g => L0) (fun g => g ≤ ps.length ∧ idxP gg (ps.drop g) g = idxP gg ps 0) (fun g => ps.length - g) 0 ⟨Nat.zero_le _, by simp⟩ (by repeat first | exact Agree.nil | refine Agree.cons (.refl _) ?_) (by repeat first | exact List.Sublist.refl _ | apply List.Sublist.cons_cons | apply List.Sublist.cons | exact List.nil_sublist _) ?_
  rintro i ⟨hi, hg⟩ t1
  simp only at hi hg ⊢
  refine ACode.seq ?_
  refine ACode.region ?_
  refine AOps.v rfl rfl rfl (AVal.lss rfl rfl) ?_
  refine AOps.nil ?_
  refine ACode.seq ?_
  refine ACode.condS rfl (fun h9 => ?_) (fun h9 => ?_)
  ·
    try simp only [decide_eq_true_eq, decide_eq_false_iff_not, Bool.not_eq_true', Bool.not_eq_false', Bool.and_eq_true, Bool.or_eq_true, beq_iff_eq, beq_eq_false_iff_ne] at h9
    have hlt : i < ps.length := by omega
    refine ACode.skip ?_
    refine ACode.seq ?_
    refine ACode.block ?_
    refine ACode.seq ?_
    refine ACode.region ?_
    refine AOps.v rfl rfl rfl (AVal.moveN (by constructor)) ?_
    refine AOps.v rfl rfl rfl (AVal.assignN (by constructor)) ?_
    refine AOps.nil ?_
    refine ACode.seq ?_
    refine ACode.region ?_
    refine AOps.v rfl rfl rfl (AVal.moveN (by constructor)) ?_
    refine AOps.v rfl rfl rfl (AVal.moveN (by constructor)) ?_
    refine AOps.v rfl rfl rfl (AVal.moveN (by constructor)) ?_
    refine AOps.v rfl rfl rfl (AVal.indexPK rfl rfl rfl rfl rfl (by omega)) ?_
    refine AOps.v rfl rfl rfl (AVal.loadE (d := encP _) rfl rfl rfl) ?_
    refine AOps.e rfl rfl rfl (AOp.callVK [] rfl (H (ps.getD i default)) (LeL.eq rfl) rfl ?_)
    refine AOps.nil ?_
    refine ACode.condS rfl (fun h16 => ?_) (fun h16 => ?_)
    ·
      try simp only [decide_eq_true_eq, decide_eq_false_iff_not, Bool.not_eq_true', Bool.not_eq_false', Bool.and_eq_true, Bool.or_eq_true, beq_iff_eq, beq_eq_false_iff_ne] at h16
      refine ACode.seq ?_
      refine ACode.region ?_
      refine AOps.v rfl rfl rfl (AVal.moveN (by constructor)) ?_
      refine AOps.v rfl rfl rfl (AVal.assignN (by constructor)) ?_
      refine AOps.nil ?_
      refine ACode.ret ?_
      refine AFin.keepRet rfl (.cons rfl .nil) (by repeat first | exact List.Sublist.refl _ | apply List.Sublist.cons_cons | apply List.Sublist.cons) ?_
      exact D.Le.eq (congrArg (D.int .i64) (by rw [← hg, drop_getD hlt, idxP, if_pos h16]))
    ·
      try simp only [decide_eq_true_eq, decide_eq_false_iff_not, Bool.not_eq_true', Bool.not_eq_false', Bool.and_eq_true, Bool.or_eq_true, beq_iff_eq, beq_eq_false_iff_ne] at h16
      refine ACode.skip ?_
      refine ACode.region ?_
      refine AOps.v rfl rfl rfl (AVal.addn rfl rfl (by omega)) ?_
      refine AOps.v rfl rfl rfl (AVal.moveN (by constructor)) ?_
      refine AOps.nil ?_
      refine ⟨i + 1, ⟨by omega, by rw [← hg, drop_getD hlt, idxP, if_neg (by rw [h16]; simp)]; push_cast; rfl⟩, by omega, rfl, (by repeat first | exact Agree.nil | refine Agree.cons (.refl _) ?_), (by repeat first | exact List.Sublist.refl _ | apply List.Sublist.cons_cons | apply List.Sublist.cons | exact List.nil_sublist _)⟩
  ·
    try simp only [decide_eq_true_eq, decide_eq_false_iff_not, Bool.not_eq_true', Bool.not_eq_false', Bool.and_eq_true, Bool.or_eq_true, beq_iff_eq, beq_eq_false_iff_ne] at h9
    refine ACode.exit ?_
    refine ACode.seq ?_
    refine ACode.region ?_
    refine AOps.v rfl rfl rfl (AVal.assignN (by constructor)) ?_
    refine AOps.nil ?_
    refine ACode.ret ?_
    refine AFin.keepRet rfl (.cons rfl .nil) (by repeat first | exact List.Sublist.refl _ | apply List.Sublist.cons_cons | apply List.Sublist.cons) ?_
    exact D.Le.eq (congrArg (D.int .i64) (by rw [← hg, List.drop_of_length_le (by omega), idxP]))

theorem containsFP_c {f : FuncId} {caps : List D} {L0 : Loc} {gg : Part → Bool} (H : ∀ p, AKeep X f ([encP p] ++ caps) L0 (.bool (gg p))) (ps : List Part) (hl : ps.length ≤ 9223372036854775807) : AKeep X 90 [.slP ps, .func (.func f) [] caps] L0 (.bool (ps.any gg)) := by
  refine ACalls.of_code Tryz.func90 rfl (by rfl) (Nat.le_of_ble_eq_true rfl) ?_
  refine ACode.seq ?_
  refine ACode.region ?_
  refine AOps.v rfl rfl rfl (AVal.assignN (by constructor)) ?_
  refine AOps.nil ?_
  refine ACode.seq ?_
  refine ACode.region ?_
  refine AOps.v rfl rfl rfl (AVal.moveN (by constructor)) ?_
  refine AOps.v rfl rfl rfl (AVal.moveN (by constructor)) ?_
  refine AOps.e rfl rfl rfl (AOp.callK [] (indexFP_c H ps hl) (LeL.eq rfl) rfl ?_)
  refine AOps.v rfl rfl rfl (AVal.geq rfl rfl) ?_
  refine AOps.v rfl rfl rfl (AVal.assignN (by constructor)) ?_
  refine AOps.nil ?_
  refine ACode.ret ?_
  refine AFin.keepRet rfl (.cons rfl .nil) (by repeat first | exact List.Sublist.refl _ | apply List.Sublist.cons_cons | apply List.Sublist.cons) ?_
  exact D.Le.eq (congrArg D.bool (idxP_any gg ps 0 (Int.le_refl _)))

theorem lvRight_c (l : Level) (n : Int) (hl : l.length ≤ 9223372036854775807) : AFn X 80 [encL l, .int .i64 n] (.bool (lvRight n l)) := by
  refine ACalls.of_code Tryz.func80 rfl (by rfl) (Nat.le_of_ble_eq_true rfl) ?_
  refine ACode.seq ?_
  refine ACode.region ?_
  refine AOps.e rfl rfl rfl (AOp.boxA rfl (fun b2 => ?_))
  refine AOps.e rfl rfl rfl (AOp.box1 (by constructor) rfl rfl (fun b3 => ?_))
  refine AOps.v rfl rfl rfl (AVal.assignN (by constructor)) ?_
  refine AOps.nil ?_
  refine ACode.seq ?_
  refine ACode.region ?_
  refine AOps.v rfl rfl rfl (AVal.fieldP rfl rfl) ?_
  refine AOps.v rfl rfl rfl (AVal.loadPN 1 rfl rfl rfl rfl (by constructor)) ?_
  refine AOps.e rfl rfl rfl (AOp.callP (isSorted_c l hl) (by first | exact LeL.eq rfl | (repeat constructor)) ?_)
  refine AOps.v rfl rfl rfl (AVal.assignN (by constructor)) ?_
  refine AOps.nil ?_
  refine ACode.seq ?_
  refine ACode.region ?_
  refine AOps.v rfl rfl rfl (AVal.moveN (by constructor)) ?_
  refine AOps.v rfl rfl rfl (AVal.moveN (by constructor)) ?_
  refine AOps.split 10 rfl (fun h10 => ?_) (fun h10 => ?_)
  ·
    try simp only [decide_eq_true_eq, decide_eq_false_iff_not] at h10
    refine AOps.vT rfl rfl rfl rfl rfl rfl (AVal.fieldP rfl rfl) ?_
    refine AOps.vT rfl rfl rfl rfl rfl rfl (AVal.loadPN 1 rfl rfl rfl rfl (by constructor)) ?_
    refine AOps.vT rfl rfl rfl rfl rfl rfl (AVal.len rfl rfl rfl) ?_
    refine AOps.vT rfl rfl rfl rfl rfl rfl (AVal.leq rfl rfl) ?_
    refine AOps.v rfl rfl rfl (AVal.pickT rfl (by constructor)) ?_
    refine AOps.v rfl rfl rfl (AVal.moveN (by constructor)) ?_
    refine AOps.split 16 rfl (fun h16 => ?_) (fun h16 => ?_)
    ·
      try simp only [decide_eq_true_eq, decide_eq_false_iff_not] at h16
      refine AOps.vT rfl rfl rfl rfl rfl rfl (AVal.fieldP rfl rfl) ?_
      refine AOps.vT rfl rfl rfl rfl rfl rfl (AVal.loadPN 1 rfl rfl rfl rfl (by constructor)) ?_
      refine AOps.vT rfl rfl rfl rfl rfl rfl (AVal.makeFunc) ?_
      refine AOps.eT rfl rfl rfl rfl rfl rfl (AOp.callK [] (containsFP_c (gg := badP n) (fun p => badP_c p n _ _) l hl) (LeL.eq rfl) rfl ?_)
      refine AOps.vT rfl rfl rfl rfl rfl rfl (AVal.not rfl) ?_
      refine AOps.v rfl rfl rfl (AVal.pickT rfl (by constructor)) ?_
      refine AOps.v rfl rfl rfl (AVal.assignN (by constructor)) ?_
      refine AOps.nil ?_
      refine ACode.ret ?_
      refine AFin.pureRet rfl (.cons rfl .nil) ?_
      exact D.Le.eq (congrArg D.bool (by rw [lvRight, h10, decide_eq_true (by omega)]; simp))
    ·
      try simp only [decide_eq_true_eq, decide_eq_false_iff_not] at h16
      refine AOps.vF rfl rfl rfl rfl rfl rfl rfl ?_
      refine AOps.vF rfl rfl rfl rfl rfl rfl rfl ?_
      refine AOps.vF rfl rfl rfl rfl rfl rfl rfl ?_
      refine AOps.vF rfl rfl rfl rfl rfl rfl rfl ?_
      refine AOps.vF rfl rfl rfl rfl rfl rfl rfl ?_
      refine AOps.v rfl rfl rfl (AVal.pickF rfl (by constructor)) ?_
      refine AOps.v rfl rfl rfl (AVal.assignN (by constructor)) ?_
      refine AOps.nil ?_
      refine ACode.ret ?_
      refine AFin.pureRet rfl (.cons rfl .nil) ?_
      exact D.Le.eq (congrArg D.bool (by rw [lvRight, decide_eq_false (by omega), Bool.and_false, Bool.false_and]))
  ·
    try simp only [decide_eq_true_eq, decide_eq_false_iff_not] at h10
    refine AOps.vF rfl rfl rfl rfl rfl rfl rfl ?_
    refine AOps.vF rfl rfl rfl rfl rfl rfl rfl ?_
    refine AOps.vF rfl rfl rfl rfl rfl rfl rfl ?_
    refine AOps.vF rfl rfl rfl rfl rfl rfl rfl ?_
    refine AOps.v rfl rfl rfl (AVal.pickF rfl (by constructor)) ?_
    refine AOps.v rfl rfl rfl (AVal.moveN (by constructor)) ?_
    refine AOps.vF rfl rfl rfl rfl rfl rfl rfl ?_
    refine AOps.vF rfl rfl rfl rfl rfl rfl rfl ?_
    refine AOps.vF rfl rfl rfl rfl rfl rfl rfl ?_
    refine AOps.vF rfl rfl rfl rfl rfl rfl rfl ?_
    refine AOps.vF rfl rfl rfl rfl rfl rfl rfl ?_
    refine AOps.v rfl rfl rfl (AVal.pickF rfl (by constructor)) ?_
    refine AOps.v rfl rfl rfl (AVal.assignN (by constructor)) ?_
    refine AOps.nil ?_
    refine ACode.ret ?_
    refine AFin.pureRet rfl (.cons rfl .nil) ?_
    exact D.Le.eq (congrArg D.bool (by rw [lvRight, h10]; simp))

end Sp

/- The walks of core.Right: the kinds, the walk. Written by a program of mine. -/
set_option linter.unusedVariables false
set_option linter.unusedSimpArgs false
set_option maxRecDepth 20000
namespace Sp
open Go Go.Proofs

theorem scopeRight_c (nl nt : Int) (ls : List Level) (hl : ls.length ≤ 9223372036854775807) (hp : ∀ l ∈ ls, l.length ≤ 9223372036854775807) : AMay X 65 [.agg [.int .i64 nl, .int .i64 nt], .slL ls] [] (ls.all (lvRight nl) = true) (.tup []) [] (.iface 50 (.agg [])) [] := by
  refine ACalls.of_code Tryz.func65 rfl (by rfl) (Nat.le_of_ble_eq_true rfl) ?_
  refine ACode.seq ?_
  refine ACode.region ?_
  refine AOps.e rfl rfl rfl (AOp.boxA rfl (fun b2 => ?_))
  refine AOps.nil ?_
  refine ACode.seq ?_
  refine ACode.region ?_
  refine AOps.v rfl rfl rfl (AVal.moveN (by constructor)) ?_
  refine AOps.v rfl rfl rfl (AVal.len rfl rfl rfl) ?_
  refine AOps.v rfl rfl rfl (AVal.moveN (by constructor)) ?_
  refine AOps.nil ?_
  refine ACode.block ?_
  refine ACode.loop (γ := Nat) (fun g => [(2, .ptr b2 0), (6, .slL ls), (7, .int .i64 ls.length), (8, .int .i64 g)]) (fun g => [(b2, .cells 54 [.int .i64 nl, .int .i64 nt])]) (fun g => g ≤ ls.length ∧ (ls.take g).all (lvRight nl) = true) (fun g => ls.length - g) 0 ⟨Nat.zero_le _, by simp⟩ (by repeat first | exact Agree.nil | refine Agree.cons (.refl _) ?_) (by repeat first | exact List.Sublist.refl _ | apply List.Sublist.cons_cons | apply List.Sublist.cons | exact List.nil_sublist _) ?_
  rintro i ⟨hi, hg⟩ t1
  simp only at hi hg ⊢
  refine ACode.seq ?_
  refine ACode.region ?_
  refine AOps.v rfl rfl rfl (AVal.lss rfl rfl) ?_
  refine AOps.nil ?_
  refine ACode.seq ?_
  refine ACode.condS rfl (fun h9 => ?_) (fun h9 => ?_)
  ·
    try simp only [decide_eq_true_eq, decide_eq_false_iff_not, Bool.not_eq_true', Bool.not_eq_false', Bool.and_eq_true, Bool.or_eq_true, beq_iff_eq, beq_eq_false_iff_ne] at h9
    have hlt : i < ls.length := by omega
    refine ACode.skip ?_
    refine ACode.seq ?_
    refine ACode.block ?_
    refine ACode.seq ?_
    refine ACode.region ?_
    refine AOps.v rfl rfl rfl (AVal.indexLK rfl rfl rfl rfl rfl (by omega)) ?_
    refine AOps.v rfl rfl rfl (AVal.loadE (d := encL _) rfl rfl rfl) ?_
    refine AOps.e rfl rfl rfl (AOp.allocN rfl rfl (fun b5 => ?_))
    refine AOps.e0 rfl rfl (AOp.storeN 0 rfl rfl rfl (by constructor) rfl rfl rfl (by repeat constructor) (by repeat constructor) ?_)
    refine AOps.nil ?_
    refine ACode.region ?_
    refine AOps.v rfl rfl rfl (AVal.loadP (d := encL _) 0 rfl rfl rfl rfl) ?_
    refine AOps.v rfl rfl rfl (AVal.fieldP rfl rfl) ?_
    refine AOps.v rfl rfl rfl (AVal.loadPN 1 rfl rfl rfl rfl (by constructor)) ?_
    refine AOps.e rfl rfl rfl (AOp.callP (lvRight_c (ls.getD i default) nl (hp _ (getD_mem hlt))) (by first | exact LeL.eq rfl | (repeat constructor)) ?_)
    refine AOps.e rfl rfl rfl (AOp.buildSlice (es := [.bool _]) rfl rfl rfl rfl rfl ?_)
    refine AOps.e rfl rfl rfl (AOp.callM [_, _] (must_c [_] (by simp)) (by first | exact LeL.eq rfl | (repeat constructor)) rfl (fun hok => ?_) (fun hno => ?_))
    ·
      refine AOps.nil ?_
      refine ACode.region ?_
      refine AOps.v rfl rfl rfl (AVal.addn rfl rfl (by omega)) ?_
      refine AOps.v rfl rfl rfl (AVal.moveN (by constructor)) ?_
      refine AOps.nil ?_
      refine ⟨i + 1, ⟨by omega, by rw [take_succ_getD hlt, List.all_append, hg]; simpa using hok⟩, by omega, rfl, (by repeat first | exact Agree.nil | refine Agree.cons (.refl _) ?_), (by repeat first | exact List.Sublist.refl _ | apply List.Sublist.cons_cons | apply List.Sublist.cons | exact List.nil_sublist _)⟩
    ·
      exact AFin.mayPan (X := X) (fn := Tryz.f65) rfl (by repeat first | exact List.Sublist.refl _ | apply List.Sublist.cons_cons | apply List.Sublist.cons | exact List.nil_sublist _) (fun e => hno (by have := List.all_eq_true.1 e _ (getD_mem hlt); simpa using this))
  ·
    try simp only [decide_eq_true_eq, decide_eq_false_iff_not, Bool.not_eq_true', Bool.not_eq_false', Bool.and_eq_true, Bool.or_eq_true, beq_iff_eq, beq_eq_false_iff_ne] at h9
    refine ACode.exit ?_
    refine AFin.mayEnd rfl .nil (by repeat first | exact List.Sublist.refl _ | apply List.Sublist.cons_cons | apply List.Sublist.cons) ?_ (by rw [List.take_of_length_le (by omega)] at hg; exact hg)
    exact .refl _

theorem bare_c (t : Term) : AMay X 66 [encT t] [] (bareB t = true) (.tup []) [] (.iface 50 (.agg [])) [] := by
  refine ACalls.of_code Tryz.func66 rfl (by rfl) (Nat.le_of_ble_eq_true rfl) ?_
  refine ACode.seq ?_
  refine ACode.region ?_
  refine AOps.e rfl rfl rfl (AOp.boxA rfl (fun b1 => ?_))
  refine AOps.nil ?_
  refine ACode.region ?_
  refine AOps.v rfl rfl rfl (AVal.fieldP rfl rfl) ?_
  refine AOps.v rfl rfl rfl (AVal.loadPN 0 rfl rfl rfl rfl (by constructor)) ?_
  refine AOps.v rfl rfl rfl (AVal.eql rfl rfl) ?_
  refine AOps.v rfl rfl rfl (AVal.fieldP rfl rfl) ?_
  refine AOps.v rfl rfl rfl (AVal.loadPN 0 rfl rfl rfl rfl (by constructor)) ?_
  refine AOps.v rfl rfl rfl (AVal.eql rfl rfl) ?_
  refine AOps.v rfl rfl rfl (AVal.fieldP rfl rfl) ?_
  refine AOps.v rfl rfl rfl (AVal.loadPN 0 rfl rfl rfl rfl (by constructor)) ?_
  refine AOps.v rfl rfl rfl (AVal.len rfl rfl rfl) ?_
  refine AOps.v rfl rfl rfl (AVal.eql rfl rfl) ?_
  refine AOps.e rfl rfl rfl (AOp.buildSlice (es := [.bool _, .bool _, .bool _]) rfl rfl rfl rfl rfl ?_)
  refine AOps.e rfl rfl rfl (AOp.callM [_] (must_c [_, _, _] (by simp)) (by first | exact LeL.eq rfl | (repeat constructor)) rfl (fun hok => ?_) (fun hno => ?_))
  ·
    refine AOps.nil ?_
    refine AFin.mayEnd rfl .nil (by repeat first | exact List.Sublist.refl _ | apply List.Sublist.cons_cons | apply List.Sublist.cons) ?_ (by simp only [List.all_cons, List.all_nil, id_eq, Bool.and_true, Bool.and_eq_true, decide_eq_true_eq] at hok; simpa [bareB, and_assoc] using hok)
    exact .refl _
  ·
    simp only [List.all_cons, List.all_nil, id_eq, Bool.and_true, Bool.and_eq_true, decide_eq_true_eq] at hno
    exact AFin.mayPan (X := X) (fn := Tryz.f66) rfl (by repeat first | exact List.Sublist.refl _ | apply List.Sublist.cons_cons | apply List.Sublist.cons | exact List.nil_sublist _) (by simpa [bareB, and_assoc] using hno)

theorem kvar_c (nl nt : Int) (cn : List Int) (bm : Nat) (t : Term) : AMay X 33 [(.agg [.int .i64 nl, .int .i64 (nt), .slc (cn.map (D.int .i64)), .map bm]), encT t] [] (varB nt t = true) (.int .i64 0) [] (.iface 50 (.agg [])) [] := by
  refine ACalls.of_code Tryz.func33 rfl (by rfl) (Nat.le_of_ble_eq_true rfl) ?_
  refine ACode.seq ?_
  refine ACode.region ?_
  refine AOps.e rfl rfl rfl (AOp.boxA rfl (fun b2 => ?_))
  refine AOps.e rfl rfl rfl (AOp.boxA rfl (fun b3 => ?_))
  refine AOps.v rfl rfl rfl (AVal.assignN (by constructor)) ?_
  refine AOps.nil ?_
  refine ACode.seq ?_
  refine ACode.region ?_
  refine AOps.v rfl rfl rfl (AVal.fieldP rfl rfl) ?_
  refine AOps.v rfl rfl rfl (AVal.loadPN 0 rfl rfl rfl rfl (by constructor)) ?_
  refine AOps.v rfl rfl rfl (AVal.geq rfl rfl) ?_
  refine AOps.v rfl rfl rfl (AVal.fieldP rfl rfl) ?_
  refine AOps.v rfl rfl rfl (AVal.loadPN 0 rfl rfl rfl rfl (by constructor)) ?_
  refine AOps.v rfl rfl rfl (AVal.fieldP rfl rfl) ?_
  refine AOps.v rfl rfl rfl (AVal.fieldP rfl rfl) ?_
  refine AOps.v rfl rfl rfl (AVal.loadPN 1 rfl rfl rfl rfl (by constructor)) ?_
  refine AOps.v rfl rfl rfl (AVal.lss rfl rfl) ?_
  refine AOps.v rfl rfl rfl (AVal.fieldP rfl rfl) ?_
  refine AOps.v rfl rfl rfl (AVal.loadPN 0 rfl rfl rfl rfl (by constructor)) ?_
  refine AOps.v rfl rfl rfl (AVal.eql rfl rfl) ?_
  refine AOps.v rfl rfl rfl (AVal.fieldP rfl rfl) ?_
  refine AOps.v rfl rfl rfl (AVal.loadPN 0 rfl rfl rfl rfl (by constructor)) ?_
  refine AOps.v rfl rfl rfl (AVal.len rfl rfl rfl) ?_
  refine AOps.v rfl rfl rfl (AVal.eql rfl rfl) ?_
  refine AOps.e rfl rfl rfl (AOp.buildSlice (es := [.bool _, .bool _, .bool _, .bool _]) rfl rfl rfl rfl rfl ?_)
  refine AOps.e rfl rfl rfl (AOp.callM [_, _] (must_c [_, _, _, _] (by simp)) (by first | exact LeL.eq rfl | (repeat constructor)) rfl (fun hok => ?_) (fun hno => ?_))
  ·
    refine AOps.nil ?_
    refine ACode.seq ?_
    refine ACode.region ?_
    refine AOps.v rfl rfl rfl (AVal.assignN (by constructor)) ?_
    refine AOps.nil ?_
    refine ACode.ret ?_
    refine AFin.mayRet rfl (.cons rfl .nil) (by repeat first | exact List.Sublist.refl _ | apply List.Sublist.cons_cons | apply List.Sublist.cons) ?_ (by simp only [List.all_cons, List.all_nil, id_eq, Bool.and_true, Bool.and_eq_true, decide_eq_true_eq] at hok; simpa [varB, and_assoc] using hok)
    exact .refl _
  ·
    simp only [List.all_cons, List.all_nil, id_eq, Bool.and_true, Bool.and_eq_true, decide_eq_true_eq] at hno
    exact AFin.mayPan (X := X) (fn := Tryz.f33) rfl (by repeat first | exact List.Sublist.refl _ | apply List.Sublist.cons_cons | apply List.Sublist.cons | exact List.nil_sublist _) (by simpa [varB, and_assoc] using hno)

theorem kfin_c (nl nt : Int) (cn : List Int) (bm : Nat) (t : Term) : AMay X 42 [(.agg [.int .i64 nl, .int .i64 (nt), .slc (cn.map (D.int .i64)), .map bm]), encT t] [] (finB t = true) (.int .i64 0) [] (.iface 50 (.agg [])) [] := by
  refine ACalls.of_code Tryz.func42 rfl (by rfl) (Nat.le_of_ble_eq_true rfl) ?_
  refine ACode.seq ?_
  refine ACode.region ?_
  refine AOps.e rfl rfl rfl (AOp.boxA rfl (fun b2 => ?_))
  refine AOps.e rfl rfl rfl (AOp.boxA rfl (fun b3 => ?_))
  refine AOps.v rfl rfl rfl (AVal.assignN (by constructor)) ?_
  refine AOps.nil ?_
  refine ACode.seq ?_
  refine ACode.region ?_
  refine AOps.v rfl rfl rfl (AVal.fieldP rfl rfl) ?_
  refine AOps.v rfl rfl rfl (AVal.loadPN 0 rfl rfl rfl rfl (by constructor)) ?_
  refine AOps.v rfl rfl rfl (AVal.geq rfl rfl) ?_
  refine AOps.v rfl rfl rfl (AVal.fieldP rfl rfl) ?_
  refine AOps.v rfl rfl rfl (AVal.loadPN 0 rfl rfl rfl rfl (by constructor)) ?_
  refine AOps.v rfl rfl rfl (AVal.eql rfl rfl) ?_
  refine AOps.v rfl rfl rfl (AVal.fieldP rfl rfl) ?_
  refine AOps.v rfl rfl rfl (AVal.loadPN 0 rfl rfl rfl rfl (by constructor)) ?_
  refine AOps.v rfl rfl rfl (AVal.len rfl rfl rfl) ?_
  refine AOps.v rfl rfl rfl (AVal.eql rfl rfl) ?_
  refine AOps.e rfl rfl rfl (AOp.buildSlice (es := [.bool _, .bool _, .bool _]) rfl rfl rfl rfl rfl ?_)
  refine AOps.e rfl rfl rfl (AOp.callM [_, _] (must_c [_, _, _] (by simp)) (by first | exact LeL.eq rfl | (repeat constructor)) rfl (fun hok => ?_) (fun hno => ?_))
  ·
    refine AOps.nil ?_
    refine ACode.seq ?_
    refine ACode.region ?_
    refine AOps.v rfl rfl rfl (AVal.assignN (by constructor)) ?_
    refine AOps.nil ?_
    refine ACode.ret ?_
    refine AFin.mayRet rfl (.cons rfl .nil) (by repeat first | exact List.Sublist.refl _ | apply List.Sublist.cons_cons | apply List.Sublist.cons) ?_ (by simp only [List.all_cons, List.all_nil, id_eq, Bool.and_true, Bool.and_eq_true, decide_eq_true_eq] at hok; simpa [finB, and_assoc] using hok)
    exact .refl _
  ·
    simp only [List.all_cons, List.all_nil, id_eq, Bool.and_true, Bool.and_eq_true, decide_eq_true_eq] at hno
    exact AFin.mayPan (X := X) (fn := Tryz.f42) rfl (by repeat first | exact List.Sublist.refl _ | apply List.Sublist.cons_cons | apply List.Sublist.cons | exact List.nil_sublist _) (by simpa [finB, and_assoc] using hno)

theorem kelem_c (nl nt : Int) (cn : List Int) (bm : Nat) (t : Term) : AMay X 43 [(.agg [.int .i64 nl, .int .i64 (nt), .slc (cn.map (D.int .i64)), .map bm]), encT t] [] (elemB t = true) (.int .i64 0) [] (.iface 50 (.agg [])) [] := by
  refine ACalls.of_code Tryz.func43 rfl (by rfl) (Nat.le_of_ble_eq_true rfl) ?_
  refine ACode.seq ?_
  refine ACode.region ?_
  refine AOps.e rfl rfl rfl (AOp.boxA rfl (fun b2 => ?_))
  refine AOps.e rfl rfl rfl (AOp.boxA rfl (fun b3 => ?_))
  refine AOps.v rfl rfl rfl (AVal.assignN (by constructor)) ?_
  refine AOps.nil ?_
  refine ACode.seq ?_
  refine ACode.region ?_
  refine AOps.v rfl rfl rfl (AVal.fieldP rfl rfl) ?_
  refine AOps.v rfl rfl rfl (AVal.loadPN 0 rfl rfl rfl rfl (by constructor)) ?_
  refine AOps.v rfl rfl rfl (AVal.geq rfl rfl) ?_
  refine AOps.v rfl rfl rfl (AVal.fieldP rfl rfl) ?_
  refine AOps.v rfl rfl rfl (AVal.loadPN 0 rfl rfl rfl rfl (by constructor)) ?_
  refine AOps.v rfl rfl rfl (AVal.fieldP rfl rfl) ?_
  refine AOps.v rfl rfl rfl (AVal.loadPN 0 rfl rfl rfl rfl (by constructor)) ?_
  refine AOps.v rfl rfl rfl (AVal.lss rfl rfl) ?_
  refine AOps.v rfl rfl rfl (AVal.fieldP rfl rfl) ?_
  refine AOps.v rfl rfl rfl (AVal.loadPN 0 rfl rfl rfl rfl (by constructor)) ?_
  refine AOps.v rfl rfl rfl (AVal.len rfl rfl rfl) ?_
  refine AOps.v rfl rfl rfl (AVal.eql rfl rfl) ?_
  refine AOps.e rfl rfl rfl (AOp.buildSlice (es := [.bool _, .bool _, .bool _]) rfl rfl rfl rfl rfl ?_)
  refine AOps.e rfl rfl rfl (AOp.callM [_, _] (must_c [_, _, _] (by simp)) (by first | exact LeL.eq rfl | (repeat constructor)) rfl (fun hok => ?_) (fun hno => ?_))
  ·
    refine AOps.nil ?_
    refine ACode.seq ?_
    refine ACode.region ?_
    refine AOps.v rfl rfl rfl (AVal.assignN (by constructor)) ?_
    refine AOps.nil ?_
    refine ACode.ret ?_
    refine AFin.mayRet rfl (.cons rfl .nil) (by repeat first | exact List.Sublist.refl _ | apply List.Sublist.cons_cons | apply List.Sublist.cons) ?_ (by simp only [List.all_cons, List.all_nil, id_eq, Bool.and_true, Bool.and_eq_true, decide_eq_true_eq] at hok; simpa [elemB, and_assoc] using hok)
    exact .refl _
  ·
    simp only [List.all_cons, List.all_nil, id_eq, Bool.and_true, Bool.and_eq_true, decide_eq_true_eq] at hno
    exact AFin.mayPan (X := X) (fn := Tryz.f43) rfl (by repeat first | exact List.Sublist.refl _ | apply List.Sublist.cons_cons | apply List.Sublist.cons | exact List.nil_sublist _) (by simpa [elemB, and_assoc] using hno)

theorem kcas_c (nl nt : Int) (cn : List Int) (bm : Nat) (t : Term) : AMay X 44 [(.agg [.int .i64 nl, .int .i64 (nt), .slc (cn.map (D.int .i64)), .map bm]), encT t] [] (casB t = true) (.int .i64 (w64 (t.at_ + 2))) [] (.iface 50 (.agg [])) [] := by
  refine ACalls.of_code Tryz.func44 rfl (by rfl) (Nat.le_of_ble_eq_true rfl) ?_
  refine ACode.seq ?_
  refine ACode.region ?_
  refine AOps.e rfl rfl rfl (AOp.boxA rfl (fun b2 => ?_))
  refine AOps.e rfl rfl rfl (AOp.boxA rfl (fun b3 => ?_))
  refine AOps.v rfl rfl rfl (AVal.assignN (by constructor)) ?_
  refine AOps.nil ?_
  refine ACode.seq ?_
  refine ACode.region ?_
  refine AOps.v rfl rfl rfl (AVal.fieldP rfl rfl) ?_
  refine AOps.v rfl rfl rfl (AVal.loadPN 0 rfl rfl rfl rfl (by constructor)) ?_
  refine AOps.v rfl rfl rfl (AVal.eql rfl rfl) ?_
  refine AOps.v rfl rfl rfl (AVal.fieldP rfl rfl) ?_
  refine AOps.v rfl rfl rfl (AVal.loadPN 0 rfl rfl rfl rfl (by constructor)) ?_
  refine AOps.v rfl rfl rfl (AVal.geq rfl rfl) ?_
  refine AOps.v rfl rfl rfl (AVal.fieldP rfl rfl) ?_
  refine AOps.v rfl rfl rfl (AVal.loadPN 0 rfl rfl rfl rfl (by constructor)) ?_
  refine AOps.v rfl rfl rfl (AVal.len rfl rfl rfl) ?_
  refine AOps.v rfl rfl rfl (AVal.eql rfl rfl) ?_
  refine AOps.e rfl rfl rfl (AOp.buildSlice (es := [.bool _, .bool _, .bool _]) rfl rfl rfl rfl rfl ?_)
  refine AOps.e rfl rfl rfl (AOp.callM [_, _] (must_c [_, _, _] (by simp)) (by first | exact LeL.eq rfl | (repeat constructor)) rfl (fun hok => ?_) (fun hno => ?_))
  ·
    refine AOps.nil ?_
    refine ACode.seq ?_
    refine ACode.region ?_
    refine AOps.v rfl rfl rfl (AVal.fieldP rfl rfl) ?_
    refine AOps.v rfl rfl rfl (AVal.loadPN 0 rfl rfl rfl rfl (by constructor)) ?_
    refine AOps.v rfl rfl rfl (AVal.add rfl rfl) ?_
    refine AOps.v rfl rfl rfl (AVal.assignN (by constructor)) ?_
    refine AOps.nil ?_
    refine ACode.ret ?_
    refine AFin.mayRet rfl (.cons rfl .nil) (by repeat first | exact List.Sublist.refl _ | apply List.Sublist.cons_cons | apply List.Sublist.cons) ?_ (by simp only [List.all_cons, List.all_nil, id_eq, Bool.and_true, Bool.and_eq_true, decide_eq_true_eq] at hok; simpa [casB, and_assoc] using hok)
    exact .refl _
  ·
    simp only [List.all_cons, List.all_nil, id_eq, Bool.and_true, Bool.and_eq_true, decide_eq_true_eq] at hno
    exact AFin.mayPan (X := X) (fn := Tryz.f44) rfl (by repeat first | exact List.Sublist.refl _ | apply List.Sublist.cons_cons | apply List.Sublist.cons | exact List.nil_sublist _) (by simpa [casB, and_assoc] using hno)

theorem ktwo_c (nl nt : Int) (cn : List Int) (bm : Nat) (t : Term) : AMay X 36 [(.agg [.int .i64 nl, .int .i64 (nt), .slc (cn.map (D.int .i64)), .map bm]), encT t] [] (bareB t = true) (.int .i64 2) [] (.iface 50 (.agg [])) [] := by
  refine ACalls.of_code Tryz.func36 rfl (by rfl) (Nat.le_of_ble_eq_true rfl) ?_
  refine ACode.seq ?_
  refine ACode.region ?_
  refine AOps.e rfl rfl rfl (AOp.boxA rfl (fun b2 => ?_))
  refine AOps.e rfl rfl rfl (AOp.boxA rfl (fun b3 => ?_))
  refine AOps.v rfl rfl rfl (AVal.assignN (by constructor)) ?_
  refine AOps.nil ?_
  refine ACode.seq ?_
  refine ACode.region ?_
  refine AOps.v rfl rfl rfl (AVal.loadP (d := encT _) 0 rfl rfl rfl rfl) ?_
  refine AOps.e rfl rfl rfl (AOp.callM [_, _] (bare_c t) (by first | exact LeL.eq rfl | (repeat constructor)) rfl (fun hok => ?_) (fun hno => ?_))
  ·
    refine AOps.nil ?_
    refine ACode.seq ?_
    refine ACode.region ?_
    refine AOps.v rfl rfl rfl (AVal.assignN (by constructor)) ?_
    refine AOps.nil ?_
    refine ACode.ret ?_
    refine AFin.mayRet rfl (.cons rfl .nil) (by repeat first | exact List.Sublist.refl _ | apply List.Sublist.cons_cons | apply List.Sublist.cons) ?_ (hok)
    exact .refl _
  ·
    exact AFin.mayPan (X := X) (fn := Tryz.f36) rfl (by repeat first | exact List.Sublist.refl _ | apply List.Sublist.cons_cons | apply List.Sublist.cons | exact List.nil_sublist _) (hno)

theorem kthree_c (nl nt : Int) (cn : List Int) (bm : Nat) (t : Term) : AMay X 37 [(.agg [.int .i64 nl, .int .i64 (nt), .slc (cn.map (D.int .i64)), .map bm]), encT t] [] (bareB t = true) (.int .i64 3) [] (.iface 50 (.agg [])) [] := by
  refine ACalls.of_code Tryz.func37 rfl (by rfl) (Nat.le_of_ble_eq_true rfl) ?_
  refine ACode.seq ?_
  refine ACode.region ?_
  refine AOps.e rfl rfl rfl (AOp.boxA rfl (fun b2 => ?_))
  refine AOps.e rfl rfl rfl (AOp.boxA rfl (fun b3 => ?_))
  refine AOps.v rfl rfl rfl (AVal.assignN (by constructor)) ?_
  refine AOps.nil ?_
  refine ACode.seq ?_
  refine ACode.region ?_
  refine AOps.v rfl rfl rfl (AVal.loadP (d := encT _) 0 rfl rfl rfl rfl) ?_
  refine AOps.e rfl rfl rfl (AOp.callM [_, _] (bare_c t) (by first | exact LeL.eq rfl | (repeat constructor)) rfl (fun hok => ?_) (fun hno => ?_))
  ·
    refine AOps.nil ?_
    refine ACode.seq ?_
    refine ACode.region ?_
    refine AOps.v rfl rfl rfl (AVal.assignN (by constructor)) ?_
    refine AOps.nil ?_
    refine ACode.ret ?_
    refine AFin.mayRet rfl (.cons rfl .nil) (by repeat first | exact List.Sublist.refl _ | apply List.Sublist.cons_cons | apply List.Sublist.cons) ?_ (hok)
    exact .refl _
  ·
    exact AFin.mayPan (X := X) (fn := Tryz.f37) rfl (by repeat first | exact List.Sublist.refl _ | apply List.Sublist.cons_cons | apply List.Sublist.cons | exact List.nil_sublist _) (hno)

theorem kone_c (nl nt : Int) (cn : List Int) (bm : Nat) (t : Term) : AMay X 38 [(.agg [.int .i64 nl, .int .i64 (nt), .slc (cn.map (D.int .i64)), .map bm]), encT t] [] (bareB t = true) (.int .i64 1) [] (.iface 50 (.agg [])) [] := by
  refine ACalls.of_code Tryz.func38 rfl (by rfl) (Nat.le_of_ble_eq_true rfl) ?_
  refine ACode.seq ?_
  refine ACode.region ?_
  refine AOps.e rfl rfl rfl (AOp.boxA rfl (fun b2 => ?_))
  refine AOps.e rfl rfl rfl (AOp.boxA rfl (fun b3 => ?_))
  refine AOps.v rfl rfl rfl (AVal.assignN (by constructor)) ?_
  refine AOps.nil ?_
  refine ACode.seq ?_
  refine ACode.region ?_
  refine AOps.v rfl rfl rfl (AVal.loadP (d := encT _) 0 rfl rfl rfl rfl) ?_
  refine AOps.e rfl rfl rfl (AOp.callM [_, _] (bare_c t) (by first | exact LeL.eq rfl | (repeat constructor)) rfl (fun hok => ?_) (fun hno => ?_))
  ·
    refine AOps.nil ?_
    refine ACode.seq ?_
    refine ACode.region ?_
    refine AOps.v rfl rfl rfl (AVal.assignN (by constructor)) ?_
    refine AOps.nil ?_
    refine ACode.ret ?_
    refine AFin.mayRet rfl (.cons rfl .nil) (by repeat first | exact List.Sublist.refl _ | apply List.Sublist.cons_cons | apply List.Sublist.cons) ?_ (hok)
    exact .refl _
  ·
    exact AFin.mayPan (X := X) (fn := Tryz.f38) rfl (by repeat first | exact List.Sublist.refl _ | apply List.Sublist.cons_cons | apply List.Sublist.cons | exact List.nil_sublist _) (hno)

theorem kfive_c (nl nt : Int) (cn : List Int) (bm : Nat) (t : Term) : AMay X 39 [(.agg [.int .i64 nl, .int .i64 (nt), .slc (cn.map (D.int .i64)), .map bm]), encT t] [] (bareB t = true) (.int .i64 5) [] (.iface 50 (.agg [])) [] := by
  refine ACalls.of_code Tryz.func39 rfl (by rfl) (Nat.le_of_ble_eq_true rfl) ?_
  refine ACode.seq ?_
  refine ACode.region ?_
  refine AOps.e rfl rfl rfl (AOp.boxA rfl (fun b2 => ?_))
  refine AOps.e rfl rfl rfl (AOp.boxA rfl (fun b3 => ?_))
  refine AOps.v rfl rfl rfl (AVal.assignN (by constructor)) ?_
  refine AOps.nil ?_
  refine ACode.seq ?_
  refine ACode.region ?_
  refine AOps.v rfl rfl rfl (AVal.loadP (d := encT _) 0 rfl rfl rfl rfl) ?_
  refine AOps.e rfl rfl rfl (AOp.callM [_, _] (bare_c t) (by first | exact LeL.eq rfl | (repeat constructor)) rfl (fun hok => ?_) (fun hno => ?_))
  ·
    refine AOps.nil ?_
    refine ACode.seq ?_
    refine ACode.region ?_
    refine AOps.v rfl rfl rfl (AVal.assignN (by constructor)) ?_
    refine AOps.nil ?_
    refine ACode.ret ?_
    refine AFin.mayRet rfl (.cons rfl .nil) (by repeat first | exact List.Sublist.refl _ | apply List.Sublist.cons_cons | apply List.Sublist.cons) ?_ (hok)
    exact .refl _
  ·
    exact AFin.mayPan (X := X) (fn := Tryz.f39) rfl (by repeat first | exact List.Sublist.refl _ | apply List.Sublist.cons_cons | apply List.Sublist.cons | exact List.nil_sublist _) (hno)

theorem kleaf_c (nl nt : Int) (cn : List Int) (bm : Nat) (t : Term) : AMay X 40 [(.agg [.int .i64 nl, .int .i64 (nt), .slc (cn.map (D.int .i64)), .map bm]), encT t] [] (bareB t = true) (.int .i64 0) [] (.iface 50 (.agg [])) [] := by
  refine ACalls.of_code Tryz.func40 rfl (by rfl) (Nat.le_of_ble_eq_true rfl) ?_
  refine ACode.seq ?_
  refine ACode.region ?_
  refine AOps.e rfl rfl rfl (AOp.boxA rfl (fun b2 => ?_))
  refine AOps.e rfl rfl rfl (AOp.boxA rfl (fun b3 => ?_))
  refine AOps.v rfl rfl rfl (AVal.assignN (by constructor)) ?_
  refine AOps.nil ?_
  refine ACode.seq ?_
  refine ACode.region ?_
  refine AOps.v rfl rfl rfl (AVal.loadP (d := encT _) 0 rfl rfl rfl rfl) ?_
  refine AOps.e rfl rfl rfl (AOp.callM [_, _] (bare_c t) (by first | exact LeL.eq rfl | (repeat constructor)) rfl (fun hok => ?_) (fun hno => ?_))
  ·
    refine AOps.nil ?_
    refine ACode.seq ?_
    refine ACode.region ?_
    refine AOps.v rfl rfl rfl (AVal.assignN (by constructor)) ?_
    refine AOps.nil ?_
    refine ACode.ret ?_
    refine AFin.mayRet rfl (.cons rfl .nil) (by repeat first | exact List.Sublist.refl _ | apply List.Sublist.cons_cons | apply List.Sublist.cons) ?_ (hok)
    exact .refl _
  ·
    exact AFin.mayPan (X := X) (fn := Tryz.f40) rfl (by repeat first | exact List.Sublist.refl _ | apply List.Sublist.cons_cons | apply List.Sublist.cons | exact List.nil_sublist _) (hno)

theorem ksix_c (nl nt : Int) (cn : List Int) (bm : Nat) (t : Term) : AMay X 41 [(.agg [.int .i64 nl, .int .i64 (nt), .slc (cn.map (D.int .i64)), .map bm]), encT t] [] (bareB t = true) (.int .i64 6) [] (.iface 50 (.agg [])) [] := by
  refine ACalls.of_code Tryz.func41 rfl (by rfl) (Nat.le_of_ble_eq_true rfl) ?_
  refine ACode.seq ?_
  refine ACode.region ?_
  refine AOps.e rfl rfl rfl (AOp.boxA rfl (fun b2 => ?_))
  refine AOps.e rfl rfl rfl (AOp.boxA rfl (fun b3 => ?_))
  refine AOps.v rfl rfl rfl (AVal.assignN (by constructor)) ?_
  refine AOps.nil ?_
  refine ACode.seq ?_
  refine ACode.region ?_
  refine AOps.v rfl rfl rfl (AVal.loadP (d := encT _) 0 rfl rfl rfl rfl) ?_
  refine AOps.e rfl rfl rfl (AOp.callM [_, _] (bare_c t) (by first | exact LeL.eq rfl | (repeat constructor)) rfl (fun hok => ?_) (fun hno => ?_))
  ·
    refine AOps.nil ?_
    refine ACode.seq ?_
    refine ACode.region ?_
    refine AOps.v rfl rfl rfl (AVal.assignN (by constructor)) ?_
    refine AOps.nil ?_
    refine ACode.ret ?_
    refine AFin.mayRet rfl (.cons rfl .nil) (by repeat first | exact List.Sublist.refl _ | apply List.Sublist.cons_cons | apply List.Sublist.cons) ?_ (hok)
    exact .refl _
  ·
    exact AFin.mayPan (X := X) (fn := Tryz.f41) rfl (by repeat first | exact List.Sublist.refl _ | apply List.Sublist.cons_cons | apply List.Sublist.cons | exact List.nil_sublist _) (hno)

theorem ksort_c (nl nt : Int) (cn : List Int) (bm : Nat) (t : Term) (ht : t.fit 9223372036854775807) : AMay X 34 [(.agg [.int .i64 nl, .int .i64 (nt), .slc (cn.map (D.int .i64)), .map bm]), encT t] [] (sortB nl t = true) (.int .i64 0) [] (.iface 50 (.agg [])) [] := by
  refine ACalls.of_code Tryz.func34 rfl (by rfl) (Nat.le_of_ble_eq_true rfl) ?_
  refine ACode.seq ?_
  refine ACode.region ?_
  refine AOps.e rfl rfl rfl (AOp.boxA rfl (fun b2 => ?_))
  refine AOps.e rfl rfl rfl (AOp.boxA rfl (fun b3 => ?_))
  refine AOps.v rfl rfl rfl (AVal.assignN (by constructor)) ?_
  refine AOps.nil ?_
  refine ACode.seq ?_
  refine ACode.region ?_
  refine AOps.v rfl rfl rfl (AVal.fieldP rfl rfl) ?_
  refine AOps.v rfl rfl rfl (AVal.loadPN 0 rfl rfl rfl rfl (by constructor)) ?_
  refine AOps.v rfl rfl rfl (AVal.eql rfl rfl) ?_
  refine AOps.v rfl rfl rfl (AVal.fieldP rfl rfl) ?_
  refine AOps.v rfl rfl rfl (AVal.loadPN 0 rfl rfl rfl rfl (by constructor)) ?_
  refine AOps.v rfl rfl rfl (AVal.eql rfl rfl) ?_
  refine AOps.v rfl rfl rfl (AVal.fieldP rfl rfl) ?_
  refine AOps.v rfl rfl rfl (AVal.loadPN 0 rfl rfl rfl rfl (by constructor)) ?_
  refine AOps.v rfl rfl rfl (AVal.len rfl rfl rfl) ?_
  refine AOps.v rfl rfl rfl (AVal.eql rfl rfl) ?_
  refine AOps.e rfl rfl rfl (AOp.buildSlice (es := [.bool _, .bool _, .bool _]) rfl rfl rfl rfl rfl ?_)
  refine AOps.e rfl rfl rfl (AOp.callM [_, _] (must_c [_, _, _] (by simp)) (by first | exact LeL.eq rfl | (repeat constructor)) rfl (fun hok => ?_) (fun hno => ?_))
  ·
    refine AOps.nil ?_
    refine ACode.seq ?_
    refine ACode.region ?_
    refine AOps.v rfl rfl rfl (AVal.fieldP rfl rfl) ?_
    refine AOps.v rfl rfl rfl (AVal.loadPN 1 rfl rfl rfl rfl (by constructor)) ?_
    refine AOps.v rfl rfl rfl (AVal.fieldP rfl rfl) ?_
    refine AOps.v rfl rfl rfl (AVal.loadPN 0 rfl rfl rfl rfl (by constructor)) ?_
    refine AOps.e rfl rfl rfl (AOp.callM [_, _] (scopeRight_c nl nt t.levels (ht.llen) (fun l hl => ht.plen hl)) (by first | exact LeL.eq rfl | (repeat constructor)) rfl (fun hok2 => ?_) (fun hno2 => ?_))
    ·
      refine AOps.nil ?_
      refine ACode.seq ?_
      refine ACode.region ?_
      refine AOps.v rfl rfl rfl (AVal.assignN (by constructor)) ?_
      refine AOps.nil ?_
      refine ACode.ret ?_
      refine AFin.mayRet rfl (.cons rfl .nil) (by repeat first | exact List.Sublist.refl _ | apply List.Sublist.cons_cons | apply List.Sublist.cons) ?_ (by simp only [List.all_cons, List.all_nil, id_eq, Bool.and_true, Bool.and_eq_true, decide_eq_true_eq] at hok; simp [sortB, hok, hok2])
      exact .refl _
    ·
      simp only [List.all_cons, List.all_nil, id_eq, Bool.and_true, Bool.and_eq_true, decide_eq_true_eq] at hok
      exact AFin.mayPan (X := X) (fn := Tryz.f34) rfl (by repeat first | exact List.Sublist.refl _ | apply List.Sublist.cons_cons | apply List.Sublist.cons | exact List.nil_sublist _) (fun e => hno2 (by simp only [sortB, Bool.and_eq_true] at e; exact e.2))
  ·
    simp only [List.all_cons, List.all_nil, id_eq, Bool.and_true, Bool.and_eq_true, decide_eq_true_eq] at hno
    exact AFin.mayPan (X := X) (fn := Tryz.f34) rfl (by repeat first | exact List.Sublist.refl _ | apply List.Sublist.cons_cons | apply List.Sublist.cons | exact List.nil_sublist _) (fun e => hno (by simp [sortB] at e; simp [e]))

theorem kconst_c (nl nt : Int) (cn : List Int) (bm : Nat) (t : Term) (ht : t.fit 9223372036854775807) (hcn : cn.length ≤ 9223372036854775807) : AMay X 35 [(.agg [.int .i64 nl, .int .i64 (nt), .slc (cn.map (D.int .i64)), .map bm]), encT t] [] (constB nl cn t = true) (.int .i64 0) [] (.iface 50 (.agg [])) [] := by
  refine ACalls.of_code Tryz.func35 rfl (by rfl) (Nat.le_of_ble_eq_true rfl) ?_
  refine ACode.seq ?_
  refine ACode.region ?_
  refine AOps.e rfl rfl rfl (AOp.boxA rfl (fun b2 => ?_))
  refine AOps.e rfl rfl rfl (AOp.boxA rfl (fun b3 => ?_))
  refine AOps.v rfl rfl rfl (AVal.assignN (by constructor)) ?_
  refine AOps.nil ?_
  refine ACode.seq ?_
  refine ACode.region ?_
  refine AOps.v rfl rfl rfl (AVal.fieldP rfl rfl) ?_
  refine AOps.v rfl rfl rfl (AVal.loadPN 0 rfl rfl rfl rfl (by constructor)) ?_
  refine AOps.v rfl rfl rfl (AVal.geq rfl rfl) ?_
  refine AOps.v rfl rfl rfl (AVal.fieldP rfl rfl) ?_
  refine AOps.v rfl rfl rfl (AVal.loadPN 0 rfl rfl rfl rfl (by constructor)) ?_
  refine AOps.v rfl rfl rfl (AVal.fieldP rfl rfl) ?_
  refine AOps.v rfl rfl rfl (AVal.loadPN 1 rfl rfl rfl rfl (by constructor)) ?_
  refine AOps.v rfl rfl rfl (AVal.lenZ rfl rfl) ?_
  refine AOps.v rfl rfl rfl (AVal.lss rfl rfl) ?_
  refine AOps.v rfl rfl rfl (AVal.fieldP rfl rfl) ?_
  refine AOps.v rfl rfl rfl (AVal.loadPN 0 rfl rfl rfl rfl (by constructor)) ?_
  refine AOps.v rfl rfl rfl (AVal.eql rfl rfl) ?_
  refine AOps.e rfl rfl rfl (AOp.buildSlice (es := [.bool _, .bool _, .bool _]) rfl rfl rfl rfl rfl ?_)
  refine AOps.e rfl rfl rfl (AOp.callM [_, _] (must_c [_, _, _] (by simp)) (by first | exact LeL.eq rfl | (repeat constructor)) rfl (fun hok => ?_) (fun hno => ?_))
  ·
    simp only [List.all_cons, List.all_nil, id_eq, Bool.and_true, Bool.and_eq_true, decide_eq_true_eq] at hok
    refine AOps.nil ?_
    refine ACode.seq ?_
    refine ACode.draws [.p 0, .l 1, .p 2, .p 3, .l 4, .p 5, .l 6, .p 7, .p 8, .p 9, .p 10, .e 11 []] mixed (by kernel_rfl) ?_
    refine ASeq.pv rfl rfl rfl rfl (fun L0 => (AVal.fieldP rfl rfl)) ?_
    refine ASeq.lv rfl rfl rfl rfl (HasCell.mk 0 rfl rfl (by constructor)) ?_
    refine ASeq.pv rfl rfl rfl rfl (fun L0 => (AVal.len rfl rfl rfl)) ?_
    refine ASeq.pv rfl rfl rfl rfl (fun L0 => (AVal.fieldP rfl rfl)) ?_
    refine ASeq.lv rfl rfl rfl rfl (HasCell.mk 1 rfl rfl (by constructor)) ?_
    refine ASeq.pv rfl rfl rfl rfl (fun L0 => (AVal.fieldP rfl rfl)) ?_
    refine ASeq.lv rfl rfl rfl rfl (HasCell.mk 0 rfl rfl (by constructor)) ?_
    refine ASeq.pv rfl rfl rfl rfl (fun L0 => (AVal.indexZi rfl rfl rfl rfl rfl ⟨hok.1, hok.2.1⟩)) ?_
    refine ASeq.pv rfl rfl rfl rfl (fun L0 => (AVal.loadEN rfl rfl rfl (by constructor))) ?_
    refine ASeq.pv rfl rfl rfl rfl (fun L0 => (AVal.eql rfl rfl)) ?_
    refine ASeq.pe rfl rfl rfl rfl (fun L0 => (AOp.buildSlice (es := [.bool _]) rfl rfl rfl rfl rfl ⟨rfl, rfl⟩)) ?_
    refine ASeq.ee rfl rfl rfl rfl rfl (AOp.callM [_, _] (must_c [_] (by simp)) (by first | exact LeL.eq rfl | (repeat constructor)) rfl (fun hok3 => ⟨(by first | exact Keeps.nil | (repeat first | exact Keeps.nil | refine Keeps.cons (by first | exact HasCell.mk 0 rfl rfl (.refl _) | exact HasCell.mk 1 rfl rfl (.refl _) | exact HasCell.mk 2 rfl rfl (.refl _) | exact HasCell.mk 3 rfl rfl (.refl _) | exact HasCell.mk 4 rfl rfl (.refl _) | exact HasCell.mk 5 rfl rfl (.refl _) | exact HasCell.mk 6 rfl rfl (.refl _) | exact HasCell.mk 7 rfl rfl (.refl _)) ?_)), ?_⟩) (fun hno3 => ?_))
    ·
      refine ASeq.nil ?_
      refine ACode.seq ?_
      refine ACode.region ?_
      refine AOps.v rfl rfl rfl (AVal.fieldP rfl rfl) ?_
      refine AOps.v rfl rfl rfl (AVal.loadPN 1 rfl rfl rfl rfl (by constructor)) ?_
      refine AOps.v rfl rfl rfl (AVal.fieldP rfl rfl) ?_
      refine AOps.v rfl rfl rfl (AVal.loadPN 0 rfl rfl rfl rfl (by constructor)) ?_
      refine AOps.e rfl rfl rfl (AOp.callM [_, _] (scopeRight_c nl nt t.levels (ht.llen) (fun l hl => ht.plen hl)) (by first | exact LeL.eq rfl | (repeat constructor)) rfl (fun hok2 => ?_) (fun hno2 => ?_))
      ·
        refine AOps.nil ?_
        refine ACode.seq ?_
        refine ACode.region ?_
        refine AOps.v rfl rfl rfl (AVal.assignN (by constructor)) ?_
        refine AOps.nil ?_
        refine ACode.ret ?_
        refine AFin.mayRet rfl (.cons rfl .nil) (by repeat first | exact List.Sublist.refl _ | apply List.Sublist.cons_cons | apply List.Sublist.cons) ?_ (by simp only [List.all_cons, List.all_nil, id_eq, Bool.and_true, Bool.and_eq_true, decide_eq_true_eq] at hok3; simp only [constB, Bool.and_eq_true, decide_eq_true_eq]; exact ⟨⟨⟨⟨hok.1, hok.2.1⟩, hok.2.2⟩, hok3⟩, hok2⟩)
        exact .refl _
      ·
        exact AFin.mayPan (X := X) (fn := Tryz.f35) rfl (by repeat first | exact List.Sublist.refl _ | apply List.Sublist.cons_cons | apply List.Sublist.cons | exact List.nil_sublist _) (fun e => hno2 (by simp only [constB, Bool.and_eq_true] at e; exact e.2))
    ·
      simp only [List.all_cons, List.all_nil, id_eq, Bool.and_true, Bool.and_eq_true, decide_eq_true_eq] at hno3
      exact AFin.mayPan (X := X) (fn := Tryz.f35) rfl (by repeat first | exact List.Sublist.refl _ | apply List.Sublist.cons_cons | apply List.Sublist.cons | exact List.nil_sublist _) (fun e => hno3 (by simp only [constB, Bool.and_eq_true, decide_eq_true_eq] at e; rw [e.1.2]))
  ·
    simp only [List.all_cons, List.all_nil, id_eq, Bool.and_true, Bool.and_eq_true, decide_eq_true_eq] at hno
    exact AFin.mayPan (X := X) (fn := Tryz.f35) rfl (by repeat first | exact List.Sublist.refl _ | apply List.Sublist.cons_cons | apply List.Sublist.cons | exact List.nil_sublist _) (fun e => hno (by simp only [constB, Bool.and_eq_true, decide_eq_true_eq] at e; exact ⟨e.1.1.1.1, e.1.1.1.2, e.1.1.2⟩))

end Sp

/- The walks of core.Right: the table, the walk, what is told. Written by a program of mine. -/
set_option linter.unusedVariables false
set_option linter.unusedSimpArgs false
set_option maxRecDepth 20000
namespace Sp
open Go Go.Proofs

def KM : List (Int × D) := [(1, .func (.func 33) [] []), (2, .func (.func 34) [] []), (3, .func (.func 35) [] []), (4, .func (.func 36) [] []), (5, .func (.func 36) [] []), (6, .func (.func 36) [] []), (7, .func (.func 37) [] []), (12, .func (.func 36) [] []), (13, .func (.func 36) [] []), (14, .func (.func 38) [] []), (15, .func (.func 38) [] []), (16, .func (.func 36) [] []), (17, .func (.func 36) [] []), (18, .func (.func 39) [] []), (19, .func (.func 37) [] []), (20, .func (.func 40) [] []), (21, .func (.func 41) [] []), (22, .func (.func 42) [] []), (23, .func (.func 43) [] []), (24, .func (.func 44) [] [])]

theorem kindsC_c  : ACalls X 22 [] [] (fun r L' => ∃ b, r = .ret (.map b) ∧ L' = [(b, .map KM)]) := by
  refine ACalls.of_code Tryz.func22 rfl (by rfl) (Nat.le_of_ble_eq_true rfl) ?_
  refine ACode.seq ?_
  refine ACode.region ?_
  refine AOps.v rfl rfl rfl (AVal.assignN (by constructor)) ?_
  refine AOps.nil ?_
  refine ACode.seq ?_
  refine ACode.region ?_
  refine AOps.e rfl rfl rfl (AOp.makeMapN (fun mb => ?_))
  refine AOps.e0 rfl rfl (AOp.insertN (e := 82) 0 rfl rfl rfl (by kernel_rfl) (by repeat constructor) rfl (by repeat constructor) ?_)
  refine AOps.e0 rfl rfl (AOp.insertN (e := 82) 0 rfl rfl rfl (by kernel_rfl) (by repeat constructor) rfl (by repeat constructor) ?_)
  refine AOps.e0 rfl rfl (AOp.insertN (e := 82) 0 rfl rfl rfl (by kernel_rfl) (by repeat constructor) rfl (by repeat constructor) ?_)
  refine AOps.e0 rfl rfl (AOp.insertN (e := 82) 0 rfl rfl rfl (by kernel_rfl) (by repeat constructor) rfl (by repeat constructor) ?_)
  refine AOps.e0 rfl rfl (AOp.insertN (e := 82) 0 rfl rfl rfl (by kernel_rfl) (by repeat constructor) rfl (by repeat constructor) ?_)
  refine AOps.e0 rfl rfl (AOp.insertN (e := 82) 0 rfl rfl rfl (by kernel_rfl) (by repeat constructor) rfl (by repeat constructor) ?_)
  refine AOps.e0 rfl rfl (AOp.insertN (e := 82) 0 rfl rfl rfl (by kernel_rfl) (by repeat constructor) rfl (by repeat constructor) ?_)
  refine AOps.e0 rfl rfl (AOp.insertN (e := 82) 0 rfl rfl rfl (by kernel_rfl) (by repeat constructor) rfl (by repeat constructor) ?_)
  refine AOps.e0 rfl rfl (AOp.insertN (e := 82) 0 rfl rfl rfl (by kernel_rfl) (by repeat constructor) rfl (by repeat constructor) ?_)
  refine AOps.e0 rfl rfl (AOp.insertN (e := 82) 0 rfl rfl rfl (by kernel_rfl) (by repeat constructor) rfl (by repeat constructor) ?_)
  refine AOps.e0 rfl rfl (AOp.insertN (e := 82) 0 rfl rfl rfl (by kernel_rfl) (by repeat constructor) rfl (by repeat constructor) ?_)
  refine AOps.e0 rfl rfl (AOp.insertN (e := 82) 0 rfl rfl rfl (by kernel_rfl) (by repeat constructor) rfl (by repeat constructor) ?_)
  refine AOps.e0 rfl rfl (AOp.insertN (e := 82) 0 rfl rfl rfl (by kernel_rfl) (by repeat constructor) rfl (by repeat constructor) ?_)
  refine AOps.e0 rfl rfl (AOp.insertN (e := 82) 0 rfl rfl rfl (by kernel_rfl) (by repeat constructor) rfl (by repeat constructor) ?_)
  refine AOps.e0 rfl rfl (AOp.insertN (e := 82) 0 rfl rfl rfl (by kernel_rfl) (by repeat constructor) rfl (by repeat constructor) ?_)
  refine AOps.e0 rfl rfl (AOp.insertN (e := 82) 0 rfl rfl rfl (by kernel_rfl) (by repeat constructor) rfl (by repeat constructor) ?_)
  refine AOps.e0 rfl rfl (AOp.insertN (e := 82) 0 rfl rfl rfl (by kernel_rfl) (by repeat constructor) rfl (by repeat constructor) ?_)
  refine AOps.e0 rfl rfl (AOp.insertN (e := 82) 0 rfl rfl rfl (by kernel_rfl) (by repeat constructor) rfl (by repeat constructor) ?_)
  refine AOps.e0 rfl rfl (AOp.insertN (e := 82) 0 rfl rfl rfl (by kernel_rfl) (by repeat constructor) rfl (by repeat constructor) ?_)
  refine AOps.e0 rfl rfl (AOp.insertN (e := 82) 0 rfl rfl rfl (by kernel_rfl) (by repeat constructor) rfl (by repeat constructor) ?_)
  refine AOps.v rfl rfl rfl (AVal.moveN (by constructor)) ?_
  refine AOps.v rfl rfl rfl (AVal.assignN (by constructor)) ?_
  refine AOps.nil ?_
  refine ACode.ret ?_
  refine AFin.ret (X := X) (fn := Tryz.f22) (R := fun r L' => ∃ b, r = .ret (.map b) ∧ L' = [(b, .map KM)]) (L' := [(mb, .map KM)]) rfl (.cons rfl .nil) (by repeat first | exact List.Sublist.refl _ | apply List.Sublist.cons_cons | apply List.Sublist.cons | exact List.nil_sublist _) (.refl _) ⟨mb, rfl, rfl⟩

theorem callKinds {ρ : Operand → D} {L : Loc} {dst : Option Tmp} {ty : TypeId} {pos : String} {after : Array Edge} {guard : Option (Nat × Bool)} {K Kp : D → Loc → Prop} {xs : Array Operand} {tys : Array TypeId} (hx : xs.toList.map ρ = [])
    (h : ∀ b, K (.map b) (L ++ [(b, .map KM)])) : AOp X ⟨dst, .call ⟨.value (.func 22), xs, tys⟩, ty, pos, after, guard⟩ ρ L K Kp :=
  AOp.callB L kindsC_c (LeL.eq hx) (by simp) (fun d L' h' => by
    obtain ⟨b, e, rfl⟩ := h'
    cases e; exact h b) (fun d L' h' => by obtain ⟨b, e, _⟩ := h'; cases e)

theorem scopeBelow_c (nl nt : Int) (h : 0 ≤ nt ∧ nt ≤ 4611686018427387904) : AFn X 46 [.agg [.int .i64 nl, .int .i64 nt], .int .i64 1] (.agg [.int .i64 nl, .int .i64 (nt + 1)]) := by
  refine ACalls.of_code Tryz.func46 rfl (by rfl) (Nat.le_of_ble_eq_true rfl) ?_
  refine ACode.seq ?_
  refine ACode.region ?_
  refine AOps.e rfl rfl rfl (AOp.boxA rfl (fun b2 => ?_))
  refine AOps.e rfl rfl rfl (AOp.allocN rfl rfl (fun b4 => ?_))
  refine AOps.nil ?_
  refine ACode.seq ?_
  refine ACode.region ?_
  refine AOps.v rfl rfl rfl (AVal.fieldP rfl rfl) ?_
  refine AOps.v rfl rfl rfl (AVal.loadPN 1 rfl rfl rfl rfl (by constructor)) ?_
  refine AOps.v rfl rfl rfl (AVal.fieldP rfl rfl) ?_
  refine AOps.v rfl rfl rfl (AVal.loadPN 1 rfl rfl rfl rfl (by constructor)) ?_
  refine AOps.v rfl rfl rfl (AVal.moveN (by constructor)) ?_
  refine AOps.v rfl rfl rfl (AVal.addn rfl rfl (by omega)) ?_
  refine AOps.v rfl rfl rfl (AVal.build rfl rfl rfl) ?_
  refine AOps.e0 rfl rfl (AOp.storeN 0 rfl rfl rfl (by constructor) rfl rfl rfl (by repeat constructor) (by repeat constructor) ?_)
  refine AOps.nil ?_
  refine ACode.ret ?_
  refine AFin.pureRet rfl (.cons (by first | exact ARead.box 0 rfl rfl rfl rfl | exact ARead.box 1 rfl rfl rfl rfl | exact ARead.box 2 rfl rfl rfl rfl | exact ARead.box 3 rfl rfl rfl rfl | exact ARead.box 4 rfl rfl rfl rfl | exact ARead.box 5 rfl rfl rfl rfl | exact ARead.box 6 rfl rfl rfl rfl | exact ARead.box 7 rfl rfl rfl rfl) .nil) ?_
  exact .refl _

theorem right_in (nl nt : Int) (cn : List Int) (bm : Nat) (t : Term) (ht : t.fit 9223372036854775807) (f : FuncId) (ok : Prop) (m : Int) (h0 : 0 ≤ nt) (h1 : nt ≤ 4611686018427387904) (hget : mget KM t.kind = some (.func (.func f) [] [])) (hc : AMay X f [(.agg [.int .i64 nl, .int .i64 (nt), .slc (cn.map (D.int .i64)), .map bm]), encT t] [] ok (.int .i64 m) [] (.iface 50 (.agg [])) []) (ih : ∀ k ∈ t.kids, ∀ nu : Int, 0 ≤ nu → nu ≤ nt + 1 → AMay X 23 [(.agg [.int .i64 nl, .int .i64 (nu), .slc (cn.map (D.int .i64)), .map bm]), encT k] [(bm, .map KM)] (rightM nl cn nu k = true) (.tup []) [(bm, .map KM)] (.iface 50 (.agg [])) [(bm, .map KM)]) : AMay X 23 [(.agg [.int .i64 nl, .int .i64 (nt), .slc (cn.map (D.int .i64)), .map bm]), encT t] [(bm, .map KM)] (ok ∧ (t.kids.length : Int) = m ∧ rightsM nl cn nt t.kind 0 t.kids = true) (.tup []) [(bm, .map KM)] (.iface 50 (.agg [])) [(bm, .map KM)] := by
  refine ACalls.of_code Tryz.func23 rfl (by rfl) (Nat.le_of_ble_eq_true rfl) ?_
  refine ACode.seq ?_
  refine ACode.region ?_
  refine AOps.e rfl rfl rfl (AOp.boxA rfl (fun b2 => ?_))
  refine AOps.e rfl rfl rfl (AOp.boxA rfl (fun b3 => ?_))
  refine AOps.nil ?_
  refine ACode.seq ?_
  refine ACode.region ?_
  refine AOps.v rfl rfl rfl (AVal.fieldP rfl rfl) ?_
  refine AOps.v rfl rfl rfl (AVal.loadPN 1 rfl rfl rfl rfl (by constructor)) ?_
  refine AOps.v rfl rfl rfl (AVal.fieldP rfl rfl) ?_
  refine AOps.v rfl rfl rfl (AVal.loadPN 0 rfl rfl rfl rfl (by constructor)) ?_
  refine AOps.v rfl rfl rfl (AVal.lookupOk (e := 82) (d0 := .nilf) (d1 := .func (.func f) [] []) (ok := true) 2 rfl rfl rfl (by kernel_rfl) (by kernel_rfl) (by rw [hget]; rfl) (by rw [hget]; rfl)) ?_
  refine AOps.v rfl rfl rfl (AVal.moveN (by constructor)) ?_
  refine AOps.v rfl rfl rfl (AVal.extractN rfl rfl (by constructor)) ?_
  refine AOps.v rfl rfl rfl (AVal.extractN rfl rfl (by constructor)) ?_
  refine AOps.v rfl rfl rfl (AVal.assignN (by constructor)) ?_
  refine AOps.v rfl rfl rfl (AVal.assignN (by constructor)) ?_
  refine AOps.nil ?_
  refine ACode.seq ?_
  refine ACode.region ?_
  refine AOps.v rfl rfl rfl (AVal.moveN (by constructor)) ?_
  refine AOps.e rfl rfl rfl (AOp.buildSlice (es := [.bool _]) rfl rfl rfl rfl rfl ?_)
  refine AOps.e rfl rfl rfl (AOp.callM [_, _, _] (must_c [_] (by simp)) (by first | exact LeL.eq rfl | (repeat constructor)) rfl (fun hok1 => ?_) (fun hno1 => ?_))
  ·
    refine AOps.nil ?_
    refine ACode.seq ?_
    refine ACode.draws [.p 0, .l 1, .p 2, .p 3, .l 4, .l 5, .e 6 [1], .p 7, .p 8, .e 9 []] mixed (by kernel_rfl) ?_
    refine ASeq.pv rfl rfl rfl rfl (fun L0 => (AVal.fieldP rfl rfl)) ?_
    refine ASeq.lv rfl rfl rfl rfl (HasCell.mk 0 rfl rfl (by constructor)) ?_
    refine ASeq.pv rfl rfl rfl rfl (fun L0 => (AVal.len rfl rfl rfl)) ?_
    refine ASeq.pv rfl rfl rfl rfl (fun L0 => (AVal.moveN (by constructor))) ?_
    refine ASeq.lv rfl rfl rfl rfl (HasCell.mk 1 rfl rfl (by constructor)) ?_
    refine ASeq.lv rfl rfl rfl rfl (HasCell.mk (d := encT _) 0 rfl rfl (.refl _)) ?_
    refine ASeq.ee rfl rfl rfl rfl rfl (AOp.callVM [_, _, _] rfl hc (LeL.eq rfl) rfl (fun hok => ⟨(by first | exact Keeps.nil | (repeat first | exact Keeps.nil | refine Keeps.cons (by first | exact HasCell.mk 0 rfl rfl (.refl _) | exact HasCell.mk 1 rfl rfl (.refl _) | exact HasCell.mk 2 rfl rfl (.refl _) | exact HasCell.mk 3 rfl rfl (.refl _) | exact HasCell.mk 4 rfl rfl (.refl _) | exact HasCell.mk 5 rfl rfl (.refl _) | exact HasCell.mk 6 rfl rfl (.refl _)) ?_)), ?_⟩) (fun hno => ?_))
    ·
      refine ASeq.pv rfl rfl rfl rfl (fun L0 => (AVal.eql rfl rfl)) ?_
      refine ASeq.pe rfl rfl rfl rfl (fun L0 => (AOp.buildSlice (es := [.bool _]) rfl rfl rfl rfl rfl ⟨rfl, rfl⟩)) ?_
      refine ASeq.ee rfl rfl rfl rfl rfl (AOp.callM [_, _, _] (must_c [_] (by simp)) (by first | exact LeL.eq rfl | (repeat constructor)) rfl (fun hok2 => ⟨(by first | exact Keeps.nil | (repeat first | exact Keeps.nil | refine Keeps.cons (by first | exact HasCell.mk 0 rfl rfl (.refl _) | exact HasCell.mk 1 rfl rfl (.refl _) | exact HasCell.mk 2 rfl rfl (.refl _) | exact HasCell.mk 3 rfl rfl (.refl _) | exact HasCell.mk 4 rfl rfl (.refl _) | exact HasCell.mk 5 rfl rfl (.refl _) | exact HasCell.mk 6 rfl rfl (.refl _)) ?_)), ?_⟩) (fun hno2 => ?_))
      ·
        refine ASeq.nil ?_
        refine ACode.seq ?_
        refine ACode.region ?_
        refine AOps.v rfl rfl rfl (AVal.fieldP rfl rfl) ?_
        refine AOps.v rfl rfl rfl (AVal.loadPN 0 rfl rfl rfl rfl (by constructor)) ?_
        refine AOps.v rfl rfl rfl (AVal.len rfl rfl rfl) ?_
        refine AOps.v rfl rfl rfl (AVal.moveN (by constructor)) ?_
        refine AOps.nil ?_
        refine ACode.block ?_
        refine ACode.loop (γ := Nat) (fun g => [(2, .ptr b2 0), (3, .ptr b3 0), (31, .slT t.kids), (32, .int .i64 t.kids.length), (33, .int .i64 g)]) (fun g => [(b3, .cells 27 (cellsT t)), (b2, .cells 58 [.int .i64 nl, .int .i64 nt, .slc (cn.map (D.int .i64)), .map bm]), (bm, .map KM)]) (fun g => g ≤ t.kids.length ∧ rightsM nl cn nt t.kind 0 (t.kids.take g) = true) (fun g => t.kids.length - g) 0 ⟨Nat.zero_le _, by simp [rightsM]⟩ (by repeat first | exact Agree.nil | refine Agree.cons (.refl _) ?_) (by repeat first | exact List.Sublist.refl _ | apply List.Sublist.cons_cons | apply List.Sublist.cons | exact List.nil_sublist _) ?_
        have hlen := ht.len
        rintro i ⟨hi, hg⟩ t1
        simp only at hi hg ⊢
        refine ACode.seq ?_
        refine ACode.region ?_
        refine AOps.v rfl rfl rfl (AVal.lss rfl rfl) ?_
        refine AOps.nil ?_
        refine ACode.seq ?_
        refine ACode.condS rfl (fun h34 => ?_) (fun h34 => ?_)
        ·
          try simp only [decide_eq_true_eq, decide_eq_false_iff_not, Bool.not_eq_true', Bool.not_eq_false', Bool.and_eq_true, Bool.or_eq_true, beq_iff_eq, beq_eq_false_iff_ne] at h34
          have hlt : i < t.kids.length := by omega
          refine ACode.skip ?_
          refine ACode.seq ?_
          refine ACode.block ?_
          refine ACode.seq ?_
          refine ACode.region ?_
          refine AOps.v rfl rfl rfl (AVal.moveN (by constructor)) ?_
          refine AOps.v rfl rfl rfl (AVal.indexTK rfl rfl rfl rfl rfl (by omega)) ?_
          refine AOps.v rfl rfl rfl (AVal.loadE (d := encT _) rfl rfl rfl) ?_
          refine AOps.e rfl rfl rfl (AOp.allocN rfl rfl (fun b7 => ?_))
          refine AOps.v rfl rfl rfl (AVal.assignN (by constructor)) ?_
          refine AOps.e0 rfl rfl (AOp.storeN 0 rfl rfl rfl (by constructor) rfl rfl rfl (by repeat constructor) (by repeat constructor) ?_)
          refine AOps.nil ?_
          refine ACode.seq ?_
          refine ACode.region ?_
          refine AOps.v rfl rfl rfl (AVal.loadPN 2 rfl rfl rfl rfl (by constructor)) ?_
          refine AOps.e rfl rfl rfl (AOp.allocN rfl rfl (fun b8 => ?_))
          refine AOps.e0 rfl rfl (AOp.storeN 0 rfl rfl rfl (by constructor) rfl rfl rfl (by repeat constructor) (by repeat constructor) ?_)
          refine AOps.nil ?_
          refine ACode.seq ?_
          refine ACode.seq ?_
          refine ACode.region ?_
          refine AOps.v rfl rfl rfl (AVal.fieldP rfl rfl) ?_
          refine AOps.v rfl rfl rfl (AVal.loadPN 2 rfl rfl rfl rfl (by constructor)) ?_
          refine AOps.v rfl rfl rfl (AVal.moveN (by constructor)) ?_
          refine AOps.e rfl rfl rfl (AOp.callP (binds_c _ _) (by first | exact LeL.eq rfl | (repeat constructor)) ?_)
          refine AOps.nil ?_
          refine ACode.condS rfl (fun h42 => ?_) (fun h42 => ?_)
          ·
            try simp only [decide_eq_true_eq, decide_eq_false_iff_not, Bool.not_eq_true', Bool.not_eq_false', Bool.and_eq_true, Bool.or_eq_true, beq_iff_eq, beq_eq_false_iff_ne] at h42
            have hnu : (bif binds t.kind (i : Int) then nt + 1 else nt) = nt + 1 := by rw [h42]; rfl
            refine ACode.region ?_
            refine AOps.v rfl rfl rfl (AVal.fieldP rfl rfl) ?_
            refine AOps.v rfl rfl rfl (AVal.loadPN 3 rfl rfl rfl rfl (by constructor)) ?_
            refine AOps.e rfl rfl rfl (AOp.callP (scopeBelow_c nl nt (by omega)) (by first | exact LeL.eq rfl | (repeat constructor)) ?_)
            refine AOps.v rfl rfl rfl (AVal.fieldP rfl rfl) ?_
            refine AOps.e0 rfl rfl (AOp.storeN 0 rfl rfl rfl (by constructor) rfl rfl rfl (by repeat constructor) (by repeat constructor) ?_)
            refine AOps.nil ?_
            refine ACode.region ?_
            refine AOps.v rfl rfl rfl (AVal.loadPN 0 rfl rfl rfl rfl (by constructor)) ?_
            refine AOps.v rfl rfl rfl (AVal.loadP (d := encT _) 1 rfl rfl rfl rfl) ?_
            refine AOps.e rfl rfl rfl (AOp.callM [_, _, _, _] (ih _ (getD_mem hlt) (nt + 1) (by omega) (by omega)) (by first | exact LeL.eq rfl | (repeat constructor)) rfl (fun hok3 => ?_) (fun hno3 => ?_))
            ·
              refine AOps.nil ?_
              refine ACode.region ?_
              refine AOps.v rfl rfl rfl (AVal.addn rfl rfl (by omega)) ?_
              refine AOps.v rfl rfl rfl (AVal.moveN (by constructor)) ?_
              refine AOps.nil ?_
              refine ⟨i + 1, ⟨by omega, by rw [rights_take _ _ _ hlt, hg, Int.zero_add, hnu, hok3]; rfl⟩, by omega, rfl, (by repeat first | exact Agree.nil | refine Agree.cons (.refl _) ?_), (by repeat first | exact List.Sublist.refl _ | apply List.Sublist.cons_cons | apply List.Sublist.cons | exact List.nil_sublist _)⟩
            ·
              exact AFin.mayPan (X := X) (fn := Tryz.f23) rfl (by repeat first | exact List.Sublist.refl _ | apply List.Sublist.cons_cons | apply List.Sublist.cons | exact List.nil_sublist _) (fun e => by have := rights_fall (nl := nl) (cn := cn) (nt := nt) (k := t.kind) hlt (by rw [hnu]; simpa using hno3); rw [this] at e; exact absurd e.2.2 (by simp))
          ·
            try simp only [decide_eq_true_eq, decide_eq_false_iff_not, Bool.not_eq_true', Bool.not_eq_false', Bool.and_eq_true, Bool.or_eq_true, beq_iff_eq, beq_eq_false_iff_ne] at h42
            have hnu : (bif binds t.kind (i : Int) then nt + 1 else nt) = nt := by rw [h42]; rfl
            refine ACode.skip ?_
            refine ACode.region ?_
            refine AOps.v rfl rfl rfl (AVal.loadPN 0 rfl rfl rfl rfl (by constructor)) ?_
            refine AOps.v rfl rfl rfl (AVal.loadP (d := encT _) 1 rfl rfl rfl rfl) ?_
            refine AOps.e rfl rfl rfl (AOp.callM [_, _, _, _] (ih _ (getD_mem hlt) nt (by omega) (by omega)) (by first | exact LeL.eq rfl | (repeat constructor)) rfl (fun hok3 => ?_) (fun hno3 => ?_))
            ·
              refine AOps.nil ?_
              refine ACode.region ?_
              refine AOps.v rfl rfl rfl (AVal.addn rfl rfl (by omega)) ?_
              refine AOps.v rfl rfl rfl (AVal.moveN (by constructor)) ?_
              refine AOps.nil ?_
              refine ⟨i + 1, ⟨by omega, by rw [rights_take _ _ _ hlt, hg, Int.zero_add, hnu, hok3]; rfl⟩, by omega, rfl, (by repeat first | exact Agree.nil | refine Agree.cons (.refl _) ?_), (by repeat first | exact List.Sublist.refl _ | apply List.Sublist.cons_cons | apply List.Sublist.cons | exact List.nil_sublist _)⟩
            ·
              exact AFin.mayPan (X := X) (fn := Tryz.f23) rfl (by repeat first | exact List.Sublist.refl _ | apply List.Sublist.cons_cons | apply List.Sublist.cons | exact List.nil_sublist _) (fun e => by have := rights_fall (nl := nl) (cn := cn) (nt := nt) (k := t.kind) hlt (by rw [hnu]; simpa using hno3); rw [this] at e; exact absurd e.2.2 (by simp))
        ·
          try simp only [decide_eq_true_eq, decide_eq_false_iff_not, Bool.not_eq_true', Bool.not_eq_false', Bool.and_eq_true, Bool.or_eq_true, beq_iff_eq, beq_eq_false_iff_ne] at h34
          refine ACode.exit ?_
          refine AFin.mayEnd rfl .nil (by repeat first | exact List.Sublist.refl _ | apply List.Sublist.cons_cons | apply List.Sublist.cons) ?_ (⟨hok, by simpa using hok2, by rw [List.take_of_length_le (by omega)] at hg; exact hg⟩)
          exact .refl _
      ·
        exact AFin.mayPan (X := X) (fn := Tryz.f23) rfl (by repeat first | exact List.Sublist.refl _ | apply List.Sublist.cons_cons | apply List.Sublist.cons | exact List.nil_sublist _) (fun e => hno2 (by simpa using e.2.1))
    ·
      exact AFin.mayPan (X := X) (fn := Tryz.f23) rfl (by repeat first | exact List.Sublist.refl _ | apply List.Sublist.cons_cons | apply List.Sublist.cons | exact List.nil_sublist _) (fun e => hno e.1)
  ·
    exact absurd (by rfl) hno1

theorem right_none (nl nt : Int) (cn : List Int) (bm : Nat) (t : Term) (hget : mget KM t.kind = none) : AMay X 23 [(.agg [.int .i64 nl, .int .i64 (nt), .slc (cn.map (D.int .i64)), .map bm]), encT t] [(bm, .map KM)] (False) (.tup []) [(bm, .map KM)] (.iface 50 (.agg [])) [(bm, .map KM)] := by
  refine ACalls.of_code Tryz.func23 rfl (by rfl) (Nat.le_of_ble_eq_true rfl) ?_
  refine ACode.seq ?_
  refine ACode.region ?_
  refine AOps.e rfl rfl rfl (AOp.boxA rfl (fun b2 => ?_))
  refine AOps.e rfl rfl rfl (AOp.boxA rfl (fun b3 => ?_))
  refine AOps.nil ?_
  refine ACode.seq ?_
  refine ACode.region ?_
  refine AOps.v rfl rfl rfl (AVal.fieldP rfl rfl) ?_
  refine AOps.v rfl rfl rfl (AVal.loadPN 1 rfl rfl rfl rfl (by constructor)) ?_
  refine AOps.v rfl rfl rfl (AVal.fieldP rfl rfl) ?_
  refine AOps.v rfl rfl rfl (AVal.loadPN 0 rfl rfl rfl rfl (by constructor)) ?_
  refine AOps.v rfl rfl rfl (AVal.lookupOk (e := 82) (d0 := .nilf) (d1 := .nilf) (ok := false) 2 rfl rfl rfl (by kernel_rfl) (by kernel_rfl) (by rw [hget]; rfl) (by rw [hget]; rfl)) ?_
  refine AOps.v rfl rfl rfl (AVal.moveN (by constructor)) ?_
  refine AOps.v rfl rfl rfl (AVal.extractN rfl rfl (by constructor)) ?_
  refine AOps.v rfl rfl rfl (AVal.extractN rfl rfl (by constructor)) ?_
  refine AOps.v rfl rfl rfl (AVal.assignN (by constructor)) ?_
  refine AOps.v rfl rfl rfl (AVal.assignN (by constructor)) ?_
  refine AOps.nil ?_
  refine ACode.seq ?_
  refine ACode.region ?_
  refine AOps.v rfl rfl rfl (AVal.moveN (by constructor)) ?_
  refine AOps.e rfl rfl rfl (AOp.buildSlice (es := [.bool _]) rfl rfl rfl rfl rfl ?_)
  refine AOps.e rfl rfl rfl (AOp.callM [_, _, _] (must_c [_] (by simp)) (LeL.eq rfl) rfl (fun hok => absurd hok (by simp)) (fun hno => ?_))
  exact AFin.mayPan (X := X) (fn := Tryz.f23) rfl (by repeat first | exact List.Sublist.refl _ | apply List.Sublist.cons_cons | apply List.Sublist.cons | exact List.nil_sublist _) (fun e => e)

theorem right_c (nl : Int) (cn : List Int) (bm : Nat) (hcn : cn.length ≤ 9223372036854775807) : ∀ (m : Nat) (t : Term), t.sz = m → t.fit 9223372036854775807 → ∀ nt : Int, 0 ≤ nt → nt + m ≤ 4611686018427387904 →
    AMay X 23 [(.agg [.int .i64 nl, .int .i64 (nt), .slc (cn.map (D.int .i64)), .map bm]), encT t] [(bm, .map KM)] (rightM nl cn nt t = true) (.tup []) [(bm, .map KM)] (.iface 50 (.agg [])) [(bm, .map KM)] := by
  intro m
  induction m using Nat.strongRecOn with
  | _ m ihm =>
  intro t hm ht nt h0 h1
  have ih : ∀ k ∈ t.kids, ∀ nu : Int, 0 ≤ nu → nu ≤ nt + 1 → AMay X 23 [(.agg [.int .i64 nl, .int .i64 (nu), .slc (cn.map (D.int .i64)), .map bm]), encT k] [(bm, .map KM)] (rightM nl cn nu k = true) (.tup []) [(bm, .map KM)] (.iface 50 (.agg [])) [(bm, .map KM)] := fun k hk nu n0 n1 => by
    have := Term.sz_lt hk
    exact ihm k.sz (by omega) k rfl (ht.kid hk) nu n0 (by omega)
  have go : ∀ (f : FuncId) (ok : Bool) (m : Int), mget KM t.kind = some (.func (.func f) [] []) → AMay X f [(.agg [.int .i64 nl, .int .i64 (nt), .slc (cn.map (D.int .i64)), .map bm]), encT t] [] (ok = true) (.int .i64 m) [] (.iface 50 (.agg [])) [] → asksM nl nt cn t = (ok, m) →
      AMay X 23 [(.agg [.int .i64 nl, .int .i64 (nt), .slc (cn.map (D.int .i64)), .map bm]), encT t] [(bm, .map KM)] (rightM nl cn nt t = true) (.tup []) [(bm, .map KM)] (.iface 50 (.agg [])) [(bm, .map KM)] := fun f ok m hg hc ha =>
    (right_in nl nt cn bm t ht f (ok = true) m h0 (by omega) hg hc ih).iff (by rw [rightM_eq, ha]; simp [and_assoc])
  by_cases k1 : t.kind = 1
  · exact go _ _ _ (by rw [k1]; rfl) (kvar_c nl nt cn bm t) (by simp [asksM, k1])
  by_cases k2 : t.kind = 2
  · exact go _ _ _ (by rw [k2]; rfl) (ksort_c nl nt cn bm t ht) (by simp [asksM, k2])
  by_cases k3 : t.kind = 3
  · exact go _ _ _ (by rw [k3]; rfl) (kconst_c nl nt cn bm t ht hcn) (by simp [asksM, k3])
  by_cases k4 : t.kind = 4
  · exact go _ _ _ (by rw [k4]; rfl) (ktwo_c nl nt cn bm t) (by simp [asksM, k4])
  by_cases k5 : t.kind = 5
  · exact go _ _ _ (by rw [k5]; rfl) (ktwo_c nl nt cn bm t) (by simp [asksM, k5])
  by_cases k6 : t.kind = 6
  · exact go _ _ _ (by rw [k6]; rfl) (ktwo_c nl nt cn bm t) (by simp [asksM, k6])
  by_cases k12 : t.kind = 12
  · exact go _ _ _ (by rw [k12]; rfl) (ktwo_c nl nt cn bm t) (by simp [asksM, k12])
  by_cases k13 : t.kind = 13
  · exact go _ _ _ (by rw [k13]; rfl) (ktwo_c nl nt cn bm t) (by simp [asksM, k13])
  by_cases k16 : t.kind = 16
  · exact go _ _ _ (by rw [k16]; rfl) (ktwo_c nl nt cn bm t) (by simp [asksM, k16])
  by_cases k17 : t.kind = 17
  · exact go _ _ _ (by rw [k17]; rfl) (ktwo_c nl nt cn bm t) (by simp [asksM, k17])
  by_cases k7 : t.kind = 7
  · exact go _ _ _ (by rw [k7]; rfl) (kthree_c nl nt cn bm t) (by simp [asksM, k7])
  by_cases k19 : t.kind = 19
  · exact go _ _ _ (by rw [k19]; rfl) (kthree_c nl nt cn bm t) (by simp [asksM, k19])
  by_cases k14 : t.kind = 14
  · exact go _ _ _ (by rw [k14]; rfl) (kone_c nl nt cn bm t) (by simp [asksM, k14])
  by_cases k15 : t.kind = 15
  · exact go _ _ _ (by rw [k15]; rfl) (kone_c nl nt cn bm t) (by simp [asksM, k15])
  by_cases k18 : t.kind = 18
  · exact go _ _ _ (by rw [k18]; rfl) (kfive_c nl nt cn bm t) (by simp [asksM, k18])
  by_cases k20 : t.kind = 20
  · exact go _ _ _ (by rw [k20]; rfl) (kleaf_c nl nt cn bm t) (by simp [asksM, k20])
  by_cases k21 : t.kind = 21
  · exact go _ _ _ (by rw [k21]; rfl) (ksix_c nl nt cn bm t) (by simp [asksM, k21])
  by_cases k22 : t.kind = 22
  · exact go _ _ _ (by rw [k22]; rfl) (kfin_c nl nt cn bm t) (by simp [asksM, k22])
  by_cases k23 : t.kind = 23
  · exact go _ _ _ (by rw [k23]; rfl) (kelem_c nl nt cn bm t) (by simp [asksM, k23])
  by_cases k24 : t.kind = 24
  · exact go _ _ _ (by rw [k24]; rfl) (kcas_c nl nt cn bm t) (by simp [asksM, k24])
  have hget : mget KM t.kind = none := by
    have e : mpos KM t.kind = none := by
      simp only [mpos, KM, List.findIdx?_eq_none_iff, List.mem_cons, List.not_mem_nil, or_false]
      rintro e (rfl | rfl | rfl | rfl | rfl | rfl | rfl | rfl | rfl | rfl | rfl | rfl | rfl | rfl | rfl | rfl | rfl | rfl | rfl | rfl) <;> simp only [decide_eq_false_iff_not] <;> omega
    simp only [mget, e]
  exact (right_none nl nt cn bm t hget).iff ⟨fun e => e.elim, fun e => by
    have ha : asksM nl nt cn t = (false, 0) := by simp [asksM, k1, k2, k3, k4, k5, k6, k7, k12, k13, k14, k15, k16, k17, k18, k19, k20, k21, k22, k23, k24]
    rw [rightM_eq, ha] at e; simp at e⟩

theorem right1_ret (b8 : Nat) (d : D) (R : Loc) : ADef X 20 [.ptr b8 0] ((b8, .cells 4 [d]) :: R) none ((b8, .cells 4 [d]) :: R) := by
  refine ADef.of_code Tryz.func20 rfl (by rfl) (Nat.le_of_ble_eq_true rfl) rfl rfl rfl ?_
  refine ACode.seq ?_
  refine ACode.region ?_
  refine AOps.v rfl rfl rfl (AVal.moveN (by constructor)) ?_
  refine AOps.v rfl rfl rfl (AVal.neqNilF rfl rfl (by kernel_rfl)) ?_
  refine AOps.nil ?_
  refine ACode.condF rfl ?_
  refine ACode.skip ?_
  exact ⟨.inl rfl, rfl, (by repeat first | exact List.Sublist.refl _ | apply List.Sublist.cons_cons | apply List.Sublist.cons | exact List.nil_sublist _)⟩

theorem right1_pan (b8 : Nat) (d : D) (R : Loc) : ADef X 20 [.ptr b8 0] ((b8, .cells 4 [d]) :: R) (some (.iface 50 (.agg []))) ((b8, .cells 4 [.bool false]) :: R) := by
  refine ADef.of_code Tryz.func20 rfl (by rfl) (Nat.le_of_ble_eq_true rfl) rfl rfl rfl ?_
  refine ACode.seq ?_
  refine ACode.region ?_
  refine AOps.v rfl rfl rfl (AVal.moveN (by constructor)) ?_
  refine AOps.v rfl rfl rfl (AVal.neqNilT rfl rfl (by kernel_rfl)) ?_
  refine AOps.nil ?_
  refine ACode.condT rfl ?_
  refine ACode.seq ?_
  refine ACode.seq ?_
  refine ACode.region ?_
  refine AOps.v rfl rfl rfl (AVal.moveN (by constructor)) ?_
  refine AOps.v rfl rfl rfl (AVal.assertOk rfl Tryz.underlying50 rfl) ?_
  refine AOps.v rfl rfl rfl (AVal.moveN (by constructor)) ?_
  refine AOps.v rfl rfl rfl (AVal.extractN rfl rfl (by constructor)) ?_
  refine AOps.v rfl rfl rfl (AVal.extractN rfl rfl (by constructor)) ?_
  refine AOps.e rfl rfl rfl (AOp.allocN rfl rfl (fun b2 => ?_))
  refine AOps.e0 rfl rfl (AOp.storeN 0 rfl rfl rfl (by constructor) rfl rfl rfl (by repeat constructor) (by repeat constructor) ?_)
  refine AOps.v rfl rfl rfl (AVal.assignN (by constructor)) ?_
  refine AOps.nil ?_
  refine ACode.seq ?_
  refine ACode.region ?_
  refine AOps.v rfl rfl rfl (AVal.moveN (by constructor)) ?_
  refine AOps.v rfl rfl rfl (AVal.not rfl) ?_
  refine AOps.nil ?_
  refine ACode.condF rfl ?_
  refine ACode.skip ?_
  refine ACode.region ?_
  refine AOps.e0 rfl rfl (AOp.storeN 1 rfl rfl rfl (by constructor) rfl rfl rfl (by repeat constructor) (by repeat constructor) ?_)
  refine AOps.nil ?_
  exact ⟨.inl rfl, rfl, (by repeat first | exact List.Sublist.refl _ | apply List.Sublist.cons_cons | apply List.Sublist.cons | exact List.nil_sublist _)⟩

def rightTop (nl nt : Int) (cn : List Int) (t : Term) : Bool := decide (0 ≤ nl) && decide (0 ≤ nt) && rightM nl cn nt t

theorem coreRight_c (nl nt : Int) (cn : List Int) (t : Term) (ht : t.fit 9223372036854775807) (hcn : cn.length ≤ 9223372036854775807) (h1 : nt ≤ 1099511627776) (hs : t.sz ≤ 2305843009213693952) : AFn X 7 [.int .i64 nl, .int .i64 nt, .slc (cn.map (D.int .i64)), encT t] (.bool (rightTop nl nt cn t)) := by
  refine ACalls.of_codeD Tryz.func7 rfl (by rfl) (Nat.le_of_ble_eq_true rfl) ?_
  refine ACode.seq ?_
  refine ACode.region ?_
  refine AOps.e rfl rfl rfl (AOp.boxA rfl (fun b7 => ?_))
  refine AOps.e rfl rfl rfl (AOp.allocN rfl rfl (fun b8 => ?_))
  refine AOps.nil ?_
  refine ACode.seq ?_
  refine ACode.region ?_
  refine AOps.v rfl rfl rfl (AVal.makeFunc) ?_
  refine AOps.deferP (ps := [b8]) rfl ?_
  refine AOps.nil ?_
  refine ACode.seq ?_
  refine ACode.region ?_
  refine AOps.v rfl rfl rfl (AVal.moveN (by constructor)) ?_
  refine AOps.v rfl rfl rfl (AVal.geq rfl rfl) ?_
  refine AOps.v rfl rfl rfl (AVal.moveN (by constructor)) ?_
  refine AOps.v rfl rfl rfl (AVal.geq rfl rfl) ?_
  refine AOps.e rfl rfl rfl (AOp.buildSlice (es := [.bool _, .bool _]) rfl rfl rfl rfl rfl ?_)
  refine AOps.e rfl rfl rfl (AOp.callM [_, _] (must_c [_, _] (by simp)) (by first | exact LeL.eq rfl | (repeat constructor)) rfl (fun hok1 => ?_) (fun hno1 => ?_))
  ·
    simp only [List.all_cons, List.all_nil, id_eq, Bool.and_true, Bool.and_eq_true, decide_eq_true_eq] at hok1
    refine AOps.nil ?_
    refine ACode.seq ?_
    refine ACode.draws [.p 0, .p 1, .p 2, .p 3, .l 6, .e 4 [6], .p 5, .e 7 []] mixed (by kernel_rfl) ?_
    refine ASeq.pv rfl rfl rfl rfl (fun L0 => (AVal.moveN (by constructor))) ?_
    refine ASeq.pv rfl rfl rfl rfl (fun L0 => (AVal.moveN (by constructor))) ?_
    refine ASeq.pv rfl rfl rfl rfl (fun L0 => (AVal.build rfl rfl rfl)) ?_
    refine ASeq.pv rfl rfl rfl rfl (fun L0 => (AVal.moveN (by constructor))) ?_
    refine ASeq.lv rfl rfl rfl rfl (HasCell.mk (d := encT _) 1 rfl rfl (.refl _)) ?_
    refine ASeq.ee rfl rfl rfl rfl rfl (callKinds rfl (fun bm => ⟨(by first | exact Keeps.nil | (repeat first | exact Keeps.nil | refine Keeps.cons (by first | exact HasCell.mk 0 rfl rfl (.refl _) | exact HasCell.mk 1 rfl rfl (.refl _) | exact HasCell.mk 2 rfl rfl (.refl _) | exact HasCell.mk 3 rfl rfl (.refl _) | exact HasCell.mk 4 rfl rfl (.refl _) | exact HasCell.mk 5 rfl rfl (.refl _) | exact HasCell.mk 6 rfl rfl (.refl _) | exact HasCell.mk 7 rfl rfl (.refl _)) ?_)), ?_⟩))
    refine ASeq.pv rfl rfl rfl rfl (fun L0 => (AVal.build rfl rfl rfl)) ?_
    refine ASeq.ee rfl rfl rfl rfl rfl (AOp.callM [_, _] (right_c nl cn bm hcn _ t rfl ht nt hok1.2 (by omega)) (by first | exact LeL.eq rfl | (repeat constructor)) rfl (fun hok => ⟨(by first | exact Keeps.nil | (repeat first | exact Keeps.nil | refine Keeps.cons (by first | exact HasCell.mk 0 rfl rfl (.refl _) | exact HasCell.mk 1 rfl rfl (.refl _) | exact HasCell.mk 2 rfl rfl (.refl _) | exact HasCell.mk 3 rfl rfl (.refl _) | exact HasCell.mk 4 rfl rfl (.refl _) | exact HasCell.mk 5 rfl rfl (.refl _) | exact HasCell.mk 6 rfl rfl (.refl _) | exact HasCell.mk 7 rfl rfl (.refl _)) ?_)), ?_⟩) (fun hno => ?_))
    ·
      refine ASeq.nil ?_
      refine ACode.seq ?_
      refine ACode.region ?_
      refine AOps.e0 rfl rfl (AOp.storeN 0 rfl rfl rfl (by constructor) rfl rfl rfl (by repeat constructor) (by repeat constructor) ?_)
      refine AOps.nil ?_
      refine ACode.ret ?_
      refine AFinD.retD (X := X) (fn := Tryz.f7) (R := fun x _ => x = .ret (.bool (rightTop nl nt cn t))) (g := 20) (ps := [b8]) (right1_ret b8 _ _) (.cons (by first | exact ARead.box 0 rfl rfl rfl rfl | exact ARead.box 1 rfl rfl rfl rfl | exact ARead.box 2 rfl rfl rfl rfl | exact ARead.box 3 rfl rfl rfl rfl) .nil) (List.nil_sublist _) (D.Le.eq ?_) rfl
      rw [show rightTop nl nt cn t = true by simp [rightTop, hok1.1, hok1.2, hok]]; rfl
    ·
      refine AFinD.panD (X := X) (fn := Tryz.f7) (R := fun x _ => x = .ret (.bool (rightTop nl nt cn t))) (g := 20) (ps := [b8]) (right1_pan b8 _ _) (.cons (by first | exact ARead.box 0 rfl rfl rfl rfl | exact ARead.box 1 rfl rfl rfl rfl | exact ARead.box 2 rfl rfl rfl rfl | exact ARead.box 3 rfl rfl rfl rfl) .nil) (List.nil_sublist _) (D.Le.eq ?_) rfl
      rw [show rightTop nl nt cn t = false by simp only [rightTop]; rw [Bool.eq_false_iff.2 hno, Bool.and_false]]; rfl
  ·
    simp only [List.all_cons, List.all_nil, id_eq, Bool.and_true, Bool.and_eq_true, decide_eq_true_eq] at hno1
    refine AFinD.panD (X := X) (fn := Tryz.f7) (R := fun x _ => x = .ret (.bool (rightTop nl nt cn t))) (g := 20) (ps := [b8]) (right1_pan b8 _ _) (.cons (by first | exact ARead.box 0 rfl rfl rfl rfl | exact ARead.box 1 rfl rfl rfl rfl | exact ARead.box 2 rfl rfl rfl rfl | exact ARead.box 3 rfl rfl rfl rfl) .nil) (List.nil_sublist _) (D.Le.eq ?_) rfl
    rw [show rightTop nl nt cn t = false by simp only [rightTop]; rw [← Bool.decide_and, decide_eq_false hno1, Bool.false_and]]; rfl

end Sp
