/- Walks of the program's functions and what they compute: contracts of calls; no condition beyond those that each theorem names. -/
import Derived.Test.YtbnknhpebkcpmaaGreatDoorBd
import Derived.Test.YtbnknhpebkcpmaaGreatDoorKc
/- The walks of Whnf and Step. Written by a program of mine. -/
set_option linter.unusedVariables false
set_option linter.unusedSimpArgs false
set_option maxRecDepth 20000
namespace Sp
open Go Go.Proofs

theorem callAt {ρ : Operand → D} {L : Loc} {dst : Option Tmp} {ty : TypeId} {pos : String} {after : Array Edge} {guard : Option (Nat × Bool)} {K Kp : D → Loc → Prop} {xs : Array Operand} {tys : Array TypeId} {cs : List Core} {left : Int} (hx : xs.toList.map ρ = [.slC cs, .int .i64 left])
    (h : ∀ b mb, K (.ptr b 0) (L ++ [(mb, .map (SM b)), (b, .cells 192 (workC (left) cs false false mb))])) : AOp X ⟨dst, .call ⟨.value (.func 161), xs, tys⟩, ty, pos, after, guard⟩ ρ L K Kp :=
  AOp.callB L (at_c cs left) (LeL.eq hx) (by simp) (fun d L' h' => by
    obtain ⟨b, mb, e, rfl⟩ := h'
    cases e; exact h b mb) (fun d L' h' => by obtain ⟨b, mb, e, _⟩ := h'; cases e)

theorem whnf1_ret (b6 b7 b8 : Nat) (d0 d1 d2 d3 d4 d5 d6 : D) (R : Loc) : ADef X 160 [.ptr b6 0, .ptr b7 0, .ptr b8 0] ((b8, .cells 30 [d6]) :: (b7, .cells 3 [d5]) :: (b6, .cells 27 [d0, d1, d2, d3, d4]) :: R) none ((b8, .cells 30 [d6]) :: (b7, .cells 3 [d5]) :: (b6, .cells 27 [d0, d1, d2, d3, d4]) :: R) := by
  refine ADef.of_code Tryz.func160 rfl (by rfl) (Nat.le_of_ble_eq_true rfl) rfl rfl rfl ?_
  refine ACode.seq ?_
  refine ACode.region ?_
  refine AOps.v rfl rfl rfl (AVal.moveN (by constructor)) ?_
  refine AOps.v rfl rfl rfl (AVal.neqNilF rfl rfl (by kernel_rfl)) ?_
  refine AOps.nil ?_
  refine ACode.condF rfl ?_
  refine ACode.skip ?_
  exact ⟨.inl rfl, rfl, (by repeat first | exact List.Sublist.refl _ | apply List.Sublist.cons_cons | apply List.Sublist.cons | exact List.nil_sublist _)⟩

theorem whnf1_pan (b6 b7 b8 : Nat) (d0 d1 d2 d3 d4 d5 d6 : D) (R : Loc) : ADef X 160 [.ptr b6 0, .ptr b7 0, .ptr b8 0] ((b8, .cells 30 [d6]) :: (b7, .cells 3 [d5]) :: (b6, .cells 27 [d0, d1, d2, d3, d4]) :: R) (some (.iface 184 (.agg []))) ((b8, .cells 30 [.int .i64 5]) :: (b7, .cells 3 [.int .i64 0]) :: (b6, .cells 27 [.int .i64 0, .int .i64 0, .int .i64 0, .emp, .emp]) :: R) := by
  refine ADef.of_code Tryz.func160 rfl (by rfl) (Nat.le_of_ble_eq_true rfl) rfl rfl rfl ?_
  refine ACode.seq ?_
  refine ACode.region ?_
  refine AOps.v rfl rfl rfl (AVal.moveN (by constructor)) ?_
  refine AOps.v rfl rfl rfl (AVal.neqNilT rfl rfl (by kernel_rfl)) ?_
  refine AOps.nil ?_
  refine ACode.condT rfl ?_
  refine ACode.seq ?_
  refine ACode.seq ?_
  refine ACode.region ?_
  refine AOps.v rfl rfl rfl (AVal.moveN (by constructor)) ?_
  refine AOps.v rfl rfl rfl (AVal.assertOk rfl Tryz.underlying184 rfl) ?_
  refine AOps.v rfl rfl rfl (AVal.moveN (by constructor)) ?_
  refine AOps.v rfl rfl rfl (AVal.extractN rfl rfl (by constructor)) ?_
  refine AOps.v rfl rfl rfl (AVal.extractN rfl rfl (by constructor)) ?_
  refine AOps.e rfl rfl rfl (AOp.allocN rfl rfl (fun b4 => ?_))
  refine AOps.e0 rfl rfl (AOp.storeN 0 rfl rfl rfl (by constructor) rfl rfl rfl (by repeat constructor) (by repeat constructor) ?_)
  refine AOps.v rfl rfl rfl (AVal.assignN (by constructor)) ?_
  refine AOps.nil ?_
  refine ACode.seq ?_
  refine ACode.region ?_
  refine AOps.v rfl rfl rfl (AVal.moveN (by constructor)) ?_
  refine AOps.v rfl rfl rfl (AVal.not rfl) ?_
  refine AOps.nil ?_
  refine ACode.condF rfl ?_
  refine ACode.skip ?_
  refine ACode.region ?_
  refine AOps.v rfl rfl rfl (AVal.build rfl rfl rfl) ?_
  refine AOps.e0 rfl rfl (AOp.storeN 3 rfl rfl rfl (by constructor) rfl rfl rfl (by repeat constructor) (by repeat constructor) ?_)
  refine AOps.e0 rfl rfl (AOp.storeN 2 rfl rfl rfl (by constructor) rfl rfl rfl (by repeat constructor) (by repeat constructor) ?_)
  refine AOps.e0 rfl rfl (AOp.storeN 1 rfl rfl rfl (by constructor) rfl rfl rfl (by repeat constructor) (by repeat constructor) ?_)
  refine AOps.nil ?_
  exact ⟨.inl rfl, rfl, (by repeat first | exact List.Sublist.refl _ | apply List.Sublist.cons_cons | apply List.Sublist.cons | exact List.nil_sublist _)⟩

theorem whnf_c {t : Term} {fuel : Int} (hS : SortedOk) (cs : List Core) (hc : 0 ≤ fuel ∧ fuel ≤ 1073741824 → CoresOk cs ∧ t.fit 1099511627776 ∧ (psz t : Int) + 7 * fuel ≤ 268435456) : AFn X 125 [.slC cs, encT t, .int .i64 fuel] (.tup [encT (whnfM cs t fuel).1, .int .i64 (whnfM cs t fuel).2.1, .int .i64 (whnfM cs t fuel).2.2]) := by
  refine ACalls.of_codeD Tryz.func125 rfl (by rfl) (Nat.le_of_ble_eq_true rfl) ?_
  refine ACode.seq ?_
  refine ACode.region ?_
  refine AOps.e rfl rfl rfl (AOp.boxA rfl (fun b4 => ?_))
  refine AOps.e rfl rfl rfl (AOp.allocN rfl rfl (fun b6 => ?_))
  refine AOps.e rfl rfl rfl (AOp.allocN rfl rfl (fun b7 => ?_))
  refine AOps.e rfl rfl rfl (AOp.allocN rfl rfl (fun b8 => ?_))
  refine AOps.nil ?_
  refine ACode.seq ?_
  refine ACode.seq ?_
  refine ACode.region ?_
  refine AOps.v rfl rfl rfl (AVal.moveN (by constructor)) ?_
  refine AOps.v rfl rfl rfl (AVal.lss rfl rfl) ?_
  refine AOps.v rfl rfl rfl (AVal.moveN (by constructor)) ?_
  refine AOps.split 12 rfl (fun h12 => ?_) (fun h12 => ?_)
  ·
    try simp only [decide_eq_true_eq, decide_eq_false_iff_not, Bool.not_eq_true', Bool.not_eq_false', Bool.and_eq_true, Bool.or_eq_true, beq_iff_eq, beq_eq_false_iff_ne] at h12
    refine AOps.vF rfl rfl rfl rfl rfl rfl rfl ?_
    refine AOps.vF rfl rfl rfl rfl rfl rfl rfl ?_
    refine AOps.v rfl rfl rfl (AVal.pickT rfl (by constructor)) ?_
    refine AOps.nil ?_
    refine ACode.condT rfl ?_
    refine ACode.seq ?_
    refine ACode.region ?_
    refine AOps.v rfl rfl rfl (AVal.loadPN 2 rfl rfl rfl rfl (by constructor)) ?_
    refine AOps.e0 rfl rfl (AOp.storeN 2 rfl rfl rfl (by constructor) rfl rfl rfl (by repeat constructor) (by repeat constructor) ?_)
    refine AOps.e0 rfl rfl (AOp.storeN 1 rfl rfl rfl (by constructor) rfl rfl rfl (by repeat constructor) (by repeat constructor) ?_)
    refine AOps.e0 rfl rfl (AOp.storeN 0 rfl rfl rfl (by constructor) rfl rfl rfl (by repeat constructor) (by repeat constructor) ?_)
    refine AOps.nil ?_
    refine ACode.ret ?_
    refine AFinD.ret0 (X := X) (fn := Tryz.f125) (R := fun r _ => r = .ret (.tup [encT (whnfM cs t fuel).1, .int .i64 (whnfM cs t fuel).2.1, .int .i64 (whnfM cs t fuel).2.2])) (.cons (by first | exact ARead.box (d := encT _) 0 rfl rfl rfl rfl | exact ARead.box (d := encT _) 1 rfl rfl rfl rfl | exact ARead.box (d := encT _) 2 rfl rfl rfl rfl | exact ARead.box 0 rfl rfl rfl rfl | exact ARead.box 1 rfl rfl rfl rfl | exact ARead.box 2 rfl rfl rfl rfl) (.cons (by first  | exact ARead.box 0 rfl rfl rfl rfl | exact ARead.box 1 rfl rfl rfl rfl | exact ARead.box 2 rfl rfl rfl rfl) (.cons (by first  | exact ARead.box 0 rfl rfl rfl rfl | exact ARead.box 1 rfl rfl rfl rfl | exact ARead.box 2 rfl rfl rfl rfl) .nil))) (List.nil_sublist _) ?_ rfl
    rw [whnfM_arg (by omega)]
    exact tupLe (.cons (leT' .emp .emp rfl) (.cons (.refl _) (.cons (.refl _) .nil)))
  ·
    try simp only [decide_eq_true_eq, decide_eq_false_iff_not, Bool.not_eq_true', Bool.not_eq_false', Bool.and_eq_true, Bool.or_eq_true, beq_iff_eq, beq_eq_false_iff_ne] at h12
    refine AOps.vT rfl rfl rfl rfl rfl rfl (AVal.moveN (by constructor)) ?_
    refine AOps.vT rfl rfl rfl rfl rfl rfl (AVal.gtr rfl rfl) ?_
    refine AOps.v rfl rfl rfl (AVal.pickF rfl (by constructor)) ?_
    refine AOps.nil ?_
    refine ACode.condS rfl (fun h15 => ?_) (fun h15 => ?_)
    ·
      try simp only [decide_eq_true_eq, decide_eq_false_iff_not, Bool.not_eq_true', Bool.not_eq_false', Bool.and_eq_true, Bool.or_eq_true, beq_iff_eq, beq_eq_false_iff_ne] at h15
      refine ACode.seq ?_
      refine ACode.region ?_
      refine AOps.v rfl rfl rfl (AVal.loadPN 2 rfl rfl rfl rfl (by constructor)) ?_
      refine AOps.e0 rfl rfl (AOp.storeN 2 rfl rfl rfl (by constructor) rfl rfl rfl (by repeat constructor) (by repeat constructor) ?_)
      refine AOps.e0 rfl rfl (AOp.storeN 1 rfl rfl rfl (by constructor) rfl rfl rfl (by repeat constructor) (by repeat constructor) ?_)
      refine AOps.e0 rfl rfl (AOp.storeN 0 rfl rfl rfl (by constructor) rfl rfl rfl (by repeat constructor) (by repeat constructor) ?_)
      refine AOps.nil ?_
      refine ACode.ret ?_
      refine AFinD.ret0 (X := X) (fn := Tryz.f125) (R := fun r _ => r = .ret (.tup [encT (whnfM cs t fuel).1, .int .i64 (whnfM cs t fuel).2.1, .int .i64 (whnfM cs t fuel).2.2])) (.cons (by first | exact ARead.box (d := encT _) 0 rfl rfl rfl rfl | exact ARead.box (d := encT _) 1 rfl rfl rfl rfl | exact ARead.box (d := encT _) 2 rfl rfl rfl rfl | exact ARead.box 0 rfl rfl rfl rfl | exact ARead.box 1 rfl rfl rfl rfl | exact ARead.box 2 rfl rfl rfl rfl) (.cons (by first  | exact ARead.box 0 rfl rfl rfl rfl | exact ARead.box 1 rfl rfl rfl rfl | exact ARead.box 2 rfl rfl rfl rfl) (.cons (by first  | exact ARead.box 0 rfl rfl rfl rfl | exact ARead.box 1 rfl rfl rfl rfl | exact ARead.box 2 rfl rfl rfl rfl) .nil))) (List.nil_sublist _) ?_ rfl
      rw [whnfM_arg (by omega)]
      exact tupLe (.cons (leT' .emp .emp rfl) (.cons (.refl _) (.cons (.refl _) .nil)))
    ·
      try simp only [decide_eq_true_eq, decide_eq_false_iff_not, Bool.not_eq_true', Bool.not_eq_false', Bool.and_eq_true, Bool.or_eq_true, beq_iff_eq, beq_eq_false_iff_ne] at h15
      obtain ⟨hC, hF, hZ⟩ := hc (by omega)
      have hR := multi_ok hC _ t fuel false rfl hF (by omega) hZ
      refine ACode.skip ?_
      refine ACode.seq ?_
      refine ACode.region ?_
      refine AOps.v rfl rfl rfl (AVal.makeFunc) ?_
      refine AOps.deferP (ps := [b6, b7, b8]) rfl ?_
      refine AOps.nil ?_
      refine ACode.seq ?_
      refine ACode.region ?_
      refine AOps.v rfl rfl rfl (AVal.moveN (by constructor)) ?_
      refine AOps.v rfl rfl rfl (AVal.moveN (by constructor)) ?_
      refine AOps.e rfl rfl rfl (callAt (cs := cs) (left := fuel) rfl (fun b mb => ?_))
      simp only [List.cons_append, List.nil_append]
      refine AOps.v rfl rfl rfl (AVal.assignN (by constructor)) ?_
      refine AOps.nil ?_
      refine ACode.seq ?_
      refine ACode.region ?_
      refine AOps.v rfl rfl rfl (AVal.moveN (by constructor)) ?_
      refine AOps.v rfl rfl rfl (AVal.loadP (d := encT _) 3 rfl rfl rfl rfl) ?_
      refine AOps.e rfl rfl rfl (AOp.callM [_, _, _, _] (head_c hS b mb cs hC _ fuel rfl _ t rfl false (by omega) hF hZ) (by first | exact LeL.eq rfl | (repeat constructor)) rfl (fun hokR => ?_) (fun hno => ?_))
      ·
        refine AOps.e rfl rfl rfl (AOp.callP (lift_c _ 0 0 (hR.2.2 hokR).1 (by have := (hR.2.2 hokR).2; omega)) (by first | exact LeL.eq rfl | (repeat constructor)) ?_)
        refine AOps.e0 rfl rfl (AOp.storeN 2 rfl rfl rfl (by constructor) rfl rfl rfl (by repeat constructor) (by repeat constructor) ?_)
        refine AOps.nil ?_
        refine ACode.seq ?_
        refine ACode.draws [.l 0, .p 1, .p 2, .p 3, .p 4, .l 5, .e 6 [5], .e 7 [], .e 8 []] mixed (by kernel_rfl) ?_
        refine ASeq.lv rfl rfl rfl rfl (HasCell.mk (d := encT _) 2 rfl rfl (.refl _)) ?_
        refine ASeq.pv rfl rfl rfl rfl (fun L0 => (AVal.moveN (by constructor))) ?_
        refine ASeq.pv rfl rfl rfl rfl (fun L0 => (AVal.nilCheckP rfl)) ?_
        refine ASeq.pv rfl rfl rfl rfl (fun L0 => (AVal.fieldP rfl rfl)) ?_
        refine ASeq.pv rfl rfl rfl rfl (fun L0 => (AVal.fieldP rfl rfl)) ?_
        refine ASeq.lv rfl rfl rfl rfl (HasCell.mk 5 rfl rfl (by constructor)) ?_
        refine ASeq.ee0 rfl rfl rfl rfl (AOp.storeN 2 rfl rfl rfl (by constructor) rfl rfl rfl (by repeat constructor) (by repeat constructor) ⟨(by first | exact Keeps.nil | (repeat first | exact Keeps.nil | refine Keeps.cons (by first | exact HasCell.mk 0 rfl rfl (.refl _) | exact HasCell.mk 1 rfl rfl (.refl _) | exact HasCell.mk 2 rfl rfl (.refl _) | exact HasCell.mk 3 rfl rfl (.refl _) | exact HasCell.mk 4 rfl rfl (.refl _) | exact HasCell.mk 5 rfl rfl (.refl _) | exact HasCell.mk 6 rfl rfl (.refl _) | exact HasCell.mk 7 rfl rfl (.refl _)) ?_)), ?_⟩)
        refine ASeq.ee0 rfl rfl rfl rfl (AOp.storeN 1 rfl rfl rfl (by constructor) rfl rfl rfl (by repeat constructor) (by repeat constructor) ⟨(by first | exact Keeps.nil | (repeat first | exact Keeps.nil | refine Keeps.cons (by first | exact HasCell.mk 0 rfl rfl (.refl _) | exact HasCell.mk 1 rfl rfl (.refl _) | exact HasCell.mk 2 rfl rfl (.refl _) | exact HasCell.mk 3 rfl rfl (.refl _) | exact HasCell.mk 4 rfl rfl (.refl _) | exact HasCell.mk 5 rfl rfl (.refl _) | exact HasCell.mk 6 rfl rfl (.refl _) | exact HasCell.mk 7 rfl rfl (.refl _)) ?_)), ?_⟩)
        refine ASeq.ee0 rfl rfl rfl rfl (AOp.storeN 0 rfl rfl rfl (by constructor) rfl rfl rfl (by repeat constructor) (by repeat constructor) ⟨(by first | exact Keeps.nil | (repeat first | exact Keeps.nil | refine Keeps.cons (by first | exact HasCell.mk 0 rfl rfl (.refl _) | exact HasCell.mk 1 rfl rfl (.refl _) | exact HasCell.mk 2 rfl rfl (.refl _) | exact HasCell.mk 3 rfl rfl (.refl _) | exact HasCell.mk 4 rfl rfl (.refl _) | exact HasCell.mk 5 rfl rfl (.refl _) | exact HasCell.mk 6 rfl rfl (.refl _) | exact HasCell.mk 7 rfl rfl (.refl _)) ?_)), ?_⟩)
        refine ASeq.nil ?_
        refine ACode.ret ?_
        refine AFinD.retD (X := X) (fn := Tryz.f125) (R := fun r _ => r = .ret (.tup [encT (whnfM cs t fuel).1, .int .i64 (whnfM cs t fuel).2.1, .int .i64 (whnfM cs t fuel).2.2])) (g := 160) (ps := [b6, b7, b8]) (whnf1_ret b6 b7 b8 _ _ _ _ _ _ _ _) (.cons (by first | exact ARead.box (d := encT _) 0 rfl rfl rfl rfl | exact ARead.box (d := encT _) 1 rfl rfl rfl rfl | exact ARead.box (d := encT _) 2 rfl rfl rfl rfl | exact ARead.box 0 rfl rfl rfl rfl | exact ARead.box 1 rfl rfl rfl rfl | exact ARead.box 2 rfl rfl rfl rfl) (.cons (by first  | exact ARead.box 0 rfl rfl rfl rfl | exact ARead.box 1 rfl rfl rfl rfl | exact ARead.box 2 rfl rfl rfl rfl) (.cons (by first  | exact ARead.box 0 rfl rfl rfl rfl | exact ARead.box 1 rfl rfl rfl rfl | exact ARead.box 2 rfl rfl rfl rfl) .nil))) (List.nil_sublist _) (D.Le.eq ?_) rfl
        rw [whnfM_ok (by omega) hokR, lift00 (hR.2.2 hokR).1]; rfl
      ·
        refine AFinD.panD (X := X) (fn := Tryz.f125) (R := fun r _ => r = .ret (.tup [encT (whnfM cs t fuel).1, .int .i64 (whnfM cs t fuel).2.1, .int .i64 (whnfM cs t fuel).2.2])) (g := 160) (ps := [b6, b7, b8]) (whnf1_pan b6 b7 b8 _ _ _ _ _ _ _ _) (.cons (by first | exact ARead.box (d := encT _) 0 rfl rfl rfl rfl | exact ARead.box (d := encT _) 1 rfl rfl rfl rfl | exact ARead.box (d := encT _) 2 rfl rfl rfl rfl | exact ARead.box 0 rfl rfl rfl rfl | exact ARead.box 1 rfl rfl rfl rfl | exact ARead.box 2 rfl rfl rfl rfl) (.cons (by first  | exact ARead.box 0 rfl rfl rfl rfl | exact ARead.box 1 rfl rfl rfl rfl | exact ARead.box 2 rfl rfl rfl rfl) (.cons (by first  | exact ARead.box 0 rfl rfl rfl rfl | exact ARead.box 1 rfl rfl rfl rfl | exact ARead.box 2 rfl rfl rfl rfl) .nil))) (List.nil_sublist _) ?_ rfl
        rw [whnfM_gone (by omega) hno]
        exact tupLe (.cons (leT' .emp .emp rfl) (.cons (.refl _) (.cons (.refl _) .nil)))

end Sp

/- The walks of levels against each other, of sameness, of conv. Written by a program of mine. -/
set_option linter.unusedVariables false
set_option linter.unusedSimpArgs false
set_option maxRecDepth 20000
namespace Sp
open Go Go.Proofs

theorem eqParts_c (a b : List Part) (hl : a.length ≤ 9223372036854775807) : AFn X 159 [.slP a, .slP b] (.bool (decide (a = b))) := by
  refine ACalls.of_code Tryz.func159 rfl (by rfl) (Nat.le_of_ble_eq_true rfl) ?_
  refine ACode.seq ?_
  refine ACode.region ?_
  refine AOps.v rfl rfl rfl (AVal.assignN (by constructor)) ?_
  refine AOps.nil ?_
  refine ACode.seq ?_
  refine ACode.seq ?_
  refine ACode.region ?_
  refine AOps.v rfl rfl rfl (AVal.moveN (by constructor)) ?_
  refine AOps.v rfl rfl rfl (AVal.len rfl rfl rfl) ?_
  refine AOps.v rfl rfl rfl (AVal.moveN (by constructor)) ?_
  refine AOps.v rfl rfl rfl (AVal.len rfl rfl rfl) ?_
  refine AOps.v rfl rfl rfl (AVal.neq rfl rfl) ?_
  refine AOps.nil ?_
  refine ACode.condS rfl (fun h10 => ?_) (fun h10 => ?_)
  ·
    try simp only [decide_eq_true_eq, decide_eq_false_iff_not, Bool.not_eq_true', Bool.not_eq_false', Bool.and_eq_true, Bool.or_eq_true, beq_iff_eq, beq_eq_false_iff_ne] at h10
    refine ACode.seq ?_
    refine ACode.region ?_
    refine AOps.v rfl rfl rfl (AVal.assignN (by constructor)) ?_
    refine AOps.nil ?_
    refine ACode.ret ?_
    refine AFin.pureRet rfl (.cons rfl .nil) ?_
    exact D.Le.eq (congrArg D.bool (by rw [decide_eq_false (fun e => by subst e; exact h10 rfl)]))
  ·
    try simp only [decide_eq_true_eq, decide_eq_false_iff_not, Bool.not_eq_true', Bool.not_eq_false', Bool.and_eq_true, Bool.or_eq_true, beq_iff_eq, beq_eq_false_iff_ne] at h10
    refine ACode.skip ?_
    refine ACode.seq ?_
    refine ACode.seq ?_
    refine ACode.region ?_
    refine AOps.v rfl rfl rfl (AVal.moveN (by constructor)) ?_
    refine AOps.v rfl rfl rfl (AVal.len rfl rfl rfl) ?_
    refine AOps.v rfl rfl rfl (AVal.moveN (by constructor)) ?_
    refine AOps.nil ?_
    refine ACode.block ?_
    refine ACode.loop (γ := Nat) (fun g => [(0, .slP a), (1, .slP b), (11, .slP a), (12, .int .i64 a.length), (13, .int .i64 g)]) (fun g => []) (fun g => g ≤ a.length ∧ a.take g = b.take g) (fun g => a.length - g) 0 ⟨Nat.zero_le _, by simp⟩ (by repeat first | exact Agree.nil | refine Agree.cons (.refl _) ?_) (by repeat first | exact List.Sublist.refl _ | apply List.Sublist.cons_cons | apply List.Sublist.cons | exact List.nil_sublist _) ?_
    rintro i ⟨hi, hg⟩ t1
    have hab : a.length = b.length := by omega
    refine ACode.seq ?_
    refine ACode.region ?_
    refine AOps.v rfl rfl rfl (AVal.lss rfl rfl) ?_
    refine AOps.nil ?_
    refine ACode.seq ?_
    refine ACode.condS rfl (fun h14 => ?_) (fun h14 => ?_)
    ·
      try simp only [decide_eq_true_eq, decide_eq_false_iff_not, Bool.not_eq_true', Bool.not_eq_false', Bool.and_eq_true, Bool.or_eq_true, beq_iff_eq, beq_eq_false_iff_ne] at h14
      have hlt : i < a.length := by omega
      refine ACode.skip ?_
      refine ACode.seq ?_
      refine ACode.block ?_
      refine ACode.seq ?_
      refine ACode.region ?_
      refine AOps.v rfl rfl rfl (AVal.moveN (by constructor)) ?_
      refine AOps.v rfl rfl rfl (AVal.assignN (by constructor)) ?_
      refine AOps.nil ?_
      refine ACode.seq ?_
      refine ACode.draws [.p 0, .p 1, .p 2, .p 3, .p 4, .p 5, .p 6, .p 7, .p 8] mixed (by kernel_rfl) ?_
      refine ASeq.pv rfl rfl rfl rfl (fun L0 => (AVal.moveN (by constructor))) ?_
      refine ASeq.pv rfl rfl rfl rfl (fun L0 => (AVal.moveN (by constructor))) ?_
      refine ASeq.pv rfl rfl rfl rfl (fun L0 => (AVal.indexPN rfl rfl rfl rfl rfl ⟨by omega, by omega⟩)) ?_
      refine ASeq.pv rfl rfl rfl rfl (fun L0 => (AVal.loadE (d := encP _) rfl rfl rfl)) ?_
      refine ASeq.pv rfl rfl rfl rfl (fun L0 => (AVal.moveN (by constructor))) ?_
      refine ASeq.pv rfl rfl rfl rfl (fun L0 => (AVal.moveN (by constructor))) ?_
      refine ASeq.pv rfl rfl rfl rfl (fun L0 => (AVal.indexPN rfl rfl rfl rfl rfl ⟨by omega, by omega⟩)) ?_
      refine ASeq.pv rfl rfl rfl rfl (fun L0 => (AVal.loadE (d := encP _) rfl rfl rfl)) ?_
      refine ASeq.pv rfl rfl rfl rfl (fun L0 => (AVal.neqPart rfl rfl (by kernel_rfl))) ?_
      refine ASeq.nil ?_
      refine ACode.condS rfl (fun h24 => ?_) (fun h24 => ?_)
      ·
        try simp only [decide_eq_true_eq, decide_eq_false_iff_not, Bool.not_eq_true', Bool.not_eq_false', Bool.and_eq_true, Bool.or_eq_true, beq_iff_eq, beq_eq_false_iff_ne] at h24
        refine ACode.seq ?_
        refine ACode.region ?_
        refine AOps.v rfl rfl rfl (AVal.assignN (by constructor)) ?_
        refine AOps.nil ?_
        refine ACode.ret ?_
        refine AFin.pureRet rfl (.cons rfl .nil) ?_
        exact D.Le.eq (congrArg D.bool (by rw [decide_eq_false (ne_of_getD (by simpa using h24))]))
      ·
        try simp only [decide_eq_true_eq, decide_eq_false_iff_not, Bool.not_eq_true', Bool.not_eq_false', Bool.and_eq_true, Bool.or_eq_true, beq_iff_eq, beq_eq_false_iff_ne] at h24
        refine ACode.skip ?_
        refine ACode.region ?_
        refine AOps.v rfl rfl rfl (AVal.addn rfl rfl (by omega)) ?_
        refine AOps.v rfl rfl rfl (AVal.moveN (by constructor)) ?_
        refine AOps.nil ?_
        refine ⟨i + 1, ⟨by omega, take_eq_succ hab hlt hg (by simpa using h24)⟩, by omega, rfl, (by repeat first | exact Agree.nil | refine Agree.cons (.refl _) ?_), (by repeat first | exact List.Sublist.refl _ | apply List.Sublist.cons_cons | apply List.Sublist.cons | exact List.nil_sublist _)⟩
    ·
      try simp only [decide_eq_true_eq, decide_eq_false_iff_not, Bool.not_eq_true', Bool.not_eq_false', Bool.and_eq_true, Bool.or_eq_true, beq_iff_eq, beq_eq_false_iff_ne] at h14
      refine ACode.exit ?_
      refine ACode.seq ?_
      refine ACode.region ?_
      refine AOps.v rfl rfl rfl (AVal.assignN (by constructor)) ?_
      refine AOps.nil ?_
      refine ACode.ret ?_
      refine AFin.pureRet rfl (.cons rfl .nil) ?_
      exact D.Le.eq (congrArg D.bool (by rw [decide_eq_true (eq_of_take hab (by omega) hg)]))

theorem lvSame_c (hS : SortedOk) (a b : Level) (ha : a.length ≤ 9223372036854775807) (hb : b.length ≤ 9223372036854775807) : AFn X 123 [encL a, encL b] (.bool (lvSame a b)) := by
  refine ACalls.of_code Tryz.func123 rfl (by rfl) (Nat.le_of_ble_eq_true rfl) ?_
  refine ACode.seq ?_
  refine ACode.region ?_
  refine AOps.e rfl rfl rfl (AOp.boxA rfl (fun b2 => ?_))
  refine AOps.e rfl rfl rfl (AOp.boxA rfl (fun b3 => ?_))
  refine AOps.v rfl rfl rfl (AVal.assignN (by constructor)) ?_
  refine AOps.nil ?_
  refine ACode.seq ?_
  refine ACode.draws [.l 0, .p 1, .p 2, .l 3, .p 4, .p 5, .p 6, .p 7] mixed (by kernel_rfl) ?_
  refine ASeq.lv rfl rfl rfl rfl (HasCell.mk (d := encL _) 1 rfl rfl (.refl _)) ?_
  refine ASeq.pe rfl rfl rfl rfl (fun L0 => (AOp.callP (norm_c hS a ha) (by first | exact LeL.eq rfl | (repeat constructor)) ⟨rfl, rfl⟩)) ?_
  refine ASeq.pv rfl rfl rfl rfl (fun L0 => (AVal.fieldN rfl rfl (by kernel_rfl) rfl (by constructor))) ?_
  refine ASeq.lv rfl rfl rfl rfl (HasCell.mk (d := encL _) 0 rfl rfl (.refl _)) ?_
  refine ASeq.pe rfl rfl rfl rfl (fun L0 => (AOp.callP (norm_c hS b hb) (by first | exact LeL.eq rfl | (repeat constructor)) ⟨rfl, rfl⟩)) ?_
  refine ASeq.pv rfl rfl rfl rfl (fun L0 => (AVal.fieldN rfl rfl (by kernel_rfl) rfl (by constructor))) ?_
  refine ASeq.pe rfl rfl rfl rfl (fun L0 => (AOp.callP (eqParts_c (normM a) (normM b) (by have := normM_len a; omega)) (by first | exact LeL.eq rfl | (repeat constructor)) ⟨rfl, rfl⟩)) ?_
  refine ASeq.pv rfl rfl rfl rfl (fun L0 => (AVal.assignN (by constructor))) ?_
  refine ASeq.nil ?_
  refine ACode.ret ?_
  refine AFin.pureRet rfl (.cons rfl .nil) ?_
  exact D.Le.eq (congrArg D.bool (rfl))

theorem indexF_c {f : FuncId} {caps : List D} {L0 : Loc} {gg : Part → Bool} (H : ∀ p, AKeep X f ([encP p] ++ caps) L0 (.bool (gg p))) (ps : List Part) (hl : ps.length ≤ 9223372036854775807) : AKeep X 167 [.slP ps, .func (.func f) [] caps] L0 (.int .i64 (idxM gg ps 0)) := by
  refine ACalls.of_code Tryz.func167 rfl (by rfl) (Nat.le_of_ble_eq_true rfl) ?_
  refine ACode.seq ?_
  refine ACode.region ?_
  refine AOps.v rfl rfl rfl (AVal.assignN (by constructor)) ?_
  refine AOps.nil ?_
  refine ACode.seq ?_
  refine ACode.seq ?_
  refine ACode.region ?_
  refine AOps.v rfl rfl rfl (AVal.moveN (by constructor)) ?_
  refine AOps.v rfl rfl rfl (AVal.len rfl rfl rfl) ?_
  refine AOps.v rfl rfl rfl (AVal.moveN (by constructor)) ?_
  refine AOps.nil ?_
  refine ACode.block ?_
  refine ACode.loop (γ := Nat) (fun g => [(0, .slP ps), (1, .func (.func f) [] caps), (6, .slP ps), (7, .int .i64 ps.length), (8, .int .i64 g)]) (fun g => L0) (fun g => g ≤ ps.length ∧ idxM gg (ps.drop g) g = idxM gg ps 0) (fun g => ps.length - g) 0 ⟨Nat.zero_le _, by simp⟩ (by repeat first | exact Agree.nil | refine Agree.cons (.refl _) ?_) (by repeat first | exact List.Sublist.refl _ | apply List.Sublist.cons_cons | apply List.Sublist.cons | exact List.nil_sublist _) ?_
  rintro i ⟨hi, hg⟩ t1
  simp only at hi hg ⊢
  refine ACode.seq ?_
  refine ACode.region ?_
  refine AOps.v rfl rfl rfl (AVal.lss rfl rfl) ?_
  refine AOps.nil ?_
  refine ACode.seq ?_
  refine ACode.condS rfl (fun h9 => ?_) (fun h9 => ?_)
  ·
    try simp only [decide_eq_true_eq, decide_eq_false_iff_not, Bool.not_eq_true', Bool.not_eq_false', Bool.and_eq_true, Bool.or_eq_true, beq_iff_eq, beq_eq_false_iff_ne] at h9
    have hlt : i < ps.length := by omega
    refine ACode.skip ?_
    refine ACode.seq ?_
    refine ACode.block ?_
    refine ACode.seq ?_
    refine ACode.region ?_
    refine AOps.v rfl rfl rfl (AVal.moveN (by constructor)) ?_
    refine AOps.v rfl rfl rfl (AVal.assignN (by constructor)) ?_
    refine AOps.nil ?_
    refine ACode.seq ?_
    refine ACode.region ?_
    refine AOps.v rfl rfl rfl (AVal.moveN (by constructor)) ?_
    refine AOps.v rfl rfl rfl (AVal.moveN (by constructor)) ?_
    refine AOps.v rfl rfl rfl (AVal.moveN (by constructor)) ?_
    refine AOps.v rfl rfl rfl (AVal.indexPK rfl rfl rfl rfl rfl (by omega)) ?_
    refine AOps.v rfl rfl rfl (AVal.loadE (d := encP _) rfl rfl rfl) ?_
    refine AOps.e rfl rfl rfl (AOp.callVK [] rfl (H (ps.getD i default)) (LeL.eq rfl) rfl ?_)
    refine AOps.nil ?_
    refine ACode.condS rfl (fun h16 => ?_) (fun h16 => ?_)
    ·
      try simp only [decide_eq_true_eq, decide_eq_false_iff_not, Bool.not_eq_true', Bool.not_eq_false', Bool.and_eq_true, Bool.or_eq_true, beq_iff_eq, beq_eq_false_iff_ne] at h16
      refine ACode.seq ?_
      refine ACode.region ?_
      refine AOps.v rfl rfl rfl (AVal.moveN (by constructor)) ?_
      refine AOps.v rfl rfl rfl (AVal.assignN (by constructor)) ?_
      refine AOps.nil ?_
      refine ACode.ret ?_
      refine AFin.keepRet rfl (.cons rfl .nil) (by repeat first | exact List.Sublist.refl _ | apply List.Sublist.cons_cons | apply List.Sublist.cons) ?_
      exact D.Le.eq (congrArg (D.int .i64) (by rw [← hg, drop_getD hlt, idxM, if_pos h16]))
    ·
      try simp only [decide_eq_true_eq, decide_eq_false_iff_not, Bool.not_eq_true', Bool.not_eq_false', Bool.and_eq_true, Bool.or_eq_true, beq_iff_eq, beq_eq_false_iff_ne] at h16
      refine ACode.skip ?_
      refine ACode.region ?_
      refine AOps.v rfl rfl rfl (AVal.addn rfl rfl (by omega)) ?_
      refine AOps.v rfl rfl rfl (AVal.moveN (by constructor)) ?_
      refine AOps.nil ?_
      refine ⟨i + 1, ⟨by omega, by rw [← hg, drop_getD hlt, idxM, if_neg (by rw [h16]; simp)]; push_cast; rfl⟩, by omega, rfl, (by repeat first | exact Agree.nil | refine Agree.cons (.refl _) ?_), (by repeat first | exact List.Sublist.refl _ | apply List.Sublist.cons_cons | apply List.Sublist.cons | exact List.nil_sublist _)⟩
  ·
    try simp only [decide_eq_true_eq, decide_eq_false_iff_not, Bool.not_eq_true', Bool.not_eq_false', Bool.and_eq_true, Bool.or_eq_true, beq_iff_eq, beq_eq_false_iff_ne] at h9
    refine ACode.exit ?_
    refine ACode.seq ?_
    refine ACode.region ?_
    refine AOps.v rfl rfl rfl (AVal.assignN (by constructor)) ?_
    refine AOps.nil ?_
    refine ACode.ret ?_
    refine AFin.keepRet rfl (.cons rfl .nil) (by repeat first | exact List.Sublist.refl _ | apply List.Sublist.cons_cons | apply List.Sublist.cons) ?_
    exact D.Le.eq (congrArg (D.int .i64) (by rw [← hg, List.drop_of_length_le (by omega), idxM]))

theorem containsF_c {f : FuncId} {caps : List D} {L0 : Loc} {gg : Part → Bool} (H : ∀ p, AKeep X f ([encP p] ++ caps) L0 (.bool (gg p))) (ps : List Part) (hl : ps.length ≤ 9223372036854775807) : AKeep X 129 [.slP ps, .func (.func f) [] caps] L0 (.bool (ps.any gg)) := by
  refine ACalls.of_code Tryz.func129 rfl (by rfl) (Nat.le_of_ble_eq_true rfl) ?_
  refine ACode.seq ?_
  refine ACode.region ?_
  refine AOps.v rfl rfl rfl (AVal.assignN (by constructor)) ?_
  refine AOps.nil ?_
  refine ACode.seq ?_
  refine ACode.region ?_
  refine AOps.v rfl rfl rfl (AVal.moveN (by constructor)) ?_
  refine AOps.v rfl rfl rfl (AVal.moveN (by constructor)) ?_
  refine AOps.e rfl rfl rfl (AOp.callK [] (indexF_c H ps hl) (LeL.eq rfl) rfl ?_)
  refine AOps.v rfl rfl rfl (AVal.geq rfl rfl) ?_
  refine AOps.v rfl rfl rfl (AVal.assignN (by constructor)) ?_
  refine AOps.nil ?_
  refine ACode.ret ?_
  refine AFin.keepRet rfl (.cons rfl .nil) (by repeat first | exact List.Sublist.refl _ | apply List.Sublist.cons_cons | apply List.Sublist.cons) ?_
  exact D.Le.eq (congrArg D.bool (idxM_any gg ps 0 (Int.le_refl _)))

def leqG (p q : Part) : Bool := (decide (p.v = 0) || decide (p.v = q.v)) && decide (p.p ≤ q.p)
theorem lvLeq_eq (a b : Level) : lvLeq a b = !((normM a).any fun p => !((normM b).any (leqG p))) := by
  have h : ∀ (l : List Part) (g : Part → Bool), l.all g = !(l.any fun p => !(g p)) := fun l g => by
    induction l with
    | nil => rfl
    | cons x l ih => simp [List.all_cons, List.any_cons, ih]
  exact h _ _

theorem leq11_c (p q : Part) (b2c : Nat) (R : Loc) : AKeep X 131 [encP q, .ptr b2c 0] ((b2c, .cells 114 (cellsP p)) :: R) (.bool (leqG p q)) := by
  refine ACalls.of_code Tryz.func131 rfl (by rfl) (Nat.le_of_ble_eq_true rfl) ?_
  refine ACode.seq ?_
  refine ACode.region ?_
  refine AOps.e rfl rfl rfl (AOp.boxA rfl (fun b2 => ?_))
  refine AOps.v rfl rfl rfl (AVal.assignN (by constructor)) ?_
  refine AOps.nil ?_
  refine ACode.seq ?_
  refine ACode.region ?_
  refine AOps.v rfl rfl rfl (AVal.fieldP rfl rfl) ?_
  refine AOps.v rfl rfl rfl (AVal.loadPN 1 rfl rfl rfl rfl (by constructor)) ?_
  refine AOps.v rfl rfl rfl (AVal.eql rfl rfl) ?_
  refine AOps.v rfl rfl rfl (AVal.moveN (by constructor)) ?_
  refine AOps.split 7 rfl (fun h7 => ?_) (fun h7 => ?_)
  ·
    try simp only [decide_eq_true_eq, decide_eq_false_iff_not, Bool.not_eq_true', Bool.not_eq_false', Bool.and_eq_true, Bool.or_eq_true, beq_iff_eq, beq_eq_false_iff_ne] at h7
    refine AOps.vF rfl rfl rfl rfl rfl rfl rfl ?_
    refine AOps.vF rfl rfl rfl rfl rfl rfl rfl ?_
    refine AOps.vF rfl rfl rfl rfl rfl rfl rfl ?_
    refine AOps.vF rfl rfl rfl rfl rfl rfl rfl ?_
    refine AOps.vF rfl rfl rfl rfl rfl rfl rfl ?_
    refine AOps.v rfl rfl rfl (AVal.pickT rfl (by constructor)) ?_
    refine AOps.v rfl rfl rfl (AVal.moveN (by constructor)) ?_
    refine AOps.vT rfl rfl rfl rfl rfl rfl (AVal.fieldP rfl rfl) ?_
    refine AOps.vT rfl rfl rfl rfl rfl rfl (AVal.loadPN 1 rfl rfl rfl rfl (by constructor)) ?_
    refine AOps.vT rfl rfl rfl rfl rfl rfl (AVal.fieldP rfl rfl) ?_
    refine AOps.vT rfl rfl rfl rfl rfl rfl (AVal.loadPN 0 rfl rfl rfl rfl (by constructor)) ?_
    refine AOps.vT rfl rfl rfl rfl rfl rfl (AVal.leq rfl rfl) ?_
    refine AOps.v rfl rfl rfl (AVal.pickT rfl (by constructor)) ?_
    refine AOps.v rfl rfl rfl (AVal.assignN (by constructor)) ?_
    refine AOps.nil ?_
    refine ACode.ret ?_
    refine AFin.keepRet rfl (.cons rfl .nil) (by repeat first | exact List.Sublist.refl _ | apply List.Sublist.cons_cons | apply List.Sublist.cons) ?_
    exact D.Le.eq (congrArg D.bool (by simp_all [leqG]))
  ·
    try simp only [decide_eq_true_eq, decide_eq_false_iff_not, Bool.not_eq_true', Bool.not_eq_false', Bool.and_eq_true, Bool.or_eq_true, beq_iff_eq, beq_eq_false_iff_ne] at h7
    refine AOps.vT rfl rfl rfl rfl rfl rfl (AVal.fieldP rfl rfl) ?_
    refine AOps.vT rfl rfl rfl rfl rfl rfl (AVal.loadPN 1 rfl rfl rfl rfl (by constructor)) ?_
    refine AOps.vT rfl rfl rfl rfl rfl rfl (AVal.fieldP rfl rfl) ?_
    refine AOps.vT rfl rfl rfl rfl rfl rfl (AVal.loadPN 0 rfl rfl rfl rfl (by constructor)) ?_
    refine AOps.vT rfl rfl rfl rfl rfl rfl (AVal.eql rfl rfl) ?_
    refine AOps.v rfl rfl rfl (AVal.pickF rfl (by constructor)) ?_
    refine AOps.v rfl rfl rfl (AVal.moveN (by constructor)) ?_
    refine AOps.split 14 rfl (fun h14 => ?_) (fun h14 => ?_)
    ·
      try simp only [decide_eq_true_eq, decide_eq_false_iff_not, Bool.not_eq_true', Bool.not_eq_false', Bool.and_eq_true, Bool.or_eq_true, beq_iff_eq, beq_eq_false_iff_ne] at h14
      refine AOps.vT rfl rfl rfl rfl rfl rfl (AVal.fieldP rfl rfl) ?_
      refine AOps.vT rfl rfl rfl rfl rfl rfl (AVal.loadPN 1 rfl rfl rfl rfl (by constructor)) ?_
      refine AOps.vT rfl rfl rfl rfl rfl rfl (AVal.fieldP rfl rfl) ?_
      refine AOps.vT rfl rfl rfl rfl rfl rfl (AVal.loadPN 0 rfl rfl rfl rfl (by constructor)) ?_
      refine AOps.vT rfl rfl rfl rfl rfl rfl (AVal.leq rfl rfl) ?_
      refine AOps.v rfl rfl rfl (AVal.pickT rfl (by constructor)) ?_
      refine AOps.v rfl rfl rfl (AVal.assignN (by constructor)) ?_
      refine AOps.nil ?_
      refine ACode.ret ?_
      refine AFin.keepRet rfl (.cons rfl .nil) (by repeat first | exact List.Sublist.refl _ | apply List.Sublist.cons_cons | apply List.Sublist.cons) ?_
      exact D.Le.eq (congrArg D.bool (by simp_all [leqG]))
    ·
      try simp only [decide_eq_true_eq, decide_eq_false_iff_not, Bool.not_eq_true', Bool.not_eq_false', Bool.and_eq_true, Bool.or_eq_true, beq_iff_eq, beq_eq_false_iff_ne] at h14
      refine AOps.vF rfl rfl rfl rfl rfl rfl rfl ?_
      refine AOps.vF rfl rfl rfl rfl rfl rfl rfl ?_
      refine AOps.vF rfl rfl rfl rfl rfl rfl rfl ?_
      refine AOps.vF rfl rfl rfl rfl rfl rfl rfl ?_
      refine AOps.vF rfl rfl rfl rfl rfl rfl rfl ?_
      refine AOps.v rfl rfl rfl (AVal.pickF rfl (by constructor)) ?_
      refine AOps.v rfl rfl rfl (AVal.assignN (by constructor)) ?_
      refine AOps.nil ?_
      refine ACode.ret ?_
      refine AFin.keepRet rfl (.cons rfl .nil) (by repeat first | exact List.Sublist.refl _ | apply List.Sublist.cons_cons | apply List.Sublist.cons) ?_
      exact D.Le.eq (congrArg D.bool (by simp_all [leqG]))

theorem leq1_c (p : Part) (b : Level) (b3c : Nat) (R : Loc) (hb : b.length ≤ 9223372036854775807) : AKeep X 130 [encP p, .ptr b3c 0] ((b3c, .cells 56 (cellsL b)) :: R) (.bool (!(b.any (leqG p)))) := by
  refine ACalls.of_code Tryz.func130 rfl (by rfl) (Nat.le_of_ble_eq_true rfl) ?_
  refine ACode.seq ?_
  refine ACode.region ?_
  refine AOps.e rfl rfl rfl (AOp.boxA rfl (fun b2 => ?_))
  refine AOps.v rfl rfl rfl (AVal.assignN (by constructor)) ?_
  refine AOps.nil ?_
  refine ACode.seq ?_
  refine ACode.region ?_
  refine AOps.v rfl rfl rfl (AVal.fieldP rfl rfl) ?_
  refine AOps.v rfl rfl rfl (AVal.loadPN 1 rfl rfl rfl rfl (by constructor)) ?_
  refine AOps.v rfl rfl rfl (AVal.makeFunc) ?_
  refine AOps.e rfl rfl rfl (AOp.callK [] (containsF_c (gg := leqG p) (fun q => leq11_c p q b2 _) b hb) (LeL.eq rfl) rfl ?_)
  refine AOps.v rfl rfl rfl (AVal.not rfl) ?_
  refine AOps.v rfl rfl rfl (AVal.assignN (by constructor)) ?_
  refine AOps.nil ?_
  refine ACode.ret ?_
  refine AFin.keepRet rfl (.cons rfl .nil) (by repeat first | exact List.Sublist.refl _ | apply List.Sublist.cons_cons | apply List.Sublist.cons) ?_
  exact .refl _

theorem lvLeq_c (hS : SortedOk) (a b : Level) (ha : a.length ≤ 9223372036854775807) (hb : b.length ≤ 9223372036854775807) : AFn X 78 [encL a, encL b] (.bool (lvLeq a b)) := by
  refine ACalls.of_code Tryz.func78 rfl (by rfl) (Nat.le_of_ble_eq_true rfl) ?_
  refine ACode.seq ?_
  refine ACode.region ?_
  refine AOps.e rfl rfl rfl (AOp.boxA rfl (fun b2 => ?_))
  refine AOps.e rfl rfl rfl (AOp.boxA rfl (fun b3 => ?_))
  refine AOps.v rfl rfl rfl (AVal.assignN (by constructor)) ?_
  refine AOps.nil ?_
  refine ACode.seq ?_
  refine ACode.draws [.l 0, .p 1, .l 2, .p 3, .e 4 [2], .e 5 []] mixed (by kernel_rfl) ?_
  refine ASeq.lv rfl rfl rfl rfl (HasCell.mk (d := encL _) 1 rfl rfl (.refl _)) ?_
  refine ASeq.pe rfl rfl rfl rfl (fun L0 => (AOp.callP (norm_c hS a ha) (by first | exact LeL.eq rfl | (repeat constructor)) ⟨rfl, rfl⟩)) ?_
  refine ASeq.lv rfl rfl rfl rfl (HasCell.mk (d := encL _) 0 rfl rfl (.refl _)) ?_
  refine ASeq.pe rfl rfl rfl rfl (fun L0 => (AOp.callP (norm_c hS b hb) (by first | exact LeL.eq rfl | (repeat constructor)) ⟨rfl, rfl⟩)) ?_
  refine ASeq.ee0 rfl rfl rfl rfl (AOp.storeN 1 rfl rfl rfl (by constructor) rfl rfl rfl (by repeat constructor) (by repeat constructor) ⟨(by first | exact Keeps.nil | (repeat first | exact Keeps.nil | refine Keeps.cons (by first | exact HasCell.mk 0 rfl rfl (.refl _) | exact HasCell.mk 1 rfl rfl (.refl _) | exact HasCell.mk 2 rfl rfl (.refl _) | exact HasCell.mk 3 rfl rfl (.refl _) | exact HasCell.mk 4 rfl rfl (.refl _) | exact HasCell.mk 5 rfl rfl (.refl _) | exact HasCell.mk 6 rfl rfl (.refl _) | exact HasCell.mk 7 rfl rfl (.refl _)) ?_)), ?_⟩)
  refine ASeq.ee0 rfl rfl rfl rfl (AOp.storeN 0 rfl rfl rfl (by constructor) rfl rfl rfl (by repeat constructor) (by repeat constructor) ⟨(by first | exact Keeps.nil | (repeat first | exact Keeps.nil | refine Keeps.cons (by first | exact HasCell.mk 0 rfl rfl (.refl _) | exact HasCell.mk 1 rfl rfl (.refl _) | exact HasCell.mk 2 rfl rfl (.refl _) | exact HasCell.mk 3 rfl rfl (.refl _) | exact HasCell.mk 4 rfl rfl (.refl _) | exact HasCell.mk 5 rfl rfl (.refl _) | exact HasCell.mk 6 rfl rfl (.refl _) | exact HasCell.mk 7 rfl rfl (.refl _)) ?_)), ?_⟩)
  refine ASeq.nil ?_
  refine ACode.seq ?_
  refine ACode.region ?_
  refine AOps.v rfl rfl rfl (AVal.fieldP rfl rfl) ?_
  refine AOps.v rfl rfl rfl (AVal.loadPN 1 rfl rfl rfl rfl (by constructor)) ?_
  refine AOps.v rfl rfl rfl (AVal.makeFunc) ?_
  refine AOps.e rfl rfl rfl (AOp.callK [] (containsF_c (gg := fun p => !((normM b).any (leqG p))) (fun p => leq1_c p (normM b) b3 _ (by have := normM_len b; omega)) (normM a) (by have := normM_len a; omega)) (LeL.eq rfl) rfl ?_)
  refine AOps.v rfl rfl rfl (AVal.not rfl) ?_
  refine AOps.v rfl rfl rfl (AVal.assignN (by constructor)) ?_
  refine AOps.nil ?_
  refine ACode.ret ?_
  refine AFin.pureRet rfl (.cons rfl .nil) ?_
  exact D.Le.eq (congrArg D.bool ((lvLeq_eq a b).symm))

theorem eqLvs_c (hS : SortedOk) (a b : List Level) (ha : a.length ≤ 9223372036854775807) (hp : ∀ l ∈ a, l.length ≤ 9223372036854775807) (hq : ∀ l ∈ b, l.length ≤ 9223372036854775807) : AFn X 122 [.slL a, .slL b, .func (.func 123) [] []] (.bool (lvsSame a b)) := by
  refine ACalls.of_code Tryz.func122 rfl (by rfl) (Nat.le_of_ble_eq_true rfl) ?_
  refine ACode.seq ?_
  refine ACode.region ?_
  refine AOps.v rfl rfl rfl (AVal.assignN (by constructor)) ?_
  refine AOps.nil ?_
  refine ACode.seq ?_
  refine ACode.seq ?_
  refine ACode.region ?_
  refine AOps.v rfl rfl rfl (AVal.moveN (by constructor)) ?_
  refine AOps.v rfl rfl rfl (AVal.len rfl rfl rfl) ?_
  refine AOps.v rfl rfl rfl (AVal.moveN (by constructor)) ?_
  refine AOps.v rfl rfl rfl (AVal.len rfl rfl rfl) ?_
  refine AOps.v rfl rfl rfl (AVal.neq rfl rfl) ?_
  refine AOps.nil ?_
  refine ACode.condS rfl (fun h14 => ?_) (fun h14 => ?_)
  ·
    try simp only [decide_eq_true_eq, decide_eq_false_iff_not, Bool.not_eq_true', Bool.not_eq_false', Bool.and_eq_true, Bool.or_eq_true, beq_iff_eq, beq_eq_false_iff_ne] at h14
    refine ACode.seq ?_
    refine ACode.region ?_
    refine AOps.v rfl rfl rfl (AVal.assignN (by constructor)) ?_
    refine AOps.nil ?_
    refine ACode.ret ?_
    refine AFin.pureRet rfl (.cons rfl .nil) ?_
    exact D.Le.eq (congrArg D.bool ((lvsSame_len (show a.length ≠ b.length by omega)).symm))
  ·
    try simp only [decide_eq_true_eq, decide_eq_false_iff_not, Bool.not_eq_true', Bool.not_eq_false', Bool.and_eq_true, Bool.or_eq_true, beq_iff_eq, beq_eq_false_iff_ne] at h14
    refine ACode.skip ?_
    refine ACode.seq ?_
    refine ACode.seq ?_
    refine ACode.region ?_
    refine AOps.v rfl rfl rfl (AVal.moveN (by constructor)) ?_
    refine AOps.v rfl rfl rfl (AVal.len rfl rfl rfl) ?_
    refine AOps.v rfl rfl rfl (AVal.moveN (by constructor)) ?_
    refine AOps.nil ?_
    refine ACode.block ?_
    refine ACode.loop (γ := Nat) (fun g => [(1, .slL b), (2, .func (.func 123) [] []), (15, .slL a), (16, .int .i64 a.length), (17, .int .i64 g)]) (fun g => []) (fun g => g ≤ a.length ∧ lvsSame a b = lvsSame (a.drop g) (b.drop g)) (fun g => a.length - g) 0 ⟨Nat.zero_le _, rfl⟩ (by repeat first | exact Agree.nil | refine Agree.cons (.refl _) ?_) (by repeat first | exact List.Sublist.refl _ | apply List.Sublist.cons_cons | apply List.Sublist.cons | exact List.nil_sublist _) ?_
    have hab : a.length = b.length := by omega
    rintro i ⟨hi, hg⟩ t1
    simp only at hi hg ⊢
    refine ACode.seq ?_
    refine ACode.region ?_
    refine AOps.v rfl rfl rfl (AVal.lss rfl rfl) ?_
    refine AOps.nil ?_
    refine ACode.seq ?_
    refine ACode.condS rfl (fun h18 => ?_) (fun h18 => ?_)
    ·
      try simp only [decide_eq_true_eq, decide_eq_false_iff_not, Bool.not_eq_true', Bool.not_eq_false', Bool.and_eq_true, Bool.or_eq_true, beq_iff_eq, beq_eq_false_iff_ne] at h18
      have hlt : i < a.length := by omega
      have hltb : i < b.length := by omega
      refine ACode.skip ?_
      refine ACode.seq ?_
      refine ACode.block ?_
      refine ACode.seq ?_
      refine ACode.region ?_
      refine AOps.v rfl rfl rfl (AVal.moveN (by constructor)) ?_
      refine AOps.v rfl rfl rfl (AVal.indexLK rfl rfl rfl rfl rfl (by omega)) ?_
      refine AOps.v rfl rfl rfl (AVal.loadE (d := encL _) rfl rfl rfl) ?_
      refine AOps.e rfl rfl rfl (AOp.allocN rfl rfl (fun b8 => ?_))
      refine AOps.v rfl rfl rfl (AVal.assignN (by constructor)) ?_
      refine AOps.e0 rfl rfl (AOp.storeN 0 rfl rfl rfl (by constructor) rfl rfl rfl (by repeat constructor) (by repeat constructor) ?_)
      refine AOps.nil ?_
      refine ACode.seq ?_
      refine ACode.region ?_
      refine AOps.v rfl rfl rfl (AVal.moveN (by constructor)) ?_
      refine AOps.v rfl rfl rfl (AVal.moveN (by constructor)) ?_
      refine AOps.v rfl rfl rfl (AVal.indexLK rfl rfl rfl rfl rfl (by omega)) ?_
      refine AOps.v rfl rfl rfl (AVal.loadE (d := encL _) rfl rfl rfl) ?_
      refine AOps.e rfl rfl rfl (AOp.allocN rfl rfl (fun b9 => ?_))
      refine AOps.e0 rfl rfl (AOp.storeN 0 rfl rfl rfl (by constructor) rfl rfl rfl (by repeat constructor) (by repeat constructor) ?_)
      refine AOps.nil ?_
      refine ACode.seq ?_
      refine ACode.region ?_
      refine AOps.v rfl rfl rfl (AVal.moveN (by constructor)) ?_
      refine AOps.v rfl rfl rfl (AVal.loadP (d := encL _) 1 rfl rfl rfl rfl) ?_
      refine AOps.v rfl rfl rfl (AVal.loadP (d := encL _) 0 rfl rfl rfl rfl) ?_
      refine AOps.e rfl rfl rfl (AOp.callVP rfl (lvSame_c hS (a.getD i default) (b.getD i default) (hp _ (getD_mem hlt)) (hq _ (getD_mem hltb))) (LeL.eq rfl) ?_)
      refine AOps.v rfl rfl rfl (AVal.not rfl) ?_
      refine AOps.nil ?_
      refine ACode.condS rfl (fun h30 => ?_) (fun h30 => ?_)
      ·
        try simp only [decide_eq_true_eq, decide_eq_false_iff_not, Bool.not_eq_true', Bool.not_eq_false', Bool.and_eq_true, Bool.or_eq_true, beq_iff_eq, beq_eq_false_iff_ne] at h30
        refine ACode.seq ?_
        refine ACode.region ?_
        refine AOps.v rfl rfl rfl (AVal.assignN (by constructor)) ?_
        refine AOps.nil ?_
        refine ACode.ret ?_
        refine AFin.pureRet rfl (.cons rfl .nil) ?_
        exact D.Le.eq (congrArg D.bool (by rw [hg, drop_getD hlt, drop_getD hltb, lvsSame, h30, Bool.false_and]))
      ·
        try simp only [decide_eq_true_eq, decide_eq_false_iff_not, Bool.not_eq_true', Bool.not_eq_false', Bool.and_eq_true, Bool.or_eq_true, beq_iff_eq, beq_eq_false_iff_ne] at h30
        refine ACode.skip ?_
        refine ACode.region ?_
        refine AOps.v rfl rfl rfl (AVal.addn rfl rfl (by omega)) ?_
        refine AOps.v rfl rfl rfl (AVal.moveN (by constructor)) ?_
        refine AOps.nil ?_
        refine ⟨i + 1, ⟨by omega, by rw [hg, drop_getD hlt, drop_getD (show i < b.length by omega), lvsSame, h30, Bool.true_and]⟩, by omega, rfl, (by repeat first | exact Agree.nil | refine Agree.cons (.refl _) ?_), (by repeat first | exact List.Sublist.refl _ | apply List.Sublist.cons_cons | apply List.Sublist.cons | exact List.nil_sublist _)⟩
    ·
      try simp only [decide_eq_true_eq, decide_eq_false_iff_not, Bool.not_eq_true', Bool.not_eq_false', Bool.and_eq_true, Bool.or_eq_true, beq_iff_eq, beq_eq_false_iff_ne] at h18
      refine ACode.exit ?_
      refine ACode.seq ?_
      refine ACode.region ?_
      refine AOps.v rfl rfl rfl (AVal.assignN (by constructor)) ?_
      refine AOps.nil ?_
      refine ACode.ret ?_
      refine AFin.pureRet rfl (.cons rfl .nil) ?_
      exact D.Le.eq (congrArg D.bool (by rw [hg, List.drop_of_length_le (by omega), List.drop_of_length_le (by omega)]; simp [lvsSame]))

theorem eqTs_c (a b : List Term) (ha : a.length ≤ 9223372036854775807) (h : ∀ t ∈ a, ∀ u ∈ b, AFn X 74 [encT t, encT u] (.bool (sameM t u))) : AFn X 124 [.slT a, .slT b, .func (.func 74) [] []] (.bool (samesM a b)) := by
  refine ACalls.of_code Tryz.func124 rfl (by rfl) (Nat.le_of_ble_eq_true rfl) ?_
  refine ACode.seq ?_
  refine ACode.region ?_
  refine AOps.v rfl rfl rfl (AVal.assignN (by constructor)) ?_
  refine AOps.nil ?_
  refine ACode.seq ?_
  refine ACode.seq ?_
  refine ACode.region ?_
  refine AOps.v rfl rfl rfl (AVal.moveN (by constructor)) ?_
  refine AOps.v rfl rfl rfl (AVal.len rfl rfl rfl) ?_
  refine AOps.v rfl rfl rfl (AVal.moveN (by constructor)) ?_
  refine AOps.v rfl rfl rfl (AVal.len rfl rfl rfl) ?_
  refine AOps.v rfl rfl rfl (AVal.neq rfl rfl) ?_
  refine AOps.nil ?_
  refine ACode.condS rfl (fun h14 => ?_) (fun h14 => ?_)
  ·
    try simp only [decide_eq_true_eq, decide_eq_false_iff_not, Bool.not_eq_true', Bool.not_eq_false', Bool.and_eq_true, Bool.or_eq_true, beq_iff_eq, beq_eq_false_iff_ne] at h14
    refine ACode.seq ?_
    refine ACode.region ?_
    refine AOps.v rfl rfl rfl (AVal.assignN (by constructor)) ?_
    refine AOps.nil ?_
    refine ACode.ret ?_
    refine AFin.pureRet rfl (.cons rfl .nil) ?_
    exact D.Le.eq (congrArg D.bool ((samesM_len (show a.length ≠ b.length by omega)).symm))
  ·
    try simp only [decide_eq_true_eq, decide_eq_false_iff_not, Bool.not_eq_true', Bool.not_eq_false', Bool.and_eq_true, Bool.or_eq_true, beq_iff_eq, beq_eq_false_iff_ne] at h14
    refine ACode.skip ?_
    refine ACode.seq ?_
    refine ACode.seq ?_
    refine ACode.region ?_
    refine AOps.v rfl rfl rfl (AVal.moveN (by constructor)) ?_
    refine AOps.v rfl rfl rfl (AVal.len rfl rfl rfl) ?_
    refine AOps.v rfl rfl rfl (AVal.moveN (by constructor)) ?_
    refine AOps.nil ?_
    refine ACode.block ?_
    refine ACode.loop (γ := Nat) (fun g => [(1, .slT b), (2, .func (.func 74) [] []), (15, .slT a), (16, .int .i64 a.length), (17, .int .i64 g)]) (fun g => []) (fun g => g ≤ a.length ∧ samesM a b = samesM (a.drop g) (b.drop g)) (fun g => a.length - g) 0 ⟨Nat.zero_le _, rfl⟩ (by repeat first | exact Agree.nil | refine Agree.cons (.refl _) ?_) (by repeat first | exact List.Sublist.refl _ | apply List.Sublist.cons_cons | apply List.Sublist.cons | exact List.nil_sublist _) ?_
    have hab : a.length = b.length := by omega
    rintro i ⟨hi, hg⟩ t1
    simp only at hi hg ⊢
    refine ACode.seq ?_
    refine ACode.region ?_
    refine AOps.v rfl rfl rfl (AVal.lss rfl rfl) ?_
    refine AOps.nil ?_
    refine ACode.seq ?_
    refine ACode.condS rfl (fun h18 => ?_) (fun h18 => ?_)
    ·
      try simp only [decide_eq_true_eq, decide_eq_false_iff_not, Bool.not_eq_true', Bool.not_eq_false', Bool.and_eq_true, Bool.or_eq_true, beq_iff_eq, beq_eq_false_iff_ne] at h18
      have hlt : i < a.length := by omega
      have hltb : i < b.length := by omega
      refine ACode.skip ?_
      refine ACode.seq ?_
      refine ACode.block ?_
      refine ACode.seq ?_
      refine ACode.region ?_
      refine AOps.v rfl rfl rfl (AVal.moveN (by constructor)) ?_
      refine AOps.v rfl rfl rfl (AVal.indexTK rfl rfl rfl rfl rfl (by omega)) ?_
      refine AOps.v rfl rfl rfl (AVal.loadE (d := encT _) rfl rfl rfl) ?_
      refine AOps.e rfl rfl rfl (AOp.allocN rfl rfl (fun b8 => ?_))
      refine AOps.v rfl rfl rfl (AVal.assignN (by constructor)) ?_
      refine AOps.e0 rfl rfl (AOp.storeN 0 rfl rfl rfl (by constructor) rfl rfl rfl (by repeat constructor) (by repeat constructor) ?_)
      refine AOps.nil ?_
      refine ACode.seq ?_
      refine ACode.region ?_
      refine AOps.v rfl rfl rfl (AVal.moveN (by constructor)) ?_
      refine AOps.v rfl rfl rfl (AVal.moveN (by constructor)) ?_
      refine AOps.v rfl rfl rfl (AVal.indexTK rfl rfl rfl rfl rfl (by omega)) ?_
      refine AOps.v rfl rfl rfl (AVal.loadE (d := encT _) rfl rfl rfl) ?_
      refine AOps.e rfl rfl rfl (AOp.allocN rfl rfl (fun b9 => ?_))
      refine AOps.e0 rfl rfl (AOp.storeN 0 rfl rfl rfl (by constructor) rfl rfl rfl (by repeat constructor) (by repeat constructor) ?_)
      refine AOps.nil ?_
      refine ACode.seq ?_
      refine ACode.region ?_
      refine AOps.v rfl rfl rfl (AVal.moveN (by constructor)) ?_
      refine AOps.v rfl rfl rfl (AVal.loadP (d := encT _) 1 rfl rfl rfl rfl) ?_
      refine AOps.v rfl rfl rfl (AVal.loadP (d := encT _) 0 rfl rfl rfl rfl) ?_
      refine AOps.e rfl rfl rfl (AOp.callVP rfl (h (a.getD i default) (getD_mem hlt) (b.getD i default) (getD_mem hltb)) (LeL.eq rfl) ?_)
      refine AOps.v rfl rfl rfl (AVal.not rfl) ?_
      refine AOps.nil ?_
      refine ACode.condS rfl (fun h30 => ?_) (fun h30 => ?_)
      ·
        try simp only [decide_eq_true_eq, decide_eq_false_iff_not, Bool.not_eq_true', Bool.not_eq_false', Bool.and_eq_true, Bool.or_eq_true, beq_iff_eq, beq_eq_false_iff_ne] at h30
        refine ACode.seq ?_
        refine ACode.region ?_
        refine AOps.v rfl rfl rfl (AVal.assignN (by constructor)) ?_
        refine AOps.nil ?_
        refine ACode.ret ?_
        refine AFin.pureRet rfl (.cons rfl .nil) ?_
        exact D.Le.eq (congrArg D.bool (by rw [hg, drop_getD hlt, drop_getD hltb, samesM, h30, Bool.false_and]))
      ·
        try simp only [decide_eq_true_eq, decide_eq_false_iff_not, Bool.not_eq_true', Bool.not_eq_false', Bool.and_eq_true, Bool.or_eq_true, beq_iff_eq, beq_eq_false_iff_ne] at h30
        refine ACode.skip ?_
        refine ACode.region ?_
        refine AOps.v rfl rfl rfl (AVal.addn rfl rfl (by omega)) ?_
        refine AOps.v rfl rfl rfl (AVal.moveN (by constructor)) ?_
        refine AOps.nil ?_
        refine ⟨i + 1, ⟨by omega, by rw [hg, drop_getD hlt, drop_getD (show i < b.length by omega), samesM, h30, Bool.true_and]⟩, by omega, rfl, (by repeat first | exact Agree.nil | refine Agree.cons (.refl _) ?_), (by repeat first | exact List.Sublist.refl _ | apply List.Sublist.cons_cons | apply List.Sublist.cons | exact List.nil_sublist _)⟩
    ·
      try simp only [decide_eq_true_eq, decide_eq_false_iff_not, Bool.not_eq_true', Bool.not_eq_false', Bool.and_eq_true, Bool.or_eq_true, beq_iff_eq, beq_eq_false_iff_ne] at h18
      refine ACode.exit ?_
      refine ACode.seq ?_
      refine ACode.region ?_
      refine AOps.v rfl rfl rfl (AVal.assignN (by constructor)) ?_
      refine AOps.nil ?_
      refine ACode.ret ?_
      refine AFin.pureRet rfl (.cons rfl .nil) ?_
      exact D.Le.eq (congrArg D.bool (by rw [hg, List.drop_of_length_le (by omega), List.drop_of_length_le (by omega)]; simp [samesM]))

theorem same_c (hS : SortedOk) : ∀ (m : Nat) (t u : Term), t.sz = m → t.fit 9223372036854775807 → u.fit 9223372036854775807 → AFn X 74 [encT t, encT u] (.bool (sameM t u)) := by
  intro m
  induction m using Nat.strongRecOn with
  | _ m ih =>
  intro t u hm hf hg
  refine ACalls.of_code Tryz.func74 rfl (by rfl) (Nat.le_of_ble_eq_true rfl) ?_
  refine ACode.seq ?_
  refine ACode.region ?_
  refine AOps.e rfl rfl rfl (AOp.boxA rfl (fun b2 => ?_))
  refine AOps.e rfl rfl rfl (AOp.boxA rfl (fun b3 => ?_))
  refine AOps.v rfl rfl rfl (AVal.assignN (by constructor)) ?_
  refine AOps.nil ?_
  refine ACode.seq ?_
  refine ACode.region ?_
  refine AOps.v rfl rfl rfl (AVal.fieldP rfl rfl) ?_
  refine AOps.v rfl rfl rfl (AVal.loadPN 1 rfl rfl rfl rfl (by constructor)) ?_
  refine AOps.v rfl rfl rfl (AVal.fieldP rfl rfl) ?_
  refine AOps.v rfl rfl rfl (AVal.loadPN 0 rfl rfl rfl rfl (by constructor)) ?_
  refine AOps.v rfl rfl rfl (AVal.eql rfl rfl) ?_
  refine AOps.v rfl rfl rfl (AVal.moveN (by constructor)) ?_
  refine AOps.split 10 rfl (fun h10 => ?_) (fun h10 => ?_)
  ·
    try simp only [decide_eq_true_eq, decide_eq_false_iff_not, Bool.not_eq_true', Bool.not_eq_false', Bool.and_eq_true, Bool.or_eq_true, beq_iff_eq, beq_eq_false_iff_ne] at h10
    refine AOps.vT rfl rfl rfl rfl rfl rfl (AVal.fieldP rfl rfl) ?_
    refine AOps.vT rfl rfl rfl rfl rfl rfl (AVal.loadPN 1 rfl rfl rfl rfl (by constructor)) ?_
    refine AOps.vT rfl rfl rfl rfl rfl rfl (AVal.fieldP rfl rfl) ?_
    refine AOps.vT rfl rfl rfl rfl rfl rfl (AVal.loadPN 0 rfl rfl rfl rfl (by constructor)) ?_
    refine AOps.vT rfl rfl rfl rfl rfl rfl (AVal.eql rfl rfl) ?_
    refine AOps.v rfl rfl rfl (AVal.pickT rfl (by constructor)) ?_
    refine AOps.v rfl rfl rfl (AVal.moveN (by constructor)) ?_
    refine AOps.split 17 rfl (fun h17 => ?_) (fun h17 => ?_)
    ·
      try simp only [decide_eq_true_eq, decide_eq_false_iff_not, Bool.not_eq_true', Bool.not_eq_false', Bool.and_eq_true, Bool.or_eq_true, beq_iff_eq, beq_eq_false_iff_ne] at h17
      refine AOps.vT rfl rfl rfl rfl rfl rfl (AVal.fieldP rfl rfl) ?_
      refine AOps.vT rfl rfl rfl rfl rfl rfl (AVal.loadPN 1 rfl rfl rfl rfl (by constructor)) ?_
      refine AOps.vT rfl rfl rfl rfl rfl rfl (AVal.fieldP rfl rfl) ?_
      refine AOps.vT rfl rfl rfl rfl rfl rfl (AVal.loadPN 0 rfl rfl rfl rfl (by constructor)) ?_
      refine AOps.vT rfl rfl rfl rfl rfl rfl (AVal.eql rfl rfl) ?_
      refine AOps.v rfl rfl rfl (AVal.pickT rfl (by constructor)) ?_
      refine AOps.v rfl rfl rfl (AVal.moveN (by constructor)) ?_
      refine AOps.split 24 rfl (fun h24 => ?_) (fun h24 => ?_)
      ·
        try simp only [decide_eq_true_eq, decide_eq_false_iff_not, Bool.not_eq_true', Bool.not_eq_false', Bool.and_eq_true, Bool.or_eq_true, beq_iff_eq, beq_eq_false_iff_ne] at h24
        refine AOps.vT rfl rfl rfl rfl rfl rfl (AVal.fieldP rfl rfl) ?_
        refine AOps.vT rfl rfl rfl rfl rfl rfl (AVal.loadPN 1 rfl rfl rfl rfl (by constructor)) ?_
        refine AOps.vT rfl rfl rfl rfl rfl rfl (AVal.fieldP rfl rfl) ?_
        refine AOps.vT rfl rfl rfl rfl rfl rfl (AVal.loadPN 0 rfl rfl rfl rfl (by constructor)) ?_
        refine AOps.eT rfl rfl rfl rfl rfl rfl (AOp.callP (eqLvs_c hS t.levels u.levels hf.llen (fun l hl => hf.plen hl) (fun l hl => hg.plen hl)) (by first | exact LeL.eq rfl | (repeat constructor)) ?_)
        refine AOps.v rfl rfl rfl (AVal.pickT rfl (by constructor)) ?_
        refine AOps.v rfl rfl rfl (AVal.moveN (by constructor)) ?_
        refine AOps.split 31 rfl (fun h31 => ?_) (fun h31 => ?_)
        ·
          try simp only [decide_eq_true_eq, decide_eq_false_iff_not, Bool.not_eq_true', Bool.not_eq_false', Bool.and_eq_true, Bool.or_eq_true, beq_iff_eq, beq_eq_false_iff_ne] at h31
          refine AOps.vT rfl rfl rfl rfl rfl rfl (AVal.fieldP rfl rfl) ?_
          refine AOps.vT rfl rfl rfl rfl rfl rfl (AVal.loadPN 1 rfl rfl rfl rfl (by constructor)) ?_
          refine AOps.vT rfl rfl rfl rfl rfl rfl (AVal.fieldP rfl rfl) ?_
          refine AOps.vT rfl rfl rfl rfl rfl rfl (AVal.loadPN 0 rfl rfl rfl rfl (by constructor)) ?_
          refine AOps.eT rfl rfl rfl rfl rfl rfl (AOp.callP (eqTs_c t.kids u.kids hf.len (fun k hk v hv => ih k.sz (by rw [← hm]; exact Term.sz_lt hk) k v rfl (hf.kid hk) (hg.kid hv))) (by first | exact LeL.eq rfl | (repeat constructor)) ?_)
          refine AOps.v rfl rfl rfl (AVal.pickT rfl (by constructor)) ?_
          refine AOps.v rfl rfl rfl (AVal.assignN (by constructor)) ?_
          refine AOps.nil ?_
          refine ACode.ret ?_
          refine AFin.pureRet rfl (.cons rfl .nil) ?_
          exact D.Le.eq (congrArg D.bool (by rw [sameM_eq]; simp_all))
        ·
          try simp only [decide_eq_true_eq, decide_eq_false_iff_not, Bool.not_eq_true', Bool.not_eq_false', Bool.and_eq_true, Bool.or_eq_true, beq_iff_eq, beq_eq_false_iff_ne] at h31
          refine AOps.vF rfl rfl rfl rfl rfl rfl rfl ?_
          refine AOps.vF rfl rfl rfl rfl rfl rfl rfl ?_
          refine AOps.vF rfl rfl rfl rfl rfl rfl rfl ?_
          refine AOps.vF rfl rfl rfl rfl rfl rfl rfl ?_
          refine AOps.vF rfl rfl rfl rfl rfl rfl rfl ?_
          refine AOps.v rfl rfl rfl (AVal.pickF rfl (by constructor)) ?_
          refine AOps.v rfl rfl rfl (AVal.assignN (by constructor)) ?_
          refine AOps.nil ?_
          refine ACode.ret ?_
          refine AFin.pureRet rfl (.cons rfl .nil) ?_
          exact D.Le.eq (congrArg D.bool (by rw [sameM_eq]; simp_all))
      ·
        try simp only [decide_eq_true_eq, decide_eq_false_iff_not, Bool.not_eq_true', Bool.not_eq_false', Bool.and_eq_true, Bool.or_eq_true, beq_iff_eq, beq_eq_false_iff_ne] at h24
        refine AOps.vF rfl rfl rfl rfl rfl rfl rfl ?_
        refine AOps.vF rfl rfl rfl rfl rfl rfl rfl ?_
        refine AOps.vF rfl rfl rfl rfl rfl rfl rfl ?_
        refine AOps.vF rfl rfl rfl rfl rfl rfl rfl ?_
        refine AOps.vF rfl rfl rfl rfl rfl rfl rfl ?_
        refine AOps.v rfl rfl rfl (AVal.pickF rfl (by constructor)) ?_
        refine AOps.v rfl rfl rfl (AVal.moveN (by constructor)) ?_
        refine AOps.vF rfl rfl rfl rfl rfl rfl rfl ?_
        refine AOps.vF rfl rfl rfl rfl rfl rfl rfl ?_
        refine AOps.vF rfl rfl rfl rfl rfl rfl rfl ?_
        refine AOps.vF rfl rfl rfl rfl rfl rfl rfl ?_
        refine AOps.vF rfl rfl rfl rfl rfl rfl rfl ?_
        refine AOps.v rfl rfl rfl (AVal.pickF rfl (by constructor)) ?_
        refine AOps.v rfl rfl rfl (AVal.assignN (by constructor)) ?_
        refine AOps.nil ?_
        refine ACode.ret ?_
        refine AFin.pureRet rfl (.cons rfl .nil) ?_
        exact D.Le.eq (congrArg D.bool (by rw [sameM_eq]; simp_all))
    ·
      try simp only [decide_eq_true_eq, decide_eq_false_iff_not, Bool.not_eq_true', Bool.not_eq_false', Bool.and_eq_true, Bool.or_eq_true, beq_iff_eq, beq_eq_false_iff_ne] at h17
      refine AOps.vF rfl rfl rfl rfl rfl rfl rfl ?_
      refine AOps.vF rfl rfl rfl rfl rfl rfl rfl ?_
      refine AOps.vF rfl rfl rfl rfl rfl rfl rfl ?_
      refine AOps.vF rfl rfl rfl rfl rfl rfl rfl ?_
      refine AOps.vF rfl rfl rfl rfl rfl rfl rfl ?_
      refine AOps.v rfl rfl rfl (AVal.pickF rfl (by constructor)) ?_
      refine AOps.v rfl rfl rfl (AVal.moveN (by constructor)) ?_
      refine AOps.vF rfl rfl rfl rfl rfl rfl rfl ?_
      refine AOps.vF rfl rfl rfl rfl rfl rfl rfl ?_
      refine AOps.vF rfl rfl rfl rfl rfl rfl rfl ?_
      refine AOps.vF rfl rfl rfl rfl rfl rfl rfl ?_
      refine AOps.vF rfl rfl rfl rfl rfl rfl rfl ?_
      refine AOps.v rfl rfl rfl (AVal.pickF rfl (by constructor)) ?_
      refine AOps.v rfl rfl rfl (AVal.moveN (by constructor)) ?_
      refine AOps.vF rfl rfl rfl rfl rfl rfl rfl ?_
      refine AOps.vF rfl rfl rfl rfl rfl rfl rfl ?_
      refine AOps.vF rfl rfl rfl rfl rfl rfl rfl ?_
      refine AOps.vF rfl rfl rfl rfl rfl rfl rfl ?_
      refine AOps.vF rfl rfl rfl rfl rfl rfl rfl ?_
      refine AOps.v rfl rfl rfl (AVal.pickF rfl (by constructor)) ?_
      refine AOps.v rfl rfl rfl (AVal.assignN (by constructor)) ?_
      refine AOps.nil ?_
      refine ACode.ret ?_
      refine AFin.pureRet rfl (.cons rfl .nil) ?_
      exact D.Le.eq (congrArg D.bool (by rw [sameM_eq]; simp_all))
  ·
    try simp only [decide_eq_true_eq, decide_eq_false_iff_not, Bool.not_eq_true', Bool.not_eq_false', Bool.and_eq_true, Bool.or_eq_true, beq_iff_eq, beq_eq_false_iff_ne] at h10
    refine AOps.vF rfl rfl rfl rfl rfl rfl rfl ?_
    refine AOps.vF rfl rfl rfl rfl rfl rfl rfl ?_
    refine AOps.vF rfl rfl rfl rfl rfl rfl rfl ?_
    refine AOps.vF rfl rfl rfl rfl rfl rfl rfl ?_
    refine AOps.vF rfl rfl rfl rfl rfl rfl rfl ?_
    refine AOps.v rfl rfl rfl (AVal.pickF rfl (by constructor)) ?_
    refine AOps.v rfl rfl rfl (AVal.moveN (by constructor)) ?_
    refine AOps.vF rfl rfl rfl rfl rfl rfl rfl ?_
    refine AOps.vF rfl rfl rfl rfl rfl rfl rfl ?_
    refine AOps.vF rfl rfl rfl rfl rfl rfl rfl ?_
    refine AOps.vF rfl rfl rfl rfl rfl rfl rfl ?_
    refine AOps.vF rfl rfl rfl rfl rfl rfl rfl ?_
    refine AOps.v rfl rfl rfl (AVal.pickF rfl (by constructor)) ?_
    refine AOps.v rfl rfl rfl (AVal.moveN (by constructor)) ?_
    refine AOps.vF rfl rfl rfl rfl rfl rfl rfl ?_
    refine AOps.vF rfl rfl rfl rfl rfl rfl rfl ?_
    refine AOps.vF rfl rfl rfl rfl rfl rfl rfl ?_
    refine AOps.vF rfl rfl rfl rfl rfl rfl rfl ?_
    refine AOps.vF rfl rfl rfl rfl rfl rfl rfl ?_
    refine AOps.v rfl rfl rfl (AVal.pickF rfl (by constructor)) ?_
    refine AOps.v rfl rfl rfl (AVal.moveN (by constructor)) ?_
    refine AOps.vF rfl rfl rfl rfl rfl rfl rfl ?_
    refine AOps.vF rfl rfl rfl rfl rfl rfl rfl ?_
    refine AOps.vF rfl rfl rfl rfl rfl rfl rfl ?_
    refine AOps.vF rfl rfl rfl rfl rfl rfl rfl ?_
    refine AOps.vF rfl rfl rfl rfl rfl rfl rfl ?_
    refine AOps.v rfl rfl rfl (AVal.pickF rfl (by constructor)) ?_
    refine AOps.v rfl rfl rfl (AVal.assignN (by constructor)) ?_
    refine AOps.nil ?_
    refine ACode.ret ?_
    refine AFin.pureRet rfl (.cons rfl .nil) ?_
    exact D.Le.eq (congrArg D.bool (by rw [sameM_eq]; simp_all))

theorem ckids_c (t : Term) (zs : List Int) (hz : ∀ z ∈ zs, 0 ≤ z) (hl : zs.length ≤ 1000000) : AFn X 80 [encT t, .slc (zs.map (D.int .i64))] (.slT (zs.map (kid t))) := by
  refine ACalls.of_code Tryz.func80 rfl (by rfl) (Nat.le_of_ble_eq_true rfl) ?_
  refine ACode.seq ?_
  refine ACode.region ?_
  refine AOps.e rfl rfl rfl (AOp.boxA rfl (fun b2 => ?_))
  refine AOps.v rfl rfl rfl (AVal.assignN (by constructor)) ?_
  refine AOps.nil ?_
  refine ACode.seq ?_
  refine ACode.seq ?_
  refine ACode.region ?_
  refine AOps.v rfl rfl rfl (AVal.moveN (by constructor)) ?_
  refine AOps.v rfl rfl rfl (AVal.lenZ rfl rfl) ?_
  refine AOps.v rfl rfl rfl (AVal.moveN (by constructor)) ?_
  refine AOps.nil ?_
  refine ACode.block ?_
  refine ACode.loop (γ := Nat × Nat × Nat) (fun g => [(2, .ptr b2 0), (8, .slc (zs.map (D.int .i64))), (9, .int .i64 zs.length), (10, .int .i64 g.1), (4, growD g.1 g.2.1 g.2.2 (((zs.take g.1).map (kid t)).map encT))]) (fun g => growL 27 5 g.1 g.2.1 g.2.2 (((zs.take g.1).map (kid t)).map encT) ++ [(b2, .cells 27 (cellsT t))]) (fun g => g.1 ≤ zs.length) (fun g => zs.length - g.1) (0, 0, 0) (Nat.zero_le _) (by repeat first | exact Agree.nil | refine Agree.cons (.refl _) ?_) (by repeat first | exact List.Sublist.refl _ | apply List.Sublist.cons_cons | apply List.Sublist.cons | exact List.nil_sublist _) ?_
  rintro ⟨i, bb, cap⟩ hi t1
  simp only at hi ⊢
  rcases i with _ | i
  ·
    simp only [growL, growD, List.nil_append]
    refine ACode.seq ?_
    refine ACode.region ?_
    refine AOps.v rfl rfl rfl (AVal.lss rfl rfl) ?_
    refine AOps.nil ?_
    refine ACode.seq ?_
    refine ACode.condS rfl (fun h11 => ?_) (fun h11 => ?_)
    ·
      try simp only [decide_eq_true_eq, decide_eq_false_iff_not, Bool.not_eq_true', Bool.not_eq_false', Bool.and_eq_true, Bool.or_eq_true, beq_iff_eq, beq_eq_false_iff_ne] at h11
      have hlt : (0 : Nat) < zs.length := by omega
      have hz0 := hz _ (getD_mem hlt)
      refine ACode.skip ?_
      refine ACode.seq ?_
      refine ACode.block ?_
      refine ACode.seq ?_
      refine ACode.region ?_
      refine AOps.v rfl rfl rfl (AVal.indexZ rfl rfl rfl rfl rfl hlt) ?_
      refine AOps.v rfl rfl rfl (AVal.loadEN rfl rfl rfl (by constructor)) ?_
      refine AOps.v rfl rfl rfl (AVal.assignN (by constructor)) ?_
      refine AOps.nil ?_
      refine ACode.seq ?_
      refine ACode.region ?_
      refine AOps.v rfl rfl rfl (AVal.buildT rfl rfl rfl (by constructor) (by constructor)) ?_
      refine AOps.e rfl rfl rfl (AOp.allocN rfl rfl (fun b7 => ?_))
      refine AOps.e0 rfl rfl (AOp.storeN 0 rfl rfl rfl (by constructor) rfl rfl rfl (by repeat constructor) (by repeat constructor) ?_)
      refine AOps.nil ?_
      refine ACode.seq ?_
      refine ACode.seq ?_
      refine ACode.region ?_
      refine AOps.v rfl rfl rfl (AVal.moveN (by constructor)) ?_
      refine AOps.v rfl rfl rfl (AVal.fieldP rfl rfl) ?_
      refine AOps.v rfl rfl rfl (AVal.loadPN 1 rfl rfl rfl rfl (by constructor)) ?_
      refine AOps.v rfl rfl rfl (AVal.len rfl rfl rfl) ?_
      refine AOps.v rfl rfl rfl (AVal.lss rfl rfl) ?_
      refine AOps.nil ?_
      refine ACode.condS rfl (fun h19 => ?_) (fun h19 => ?_)
      ·
        try simp only [decide_eq_true_eq, decide_eq_false_iff_not, Bool.not_eq_true', Bool.not_eq_false', Bool.and_eq_true, Bool.or_eq_true, beq_iff_eq, beq_eq_false_iff_ne] at h19
        have hk : t.kids.getD (zs.getD (0) default).toNat default = kid t (zs.getD (0) default) := by unfold kid; rw [if_neg (by omega)]
        refine ACode.region ?_
        refine AOps.v rfl rfl rfl (AVal.fieldP rfl rfl) ?_
        refine AOps.v rfl rfl rfl (AVal.loadPN 1 rfl rfl rfl rfl (by constructor)) ?_
        refine AOps.v rfl rfl rfl (AVal.moveN (by constructor)) ?_
        refine AOps.v rfl rfl rfl (AVal.indexTN rfl rfl rfl rfl rfl ⟨by omega, by omega⟩) ?_
        refine AOps.v rfl rfl rfl (AVal.loadE (d := encT _) rfl rfl rfl) ?_
        refine AOps.e0 rfl rfl (AOp.storeN 0 rfl rfl rfl (by constructor) rfl rfl rfl (by repeat constructor) (by repeat constructor) ?_)
        refine AOps.nil ?_
        refine ACode.region ?_
        refine AOps.v rfl rfl rfl (AVal.moveN (by constructor)) ?_
        refine AOps.v rfl rfl rfl (AVal.loadP (d := encT _) 0 rfl rfl rfl rfl) ?_
        refine AOps.e rfl rfl rfl (AOp.buildSliceT (ts := [_]) rfl rfl rfl rfl rfl ?_)
        refine AOps.e rfl rfl rfl (AOp.app1New rfl rfl rfl rfl rfl rfl rfl rfl (fun bq cap' => ?_))
        refine AOps.v rfl rfl rfl (AVal.assignN (by constructor)) ?_
        refine AOps.nil ?_
        refine ACode.region ?_
        refine AOps.v rfl rfl rfl (AVal.addn rfl rfl (by omega)) ?_
        refine AOps.v rfl rfl rfl (AVal.moveN (by constructor)) ?_
        refine AOps.nil ?_
        refine ⟨(0 + 1, bq, cap'), by simp only; omega, by simp only; omega, rfl, ?_, ?_⟩
        · refine Agree.cons (.refl _) (Agree.cons (.refl _) (Agree.cons (.refl _) (Agree.cons (.refl _) (Agree.cons (D.Le.eq ?_) Agree.nil))))
          simp only [growD, kidsM_take hlt, ← hk, List.map_append, List.map_cons, List.map_nil]
          rfl
        · simp only [growL, List.cons_append, List.nil_append, kidsM_take hlt, ← hk, List.map_append, List.map_cons, List.map_nil]
          exact (by repeat first | exact List.Sublist.refl _ | apply List.Sublist.cons_cons | apply List.Sublist.cons | exact List.nil_sublist _)
      ·
        try simp only [decide_eq_true_eq, decide_eq_false_iff_not, Bool.not_eq_true', Bool.not_eq_false', Bool.and_eq_true, Bool.or_eq_true, beq_iff_eq, beq_eq_false_iff_ne] at h19
        have hk : T0 = kid t (zs.getD (0) default) := by unfold kid; rw [if_pos (by omega)]
        refine ACode.skip ?_
        refine ACode.region ?_
        refine AOps.v rfl rfl rfl (AVal.moveN (by constructor)) ?_
        refine AOps.v rfl rfl rfl (AVal.loadP (d := encT _) 0 rfl rfl rfl rfl) ?_
        refine AOps.e rfl rfl rfl (AOp.buildSliceT (ts := [_]) rfl rfl rfl rfl rfl ?_)
        refine AOps.e rfl rfl rfl (AOp.app1New rfl rfl rfl rfl rfl rfl rfl rfl (fun bq cap' => ?_))
        refine AOps.v rfl rfl rfl (AVal.assignN (by constructor)) ?_
        refine AOps.nil ?_
        refine ACode.region ?_
        refine AOps.v rfl rfl rfl (AVal.addn rfl rfl (by omega)) ?_
        refine AOps.v rfl rfl rfl (AVal.moveN (by constructor)) ?_
        refine AOps.nil ?_
        refine ⟨(0 + 1, bq, cap'), by simp only; omega, by simp only; omega, rfl, ?_, ?_⟩
        · refine Agree.cons (.refl _) (Agree.cons (.refl _) (Agree.cons (.refl _) (Agree.cons (.refl _) (Agree.cons (D.Le.eq ?_) Agree.nil))))
          simp only [growD, kidsM_take hlt, ← hk, List.map_append, List.map_cons, List.map_nil]
          rfl
        · simp only [growL, List.cons_append, List.nil_append, kidsM_take hlt, ← hk, List.map_append, List.map_cons, List.map_nil]
          exact (by repeat first | exact List.Sublist.refl _ | apply List.Sublist.cons_cons | apply List.Sublist.cons | exact List.nil_sublist _)
    ·
      try simp only [decide_eq_true_eq, decide_eq_false_iff_not, Bool.not_eq_true', Bool.not_eq_false', Bool.and_eq_true, Bool.or_eq_true, beq_iff_eq, beq_eq_false_iff_ne] at h11
      refine ACode.exit ?_
      refine ACode.seq ?_
      refine ACode.region ?_
      refine AOps.v rfl rfl rfl (AVal.moveN (by constructor)) ?_
      refine AOps.v rfl rfl rfl (AVal.assignN (by constructor)) ?_
      refine AOps.nil ?_
      refine ACode.ret ?_
      refine AFin.pureRet rfl (.cons rfl .nil) ?_
      exact .emp _ (by rw [List.eq_nil_of_length_eq_zero (by omega : zs.length = 0)]; rfl)
  ·
    simp only [growL, growD, List.cons_append, List.nil_append]
    refine ACode.seq ?_
    refine ACode.region ?_
    refine AOps.v rfl rfl rfl (AVal.lss rfl rfl) ?_
    refine AOps.nil ?_
    refine ACode.seq ?_
    refine ACode.condS rfl (fun h11 => ?_) (fun h11 => ?_)
    ·
      try simp only [decide_eq_true_eq, decide_eq_false_iff_not, Bool.not_eq_true', Bool.not_eq_false', Bool.and_eq_true, Bool.or_eq_true, beq_iff_eq, beq_eq_false_iff_ne] at h11
      have hlt : (i + 1 : Nat) < zs.length := by omega
      have hz0 := hz _ (getD_mem hlt)
      refine ACode.skip ?_
      refine ACode.seq ?_
      refine ACode.block ?_
      refine ACode.seq ?_
      refine ACode.region ?_
      refine AOps.v rfl rfl rfl (AVal.indexZ rfl rfl rfl rfl rfl hlt) ?_
      refine AOps.v rfl rfl rfl (AVal.loadEN rfl rfl rfl (by constructor)) ?_
      refine AOps.v rfl rfl rfl (AVal.assignN (by constructor)) ?_
      refine AOps.nil ?_
      refine ACode.seq ?_
      refine ACode.region ?_
      refine AOps.v rfl rfl rfl (AVal.buildT rfl rfl rfl (by constructor) (by constructor)) ?_
      refine AOps.e rfl rfl rfl (AOp.allocN rfl rfl (fun b7 => ?_))
      refine AOps.e0 rfl rfl (AOp.storeN 0 rfl rfl rfl (by constructor) rfl rfl rfl (by repeat constructor) (by repeat constructor) ?_)
      refine AOps.nil ?_
      refine ACode.seq ?_
      refine ACode.seq ?_
      refine ACode.region ?_
      refine AOps.v rfl rfl rfl (AVal.moveN (by constructor)) ?_
      refine AOps.v rfl rfl rfl (AVal.fieldP rfl rfl) ?_
      refine AOps.v rfl rfl rfl (AVal.loadPN 2 rfl rfl rfl rfl (by constructor)) ?_
      refine AOps.v rfl rfl rfl (AVal.len rfl rfl rfl) ?_
      refine AOps.v rfl rfl rfl (AVal.lss rfl rfl) ?_
      refine AOps.nil ?_
      refine ACode.condS rfl (fun h19 => ?_) (fun h19 => ?_)
      ·
        try simp only [decide_eq_true_eq, decide_eq_false_iff_not, Bool.not_eq_true', Bool.not_eq_false', Bool.and_eq_true, Bool.or_eq_true, beq_iff_eq, beq_eq_false_iff_ne] at h19
        have hk : t.kids.getD (zs.getD (i + 1) default).toNat default = kid t (zs.getD (i + 1) default) := by unfold kid; rw [if_neg (by omega)]
        refine ACode.region ?_
        refine AOps.v rfl rfl rfl (AVal.fieldP rfl rfl) ?_
        refine AOps.v rfl rfl rfl (AVal.loadPN 2 rfl rfl rfl rfl (by constructor)) ?_
        refine AOps.v rfl rfl rfl (AVal.moveN (by constructor)) ?_
        refine AOps.v rfl rfl rfl (AVal.indexTN rfl rfl rfl rfl rfl ⟨by omega, by omega⟩) ?_
        refine AOps.v rfl rfl rfl (AVal.loadE (d := encT _) rfl rfl rfl) ?_
        refine AOps.e0 rfl rfl (AOp.storeN 0 rfl rfl rfl (by constructor) rfl rfl rfl (by repeat constructor) (by repeat constructor) ?_)
        refine AOps.nil ?_
        refine ACode.region ?_
        refine AOps.v rfl rfl rfl (AVal.moveN (by constructor)) ?_
        refine AOps.v rfl rfl rfl (AVal.loadP (d := encT _) 0 rfl rfl rfl rfl) ?_
        refine AOps.e rfl rfl rfl (AOp.buildSliceT (ts := [_]) rfl rfl rfl rfl rfl ?_)
        refine AOps.e rfl rfl rfl (AOp.app1Own 1 rfl rfl rfl rfl rfl rfl rfl rfl rfl (by simp only [List.length_map, List.length_take]; omega) rfl (by repeat constructor) (fun bq cap' => ?_))
        refine AOps.v rfl rfl rfl (AVal.assignN (by constructor)) ?_
        refine AOps.nil ?_
        refine ACode.region ?_
        refine AOps.v rfl rfl rfl (AVal.addn rfl rfl (by omega)) ?_
        refine AOps.v rfl rfl rfl (AVal.moveN (by constructor)) ?_
        refine AOps.nil ?_
        refine ⟨(i + 1 + 1, bq, cap'), by simp only; omega, by simp only; omega, rfl, ?_, ?_⟩
        · refine Agree.cons (.refl _) (Agree.cons (.refl _) (Agree.cons (.refl _) (Agree.cons (.refl _) (Agree.cons (D.Le.eq ?_) Agree.nil))))
          simp only [growD, kidsM_take hlt, ← hk, List.map_append, List.map_cons, List.map_nil]
          rfl
        · simp only [growL, List.cons_append, List.nil_append, kidsM_take hlt, ← hk, List.map_append, List.map_cons, List.map_nil]
          exact (by repeat first | exact List.Sublist.refl _ | apply List.Sublist.cons_cons | apply List.Sublist.cons | exact List.nil_sublist _)
      ·
        try simp only [decide_eq_true_eq, decide_eq_false_iff_not, Bool.not_eq_true', Bool.not_eq_false', Bool.and_eq_true, Bool.or_eq_true, beq_iff_eq, beq_eq_false_iff_ne] at h19
        have hk : T0 = kid t (zs.getD (i + 1) default) := by unfold kid; rw [if_pos (by omega)]
        refine ACode.skip ?_
        refine ACode.region ?_
        refine AOps.v rfl rfl rfl (AVal.moveN (by constructor)) ?_
        refine AOps.v rfl rfl rfl (AVal.loadP (d := encT _) 0 rfl rfl rfl rfl) ?_
        refine AOps.e rfl rfl rfl (AOp.buildSliceT (ts := [_]) rfl rfl rfl rfl rfl ?_)
        refine AOps.e rfl rfl rfl (AOp.app1Own 1 rfl rfl rfl rfl rfl rfl rfl rfl rfl (by simp only [List.length_map, List.length_take]; omega) rfl (by repeat constructor) (fun bq cap' => ?_))
        refine AOps.v rfl rfl rfl (AVal.assignN (by constructor)) ?_
        refine AOps.nil ?_
        refine ACode.region ?_
        refine AOps.v rfl rfl rfl (AVal.addn rfl rfl (by omega)) ?_
        refine AOps.v rfl rfl rfl (AVal.moveN (by constructor)) ?_
        refine AOps.nil ?_
        refine ⟨(i + 1 + 1, bq, cap'), by simp only; omega, by simp only; omega, rfl, ?_, ?_⟩
        · refine Agree.cons (.refl _) (Agree.cons (.refl _) (Agree.cons (.refl _) (Agree.cons (.refl _) (Agree.cons (D.Le.eq ?_) Agree.nil))))
          simp only [growD, kidsM_take hlt, ← hk, List.map_append, List.map_cons, List.map_nil]
          rfl
        · simp only [growL, List.cons_append, List.nil_append, kidsM_take hlt, ← hk, List.map_append, List.map_cons, List.map_nil]
          exact (by repeat first | exact List.Sublist.refl _ | apply List.Sublist.cons_cons | apply List.Sublist.cons | exact List.nil_sublist _)
    ·
      try simp only [decide_eq_true_eq, decide_eq_false_iff_not, Bool.not_eq_true', Bool.not_eq_false', Bool.and_eq_true, Bool.or_eq_true, beq_iff_eq, beq_eq_false_iff_ne] at h11
      refine ACode.exit ?_
      refine ACode.seq ?_
      refine ACode.region ?_
      refine AOps.v rfl rfl rfl (AVal.moveN (by constructor)) ?_
      refine AOps.v rfl rfl rfl (AVal.assignN (by constructor)) ?_
      refine AOps.nil ?_
      refine ACode.ret ?_
      refine AFin.pureRet rfl (.cons rfl .nil) ?_
      exact .own _ _ _ _ (by rw [List.take_of_length_le (by omega)]; rfl)

theorem parts1_c (t : Term) (b2c : Nat) (R : Loc) : AKeep X 163 [.ptr b2c 0] ((b2c, .cells 27 (cellsT t)) :: R) (.slT [kid t 1]) := by
  refine ACalls.of_code Tryz.func163 rfl (by rfl) (Nat.le_of_ble_eq_true rfl) ?_
  refine ACode.seq ?_
  refine ACode.region ?_
  refine AOps.v rfl rfl rfl (AVal.assignN (by constructor)) ?_
  refine AOps.nil ?_
  refine ACode.seq ?_
  refine ACode.region ?_
  refine AOps.v rfl rfl rfl (AVal.loadP (d := encT _) 0 rfl rfl rfl rfl) ?_
  refine AOps.e rfl rfl rfl (AOp.buildSlice (es := [.int .i64 _]) rfl rfl rfl rfl rfl ?_)
  refine AOps.e rfl rfl rfl (AOp.callP (ckids_c t [1] (by simp) (by simp)) (LeL.eq rfl) ?_)
  refine AOps.v rfl rfl rfl (AVal.assignN (by constructor)) ?_
  refine AOps.nil ?_
  refine ACode.ret ?_
  refine AFin.keepRet rfl (.cons rfl .nil) (by repeat first | exact List.Sublist.refl _ | apply List.Sublist.cons_cons | apply List.Sublist.cons) ?_
  exact .refl _

theorem parts2_c (t : Term) (b2c : Nat) (R : Loc) : AKeep X 165 [.ptr b2c 0] ((b2c, .cells 27 (cellsT t)) :: R) (.slT [kid t 0, kid t 1]) := by
  refine ACalls.of_code Tryz.func165 rfl (by rfl) (Nat.le_of_ble_eq_true rfl) ?_
  refine ACode.seq ?_
  refine ACode.region ?_
  refine AOps.v rfl rfl rfl (AVal.assignN (by constructor)) ?_
  refine AOps.nil ?_
  refine ACode.seq ?_
  refine ACode.region ?_
  refine AOps.v rfl rfl rfl (AVal.loadP (d := encT _) 0 rfl rfl rfl rfl) ?_
  refine AOps.e rfl rfl rfl (AOp.buildSlice (es := [.int .i64 _, .int .i64 _]) rfl rfl rfl rfl rfl ?_)
  refine AOps.e rfl rfl rfl (AOp.callP (ckids_c t [0, 1] (by simp) (by simp)) (LeL.eq rfl) ?_)
  refine AOps.v rfl rfl rfl (AVal.assignN (by constructor)) ?_
  refine AOps.nil ?_
  refine ACode.ret ?_
  refine AFin.keepRet rfl (.cons rfl .nil) (by repeat first | exact List.Sublist.refl _ | apply List.Sublist.cons_cons | apply List.Sublist.cons) ?_
  exact .refl _

theorem applied_c (t : Term) (ht : t.fit 1099511627776) (hs : t.sz ≤ 4611686018427387904) : AFn X 164 [encT t] (.slT (appliedM t)) := by
  refine ACalls.of_code Tryz.func164 rfl (by rfl) (Nat.le_of_ble_eq_true rfl) ?_
  refine ACode.seq ?_
  refine ACode.region ?_
  refine AOps.e rfl rfl rfl (AOp.boxA rfl (fun b1 => ?_))
  refine AOps.v rfl rfl rfl (AVal.assignN (by constructor)) ?_
  refine AOps.nil ?_
  refine ACode.seq ?_
  refine ACode.region ?_
  refine AOps.v rfl rfl rfl (AVal.loadP (d := encT _) 0 rfl rfl rfl rfl) ?_
  refine AOps.e rfl rfl rfl (AOp.callP (lift_c t 1 0 ht hs) (by first | exact LeL.eq rfl | (repeat constructor)) ?_)
  refine AOps.v rfl rfl rfl (AVal.buildT rfl rfl rfl (by constructor) (by constructor)) ?_
  refine AOps.e rfl rfl rfl (AOp.buildSliceT (ts := [_, _]) rfl rfl rfl rfl rfl ?_)
  refine AOps.v rfl rfl rfl (AVal.buildT rfl rfl rfl (by constructor) (by constructor)) ?_
  refine AOps.e rfl rfl rfl (AOp.buildSliceT (ts := [_]) rfl rfl rfl rfl rfl ?_)
  refine AOps.v rfl rfl rfl (AVal.assignN (by constructor)) ?_
  refine AOps.nil ?_
  refine ACode.ret ?_
  refine AFin.pureRet rfl (.cons rfl .nil) ?_
  exact .refl _

theorem halves_c (t : Term) : AFn X 166 [encT t] (.slT (halvesM t)) := by
  refine ACalls.of_code Tryz.func166 rfl (by rfl) (Nat.le_of_ble_eq_true rfl) ?_
  refine ACode.seq ?_
  refine ACode.region ?_
  refine AOps.e rfl rfl rfl (AOp.boxA rfl (fun b1 => ?_))
  refine AOps.v rfl rfl rfl (AVal.assignN (by constructor)) ?_
  refine AOps.nil ?_
  refine ACode.seq ?_
  refine ACode.region ?_
  refine AOps.v rfl rfl rfl (AVal.loadP (d := encT _) 0 rfl rfl rfl rfl) ?_
  refine AOps.e rfl rfl rfl (AOp.buildSliceT (ts := [_]) rfl rfl rfl rfl rfl ?_)
  refine AOps.v rfl rfl rfl (AVal.buildT rfl rfl rfl (by constructor) (by constructor)) ?_
  refine AOps.v rfl rfl rfl (AVal.loadP (d := encT _) 0 rfl rfl rfl rfl) ?_
  refine AOps.e rfl rfl rfl (AOp.buildSliceT (ts := [_]) rfl rfl rfl rfl rfl ?_)
  refine AOps.v rfl rfl rfl (AVal.buildT rfl rfl rfl (by constructor) (by constructor)) ?_
  refine AOps.e rfl rfl rfl (AOp.buildSliceT (ts := [_, _]) rfl rfl rfl rfl rfl ?_)
  refine AOps.v rfl rfl rfl (AVal.assignN (by constructor)) ?_
  refine AOps.nil ?_
  refine ACode.ret ?_
  refine AFin.pureRet rfl (.cons rfl .nil) ?_
  exact .refl _

theorem parts_c (t : Term) (k : Int) (ht : t.fit 1099511627776) (hs : t.sz ≤ 4611686018427387904) : AFn X 127 [encT t, .int .i64 k] (.slT (partsM t k)) := by
  refine ACalls.of_code Tryz.func127 rfl (by rfl) (Nat.le_of_ble_eq_true rfl) ?_
  refine ACode.seq ?_
  refine ACode.region ?_
  refine AOps.e rfl rfl rfl (AOp.boxA rfl (fun b2 => ?_))
  refine AOps.v rfl rfl rfl (AVal.assignN (by constructor)) ?_
  refine AOps.nil ?_
  refine ACode.seq ?_
  refine ACode.region ?_
  refine AOps.v rfl rfl rfl (AVal.makeFunc) ?_
  refine AOps.v rfl rfl rfl (AVal.assignN (by constructor)) ?_
  refine AOps.v rfl rfl rfl (AVal.assignN (by constructor)) ?_
  refine AOps.nil ?_
  refine ACode.seq ?_
  refine ACode.seq ?_
  refine ACode.region ?_
  refine AOps.v rfl rfl rfl (AVal.moveN (by constructor)) ?_
  refine AOps.v rfl rfl rfl (AVal.eql rfl rfl) ?_
  refine AOps.nil ?_
  refine ACode.condS rfl (fun h9 => ?_) (fun h9 => ?_)
  ·
    try simp only [decide_eq_true_eq, decide_eq_false_iff_not, Bool.not_eq_true', Bool.not_eq_false', Bool.and_eq_true, Bool.or_eq_true, beq_iff_eq, beq_eq_false_iff_ne] at h9
    refine ACode.region ?_
    refine AOps.v rfl rfl rfl (AVal.makeFunc) ?_
    refine AOps.v rfl rfl rfl (AVal.assignN (by constructor)) ?_
    refine AOps.v rfl rfl rfl (AVal.assignN (by constructor)) ?_
    refine AOps.nil ?_
    refine ACode.seq ?_
    refine ACode.seq ?_
    refine ACode.region ?_
    refine AOps.v rfl rfl rfl (AVal.fieldP rfl rfl) ?_
    refine AOps.v rfl rfl rfl (AVal.loadPN 0 rfl rfl rfl rfl (by constructor)) ?_
    refine AOps.v rfl rfl rfl (AVal.moveN (by constructor)) ?_
    refine AOps.v rfl rfl rfl (AVal.eql rfl rfl) ?_
    refine AOps.nil ?_
    refine ACode.condS rfl (fun h14 => ?_) (fun h14 => ?_)
    ·
      try simp only [decide_eq_true_eq, decide_eq_false_iff_not, Bool.not_eq_true', Bool.not_eq_false', Bool.and_eq_true, Bool.or_eq_true, beq_iff_eq, beq_eq_false_iff_ne] at h14
      refine ACode.seq ?_
      refine ACode.region ?_
      refine AOps.v rfl rfl rfl (AVal.moveN (by constructor)) ?_
      refine AOps.e rfl rfl rfl (AOp.callVK [] rfl (parts2_c t b2 []) (LeL.eq rfl) rfl ?_)
      refine AOps.v rfl rfl rfl (AVal.assignN (by constructor)) ?_
      refine AOps.nil ?_
      refine ACode.ret ?_
      refine AFin.pureRet rfl (.cons rfl .nil) (D.Le.eq ?_)
      unfold partsM; rw [if_pos (show t.kind = k from h14), if_pos h9]
      rfl
    ·
      try simp only [decide_eq_true_eq, decide_eq_false_iff_not, Bool.not_eq_true', Bool.not_eq_false', Bool.and_eq_true, Bool.or_eq_true, beq_iff_eq, beq_eq_false_iff_ne] at h14
      refine ACode.skip ?_
      refine ACode.seq ?_
      refine ACode.region ?_
      refine AOps.v rfl rfl rfl (AVal.moveN (by constructor)) ?_
      refine AOps.v rfl rfl rfl (AVal.loadP (d := encT _) 0 rfl rfl rfl rfl) ?_
      refine AOps.e rfl rfl rfl (AOp.callVP rfl (halves_c t) (LeL.eq rfl) ?_)
      refine AOps.v rfl rfl rfl (AVal.assignN (by constructor)) ?_
      refine AOps.nil ?_
      refine ACode.ret ?_
      refine AFin.pureRet rfl (.cons rfl .nil) (D.Le.eq ?_)
      unfold partsM; rw [if_neg (show ¬ t.kind = k from h14), if_pos h9]
      rfl
  ·
    try simp only [decide_eq_true_eq, decide_eq_false_iff_not, Bool.not_eq_true', Bool.not_eq_false', Bool.and_eq_true, Bool.or_eq_true, beq_iff_eq, beq_eq_false_iff_ne] at h9
    refine ACode.skip ?_
    refine ACode.seq ?_
    refine ACode.seq ?_
    refine ACode.region ?_
    refine AOps.v rfl rfl rfl (AVal.fieldP rfl rfl) ?_
    refine AOps.v rfl rfl rfl (AVal.loadPN 0 rfl rfl rfl rfl (by constructor)) ?_
    refine AOps.v rfl rfl rfl (AVal.moveN (by constructor)) ?_
    refine AOps.v rfl rfl rfl (AVal.eql rfl rfl) ?_
    refine AOps.nil ?_
    refine ACode.condS rfl (fun h14 => ?_) (fun h14 => ?_)
    ·
      try simp only [decide_eq_true_eq, decide_eq_false_iff_not, Bool.not_eq_true', Bool.not_eq_false', Bool.and_eq_true, Bool.or_eq_true, beq_iff_eq, beq_eq_false_iff_ne] at h14
      refine ACode.seq ?_
      refine ACode.region ?_
      refine AOps.v rfl rfl rfl (AVal.moveN (by constructor)) ?_
      refine AOps.e rfl rfl rfl (AOp.callVK [] rfl (parts1_c t b2 []) (LeL.eq rfl) rfl ?_)
      refine AOps.v rfl rfl rfl (AVal.assignN (by constructor)) ?_
      refine AOps.nil ?_
      refine ACode.ret ?_
      refine AFin.pureRet rfl (.cons rfl .nil) (D.Le.eq ?_)
      unfold partsM; rw [if_pos (show t.kind = k from h14), if_neg h9]
      rfl
    ·
      try simp only [decide_eq_true_eq, decide_eq_false_iff_not, Bool.not_eq_true', Bool.not_eq_false', Bool.and_eq_true, Bool.or_eq_true, beq_iff_eq, beq_eq_false_iff_ne] at h14
      refine ACode.skip ?_
      refine ACode.seq ?_
      refine ACode.region ?_
      refine AOps.v rfl rfl rfl (AVal.moveN (by constructor)) ?_
      refine AOps.v rfl rfl rfl (AVal.loadP (d := encT _) 0 rfl rfl rfl rfl) ?_
      refine AOps.e rfl rfl rfl (AOp.callVP rfl (applied_c t ht hs) (LeL.eq rfl) ?_)
      refine AOps.v rfl rfl rfl (AVal.assignN (by constructor)) ?_
      refine AOps.nil ?_
      refine ACode.ret ?_
      refine AFin.pureRet rfl (.cons rfl .nil) (D.Le.eq ?_)
      unfold partsM; rw [if_neg (show ¬ t.kind = k from h14), if_neg h9]
      rfl

theorem matters_c (t : Term) : AFn X 128 [encT t] (.slT (mattersM t)) := by
  refine ACalls.of_code Tryz.func128 rfl (by rfl) (Nat.le_of_ble_eq_true rfl) ?_
  refine ACode.seq ?_
  refine ACode.region ?_
  refine AOps.e rfl rfl rfl (AOp.boxA rfl (fun b1 => ?_))
  refine AOps.v rfl rfl rfl (AVal.assignN (by constructor)) ?_
  refine AOps.nil ?_
  refine ACode.seq ?_
  refine ACode.seq ?_
  refine ACode.region ?_
  refine AOps.v rfl rfl rfl (AVal.fieldP rfl rfl) ?_
  refine AOps.v rfl rfl rfl (AVal.loadPN 0 rfl rfl rfl rfl (by constructor)) ?_
  refine AOps.nil ?_
  refine ACode.block ?_
  refine ACode.seq ?_
  refine ACode.region ?_
  refine AOps.v rfl rfl rfl (AVal.eql rfl rfl) ?_
  refine AOps.v rfl rfl rfl (AVal.assignN (by constructor)) ?_
  refine AOps.nil ?_
  refine ACode.condS rfl (fun h5 => ?_) (fun h5 => ?_)
  ·
    try simp only [decide_eq_true_eq, decide_eq_false_iff_not, Bool.not_eq_true', Bool.not_eq_false', Bool.and_eq_true, Bool.or_eq_true, beq_iff_eq, beq_eq_false_iff_ne] at h5
    refine ACode.seq ?_
    refine ACode.region ?_
    refine AOps.v rfl rfl rfl (AVal.loadP (d := encT _) 0 rfl rfl rfl rfl) ?_
    refine AOps.e rfl rfl rfl (AOp.buildSlice (es := [.int .i64 _, .int .i64 _, .int .i64 _]) rfl rfl rfl rfl rfl ?_)
    refine AOps.e rfl rfl rfl (AOp.callP (ckids_c t [2, 3, 4] (by simp) (by simp)) (LeL.eq rfl) ?_)
    refine AOps.v rfl rfl rfl (AVal.assignN (by constructor)) ?_
    refine AOps.nil ?_
    refine ACode.ret ?_
    refine AFin.pureRet rfl (.cons rfl .nil) ?_
    exact D.Le.eq (by rw [mattersM, if_pos (by assumption)]; rfl)
  ·
    try simp only [decide_eq_true_eq, decide_eq_false_iff_not, Bool.not_eq_true', Bool.not_eq_false', Bool.and_eq_true, Bool.or_eq_true, beq_iff_eq, beq_eq_false_iff_ne] at h5
    refine ACode.seq ?_
    refine ACode.region ?_
    refine AOps.v rfl rfl rfl (AVal.eql rfl rfl) ?_
    refine AOps.v rfl rfl rfl (AVal.assignN (by constructor)) ?_
    refine AOps.nil ?_
    refine ACode.condS rfl (fun h10 => ?_) (fun h10 => ?_)
    ·
      try simp only [decide_eq_true_eq, decide_eq_false_iff_not, Bool.not_eq_true', Bool.not_eq_false', Bool.and_eq_true, Bool.or_eq_true, beq_iff_eq, beq_eq_false_iff_ne] at h10
      refine ACode.seq ?_
      refine ACode.region ?_
      refine AOps.v rfl rfl rfl (AVal.loadP (d := encT _) 0 rfl rfl rfl rfl) ?_
      refine AOps.e rfl rfl rfl (AOp.buildSlice (es := [.int .i64 _, .int .i64 _, .int .i64 _]) rfl rfl rfl rfl rfl ?_)
      refine AOps.e rfl rfl rfl (AOp.callP (ckids_c t [2, 3, 5] (by simp) (by simp)) (LeL.eq rfl) ?_)
      refine AOps.v rfl rfl rfl (AVal.assignN (by constructor)) ?_
      refine AOps.nil ?_
      refine ACode.ret ?_
      refine AFin.pureRet rfl (.cons rfl .nil) ?_
      exact D.Le.eq (by rw [mattersM, if_neg (by assumption), if_pos (by assumption)]; rfl)
    ·
      try simp only [decide_eq_true_eq, decide_eq_false_iff_not, Bool.not_eq_true', Bool.not_eq_false', Bool.and_eq_true, Bool.or_eq_true, beq_iff_eq, beq_eq_false_iff_ne] at h10
      refine ACode.skip ?_
      refine ACode.seq ?_
      refine ACode.region ?_
      refine AOps.v rfl rfl rfl (AVal.fieldP rfl rfl) ?_
      refine AOps.v rfl rfl rfl (AVal.loadPN 0 rfl rfl rfl rfl (by constructor)) ?_
      refine AOps.v rfl rfl rfl (AVal.assignN (by constructor)) ?_
      refine AOps.nil ?_
      refine ACode.ret ?_
      refine AFin.pureRet rfl (.cons rfl .nil) ?_
      exact D.Le.eq (by rw [mattersM, if_neg (by assumption), if_neg (by assumption)]; rfl)

end Sp
