/- Walks of the program's functions and what they compute: contracts of calls; no condition beyond those that each theorem names. -/
import Derived.Test.YtoonoeadgnednaaGreatDoorBd
import Derived.Test.YtoonoeadgnednaaGreatDoorKc
/- The walks of Whnf and Step. Written by a program of mine. -/
set_option linter.unusedVariables false
set_option linter.unusedSimpArgs false
set_option maxRecDepth 20000
namespace Sp
open Go Go.Proofs

theorem callAt {ρ : Operand → D} {L : Loc} {dst : Option Tmp} {ty : TypeId} {pos : String} {after : Array Edge} {guard : Option (Nat × Bool)} {K Kp : D → Loc → Prop} {xs : Array Operand} {tys : Array TypeId} {cs : List Core} {left : Int} (hx : xs.toList.map ρ = [.slC cs, .int .i64 left])
    (h : ∀ b mb, K (.ptr b 0) (L ++ [(mb, .map (SM b)), (b, .cells 71 (workC (left) cs false false mb))])) : AOp X ⟨dst, .call ⟨.value (.func 24), xs, tys⟩, ty, pos, after, guard⟩ ρ L K Kp :=
  AOp.callB L (at_c cs left) (LeL.eq hx) (by simp) (fun d L' h' => by
    obtain ⟨b, mb, e, rfl⟩ := h'
    cases e; exact h b mb) (fun d L' h' => by obtain ⟨b, mb, e, _⟩ := h'; cases e)

theorem whnf1_ret (b6 b7 b8 : Nat) (d0 d1 d2 d3 d4 d5 d6 : D) (R : Loc) : ADef X 29 [.ptr b6 0, .ptr b7 0, .ptr b8 0] ((b8, .cells 43 [d6]) :: (b7, .cells 3 [d5]) :: (b6, .cells 27 [d0, d1, d2, d3, d4]) :: R) none ((b8, .cells 43 [d6]) :: (b7, .cells 3 [d5]) :: (b6, .cells 27 [d0, d1, d2, d3, d4]) :: R) := by
  refine ADef.of_code Tryz.func29 rfl (by rfl) (Nat.le_of_ble_eq_true rfl) rfl rfl rfl ?_
  refine ACode.seq ?_
  refine ACode.region ?_
  refine AOps.v rfl rfl rfl (AVal.moveN (by constructor)) ?_
  refine AOps.v rfl rfl rfl (AVal.neqNilF rfl rfl (by kernel_rfl)) ?_
  refine AOps.nil ?_
  refine ACode.condF rfl ?_
  refine ACode.skip ?_
  exact ⟨.inl rfl, rfl, (by repeat first | exact List.Sublist.refl _ | apply List.Sublist.cons_cons | apply List.Sublist.cons | exact List.nil_sublist _)⟩

theorem whnf1_pan (b6 b7 b8 : Nat) (d0 d1 d2 d3 d4 d5 d6 : D) (R : Loc) : ADef X 29 [.ptr b6 0, .ptr b7 0, .ptr b8 0] ((b8, .cells 43 [d6]) :: (b7, .cells 3 [d5]) :: (b6, .cells 27 [d0, d1, d2, d3, d4]) :: R) (some (.iface 76 (.agg []))) ((b8, .cells 43 [.int .i64 5]) :: (b7, .cells 3 [.int .i64 0]) :: (b6, .cells 27 [.int .i64 0, .int .i64 0, .int .i64 0, .emp, .emp]) :: R) := by
  refine ADef.of_code Tryz.func29 rfl (by rfl) (Nat.le_of_ble_eq_true rfl) rfl rfl rfl ?_
  refine ACode.seq ?_
  refine ACode.region ?_
  refine AOps.v rfl rfl rfl (AVal.moveN (by constructor)) ?_
  refine AOps.v rfl rfl rfl (AVal.neqNilT rfl rfl (by kernel_rfl)) ?_
  refine AOps.nil ?_
  refine ACode.condT rfl ?_
  refine ACode.seq ?_
  refine ACode.seq ?_
  refine ACode.region ?_
  refine AOps.v rfl rfl rfl (AVal.moveN (by constructor)) ?_
  refine AOps.v rfl rfl rfl (AVal.assertOk rfl Tryz.underlying76 rfl) ?_
  refine AOps.v rfl rfl rfl (AVal.moveN (by constructor)) ?_
  refine AOps.v rfl rfl rfl (AVal.extractN rfl rfl (by constructor)) ?_
  refine AOps.v rfl rfl rfl (AVal.extractN rfl rfl (by constructor)) ?_
  refine AOps.e rfl rfl rfl (AOp.allocN rfl rfl (fun b4 => ?_))
  refine AOps.e0 rfl rfl (AOp.storeN 0 rfl rfl rfl (by constructor) rfl rfl rfl (by repeat constructor) (by repeat constructor) ?_)
  refine AOps.v rfl rfl rfl (AVal.assignN (by constructor)) ?_
  refine AOps.nil ?_
  refine ACode.seq ?_
  refine ACode.region ?_
  refine AOps.v rfl rfl rfl (AVal.moveN (by constructor)) ?_
  refine AOps.v rfl rfl rfl (AVal.not rfl) ?_
  refine AOps.nil ?_
  refine ACode.condF rfl ?_
  refine ACode.skip ?_
  refine ACode.region ?_
  refine AOps.v rfl rfl rfl (AVal.build rfl rfl rfl) ?_
  refine AOps.e0 rfl rfl (AOp.storeN 3 rfl rfl rfl (by constructor) rfl rfl rfl (by repeat constructor) (by repeat constructor) ?_)
  refine AOps.e0 rfl rfl (AOp.storeN 2 rfl rfl rfl (by constructor) rfl rfl rfl (by repeat constructor) (by repeat constructor) ?_)
  refine AOps.e0 rfl rfl (AOp.storeN 1 rfl rfl rfl (by constructor) rfl rfl rfl (by repeat constructor) (by repeat constructor) ?_)
  refine AOps.nil ?_
  exact ⟨.inl rfl, rfl, (by repeat first | exact List.Sublist.refl _ | apply List.Sublist.cons_cons | apply List.Sublist.cons | exact List.nil_sublist _)⟩

theorem whnf_c {t : Term} {fuel : Int} (hS : SortedOk) (cs : List Core) (hc : 0 ≤ fuel ∧ fuel ≤ 1073741824 → CoresOk cs ∧ t.fit 1099511627776 ∧ (psz t : Int) + 7 * fuel ≤ 268435456) : AFn X 15 [.slC cs, encT t, .int .i64 fuel] (.tup [encT (whnfM cs t fuel).1, .int .i64 (whnfM cs t fuel).2.1, .int .i64 (whnfM cs t fuel).2.2]) := by
  refine ACalls.of_codeD Tryz.func15 rfl (by rfl) (Nat.le_of_ble_eq_true rfl) ?_
  refine ACode.seq ?_
  refine ACode.region ?_
  refine AOps.e rfl rfl rfl (AOp.boxA rfl (fun b4 => ?_))
  refine AOps.e rfl rfl rfl (AOp.allocN rfl rfl (fun b6 => ?_))
  refine AOps.e rfl rfl rfl (AOp.allocN rfl rfl (fun b7 => ?_))
  refine AOps.e rfl rfl rfl (AOp.allocN rfl rfl (fun b8 => ?_))
  refine AOps.nil ?_
  refine ACode.seq ?_
  refine ACode.seq ?_
  refine ACode.region ?_
  refine AOps.v rfl rfl rfl (AVal.moveN (by constructor)) ?_
  refine AOps.v rfl rfl rfl (AVal.lss rfl rfl) ?_
  refine AOps.v rfl rfl rfl (AVal.moveN (by constructor)) ?_
  refine AOps.split 12 rfl (fun h12 => ?_) (fun h12 => ?_)
  ·
    try simp only [decide_eq_true_eq, decide_eq_false_iff_not, Bool.not_eq_true', Bool.not_eq_false', Bool.and_eq_true, Bool.or_eq_true, beq_iff_eq, beq_eq_false_iff_ne] at h12
    refine AOps.vF rfl rfl rfl rfl rfl rfl rfl ?_
    refine AOps.vF rfl rfl rfl rfl rfl rfl rfl ?_
    refine AOps.v rfl rfl rfl (AVal.pickT rfl (by constructor)) ?_
    refine AOps.nil ?_
    refine ACode.condT rfl ?_
    refine ACode.seq ?_
    refine ACode.region ?_
    refine AOps.v rfl rfl rfl (AVal.loadPN 2 rfl rfl rfl rfl (by constructor)) ?_
    refine AOps.e0 rfl rfl (AOp.storeN 2 rfl rfl rfl (by constructor) rfl rfl rfl (by repeat constructor) (by repeat constructor) ?_)
    refine AOps.e0 rfl rfl (AOp.storeN 1 rfl rfl rfl (by constructor) rfl rfl rfl (by repeat constructor) (by repeat constructor) ?_)
    refine AOps.e0 rfl rfl (AOp.storeN 0 rfl rfl rfl (by constructor) rfl rfl rfl (by repeat constructor) (by repeat constructor) ?_)
    refine AOps.nil ?_
    refine ACode.ret ?_
    refine AFinD.ret0 (X := X) (fn := Tryz.f15) (R := fun r _ => r = .ret (.tup [encT (whnfM cs t fuel).1, .int .i64 (whnfM cs t fuel).2.1, .int .i64 (whnfM cs t fuel).2.2])) (.cons (by first | exact ARead.box (d := encT _) 0 rfl rfl rfl rfl | exact ARead.box (d := encT _) 1 rfl rfl rfl rfl | exact ARead.box (d := encT _) 2 rfl rfl rfl rfl | exact ARead.box 0 rfl rfl rfl rfl | exact ARead.box 1 rfl rfl rfl rfl | exact ARead.box 2 rfl rfl rfl rfl) (.cons (by first  | exact ARead.box 0 rfl rfl rfl rfl | exact ARead.box 1 rfl rfl rfl rfl | exact ARead.box 2 rfl rfl rfl rfl) (.cons (by first  | exact ARead.box 0 rfl rfl rfl rfl | exact ARead.box 1 rfl rfl rfl rfl | exact ARead.box 2 rfl rfl rfl rfl) .nil))) (List.nil_sublist _) ?_ rfl
    rw [whnfM_arg (by omega)]
    exact tupLe (.cons (leT' .emp .emp rfl) (.cons (.refl _) (.cons (.refl _) .nil)))
  ·
    try simp only [decide_eq_true_eq, decide_eq_false_iff_not, Bool.not_eq_true', Bool.not_eq_false', Bool.and_eq_true, Bool.or_eq_true, beq_iff_eq, beq_eq_false_iff_ne] at h12
    refine AOps.vT rfl rfl rfl rfl rfl rfl (AVal.moveN (by constructor)) ?_
    refine AOps.vT rfl rfl rfl rfl rfl rfl (AVal.gtr rfl rfl) ?_
    refine AOps.v rfl rfl rfl (AVal.pickF rfl (by constructor)) ?_
    refine AOps.nil ?_
    refine ACode.condS rfl (fun h15 => ?_) (fun h15 => ?_)
    ·
      try simp only [decide_eq_true_eq, decide_eq_false_iff_not, Bool.not_eq_true', Bool.not_eq_false', Bool.and_eq_true, Bool.or_eq_true, beq_iff_eq, beq_eq_false_iff_ne] at h15
      refine ACode.seq ?_
      refine ACode.region ?_
      refine AOps.v rfl rfl rfl (AVal.loadPN 2 rfl rfl rfl rfl (by constructor)) ?_
      refine AOps.e0 rfl rfl (AOp.storeN 2 rfl rfl rfl (by constructor) rfl rfl rfl (by repeat constructor) (by repeat constructor) ?_)
      refine AOps.e0 rfl rfl (AOp.storeN 1 rfl rfl rfl (by constructor) rfl rfl rfl (by repeat constructor) (by repeat constructor) ?_)
      refine AOps.e0 rfl rfl (AOp.storeN 0 rfl rfl rfl (by constructor) rfl rfl rfl (by repeat constructor) (by repeat constructor) ?_)
      refine AOps.nil ?_
      refine ACode.ret ?_
      refine AFinD.ret0 (X := X) (fn := Tryz.f15) (R := fun r _ => r = .ret (.tup [encT (whnfM cs t fuel).1, .int .i64 (whnfM cs t fuel).2.1, .int .i64 (whnfM cs t fuel).2.2])) (.cons (by first | exact ARead.box (d := encT _) 0 rfl rfl rfl rfl | exact ARead.box (d := encT _) 1 rfl rfl rfl rfl | exact ARead.box (d := encT _) 2 rfl rfl rfl rfl | exact ARead.box 0 rfl rfl rfl rfl | exact ARead.box 1 rfl rfl rfl rfl | exact ARead.box 2 rfl rfl rfl rfl) (.cons (by first  | exact ARead.box 0 rfl rfl rfl rfl | exact ARead.box 1 rfl rfl rfl rfl | exact ARead.box 2 rfl rfl rfl rfl) (.cons (by first  | exact ARead.box 0 rfl rfl rfl rfl | exact ARead.box 1 rfl rfl rfl rfl | exact ARead.box 2 rfl rfl rfl rfl) .nil))) (List.nil_sublist _) ?_ rfl
      rw [whnfM_arg (by omega)]
      exact tupLe (.cons (leT' .emp .emp rfl) (.cons (.refl _) (.cons (.refl _) .nil)))
    ·
      try simp only [decide_eq_true_eq, decide_eq_false_iff_not, Bool.not_eq_true', Bool.not_eq_false', Bool.and_eq_true, Bool.or_eq_true, beq_iff_eq, beq_eq_false_iff_ne] at h15
      obtain ⟨hC, hF, hZ⟩ := hc (by omega)
      have hR := multi_ok hC _ t fuel false rfl hF (by omega) hZ
      refine ACode.skip ?_
      refine ACode.seq ?_
      refine ACode.region ?_
      refine AOps.v rfl rfl rfl (AVal.makeFunc) ?_
      refine AOps.deferP (ps := [b6, b7, b8]) rfl ?_
      refine AOps.nil ?_
      refine ACode.seq ?_
      refine ACode.region ?_
      refine AOps.v rfl rfl rfl (AVal.moveN (by constructor)) ?_
      refine AOps.v rfl rfl rfl (AVal.moveN (by constructor)) ?_
      refine AOps.e rfl rfl rfl (callAt (cs := cs) (left := fuel) rfl (fun b mb => ?_))
      simp only [List.cons_append, List.nil_append]
      refine AOps.v rfl rfl rfl (AVal.assignN (by constructor)) ?_
      refine AOps.nil ?_
      refine ACode.seq ?_
      refine ACode.region ?_
      refine AOps.v rfl rfl rfl (AVal.moveN (by constructor)) ?_
      refine AOps.v rfl rfl rfl (AVal.loadP (d := encT _) 3 rfl rfl rfl rfl) ?_
      refine AOps.e rfl rfl rfl (AOp.callM [_, _, _, _] (head_c hS b mb cs hC _ fuel rfl _ t rfl false (by omega) hF hZ) (by first | exact LeL.eq rfl | (repeat constructor)) rfl (fun hokR => ?_) (fun hno => ?_))
      ·
        refine AOps.e rfl rfl rfl (AOp.callP (lift_c _ 0 0 (hR.2.2 hokR).1 (by have := (hR.2.2 hokR).2; omega)) (by first | exact LeL.eq rfl | (repeat constructor)) ?_)
        refine AOps.e0 rfl rfl (AOp.storeN 2 rfl rfl rfl (by constructor) rfl rfl rfl (by repeat constructor) (by repeat constructor) ?_)
        refine AOps.nil ?_
        refine ACode.seq ?_
        refine ACode.draws [.l 0, .p 1, .p 2, .p 3, .p 4, .l 5, .e 6 [5], .e 7 [], .e 8 []] mixed (by kernel_rfl) ?_
        refine ASeq.lv rfl rfl rfl rfl (HasCell.mk (d := encT _) 2 rfl rfl (.refl _)) ?_
        refine ASeq.pv rfl rfl rfl rfl (fun L0 => (AVal.moveN (by constructor))) ?_
        refine ASeq.pv rfl rfl rfl rfl (fun L0 => (AVal.nilCheckP rfl)) ?_
        refine ASeq.pv rfl rfl rfl rfl (fun L0 => (AVal.fieldP rfl rfl)) ?_
        refine ASeq.pv rfl rfl rfl rfl (fun L0 => (AVal.fieldP rfl rfl)) ?_
        refine ASeq.lv rfl rfl rfl rfl (HasCell.mk 5 rfl rfl (by constructor)) ?_
        refine ASeq.ee0 rfl rfl rfl rfl (AOp.storeN 2 rfl rfl rfl (by constructor) rfl rfl rfl (by repeat constructor) (by repeat constructor) ⟨(by first | exact Keeps.nil | (repeat first | exact Keeps.nil | refine Keeps.cons (by first | exact HasCell.mk 0 rfl rfl (.refl _) | exact HasCell.mk 1 rfl rfl (.refl _) | exact HasCell.mk 2 rfl rfl (.refl _) | exact HasCell.mk 3 rfl rfl (.refl _) | exact HasCell.mk 4 rfl rfl (.refl _) | exact HasCell.mk 5 rfl rfl (.refl _) | exact HasCell.mk 6 rfl rfl (.refl _) | exact HasCell.mk 7 rfl rfl (.refl _)) ?_)), ?_⟩)
        refine ASeq.ee0 rfl rfl rfl rfl (AOp.storeN 1 rfl rfl rfl (by constructor) rfl rfl rfl (by repeat constructor) (by repeat constructor) ⟨(by first | exact Keeps.nil | (repeat first | exact Keeps.nil | refine Keeps.cons (by first | exact HasCell.mk 0 rfl rfl (.refl _) | exact HasCell.mk 1 rfl rfl (.refl _) | exact HasCell.mk 2 rfl rfl (.refl _) | exact HasCell.mk 3 rfl rfl (.refl _) | exact HasCell.mk 4 rfl rfl (.refl _) | exact HasCell.mk 5 rfl rfl (.refl _) | exact HasCell.mk 6 rfl rfl (.refl _) | exact HasCell.mk 7 rfl rfl (.refl _)) ?_)), ?_⟩)
        refine ASeq.ee0 rfl rfl rfl rfl (AOp.storeN 0 rfl rfl rfl (by constructor) rfl rfl rfl (by repeat constructor) (by repeat constructor) ⟨(by first | exact Keeps.nil | (repeat first | exact Keeps.nil | refine Keeps.cons (by first | exact HasCell.mk 0 rfl rfl (.refl _) | exact HasCell.mk 1 rfl rfl (.refl _) | exact HasCell.mk 2 rfl rfl (.refl _) | exact HasCell.mk 3 rfl rfl (.refl _) | exact HasCell.mk 4 rfl rfl (.refl _) | exact HasCell.mk 5 rfl rfl (.refl _) | exact HasCell.mk 6 rfl rfl (.refl _) | exact HasCell.mk 7 rfl rfl (.refl _)) ?_)), ?_⟩)
        refine ASeq.nil ?_
        refine ACode.ret ?_
        refine AFinD.retD (X := X) (fn := Tryz.f15) (R := fun r _ => r = .ret (.tup [encT (whnfM cs t fuel).1, .int .i64 (whnfM cs t fuel).2.1, .int .i64 (whnfM cs t fuel).2.2])) (g := 29) (ps := [b6, b7, b8]) (whnf1_ret b6 b7 b8 _ _ _ _ _ _ _ _) (.cons (by first | exact ARead.box (d := encT _) 0 rfl rfl rfl rfl | exact ARead.box (d := encT _) 1 rfl rfl rfl rfl | exact ARead.box (d := encT _) 2 rfl rfl rfl rfl | exact ARead.box 0 rfl rfl rfl rfl | exact ARead.box 1 rfl rfl rfl rfl | exact ARead.box 2 rfl rfl rfl rfl) (.cons (by first  | exact ARead.box 0 rfl rfl rfl rfl | exact ARead.box 1 rfl rfl rfl rfl | exact ARead.box 2 rfl rfl rfl rfl) (.cons (by first  | exact ARead.box 0 rfl rfl rfl rfl | exact ARead.box 1 rfl rfl rfl rfl | exact ARead.box 2 rfl rfl rfl rfl) .nil))) (List.nil_sublist _) (D.Le.eq ?_) rfl
        rw [whnfM_ok (by omega) hokR, lift00 (hR.2.2 hokR).1]; rfl
      ·
        refine AFinD.panD (X := X) (fn := Tryz.f15) (R := fun r _ => r = .ret (.tup [encT (whnfM cs t fuel).1, .int .i64 (whnfM cs t fuel).2.1, .int .i64 (whnfM cs t fuel).2.2])) (g := 29) (ps := [b6, b7, b8]) (whnf1_pan b6 b7 b8 _ _ _ _ _ _ _ _) (.cons (by first | exact ARead.box (d := encT _) 0 rfl rfl rfl rfl | exact ARead.box (d := encT _) 1 rfl rfl rfl rfl | exact ARead.box (d := encT _) 2 rfl rfl rfl rfl | exact ARead.box 0 rfl rfl rfl rfl | exact ARead.box 1 rfl rfl rfl rfl | exact ARead.box 2 rfl rfl rfl rfl) (.cons (by first  | exact ARead.box 0 rfl rfl rfl rfl | exact ARead.box 1 rfl rfl rfl rfl | exact ARead.box 2 rfl rfl rfl rfl) (.cons (by first  | exact ARead.box 0 rfl rfl rfl rfl | exact ARead.box 1 rfl rfl rfl rfl | exact ARead.box 2 rfl rfl rfl rfl) .nil))) (List.nil_sublist _) ?_ rfl
        rw [whnfM_gone (by omega) hno]
        exact tupLe (.cons (leT' .emp .emp rfl) (.cons (.refl _) (.cons (.refl _) .nil)))

theorem stepTop_c (hS : SortedOk) (cs : List Core) (hC : CoresOk cs) (t : Term) (hF : t.fit 1099511627776) (hs : t.sz ≤ 268435456) (hZ : psz t ≤ 268435456) : AFn X 9 [.slC cs, encT t] (.tup [encT (stepM cs t).1, .int .i64 (stepM cs t).2.1, .bool (stepM cs t).2.2]) := by
  refine ACalls.of_code Tryz.func9 rfl (by rfl) (Nat.le_of_ble_eq_true rfl) ?_
  refine ACode.seq ?_
  refine ACode.region ?_
  refine AOps.e rfl rfl rfl (AOp.boxA rfl (fun b3 => ?_))
  refine AOps.e rfl rfl rfl (AOp.allocN rfl rfl (fun b4 => ?_))
  refine AOps.v rfl rfl rfl (AVal.assignN (by constructor)) ?_
  refine AOps.v rfl rfl rfl (AVal.assignN (by constructor)) ?_
  refine AOps.nil ?_
  refine ACode.seq ?_
  refine ACode.region ?_
  refine AOps.v rfl rfl rfl (AVal.moveN (by constructor)) ?_
  refine AOps.e rfl rfl rfl (callAt (cs := cs) (left := 9223372036854775807) rfl (fun b mb => ?_))
  simp only [List.cons_append, List.nil_append]
  refine AOps.v rfl rfl rfl (AVal.assignN (by constructor)) ?_
  refine AOps.nil ?_
  refine ACode.seq ?_
  refine ACode.region ?_
  refine AOps.v rfl rfl rfl (AVal.moveN (by constructor)) ?_
  refine AOps.v rfl rfl rfl (AVal.nilCheckP rfl) ?_
  refine AOps.v rfl rfl rfl (AVal.fieldP rfl rfl) ?_
  refine AOps.e0 rfl rfl (AOp.storeN 3 rfl rfl rfl (by constructor) rfl rfl rfl (by repeat constructor) (by repeat constructor) ?_)
  refine AOps.nil ?_
  refine ACode.seq ?_
  refine ACode.region ?_
  refine AOps.v rfl rfl rfl (AVal.moveN (by constructor)) ?_
  refine AOps.v rfl rfl rfl (AVal.loadP (d := encT _) 1 rfl rfl rfl rfl) ?_
  refine AOps.e rfl rfl rfl (AOp.callM [_, _] (head1_c hS b mb cs hC 9223372036854775807 (by omega) _ t rfl hF hZ) (by first | exact LeL.eq rfl | (repeat constructor)) rfl (fun hokR => ?_) (fun hno => ?_))
  ·
    refine AOps.e rfl rfl rfl (AOp.allocN rfl rfl (fun b8 => ?_))
    refine AOps.e0 rfl rfl (AOp.storeN 0 rfl rfl rfl (by constructor) rfl rfl rfl (by repeat constructor) (by repeat constructor) ?_)
    refine AOps.nil ?_
    refine ACode.seq ?_
    refine ACode.seq ?_
    refine ACode.region ?_
    refine AOps.v rfl rfl rfl (AVal.moveN (by constructor)) ?_
    refine AOps.v rfl rfl rfl (AVal.nilCheckP rfl) ?_
    refine AOps.v rfl rfl rfl (AVal.fieldP rfl rfl) ?_
    refine AOps.v rfl rfl rfl (AVal.loadPN 4 rfl rfl rfl rfl (by constructor)) ?_
    refine AOps.v rfl rfl rfl (AVal.not rfl) ?_
    refine AOps.nil ?_
    refine ACode.condS rfl (fun h21 => ?_) (fun h21 => ?_)
    ·
      try simp only [decide_eq_true_eq, decide_eq_false_iff_not, Bool.not_eq_true', Bool.not_eq_false', Bool.and_eq_true, Bool.or_eq_true, beq_iff_eq, beq_eq_false_iff_ne] at h21
      rw [stepM_no h21]
      refine ACode.seq ?_
      refine ACode.region ?_
      refine AOps.v rfl rfl rfl (AVal.loadP (d := encT _) 2 rfl rfl rfl rfl) ?_
      refine AOps.e rfl rfl rfl (AOp.callP (lift_c t 0 0 hF (by omega)) (by first | exact LeL.eq rfl | (repeat constructor)) ?_)
      refine AOps.e0 rfl rfl (AOp.storeN 1 rfl rfl rfl (by constructor) rfl rfl rfl (by repeat constructor) (by repeat constructor) ?_)
      refine AOps.v rfl rfl rfl (AVal.assignN (by constructor)) ?_
      refine AOps.v rfl rfl rfl (AVal.assignN (by constructor)) ?_
      refine AOps.nil ?_
      refine ACode.ret ?_
      refine AFin.pureRet rfl (.cons (by first | exact ARead.box (d := encT _) 0 rfl rfl rfl rfl | exact ARead.box (d := encT _) 1 rfl rfl rfl rfl | exact ARead.box (d := encT _) 2 rfl rfl rfl rfl | exact ARead.box (d := encT _) 3 rfl rfl rfl rfl | exact ARead.box (d := encT _) 4 rfl rfl rfl rfl | exact ARead.box (d := encT _) 5 rfl rfl rfl rfl | exact ARead.box (d := encT _) 6 rfl rfl rfl rfl | exact ARead.box (d := encT _) 7 rfl rfl rfl rfl | exact ARead.box 0 rfl rfl rfl rfl | exact ARead.box 1 rfl rfl rfl rfl | exact ARead.box 2 rfl rfl rfl rfl | exact ARead.box 3 rfl rfl rfl rfl | exact ARead.box 4 rfl rfl rfl rfl | exact ARead.box 5 rfl rfl rfl rfl | exact ARead.box 6 rfl rfl rfl rfl | exact ARead.box 7 rfl rfl rfl rfl) (.cons rfl (.cons rfl .nil))) ?_
      exact tupLe (.cons (D.Le.eq (by rw [lift00 hF])) (.cons (.refl _) (.cons (.refl _) .nil)))
    ·
      try simp only [decide_eq_true_eq, decide_eq_false_iff_not, Bool.not_eq_true', Bool.not_eq_false', Bool.and_eq_true, Bool.or_eq_true, beq_iff_eq, beq_eq_false_iff_ne] at h21
      rw [stepM_yes h21]
      have hO := onceC_bound hC hF hZ
      refine ACode.skip ?_
      refine ACode.seq ?_
      refine ACode.draws [.l 0, .p 1, .p 2, .p 3, .p 4, .p 5, .l 6, .p 7, .e 8 [6], .p 9, .p 10] mixed (by kernel_rfl) ?_
      refine ASeq.lv rfl rfl rfl rfl (HasCell.mk (d := encT _) 0 rfl rfl (.refl _)) ?_
      refine ASeq.pe rfl rfl rfl rfl (fun L0 => (AOp.callP (lift_c (onceT cs t) 0 0 hO.2.2.1 (by have := once_sz hC _ t rfl hF hZ _ _ (once_yes h21); omega)) (by first | exact LeL.eq rfl | (repeat constructor)) ⟨rfl, rfl⟩)) ?_
      refine ASeq.pv rfl rfl rfl rfl (fun L0 => (AVal.moveN (by constructor))) ?_
      refine ASeq.pv rfl rfl rfl rfl (fun L0 => (AVal.nilCheckP rfl)) ?_
      refine ASeq.pv rfl rfl rfl rfl (fun L0 => (AVal.fieldP rfl rfl)) ?_
      refine ASeq.pv rfl rfl rfl rfl (fun L0 => (AVal.fieldP rfl rfl)) ?_
      refine ASeq.lv rfl rfl rfl rfl (HasCell.mk 4 rfl rfl (by constructor)) ?_
      refine ASeq.pv rfl rfl rfl rfl (fun L0 => (AVal.subn rfl rfl (by omega))) ?_
      refine ASeq.ee0 rfl rfl rfl rfl (AOp.storeN 1 rfl rfl rfl (by constructor) rfl rfl rfl (by repeat constructor) (by repeat constructor) ⟨(by first | exact Keeps.nil | (repeat first | exact Keeps.nil | refine Keeps.cons (by first | exact HasCell.mk 0 rfl rfl (.refl _) | exact HasCell.mk 1 rfl rfl (.refl _) | exact HasCell.mk 2 rfl rfl (.refl _) | exact HasCell.mk 3 rfl rfl (.refl _) | exact HasCell.mk 4 rfl rfl (.refl _) | exact HasCell.mk 5 rfl rfl (.refl _) | exact HasCell.mk 6 rfl rfl (.refl _) | exact HasCell.mk 7 rfl rfl (.refl _)) ?_)), ?_⟩)
      refine ASeq.pv rfl rfl rfl rfl (fun L0 => (AVal.assignN (by constructor))) ?_
      refine ASeq.pv rfl rfl rfl rfl (fun L0 => (AVal.assignN (by constructor))) ?_
      refine ASeq.nil ?_
      refine ACode.ret ?_
      refine AFin.pureRet rfl (.cons (by first | exact ARead.box (d := encT _) 0 rfl rfl rfl rfl | exact ARead.box (d := encT _) 1 rfl rfl rfl rfl | exact ARead.box (d := encT _) 2 rfl rfl rfl rfl | exact ARead.box (d := encT _) 3 rfl rfl rfl rfl | exact ARead.box (d := encT _) 4 rfl rfl rfl rfl | exact ARead.box (d := encT _) 5 rfl rfl rfl rfl | exact ARead.box (d := encT _) 6 rfl rfl rfl rfl | exact ARead.box (d := encT _) 7 rfl rfl rfl rfl | exact ARead.box 0 rfl rfl rfl rfl | exact ARead.box 1 rfl rfl rfl rfl | exact ARead.box 2 rfl rfl rfl rfl | exact ARead.box 3 rfl rfl rfl rfl | exact ARead.box 4 rfl rfl rfl rfl | exact ARead.box 5 rfl rfl rfl rfl | exact ARead.box 6 rfl rfl rfl rfl | exact ARead.box 7 rfl rfl rfl rfl) (.cons rfl (.cons rfl .nil))) ?_
      exact tupLe (.cons (D.Le.eq (by rw [lift00 hO.2.2.1])) (.cons (D.Le.eq (congrArg (D.int .i64) (show (9223372036854775807 : Int) - (9223372036854775807 - onceC cs t) = onceC cs t by omega))) (.cons (.refl _) .nil)))
  ·
    exact absurd trivial hno

end Sp

/- The walks of the law: its examples, its bounds, itself. Written by a program of mine. -/
set_option linter.unusedVariables false
set_option linter.unusedSimpArgs false
set_option maxRecDepth 20000
namespace Sp
open Go Go.Proofs

theorem lfin_c (n : Int) : AFn X 12 [.int .i64 n] (encT (.mk 22 n 0 [] [])) := by
  refine ACalls.of_code Tryz.func12 rfl (by rfl) (Nat.le_of_ble_eq_true rfl) ?_
  refine ACode.seq ?_
  refine ACode.region ?_
  refine AOps.e rfl rfl rfl (AOp.allocN rfl rfl (fun b2 => ?_))
  refine AOps.nil ?_
  refine ACode.seq ?_
  refine ACode.region ?_
  refine AOps.v rfl rfl rfl (AVal.moveN (by constructor)) ?_
  refine AOps.v rfl rfl rfl (AVal.buildT rfl rfl rfl (by constructor) (by constructor)) ?_
  refine AOps.e0 rfl rfl (AOp.storeN 0 rfl rfl rfl (by constructor) rfl rfl rfl (by repeat constructor) (by repeat constructor) ?_)
  refine AOps.nil ?_
  refine ACode.ret ?_
  refine AFin.pureRet rfl (.cons (by first | exact ARead.box (d := encT _) 0 rfl rfl rfl rfl | exact ARead.box (d := encT _) 1 rfl rfl rfl rfl | exact ARead.box (d := encT _) 2 rfl rfl rfl rfl | exact ARead.box (d := encT _) 3 rfl rfl rfl rfl | exact ARead.box (d := encT _) 4 rfl rfl rfl rfl | exact ARead.box (d := encT _) 5 rfl rfl rfl rfl | exact ARead.box (d := encT _) 6 rfl rfl rfl rfl | exact ARead.box (d := encT _) 7 rfl rfl rfl rfl | exact ARead.box 0 rfl rfl rfl rfl | exact ARead.box 1 rfl rfl rfl rfl | exact ARead.box 2 rfl rfl rfl rfl | exact ARead.box 3 rfl rfl rfl rfl | exact ARead.box 4 rfl rfl rfl rfl | exact ARead.box 5 rfl rfl rfl rfl | exact ARead.box 6 rfl rfl rfl rfl | exact ARead.box 7 rfl rfl rfl rfl) .nil) ?_
  exact .refl _

theorem lv_c (n : Int) : AFn X 13 [.int .i64 n] (encT (.mk 1 n 0 [] [])) := by
  refine ACalls.of_code Tryz.func13 rfl (by rfl) (Nat.le_of_ble_eq_true rfl) ?_
  refine ACode.seq ?_
  refine ACode.region ?_
  refine AOps.e rfl rfl rfl (AOp.allocN rfl rfl (fun b2 => ?_))
  refine AOps.nil ?_
  refine ACode.seq ?_
  refine ACode.region ?_
  refine AOps.v rfl rfl rfl (AVal.moveN (by constructor)) ?_
  refine AOps.v rfl rfl rfl (AVal.buildT rfl rfl rfl (by constructor) (by constructor)) ?_
  refine AOps.e0 rfl rfl (AOp.storeN 0 rfl rfl rfl (by constructor) rfl rfl rfl (by repeat constructor) (by repeat constructor) ?_)
  refine AOps.nil ?_
  refine ACode.ret ?_
  refine AFin.pureRet rfl (.cons (by first | exact ARead.box (d := encT _) 0 rfl rfl rfl rfl | exact ARead.box (d := encT _) 1 rfl rfl rfl rfl | exact ARead.box (d := encT _) 2 rfl rfl rfl rfl | exact ARead.box (d := encT _) 3 rfl rfl rfl rfl | exact ARead.box (d := encT _) 4 rfl rfl rfl rfl | exact ARead.box (d := encT _) 5 rfl rfl rfl rfl | exact ARead.box (d := encT _) 6 rfl rfl rfl rfl | exact ARead.box (d := encT _) 7 rfl rfl rfl rfl | exact ARead.box 0 rfl rfl rfl rfl | exact ARead.box 1 rfl rfl rfl rfl | exact ARead.box 2 rfl rfl rfl rfl | exact ARead.box 3 rfl rfl rfl rfl | exact ARead.box 4 rfl rfl rfl rfl | exact ARead.box 5 rfl rfl rfl rfl | exact ARead.box 6 rfl rfl rfl rfl | exact ARead.box 7 rfl rfl rfl rfl) .nil) ?_
  exact .refl _

theorem lelem_c (n m : Int) : AFn X 14 [.int .i64 n, .int .i64 m] (encT (.mk 23 n m [] [])) := by
  refine ACalls.of_code Tryz.func14 rfl (by rfl) (Nat.le_of_ble_eq_true rfl) ?_
  refine ACode.seq ?_
  refine ACode.region ?_
  refine AOps.e rfl rfl rfl (AOp.allocN rfl rfl (fun b4 => ?_))
  refine AOps.nil ?_
  refine ACode.seq ?_
  refine ACode.region ?_
  refine AOps.v rfl rfl rfl (AVal.moveN (by constructor)) ?_
  refine AOps.v rfl rfl rfl (AVal.moveN (by constructor)) ?_
  refine AOps.v rfl rfl rfl (AVal.buildT rfl rfl rfl (by constructor) (by constructor)) ?_
  refine AOps.e0 rfl rfl (AOp.storeN 0 rfl rfl rfl (by constructor) rfl rfl rfl (by repeat constructor) (by repeat constructor) ?_)
  refine AOps.nil ?_
  refine ACode.ret ?_
  refine AFin.pureRet rfl (.cons (by first | exact ARead.box (d := encT _) 0 rfl rfl rfl rfl | exact ARead.box (d := encT _) 1 rfl rfl rfl rfl | exact ARead.box (d := encT _) 2 rfl rfl rfl rfl | exact ARead.box (d := encT _) 3 rfl rfl rfl rfl | exact ARead.box (d := encT _) 4 rfl rfl rfl rfl | exact ARead.box (d := encT _) 5 rfl rfl rfl rfl | exact ARead.box (d := encT _) 6 rfl rfl rfl rfl | exact ARead.box (d := encT _) 7 rfl rfl rfl rfl | exact ARead.box 0 rfl rfl rfl rfl | exact ARead.box 1 rfl rfl rfl rfl | exact ARead.box 2 rfl rfl rfl rfl | exact ARead.box 3 rfl rfl rfl rfl | exact ARead.box 4 rfl rfl rfl rfl | exact ARead.box 5 rfl rfl rfl rfl | exact ARead.box 6 rfl rfl rfl rfl | exact ARead.box 7 rfl rfl rfl rfl) .nil) ?_
  exact .refl _

theorem lof6_c (k : Int) (ts : List Term) : AFn X 11 [.int .i64 k, .slT ts] (encT (.mk k 0 0 [] ts)) := by
  refine ACalls.of_code Tryz.func11 rfl (by rfl) (Nat.le_of_ble_eq_true rfl) ?_
  refine ACode.seq ?_
  refine ACode.region ?_
  refine AOps.e rfl rfl rfl (AOp.allocN rfl rfl (fun b4 => ?_))
  refine AOps.nil ?_
  refine ACode.seq ?_
  refine ACode.region ?_
  refine AOps.v rfl rfl rfl (AVal.moveN (by constructor)) ?_
  refine AOps.v rfl rfl rfl (AVal.moveN (by constructor)) ?_
  refine AOps.v rfl rfl rfl (AVal.buildT rfl rfl rfl (by constructor) (by constructor)) ?_
  refine AOps.e0 rfl rfl (AOp.storeN 0 rfl rfl rfl (by constructor) rfl rfl rfl (by repeat constructor) (by repeat constructor) ?_)
  refine AOps.nil ?_
  refine ACode.ret ?_
  refine AFin.pureRet rfl (.cons (by first | exact ARead.box (d := encT _) 0 rfl rfl rfl rfl | exact ARead.box (d := encT _) 1 rfl rfl rfl rfl | exact ARead.box (d := encT _) 2 rfl rfl rfl rfl | exact ARead.box (d := encT _) 3 rfl rfl rfl rfl | exact ARead.box (d := encT _) 4 rfl rfl rfl rfl | exact ARead.box (d := encT _) 5 rfl rfl rfl rfl | exact ARead.box (d := encT _) 6 rfl rfl rfl rfl | exact ARead.box (d := encT _) 7 rfl rfl rfl rfl | exact ARead.box 0 rfl rfl rfl rfl | exact ARead.box 1 rfl rfl rfl rfl | exact ARead.box 2 rfl rfl rfl rfl | exact ARead.box 3 rfl rfl rfl rfl | exact ARead.box 4 rfl rfl rfl rfl | exact ARead.box 5 rfl rfl rfl rfl | exact ARead.box 6 rfl rfl rfl rfl | exact ARead.box 7 rfl rfl rfl rfl) .nil) ?_
  exact D.Le.refl _

theorem lcases_c (p x : Term) (ts : List Term) (hl : ts.length ≤ 1000000) : AFn X 16 [encT p, encT x, .slT ts] (encT (.mk 24 0 ts.length [] ([p] ++ ts ++ [x]))) := by
  refine ACalls.of_code Tryz.func16 rfl (by rfl) (Nat.le_of_ble_eq_true rfl) ?_
  refine ACode.seq ?_
  refine ACode.region ?_
  refine AOps.e rfl rfl rfl (AOp.boxA rfl (fun b3 => ?_))
  refine AOps.e rfl rfl rfl (AOp.boxA rfl (fun b4 => ?_))
  refine AOps.e rfl rfl rfl (AOp.allocN rfl rfl (fun b6 => ?_))
  refine AOps.nil ?_
  refine ACode.seq ?_
  refine ACode.draws [.p 0, .p 1, .l 2, .p 4, .l 6, .p 7, .e 3 [6], .e 5 [6], .e 8 [], .p 9, .e 10 []] mixed (by kernel_rfl) ?_
  refine ASeq.pv rfl rfl rfl rfl (fun L0 => (AVal.moveN (by constructor))) ?_
  refine ASeq.pv rfl rfl rfl rfl (fun L0 => (AVal.len rfl rfl rfl)) ?_
  refine ASeq.lv rfl rfl rfl rfl (HasCell.mk (d := encT _) 2 rfl rfl (.refl _)) ?_
  refine ASeq.pv rfl rfl rfl rfl (fun L0 => (AVal.moveN (by constructor))) ?_
  refine ASeq.lv rfl rfl rfl rfl (HasCell.mk (d := encT _) 1 rfl rfl (.refl _)) ?_
  refine ASeq.pe rfl rfl rfl rfl (fun L0 => (AOp.buildSliceT (ts := [_]) rfl rfl rfl rfl rfl ⟨rfl, rfl⟩)) ?_
  refine ASeq.ee rfl rfl rfl rfl rfl (AOp.buildSliceB (es := [encT p]) rfl rfl rfl rfl rfl rfl rfl (fun b10 => ⟨(by first | exact Keeps.nil | (repeat first | exact Keeps.nil | refine Keeps.cons (by first | exact HasCell.mk 0 rfl rfl (.refl _) | exact HasCell.mk 1 rfl rfl (.refl _) | exact HasCell.mk 2 rfl rfl (.refl _) | exact HasCell.mk 3 rfl rfl (.refl _) | exact HasCell.mk 4 rfl rfl (.refl _) | exact HasCell.mk 5 rfl rfl (.refl _) | exact HasCell.mk 6 rfl rfl (.refl _) | exact HasCell.mk 7 rfl rfl (.refl _)) ?_)), ?_⟩))
  refine ASeq.ee rfl rfl rfl rfl rfl (AOp.appOwn (es := ts.map encT) 0 rfl rfl rfl rfl rfl rfl rfl (fun e he => by obtain ⟨u, _, rfl⟩ := List.mem_map.1 he; rfl) rfl (by simp; omega) rfl (by repeat constructor) (fun b12 cap12 => ⟨(by first | exact Keeps.nil | (repeat first | exact Keeps.nil | refine Keeps.cons (by first | exact HasCell.mk 0 rfl rfl (.refl _) | exact HasCell.mk 1 rfl rfl (.refl _) | exact HasCell.mk 2 rfl rfl (.refl _) | exact HasCell.mk 3 rfl rfl (.refl _) | exact HasCell.mk 4 rfl rfl (.refl _) | exact HasCell.mk 5 rfl rfl (.refl _) | exact HasCell.mk 6 rfl rfl (.refl _) | exact HasCell.mk 7 rfl rfl (.refl _)) ?_)), ?_⟩))
  refine ASeq.ee rfl rfl rfl rfl rfl (AOp.appOwn (es := [encT x]) 0 rfl rfl rfl rfl rfl rfl rfl (fun e he => by rw [List.mem_singleton.1 he]; rfl) rfl (by simp; omega) rfl (by repeat constructor) (fun b15 cap15 => ⟨(by first | exact Keeps.nil | (repeat first | exact Keeps.nil | refine Keeps.cons (by first | exact HasCell.mk 0 rfl rfl (.refl _) | exact HasCell.mk 1 rfl rfl (.refl _) | exact HasCell.mk 2 rfl rfl (.refl _) | exact HasCell.mk 3 rfl rfl (.refl _) | exact HasCell.mk 4 rfl rfl (.refl _) | exact HasCell.mk 5 rfl rfl (.refl _) | exact HasCell.mk 6 rfl rfl (.refl _) | exact HasCell.mk 7 rfl rfl (.refl _)) ?_)), ?_⟩))
  refine ASeq.pv rfl rfl rfl rfl (fun L0 => (AVal.build rfl rfl rfl)) ?_
  refine ASeq.ee0 rfl rfl rfl rfl (AOp.storeN 1 rfl rfl rfl (by constructor) rfl rfl rfl (by repeat constructor) (by repeat constructor) ⟨(by first | exact Keeps.nil | (repeat first | exact Keeps.nil | refine Keeps.cons (by first | exact HasCell.mk 0 rfl rfl (.refl _) | exact HasCell.mk 1 rfl rfl (.refl _) | exact HasCell.mk 2 rfl rfl (.refl _) | exact HasCell.mk 3 rfl rfl (.refl _) | exact HasCell.mk 4 rfl rfl (.refl _) | exact HasCell.mk 5 rfl rfl (.refl _) | exact HasCell.mk 6 rfl rfl (.refl _) | exact HasCell.mk 7 rfl rfl (.refl _)) ?_)), ?_⟩)
  refine ASeq.nil ?_
  refine ACode.ret ?_
  refine AFin.pureRet rfl (.cons (by first | exact ARead.box (d := encT _) 0 rfl rfl rfl rfl | exact ARead.box (d := encT _) 1 rfl rfl rfl rfl | exact ARead.box (d := encT _) 2 rfl rfl rfl rfl | exact ARead.box (d := encT _) 3 rfl rfl rfl rfl | exact ARead.box (d := encT _) 4 rfl rfl rfl rfl | exact ARead.box (d := encT _) 5 rfl rfl rfl rfl | exact ARead.box (d := encT _) 6 rfl rfl rfl rfl | exact ARead.box (d := encT _) 7 rfl rfl rfl rfl | exact ARead.box 0 rfl rfl rfl rfl | exact ARead.box 1 rfl rfl rfl rfl | exact ARead.box 2 rfl rfl rfl rfl | exact ARead.box 3 rfl rfl rfl rfl | exact ARead.box 4 rfl rfl rfl rfl | exact ARead.box 5 rfl rfl rfl rfl | exact ARead.box 6 rfl rfl rfl rfl | exact ARead.box 7 rfl rfl rfl rfl) .nil) ?_
  exact leT' .emp (show AsT (.own b15 cap15 ([encT p] ++ ts.map encT ++ [encT x])) ([p] ++ ts ++ [x]) from by have := AsT.own b15 cap15 ([p] ++ ts ++ [x]); simpa using this) rfl

theorem fit_small {t : Term} {B : Nat} (h : t.fit B) (hB : B ≤ 1099511627776) : t.fit 1099511627776 := fit_mono hB _ t rfl h
theorem coresNil : CoresOk [] := fun c h => by cases h
theorem tA_ok : tA.fit 1099511627776 := by simp [Term.fit, Term.fits]
theorem tB_ok : tB.fit 1099511627776 := by simp [Term.fit, Term.fits]
theorem whnfC {cs : List Core} {t : Term} {fuel : Int} (hS : SortedOk) (hc : 0 ≤ fuel ∧ fuel ≤ 1073741824 → CoresOk cs ∧ t.fit 1099511627776 ∧ (psz t : Int) + 7 * fuel ≤ 268435456) {a : Term} {b c : Int} (h : whnfM cs t fuel = (a, b, c)) :
    AFn X 15 [.slC cs, encT t, .int .i64 fuel] (.tup [encT a, .int .i64 b, .int .i64 c]) := by
  have := whnf_c hS cs hc
  rw [h] at this
  exact this
theorem sameC (t u : Term) (h : t.fit 1099511627776) (e : t = u) : AFn X 10 [encT t, encT u] (.bool true) := by
  have := sameTerm_c _ t u rfl (fitX h)
  rwa [decide_eq_true e] at this

theorem awake_c (hS : SortedOk) : AFn X 4 [] (.bool true) := by
  have hE : tE.fit 1099511627776 := by simp [Term.fit, Term.fits]
  refine ACalls.of_code Tryz.func4 rfl (by rfl) (Nat.le_of_ble_eq_true rfl) ?_
  refine ACode.seq ?_
  refine ACode.region ?_
  refine AOps.v rfl rfl rfl (AVal.assignN (by constructor)) ?_
  refine AOps.nil ?_
  refine ACode.seq ?_
  refine ACode.region ?_
  refine AOps.e rfl rfl rfl (AOp.callP (lfin_c _) (by first | exact LeL.eq rfl | (repeat constructor)) ?_)
  refine AOps.e rfl rfl rfl (AOp.callP (lv_c _) (by first | exact LeL.eq rfl | (repeat constructor)) ?_)
  refine AOps.e rfl rfl rfl (AOp.buildSliceT (ts := [_, _]) rfl rfl rfl rfl rfl ?_)
  refine AOps.e rfl rfl rfl (AOp.callP (lof6_c _ _) (by first | exact LeL.eq rfl | (repeat constructor)) ?_)
  refine AOps.e rfl rfl rfl (AOp.callP (lelem_c _ _) (by first | exact LeL.eq rfl | (repeat constructor)) ?_)
  refine AOps.e rfl rfl rfl (AOp.buildSliceT (ts := [_, _]) rfl rfl rfl rfl rfl ?_)
  refine AOps.e rfl rfl rfl (AOp.callP (lof6_c _ _) (by first | exact LeL.eq rfl | (repeat constructor)) ?_)
  refine AOps.e rfl rfl rfl (AOp.allocN rfl rfl (fun b1 => ?_))
  refine AOps.e0 rfl rfl (AOp.storeN 0 rfl rfl rfl (by constructor) rfl rfl rfl (by repeat constructor) (by repeat constructor) ?_)
  refine AOps.nil ?_
  refine ACode.seq ?_
  refine ACode.region ?_
  refine AOps.v rfl rfl rfl (AVal.loadP (d := encT _) 0 rfl rfl rfl rfl) ?_
  refine AOps.e rfl rfl rfl (AOp.callP (whnfC hS (fun _ => ⟨coresNil, tA_ok, by have := psz_le _ tA rfl tA_ok; simp [Term.sz, Term.szs] at this; omega⟩) whnf_A5) (LeL.cons (.emp _ rfl) (LeL.cons (.refl _) (LeL.cons (.refl _) .nil))) ?_)
  refine AOps.v rfl rfl rfl (AVal.moveN (by constructor)) ?_
  refine AOps.v rfl rfl rfl (AVal.extractN rfl rfl (by constructor)) ?_
  refine AOps.v rfl rfl rfl (AVal.extractN rfl rfl (by constructor)) ?_
  refine AOps.v rfl rfl rfl (AVal.extractN rfl rfl (by constructor)) ?_
  refine AOps.e rfl rfl rfl (AOp.allocN rfl rfl (fun b2 => ?_))
  refine AOps.e0 rfl rfl (AOp.storeN 0 rfl rfl rfl (by constructor) rfl rfl rfl (by repeat constructor) (by repeat constructor) ?_)
  refine AOps.v rfl rfl rfl (AVal.assignN (by constructor)) ?_
  refine AOps.v rfl rfl rfl (AVal.assignN (by constructor)) ?_
  refine AOps.nil ?_
  refine ACode.seq ?_
  refine ACode.draws [.p 0, .l 1, .p 2, .p 3, .p 4, .p 5, .p 6, .p 7, .p 8, .p 9, .p 10, .p 11, .p 12, .p 13, .a 14, .e 15 [], .p 16, .p 17] mixed (by kernel_rfl) ?_
  refine ASeq.pe rfl rfl rfl rfl (fun L0 => (AOp.callP (lfin_c _) (by first | exact LeL.eq rfl | (repeat constructor)) ⟨rfl, rfl⟩)) ?_
  refine ASeq.lv rfl rfl rfl rfl (HasCell.mk (d := encT _) 1 rfl rfl (.refl _)) ?_
  refine ASeq.pe rfl rfl rfl rfl (fun L0 => (AOp.callP (lv_c _) (by first | exact LeL.eq rfl | (repeat constructor)) ⟨rfl, rfl⟩)) ?_
  refine ASeq.pe rfl rfl rfl rfl (fun L0 => (AOp.callP (lv_c _) (by first | exact LeL.eq rfl | (repeat constructor)) ⟨rfl, rfl⟩)) ?_
  refine ASeq.pe rfl rfl rfl rfl (fun L0 => (AOp.callP (lv_c _) (by first | exact LeL.eq rfl | (repeat constructor)) ⟨rfl, rfl⟩)) ?_
  refine ASeq.pe rfl rfl rfl rfl (fun L0 => (AOp.buildSliceT (ts := [_, _]) rfl rfl rfl rfl rfl ⟨rfl, rfl⟩)) ?_
  refine ASeq.pe rfl rfl rfl rfl (fun L0 => (AOp.callP (lof6_c 13 [tv 1, tv 2]) (by first | exact LeL.eq rfl | (repeat constructor)) ⟨rfl, rfl⟩)) ?_
  refine ASeq.pe rfl rfl rfl rfl (fun L0 => (AOp.buildSliceT (ts := [_, _]) rfl rfl rfl rfl rfl ⟨rfl, rfl⟩)) ?_
  refine ASeq.pe rfl rfl rfl rfl (fun L0 => (AOp.callP (lcases_c (.mk 22 1 0 [] []) tA [tv 1, tP] (by simp)) (by first | exact LeL.eq rfl | (repeat constructor)) ⟨rfl, rfl⟩)) ?_
  refine ASeq.pe rfl rfl rfl rfl (fun L0 => (AOp.callP (whnfC hS (fun _ => ⟨coresNil, tB_ok, by have := psz_le _ tB rfl tB_ok; simp [Term.sz, Term.szs] at this; omega⟩) whnf_B5) (LeL.cons (.emp _ rfl) (LeL.cons (.refl _) (LeL.cons (.refl _) .nil))) ⟨rfl, rfl⟩)) ?_
  refine ASeq.pv rfl rfl rfl rfl (fun L0 => (AVal.moveN (by constructor))) ?_
  refine ASeq.pv rfl rfl rfl rfl (fun L0 => (AVal.extractN rfl rfl (by constructor))) ?_
  refine ASeq.pv rfl rfl rfl rfl (fun L0 => (AVal.extractN rfl rfl (by constructor))) ?_
  refine ASeq.pv rfl rfl rfl rfl (fun L0 => (AVal.extractN rfl rfl (by constructor))) ?_
  refine ASeq.ea rfl rfl rfl rfl rfl rfl rfl (fun b5 => ?_)
  refine ASeq.ee0 rfl rfl rfl rfl (AOp.storeN 0 rfl rfl rfl (by constructor) rfl rfl rfl (by repeat constructor) (by repeat constructor) ⟨(by first | exact Keeps.nil | (repeat first | exact Keeps.nil | refine Keeps.cons (by first | exact HasCell.mk 0 rfl rfl (.refl _) | exact HasCell.mk 1 rfl rfl (.refl _) | exact HasCell.mk 2 rfl rfl (.refl _) | exact HasCell.mk 3 rfl rfl (.refl _) | exact HasCell.mk 4 rfl rfl (.refl _) | exact HasCell.mk 5 rfl rfl (.refl _) | exact HasCell.mk 6 rfl rfl (.refl _) | exact HasCell.mk 7 rfl rfl (.refl _)) ?_)), ?_⟩)
  refine ASeq.pv rfl rfl rfl rfl (fun L0 => (AVal.assignN (by constructor))) ?_
  refine ASeq.pv rfl rfl rfl rfl (fun L0 => (AVal.assignN (by constructor))) ?_
  refine ASeq.nil ?_
  refine ACode.seq ?_
  refine ACode.region ?_
  refine AOps.v rfl rfl rfl (AVal.loadP (d := encT _) 2 rfl rfl rfl rfl) ?_
  refine AOps.e rfl rfl rfl (AOp.callP (whnfC hS (fun _ => ⟨coresNil, tA_ok, by have := psz_le _ tA rfl tA_ok; simp [Term.sz, Term.szs] at this; omega⟩) whnf_A0) (LeL.cons (.emp _ rfl) (LeL.cons (.refl _) (LeL.cons (.refl _) .nil))) ?_)
  refine AOps.v rfl rfl rfl (AVal.moveN (by constructor)) ?_
  refine AOps.v rfl rfl rfl (AVal.extractN rfl rfl (by constructor)) ?_
  refine AOps.v rfl rfl rfl (AVal.extractN rfl rfl (by constructor)) ?_
  refine AOps.v rfl rfl rfl (AVal.extractN rfl rfl (by constructor)) ?_
  refine AOps.e rfl rfl rfl (AOp.allocN rfl rfl (fun b8 => ?_))
  refine AOps.e0 rfl rfl (AOp.storeN 0 rfl rfl rfl (by constructor) rfl rfl rfl (by repeat constructor) (by repeat constructor) ?_)
  refine AOps.v rfl rfl rfl (AVal.assignN (by constructor)) ?_
  refine AOps.v rfl rfl rfl (AVal.assignN (by constructor)) ?_
  refine AOps.nil ?_
  refine ACode.seq ?_
  refine ACode.draws [.p 0, .p 1, .p 2, .p 3, .p 4, .p 5, .p 6, .l 7, .p 8, .p 9, .p 10, .p 11, .p 12, .p 13, .p 14, .p 15, .p 16, .p 17, .p 18, .p 19, .p 20, .l 21, .p 22, .p 23, .p 24, .p 25, .p 26, .p 27, .p 28, .p 29, .p 30, .p 31, .p 32] mixed (by kernel_rfl) ?_
  refine ASeq.pv rfl rfl rfl rfl (fun L0 => (AVal.moveN (by constructor))) ?_
  refine ASeq.pv rfl rfl rfl rfl (fun L0 => (AVal.eql rfl rfl)) ?_
  refine ASeq.pv rfl rfl rfl rfl (fun L0 => (AVal.moveN (by constructor))) ?_
  refine ASeq.pvT rfl rfl rfl rfl rfl rfl rfl (fun L0 => (AVal.moveN (by constructor))) ?_
  refine ASeq.pvT rfl rfl rfl rfl rfl rfl rfl (fun L0 => (AVal.eql rfl rfl)) ?_
  refine ASeq.pv rfl rfl rfl rfl (fun L0 => (AVal.pickT rfl (by constructor))) ?_
  refine ASeq.pv rfl rfl rfl rfl (fun L0 => (AVal.moveN (by constructor))) ?_
  refine ASeq.lvT rfl rfl rfl rfl rfl rfl rfl (HasCell.mk (d := encT _) 2 rfl rfl (.refl _)) ?_
  refine ASeq.peT rfl rfl rfl rfl rfl rfl rfl (fun L0 => (AOp.callP (lelem_c _ _) (by first | exact LeL.eq rfl | (repeat constructor)) ⟨rfl, rfl⟩)) ?_
  refine ASeq.peT rfl rfl rfl rfl rfl rfl rfl (fun L0 => (AOp.callP (sameC _ _ hE rfl) (by first | exact LeL.eq rfl | (repeat constructor)) ⟨rfl, rfl⟩)) ?_
  refine ASeq.pv rfl rfl rfl rfl (fun L0 => (AVal.pickT rfl (by constructor))) ?_
  refine ASeq.pv rfl rfl rfl rfl (fun L0 => (AVal.moveN (by constructor))) ?_
  refine ASeq.pvT rfl rfl rfl rfl rfl rfl rfl (fun L0 => (AVal.moveN (by constructor))) ?_
  refine ASeq.pvT rfl rfl rfl rfl rfl rfl rfl (fun L0 => (AVal.eql rfl rfl)) ?_
  refine ASeq.pv rfl rfl rfl rfl (fun L0 => (AVal.pickT rfl (by constructor))) ?_
  refine ASeq.pv rfl rfl rfl rfl (fun L0 => (AVal.moveN (by constructor))) ?_
  refine ASeq.pvT rfl rfl rfl rfl rfl rfl rfl (fun L0 => (AVal.moveN (by constructor))) ?_
  refine ASeq.pvT rfl rfl rfl rfl rfl rfl rfl (fun L0 => (AVal.eql rfl rfl)) ?_
  refine ASeq.pv rfl rfl rfl rfl (fun L0 => (AVal.pickT rfl (by constructor))) ?_
  refine ASeq.pv rfl rfl rfl rfl (fun L0 => (AVal.moveN (by constructor))) ?_
  refine ASeq.pvT rfl rfl rfl rfl rfl rfl rfl (fun L0 => (AVal.fieldP rfl rfl)) ?_
  refine ASeq.lvT rfl rfl rfl rfl rfl rfl rfl (HasCell.mk 1 rfl rfl (by constructor)) ?_
  refine ASeq.pvT rfl rfl rfl rfl rfl rfl rfl (fun L0 => (AVal.eql rfl rfl)) ?_
  refine ASeq.pv rfl rfl rfl rfl (fun L0 => (AVal.pickT rfl (by constructor))) ?_
  refine ASeq.pv rfl rfl rfl rfl (fun L0 => (AVal.moveN (by constructor))) ?_
  refine ASeq.pvT rfl rfl rfl rfl rfl rfl rfl (fun L0 => (AVal.moveN (by constructor))) ?_
  refine ASeq.pvT rfl rfl rfl rfl rfl rfl rfl (fun L0 => (AVal.eql rfl rfl)) ?_
  refine ASeq.pv rfl rfl rfl rfl (fun L0 => (AVal.pickT rfl (by constructor))) ?_
  refine ASeq.pv rfl rfl rfl rfl (fun L0 => (AVal.moveN (by constructor))) ?_
  refine ASeq.pvT rfl rfl rfl rfl rfl rfl rfl (fun L0 => (AVal.moveN (by constructor))) ?_
  refine ASeq.pvT rfl rfl rfl rfl rfl rfl rfl (fun L0 => (AVal.eql rfl rfl)) ?_
  refine ASeq.pv rfl rfl rfl rfl (fun L0 => (AVal.pickT rfl (by constructor))) ?_
  refine ASeq.pv rfl rfl rfl rfl (fun L0 => (AVal.assignN (by constructor))) ?_
  refine ASeq.nil ?_
  refine ACode.ret ?_
  refine AFin.pureRet rfl (.cons rfl .nil) ?_
  exact .refl _

theorem great_c (cs : List Core) (t : Term) (ht : t.fit 1099511627776) (hl : cs.length ≤ 1099511627776) (hf : ∀ c ∈ cs, c.typ.fit 1099511627776 ∧ c.body.fit 1099511627776) : ACalls X 5 [.slC cs, encT t] [] (fun r L' => (∃ g, r = .ret (.bool g)) ∧ L' = []) := by
  refine ACalls.of_code Tryz.func5 rfl (by rfl) (Nat.le_of_ble_eq_true rfl) ?_
  refine ACode.seq ?_
  refine ACode.region ?_
  refine AOps.e rfl rfl rfl (AOp.boxA rfl (fun b3 => ?_))
  refine AOps.v rfl rfl rfl (AVal.assignN (by constructor)) ?_
  refine AOps.nil ?_
  refine ACode.seq ?_
  refine ACode.seq ?_
  refine ACode.region ?_
  refine AOps.v rfl rfl rfl (AVal.loadP (d := encT _) 0 rfl rfl rfl rfl) ?_
  refine AOps.e rfl rfl rfl (AOp.callP (deep_c _ t rfl (fitX ht) _) (by first | exact LeL.eq rfl | (repeat constructor)) ?_)
  refine AOps.v rfl rfl rfl (AVal.gtr rfl rfl) ?_
  refine AOps.nil ?_
  refine ACode.condS rfl (fun h8 => ?_) (fun h8 => ?_)
  ·
    try simp only [decide_eq_true_eq, decide_eq_false_iff_not, Bool.not_eq_true', Bool.not_eq_false', Bool.and_eq_true, Bool.or_eq_true, beq_iff_eq, beq_eq_false_iff_ne] at h8
    refine ACode.seq ?_
    refine ACode.region ?_
    refine AOps.v rfl rfl rfl (AVal.assignN (by constructor)) ?_
    refine AOps.nil ?_
    refine ACode.ret ?_
    refine AFin.ret (X := X) (fn := Tryz.f5) (R := fun r L' => (∃ g, r = .ret (.bool g)) ∧ L' = []) (L' := []) rfl (.cons rfl .nil) (List.nil_sublist _) (.refl _) ⟨⟨_, rfl⟩, rfl⟩
  ·
    try simp only [decide_eq_true_eq, decide_eq_false_iff_not, Bool.not_eq_true', Bool.not_eq_false', Bool.and_eq_true, Bool.or_eq_true, beq_iff_eq, beq_eq_false_iff_ne] at h8
    refine ACode.skip ?_
    refine ACode.seq ?_
    refine ACode.seq ?_
    refine ACode.region ?_
    refine AOps.v rfl rfl rfl (AVal.assignN (by constructor)) ?_
    refine AOps.nil ?_
    refine ACode.block ?_
    refine ACode.loop (γ := Nat) (fun g => [(0, .slC cs), (3, .ptr b3 0), (5, .int .i64 g)]) (fun g => [(b3, .cells 27 (cellsT t))]) (fun g => g ≤ cs.length) (fun g => cs.length - g) 0 (Nat.zero_le _) (by repeat first | exact Agree.nil | refine Agree.cons (.refl _) ?_) (by repeat first | exact List.Sublist.refl _ | apply List.Sublist.cons_cons | apply List.Sublist.cons | exact List.nil_sublist _) ?_
    intro i hi t1
    refine ACode.seq ?_
    refine ACode.seq ?_
    refine ACode.region ?_
    refine AOps.v rfl rfl rfl (AVal.moveN (by constructor)) ?_
    refine AOps.v rfl rfl rfl (AVal.moveN (by constructor)) ?_
    refine AOps.v rfl rfl rfl (AVal.len rfl rfl rfl) ?_
    refine AOps.v rfl rfl rfl (AVal.lss rfl rfl) ?_
    refine AOps.v rfl rfl rfl (AVal.moveN (by constructor)) ?_
    refine AOps.split 13 rfl (fun h13 => ?_) (fun h13 => ?_)
    ·
      try simp only [decide_eq_true_eq, decide_eq_false_iff_not, Bool.not_eq_true', Bool.not_eq_false', Bool.and_eq_true, Bool.or_eq_true, beq_iff_eq, beq_eq_false_iff_ne] at h13
      refine AOps.vT rfl rfl rfl rfl rfl rfl (AVal.moveN (by constructor)) ?_
      refine AOps.vT rfl rfl rfl rfl rfl rfl (AVal.lss rfl rfl) ?_
      refine AOps.v rfl rfl rfl (AVal.pickT rfl (by constructor)) ?_
      refine AOps.nil ?_
      refine ACode.condS rfl (fun h16 => ?_) (fun h16 => ?_)
      ·
        try simp only [decide_eq_true_eq, decide_eq_false_iff_not, Bool.not_eq_true', Bool.not_eq_false', Bool.and_eq_true, Bool.or_eq_true, beq_iff_eq, beq_eq_false_iff_ne] at h16
        have hlt : i < cs.length := by omega
        refine ACode.skip ?_
        refine ACode.seq ?_
        refine ACode.block ?_
        refine ACode.seq ?_
        refine ACode.region ?_
        refine AOps.v rfl rfl rfl (AVal.moveN (by constructor)) ?_
        refine AOps.v rfl rfl rfl (AVal.moveN (by constructor)) ?_
        refine AOps.v rfl rfl rfl (AVal.indexCN rfl rfl rfl rfl rfl ⟨by omega, by omega⟩) ?_
        refine AOps.v rfl rfl rfl (AVal.fieldE rfl rfl) ?_
        refine AOps.v rfl rfl rfl (AVal.loadE (d := encT _) rfl rfl rfl) ?_
        refine AOps.e rfl rfl rfl (AOp.callP (deep_c _ (cs.getD i default).body rfl (fitX (hf _ (getD_mem hlt)).2) _) (by first | exact LeL.eq rfl | (repeat constructor)) ?_)
        refine AOps.v rfl rfl rfl (AVal.gtr rfl rfl) ?_
        refine AOps.v rfl rfl rfl (AVal.moveN (by constructor)) ?_
        refine AOps.split 26 rfl (fun h26 => ?_) (fun h26 => ?_)
        ·
          try simp only [decide_eq_true_eq, decide_eq_false_iff_not, Bool.not_eq_true', Bool.not_eq_false', Bool.and_eq_true, Bool.or_eq_true, beq_iff_eq, beq_eq_false_iff_ne] at h26
          refine AOps.vF rfl rfl rfl rfl rfl rfl rfl ?_
          refine AOps.vF rfl rfl rfl rfl rfl rfl rfl ?_
          refine AOps.vF rfl rfl rfl rfl rfl rfl rfl ?_
          refine AOps.vF rfl rfl rfl rfl rfl rfl rfl ?_
          refine AOps.vF rfl rfl rfl rfl rfl rfl rfl ?_
          refine AOps.vF rfl rfl rfl rfl rfl rfl rfl ?_
          refine AOps.vF rfl rfl rfl rfl rfl rfl rfl ?_
          refine AOps.v rfl rfl rfl (AVal.pickT rfl (by constructor)) ?_
          refine AOps.nil ?_
          refine ACode.condT rfl ?_
          refine ACode.seq ?_
          refine ACode.region ?_
          refine AOps.v rfl rfl rfl (AVal.assignN (by constructor)) ?_
          refine AOps.nil ?_
          refine ACode.ret ?_
          refine AFin.ret (X := X) (fn := Tryz.f5) (R := fun r L' => (∃ g, r = .ret (.bool g)) ∧ L' = []) (L' := []) rfl (.cons rfl .nil) (List.nil_sublist _) (.refl _) ⟨⟨_, rfl⟩, rfl⟩
        ·
          try simp only [decide_eq_true_eq, decide_eq_false_iff_not, Bool.not_eq_true', Bool.not_eq_false', Bool.and_eq_true, Bool.or_eq_true, beq_iff_eq, beq_eq_false_iff_ne] at h26
          refine AOps.vT rfl rfl rfl rfl rfl rfl (AVal.moveN (by constructor)) ?_
          refine AOps.vT rfl rfl rfl rfl rfl rfl (AVal.moveN (by constructor)) ?_
          refine AOps.vT rfl rfl rfl rfl rfl rfl (AVal.indexCN rfl rfl rfl rfl rfl ⟨by omega, by omega⟩) ?_
          refine AOps.vT rfl rfl rfl rfl rfl rfl (AVal.fieldE rfl rfl) ?_
          refine AOps.vT rfl rfl rfl rfl rfl rfl (AVal.loadE (d := encT _) rfl rfl rfl) ?_
          refine AOps.eT rfl rfl rfl rfl rfl rfl (AOp.callP (deep_c _ (cs.getD i default).typ rfl (fitX (hf _ (getD_mem hlt)).1) _) (by first | exact LeL.eq rfl | (repeat constructor)) ?_)
          refine AOps.vT rfl rfl rfl rfl rfl rfl (AVal.gtr rfl rfl) ?_
          refine AOps.v rfl rfl rfl (AVal.pickF rfl (by constructor)) ?_
          refine AOps.nil ?_
          refine ACode.condS rfl (fun h34 => ?_) (fun h34 => ?_)
          ·
            try simp only [decide_eq_true_eq, decide_eq_false_iff_not, Bool.not_eq_true', Bool.not_eq_false', Bool.and_eq_true, Bool.or_eq_true, beq_iff_eq, beq_eq_false_iff_ne] at h34
            refine ACode.seq ?_
            refine ACode.region ?_
            refine AOps.v rfl rfl rfl (AVal.assignN (by constructor)) ?_
            refine AOps.nil ?_
            refine ACode.ret ?_
            refine AFin.ret (X := X) (fn := Tryz.f5) (R := fun r L' => (∃ g, r = .ret (.bool g)) ∧ L' = []) (L' := []) rfl (.cons rfl .nil) (List.nil_sublist _) (.refl _) ⟨⟨_, rfl⟩, rfl⟩
          ·
            try simp only [decide_eq_true_eq, decide_eq_false_iff_not, Bool.not_eq_true', Bool.not_eq_false', Bool.and_eq_true, Bool.or_eq_true, beq_iff_eq, beq_eq_false_iff_ne] at h34
            refine ACode.skip ?_
            refine ACode.region ?_
            refine AOps.v rfl rfl rfl (AVal.moveN (by constructor)) ?_
            refine AOps.v rfl rfl rfl (AVal.addn rfl rfl (by omega)) ?_
            refine AOps.v rfl rfl rfl (AVal.assignN (by constructor)) ?_
            refine AOps.nil ?_
            refine ⟨i + 1, by omega, by omega, rfl, (by repeat first | exact Agree.nil | refine Agree.cons (.refl _) ?_), (by repeat first | exact List.Sublist.refl _ | apply List.Sublist.cons_cons | apply List.Sublist.cons | exact List.nil_sublist _)⟩
      ·
        try simp only [decide_eq_true_eq, decide_eq_false_iff_not, Bool.not_eq_true', Bool.not_eq_false', Bool.and_eq_true, Bool.or_eq_true, beq_iff_eq, beq_eq_false_iff_ne] at h16
        refine ACode.exit ?_
        refine ACode.seq ?_
        refine ACode.draws [.p 0, .p 1, .l 2, .p 3, .p 4, .p 5, .p 6] mixed (by kernel_rfl) ?_
        refine ASeq.pv rfl rfl rfl rfl (fun L0 => (AVal.moveN (by constructor))) ?_
        refine ASeq.pe rfl rfl rfl rfl (fun L0 => (AOp.callP (coresOf_c cs 600 (by omega) (fun c hc => ⟨fitX (hf c hc).1, fitX (hf c hc).2⟩)) (by first | exact LeL.eq rfl | (repeat constructor)) ⟨rfl, rfl⟩)) ?_
        refine ASeq.lv rfl rfl rfl rfl (HasCell.mk (d := encT _) 0 rfl rfl (.refl _)) ?_
        refine ASeq.pe rfl rfl rfl rfl (fun L0 => (AOp.callP (termOf_c _ t rfl (fitX ht) _) (by first | exact LeL.eq rfl | (repeat constructor)) ⟨rfl, rfl⟩)) ?_
        refine ASeq.pv rfl rfl rfl rfl (fun L0 => (AVal.add rfl rfl)) ?_
        refine ASeq.pv rfl rfl rfl rfl (fun L0 => (AVal.gtr rfl rfl)) ?_
        refine ASeq.pv rfl rfl rfl rfl (fun L0 => (AVal.assignN (by constructor))) ?_
        refine ASeq.nil ?_
        refine ACode.ret ?_
        refine AFin.ret (X := X) (fn := Tryz.f5) (R := fun r L' => (∃ g, r = .ret (.bool g)) ∧ L' = []) (L' := []) rfl (.cons rfl .nil) (List.nil_sublist _) (.refl _) ⟨⟨_, rfl⟩, rfl⟩
    ·
      try simp only [decide_eq_true_eq, decide_eq_false_iff_not, Bool.not_eq_true', Bool.not_eq_false', Bool.and_eq_true, Bool.or_eq_true, beq_iff_eq, beq_eq_false_iff_ne] at h13
      refine AOps.vF rfl rfl rfl rfl rfl rfl rfl ?_
      refine AOps.vF rfl rfl rfl rfl rfl rfl rfl ?_
      refine AOps.v rfl rfl rfl (AVal.pickF rfl (by constructor)) ?_
      refine AOps.nil ?_
      refine ACode.condF rfl ?_
      refine ACode.exit ?_
      refine ACode.seq ?_
      refine ACode.draws [.p 0, .p 1, .l 2, .p 3, .p 4, .p 5, .p 6] mixed (by kernel_rfl) ?_
      refine ASeq.pv rfl rfl rfl rfl (fun L0 => (AVal.moveN (by constructor))) ?_
      refine ASeq.pe rfl rfl rfl rfl (fun L0 => (AOp.callP (coresOf_c cs 600 (by omega) (fun c hc => ⟨fitX (hf c hc).1, fitX (hf c hc).2⟩)) (by first | exact LeL.eq rfl | (repeat constructor)) ⟨rfl, rfl⟩)) ?_
      refine ASeq.lv rfl rfl rfl rfl (HasCell.mk (d := encT _) 0 rfl rfl (.refl _)) ?_
      refine ASeq.pe rfl rfl rfl rfl (fun L0 => (AOp.callP (termOf_c _ t rfl (fitX ht) _) (by first | exact LeL.eq rfl | (repeat constructor)) ⟨rfl, rfl⟩)) ?_
      refine ASeq.pv rfl rfl rfl rfl (fun L0 => (AVal.add rfl rfl)) ?_
      refine ASeq.pv rfl rfl rfl rfl (fun L0 => (AVal.gtr rfl rfl)) ?_
      refine ASeq.pv rfl rfl rfl rfl (fun L0 => (AVal.assignN (by constructor))) ?_
      refine ASeq.nil ?_
      refine ACode.ret ?_
      refine AFin.ret (X := X) (fn := Tryz.f5) (R := fun r L' => (∃ g, r = .ret (.bool g)) ∧ L' = []) (L' := []) rfl (.cons rfl .nil) (List.nil_sublist _) (.refl _) ⟨⟨_, rfl⟩, rfl⟩

theorem callGreat {ρ : Operand → D} {L : Loc} {dst : Option Tmp} {ty : TypeId} {pos : String} {after : Array Edge} {guard : Option (Nat × Bool)} {K Kp : D → Loc → Prop} {xs : Array Operand} {tys : Array TypeId} {cs : List Core} {t : Term} (ht : t.fit 1099511627776) (hl : cs.length ≤ 1099511627776) (hf : ∀ c ∈ cs, c.typ.fit 1099511627776 ∧ c.body.fit 1099511627776)
    (hx : xs.toList.map ρ = [.slC cs, encT t]) (h : ∀ g, K (.bool g) L) : AOp X ⟨dst, .call ⟨.value (.func 5), xs, tys⟩, ty, pos, after, guard⟩ ρ L K Kp :=
  AOp.callB L (great_c cs t ht hl hf) (LeL.eq hx) (by simp) (fun d L' h' => by obtain ⟨⟨g, e⟩, rfl⟩ := h'; cases e; rw [List.append_nil]; exact h g) (fun d L' h' => by obtain ⟨⟨g, e⟩, rfl⟩ := h'; cases e)

end Sp
