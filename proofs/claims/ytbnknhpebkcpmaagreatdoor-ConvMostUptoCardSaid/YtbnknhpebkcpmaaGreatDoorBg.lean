/- Walks of the program's functions and what they compute: contracts of calls; no condition beyond those that each theorem names. -/
import Derived.Test.YtbnknhpebkcpmaaGreatDoorBf
import Derived.Test.YtbnknhpebkcpmaaGreatDoorKc
/- The walks of the law of most. Written by a program of mine. -/
set_option linter.unusedVariables false
set_option linter.unusedSimpArgs false
set_option maxRecDepth 20000
namespace Sp
open Go Go.Proofs

theorem l8fin_c (n : Int) : AFn X 28 [.int .i64 n] (encT (.mk 22 n 0 [] [])) := by
  refine ACalls.of_code Tryz.func28 rfl (by rfl) (Nat.le_of_ble_eq_true rfl) ?_
  refine ACode.seq ?_
  refine ACode.region ?_
  refine AOps.e rfl rfl rfl (AOp.allocN rfl rfl (fun b2 => ?_))
  refine AOps.nil ?_
  refine ACode.seq ?_
  refine ACode.region ?_
  refine AOps.v rfl rfl rfl (AVal.moveN (by constructor)) ?_
  refine AOps.v rfl rfl rfl (AVal.buildT rfl rfl rfl (by constructor) (by constructor)) ?_
  refine AOps.e0 rfl rfl (AOp.storeN 0 rfl rfl rfl (by constructor) rfl rfl rfl (by repeat constructor) (by repeat constructor) ?_)
  refine AOps.nil ?_
  refine ACode.ret ?_
  refine AFin.pureRet rfl (.cons (by first | exact ARead.box (d := encT _) 0 rfl rfl rfl rfl | exact ARead.box (d := encT _) 1 rfl rfl rfl rfl | exact ARead.box (d := encT _) 2 rfl rfl rfl rfl | exact ARead.box (d := encT _) 3 rfl rfl rfl rfl | exact ARead.box (d := encT _) 4 rfl rfl rfl rfl | exact ARead.box (d := encT _) 5 rfl rfl rfl rfl | exact ARead.box (d := encT _) 6 rfl rfl rfl rfl | exact ARead.box (d := encT _) 7 rfl rfl rfl rfl | exact ARead.box 0 rfl rfl rfl rfl | exact ARead.box 1 rfl rfl rfl rfl | exact ARead.box 2 rfl rfl rfl rfl | exact ARead.box 3 rfl rfl rfl rfl | exact ARead.box 4 rfl rfl rfl rfl | exact ARead.box 5 rfl rfl rfl rfl | exact ARead.box 6 rfl rfl rfl rfl | exact ARead.box 7 rfl rfl rfl rfl) .nil) ?_
  exact .refl _

theorem l8v_c (n : Int) : AFn X 29 [.int .i64 n] (encT (.mk 1 n 0 [] [])) := by
  refine ACalls.of_code Tryz.func29 rfl (by rfl) (Nat.le_of_ble_eq_true rfl) ?_
  refine ACode.seq ?_
  refine ACode.region ?_
  refine AOps.e rfl rfl rfl (AOp.allocN rfl rfl (fun b2 => ?_))
  refine AOps.nil ?_
  refine ACode.seq ?_
  refine ACode.region ?_
  refine AOps.v rfl rfl rfl (AVal.moveN (by constructor)) ?_
  refine AOps.v rfl rfl rfl (AVal.buildT rfl rfl rfl (by constructor) (by constructor)) ?_
  refine AOps.e0 rfl rfl (AOp.storeN 0 rfl rfl rfl (by constructor) rfl rfl rfl (by repeat constructor) (by repeat constructor) ?_)
  refine AOps.nil ?_
  refine ACode.ret ?_
  refine AFin.pureRet rfl (.cons (by first | exact ARead.box (d := encT _) 0 rfl rfl rfl rfl | exact ARead.box (d := encT _) 1 rfl rfl rfl rfl | exact ARead.box (d := encT _) 2 rfl rfl rfl rfl | exact ARead.box (d := encT _) 3 rfl rfl rfl rfl | exact ARead.box (d := encT _) 4 rfl rfl rfl rfl | exact ARead.box (d := encT _) 5 rfl rfl rfl rfl | exact ARead.box (d := encT _) 6 rfl rfl rfl rfl | exact ARead.box (d := encT _) 7 rfl rfl rfl rfl | exact ARead.box 0 rfl rfl rfl rfl | exact ARead.box 1 rfl rfl rfl rfl | exact ARead.box 2 rfl rfl rfl rfl | exact ARead.box 3 rfl rfl rfl rfl | exact ARead.box 4 rfl rfl rfl rfl | exact ARead.box 5 rfl rfl rfl rfl | exact ARead.box 6 rfl rfl rfl rfl | exact ARead.box 7 rfl rfl rfl rfl) .nil) ?_
  exact .refl _

theorem l8sort_c (v p : Int) : AFn X 30 [.int .i64 v, .int .i64 p] (encT (.mk 2 0 0 [[⟨v, p⟩]] [])) := by
  refine ACalls.of_code Tryz.func30 rfl (by rfl) (Nat.le_of_ble_eq_true rfl) ?_
  refine ACode.seq ?_
  refine ACode.region ?_
  refine AOps.e rfl rfl rfl (AOp.allocN rfl rfl (fun b4 => ?_))
  refine AOps.nil ?_
  refine ACode.seq ?_
  refine ACode.region ?_
  refine AOps.v rfl rfl rfl (AVal.moveN (by constructor)) ?_
  refine AOps.v rfl rfl rfl (AVal.moveN (by constructor)) ?_
  refine AOps.v rfl rfl rfl (AVal.buildP rfl rfl rfl) ?_
  refine AOps.e rfl rfl rfl (AOp.buildSliceP (ts := [_]) rfl rfl rfl rfl rfl ?_)
  refine AOps.v rfl rfl rfl (AVal.build rfl rfl rfl) ?_
  refine AOps.e rfl rfl rfl (AOp.buildSliceL (ts := [_]) rfl rfl rfl rfl rfl ?_)
  refine AOps.v rfl rfl rfl (AVal.buildT rfl rfl rfl (by constructor) (by constructor)) ?_
  refine AOps.e0 rfl rfl (AOp.storeN 0 rfl rfl rfl (by constructor) rfl rfl rfl (by repeat constructor) (by repeat constructor) ?_)
  refine AOps.nil ?_
  refine ACode.ret ?_
  refine AFin.pureRet rfl (.cons (by first | exact ARead.box (d := encT _) 0 rfl rfl rfl rfl | exact ARead.box (d := encT _) 1 rfl rfl rfl rfl | exact ARead.box (d := encT _) 2 rfl rfl rfl rfl | exact ARead.box (d := encT _) 3 rfl rfl rfl rfl | exact ARead.box (d := encT _) 4 rfl rfl rfl rfl | exact ARead.box (d := encT _) 5 rfl rfl rfl rfl | exact ARead.box (d := encT _) 6 rfl rfl rfl rfl | exact ARead.box (d := encT _) 7 rfl rfl rfl rfl | exact ARead.box 0 rfl rfl rfl rfl | exact ARead.box 1 rfl rfl rfl rfl | exact ARead.box 2 rfl rfl rfl rfl | exact ARead.box 3 rfl rfl rfl rfl | exact ARead.box 4 rfl rfl rfl rfl | exact ARead.box 5 rfl rfl rfl rfl | exact ARead.box 6 rfl rfl rfl rfl | exact ARead.box 7 rfl rfl rfl rfl) .nil) ?_
  exact .refl _

theorem l8of_c (k : Int) (ts : List Term) : AFn X 11 [.int .i64 k, .slT ts] (encT (.mk k 0 0 [] ts)) := by
  refine ACalls.of_code Tryz.func11 rfl (by rfl) (Nat.le_of_ble_eq_true rfl) ?_
  refine ACode.seq ?_
  refine ACode.region ?_
  refine AOps.e rfl rfl rfl (AOp.allocN rfl rfl (fun b4 => ?_))
  refine AOps.nil ?_
  refine ACode.seq ?_
  refine ACode.region ?_
  refine AOps.v rfl rfl rfl (AVal.moveN (by constructor)) ?_
  refine AOps.v rfl rfl rfl (AVal.moveN (by constructor)) ?_
  refine AOps.v rfl rfl rfl (AVal.buildT rfl rfl rfl (by constructor) (by constructor)) ?_
  refine AOps.e0 rfl rfl (AOp.storeN 0 rfl rfl rfl (by constructor) rfl rfl rfl (by repeat constructor) (by repeat constructor) ?_)
  refine AOps.nil ?_
  refine ACode.ret ?_
  refine AFin.pureRet rfl (.cons (by first | exact ARead.box (d := encT _) 0 rfl rfl rfl rfl | exact ARead.box (d := encT _) 1 rfl rfl rfl rfl | exact ARead.box (d := encT _) 2 rfl rfl rfl rfl | exact ARead.box (d := encT _) 3 rfl rfl rfl rfl | exact ARead.box (d := encT _) 4 rfl rfl rfl rfl | exact ARead.box (d := encT _) 5 rfl rfl rfl rfl | exact ARead.box (d := encT _) 6 rfl rfl rfl rfl | exact ARead.box (d := encT _) 7 rfl rfl rfl rfl | exact ARead.box 0 rfl rfl rfl rfl | exact ARead.box 1 rfl rfl rfl rfl | exact ARead.box 2 rfl rfl rfl rfl | exact ARead.box 3 rfl rfl rfl rfl | exact ARead.box 4 rfl rfl rfl rfl | exact ARead.box 5 rfl rfl rfl rfl | exact ARead.box 6 rfl rfl rfl rfl | exact ARead.box 7 rfl rfl rfl rfl) .nil) ?_
  exact D.Le.refl _

theorem convC {cs : List Core} {p q : Term} {F : Int} (hS : SortedOk) (hc : 0 ≤ F ∧ F ≤ 1073741824 → CoresOk cs ∧ W F p ∧ W F q) {a : Bool} {b c : Int} (h : convM cs F p q = (a, b, c)) :
    AFn X 9 [.slC cs, encT p, encT q, .int .i64 F] (.tup [.bool a, .int .i64 b, .int .i64 c]) := by
  have := convTop_c hS cs p q F hc
  rw [h] at this
  exact this

theorem leqC {cs : List Core} {p q : Term} {F : Int} (hS : SortedOk) (hc : 0 ≤ F ∧ F ≤ 1073741824 → CoresOk cs ∧ W F p ∧ W F q) {a : Bool} {b c : Int} (h : leqM cs F p q = (a, b, c)) :
    AFn X 10 [.slC cs, encT p, encT q, .int .i64 F] (.tup [.bool a, .int .i64 b, .int .i64 c]) := by
  have := leqTop_c hS cs p q F hc
  rw [h] at this
  exact this

theorem cores0 : CoresOk [] := fun c h => by cases h
theorem eF_W : W 5 eF := W_ex (by simp [Term.fit, Term.fits]) (by simp [Term.sz, Term.szs]) (by omega)
theorem tv_W : W 5 (tv 0) := W_ex (by simp [Term.fit, Term.fits]) (by simp [Term.sz, Term.szs]) (by omega)
theorem so_W (p : Int) : W 5 (so 1 p) := W_ex (by simp [Term.fit, Term.fits]) (by simp [Term.sz, Term.szs]) (by omega)

theorem l8awake_c (hS : SortedOk) : AFn X 7 [] (.bool true) := by
  refine ACalls.of_code Tryz.func7 rfl (by rfl) (Nat.le_of_ble_eq_true rfl) ?_
  refine ACode.seq ?_
  refine ACode.region ?_
  refine AOps.v rfl rfl rfl (AVal.assignN (by constructor)) ?_
  refine AOps.nil ?_
  refine ACode.seq ?_
  refine ACode.region ?_
  refine AOps.e rfl rfl rfl (AOp.callP (l8fin_c _) (by first | exact LeL.eq rfl | (repeat constructor)) ?_)
  refine AOps.e rfl rfl rfl (AOp.callP (l8v_c _) (by first | exact LeL.eq rfl | (repeat constructor)) ?_)
  refine AOps.e rfl rfl rfl (AOp.callP (l8v_c _) (by first | exact LeL.eq rfl | (repeat constructor)) ?_)
  refine AOps.e rfl rfl rfl (AOp.buildSliceT (ts := [_, _]) rfl rfl rfl rfl rfl ?_)
  refine AOps.e rfl rfl rfl (AOp.callP (l8of_c 6 [tv 1, tv 0]) (by first | exact LeL.eq rfl | (repeat constructor)) ?_)
  refine AOps.e rfl rfl rfl (AOp.buildSliceT (ts := [_, _]) rfl rfl rfl rfl rfl ?_)
  refine AOps.e rfl rfl rfl (AOp.callP (l8of_c 5 [.mk 22 2 0 [] [], .mk 6 0 0 [] [tv 1, tv 0]]) (by first | exact LeL.eq rfl | (repeat constructor)) ?_)
  refine AOps.e rfl rfl rfl (AOp.callP (l8v_c _) (by first | exact LeL.eq rfl | (repeat constructor)) ?_)
  refine AOps.e rfl rfl rfl (AOp.callP (convC hS (fun _ => ⟨cores0, eF_W, tv_W⟩) conv_eta) (LeL.cons (.emp _ rfl) (LeL.cons (.refl _) (LeL.cons (.refl _) (LeL.cons (.refl _) .nil)))) ?_)
  refine AOps.v rfl rfl rfl (AVal.moveN (by constructor)) ?_
  refine AOps.v rfl rfl rfl (AVal.extractN rfl rfl (by constructor)) ?_
  refine AOps.v rfl rfl rfl (AVal.extractN rfl rfl (by constructor)) ?_
  refine AOps.v rfl rfl rfl (AVal.extractN rfl rfl (by constructor)) ?_
  refine AOps.v rfl rfl rfl (AVal.assignN (by constructor)) ?_
  refine AOps.v rfl rfl rfl (AVal.assignN (by constructor)) ?_
  refine AOps.v rfl rfl rfl (AVal.assignN (by constructor)) ?_
  refine AOps.nil ?_
  refine ACode.seq ?_
  refine ACode.region ?_
  refine AOps.e rfl rfl rfl (AOp.callP (l8sort_c _ _) (by first | exact LeL.eq rfl | (repeat constructor)) ?_)
  refine AOps.e rfl rfl rfl (AOp.callP (l8sort_c _ _) (by first | exact LeL.eq rfl | (repeat constructor)) ?_)
  refine AOps.e rfl rfl rfl (AOp.callP (leqC hS (fun _ => ⟨cores0, so_W 0, so_W 1⟩) leq_so) (LeL.cons (.emp _ rfl) (LeL.cons (.refl _) (LeL.cons (.refl _) (LeL.cons (.refl _) .nil)))) ?_)
  refine AOps.v rfl rfl rfl (AVal.moveN (by constructor)) ?_
  refine AOps.v rfl rfl rfl (AVal.extractN rfl rfl (by constructor)) ?_
  refine AOps.v rfl rfl rfl (AVal.extractN rfl rfl (by constructor)) ?_
  refine AOps.v rfl rfl rfl (AVal.extractN rfl rfl (by constructor)) ?_
  refine AOps.v rfl rfl rfl (AVal.assignN (by constructor)) ?_
  refine AOps.v rfl rfl rfl (AVal.assignN (by constructor)) ?_
  refine AOps.v rfl rfl rfl (AVal.assignN (by constructor)) ?_
  refine AOps.nil ?_
  refine ACode.seq ?_
  refine ACode.region ?_
  refine AOps.e rfl rfl rfl (AOp.callP (l8sort_c _ _) (by first | exact LeL.eq rfl | (repeat constructor)) ?_)
  refine AOps.e rfl rfl rfl (AOp.callP (l8sort_c _ _) (by first | exact LeL.eq rfl | (repeat constructor)) ?_)
  refine AOps.e rfl rfl rfl (AOp.callP (convC hS (fun _ => ⟨cores0, so_W 0, so_W 1⟩) conv_so) (LeL.cons (.emp _ rfl) (LeL.cons (.refl _) (LeL.cons (.refl _) (LeL.cons (.refl _) .nil)))) ?_)
  refine AOps.v rfl rfl rfl (AVal.moveN (by constructor)) ?_
  refine AOps.v rfl rfl rfl (AVal.extractN rfl rfl (by constructor)) ?_
  refine AOps.v rfl rfl rfl (AVal.extractN rfl rfl (by constructor)) ?_
  refine AOps.v rfl rfl rfl (AVal.extractN rfl rfl (by constructor)) ?_
  refine AOps.v rfl rfl rfl (AVal.assignN (by constructor)) ?_
  refine AOps.v rfl rfl rfl (AVal.assignN (by constructor)) ?_
  refine AOps.v rfl rfl rfl (AVal.assignN (by constructor)) ?_
  refine AOps.nil ?_
  refine ACode.seq ?_
  refine ACode.region ?_
  refine AOps.v rfl rfl rfl (AVal.moveN (by constructor)) ?_
  refine AOps.v rfl rfl rfl (AVal.moveN (by constructor)) ?_
  refine AOps.vT rfl rfl rfl rfl rfl rfl (AVal.moveN (by constructor)) ?_
  refine AOps.vT rfl rfl rfl rfl rfl rfl (AVal.eql rfl rfl) ?_
  refine AOps.v rfl rfl rfl (AVal.pickT rfl (by constructor)) ?_
  refine AOps.v rfl rfl rfl (AVal.moveN (by constructor)) ?_
  refine AOps.vT rfl rfl rfl rfl rfl rfl (AVal.moveN (by constructor)) ?_
  refine AOps.vT rfl rfl rfl rfl rfl rfl (AVal.eql rfl rfl) ?_
  refine AOps.v rfl rfl rfl (AVal.pickT rfl (by constructor)) ?_
  refine AOps.v rfl rfl rfl (AVal.moveN (by constructor)) ?_
  refine AOps.vT rfl rfl rfl rfl rfl rfl (AVal.moveN (by constructor)) ?_
  refine AOps.v rfl rfl rfl (AVal.pickT rfl (by constructor)) ?_
  refine AOps.v rfl rfl rfl (AVal.moveN (by constructor)) ?_
  refine AOps.vT rfl rfl rfl rfl rfl rfl (AVal.moveN (by constructor)) ?_
  refine AOps.vT rfl rfl rfl rfl rfl rfl (AVal.eql rfl rfl) ?_
  refine AOps.v rfl rfl rfl (AVal.pickT rfl (by constructor)) ?_
  refine AOps.v rfl rfl rfl (AVal.moveN (by constructor)) ?_
  refine AOps.vT rfl rfl rfl rfl rfl rfl (AVal.moveN (by constructor)) ?_
  refine AOps.vT rfl rfl rfl rfl rfl rfl (AVal.not rfl) ?_
  refine AOps.v rfl rfl rfl (AVal.pickT rfl (by constructor)) ?_
  refine AOps.v rfl rfl rfl (AVal.moveN (by constructor)) ?_
  refine AOps.vT rfl rfl rfl rfl rfl rfl (AVal.moveN (by constructor)) ?_
  refine AOps.vT rfl rfl rfl rfl rfl rfl (AVal.eql rfl rfl) ?_
  refine AOps.v rfl rfl rfl (AVal.pickT rfl (by constructor)) ?_
  refine AOps.v rfl rfl rfl (AVal.assignN (by constructor)) ?_
  refine AOps.nil ?_
  refine ACode.ret ?_
  refine AFin.pureRet rfl (.cons rfl .nil) ?_
  exact .refl _

theorem l8great_c (cs : List Core) (ts : List Term) (hl : cs.length ≤ 1099511627776) (hf : ∀ c ∈ cs, c.typ.fit 1099511627776 ∧ c.body.fit 1099511627776) (htl : ts.length ≤ 1099511627776) (ht : ∀ t ∈ ts, t.fit 1099511627776) : ACalls X 8 [.slC cs, .slT ts] [] (fun r L' => (∃ g, r = .ret (.bool g)) ∧ L' = []) := by
  refine ACalls.of_code Tryz.func8 rfl (by rfl) (Nat.le_of_ble_eq_true rfl) ?_
  refine ACode.seq ?_
  refine ACode.region ?_
  refine AOps.v rfl rfl rfl (AVal.assignN (by constructor)) ?_
  refine AOps.nil ?_
  refine ACode.seq ?_
  refine ACode.seq ?_
  refine ACode.region ?_
  refine AOps.v rfl rfl rfl (AVal.assignN (by constructor)) ?_
  refine AOps.nil ?_
  refine ACode.block ?_
  refine ACode.loop (γ := Nat) (fun g => [(0, .slC cs), (1, .slT ts), (5, .int .i64 g)]) (fun g => []) (fun g => g ≤ ts.length) (fun g => ts.length - g) 0 (Nat.zero_le _) (by repeat first | exact Agree.nil | refine Agree.cons (.refl _) ?_) (by repeat first | exact List.Sublist.refl _ | apply List.Sublist.cons_cons | apply List.Sublist.cons | exact List.nil_sublist _) ?_
  intro i hi t1
  refine ACode.seq ?_
  refine ACode.seq ?_
  refine ACode.region ?_
  refine AOps.v rfl rfl rfl (AVal.moveN (by constructor)) ?_
  refine AOps.v rfl rfl rfl (AVal.moveN (by constructor)) ?_
  refine AOps.v rfl rfl rfl (AVal.len rfl rfl rfl) ?_
  refine AOps.v rfl rfl rfl (AVal.lss rfl rfl) ?_
  refine AOps.nil ?_
  refine ACode.condS rfl (fun h10 => ?_) (fun h10 => ?_)
  ·
    try simp only [decide_eq_true_eq, decide_eq_false_iff_not, Bool.not_eq_true', Bool.not_eq_false', Bool.and_eq_true, Bool.or_eq_true, beq_iff_eq, beq_eq_false_iff_ne] at h10
    have hlt : i < ts.length := by omega
    refine ACode.skip ?_
    refine ACode.seq ?_
    refine ACode.block ?_
    refine ACode.seq ?_
    refine ACode.region ?_
    refine AOps.v rfl rfl rfl (AVal.moveN (by constructor)) ?_
    refine AOps.v rfl rfl rfl (AVal.moveN (by constructor)) ?_
    refine AOps.v rfl rfl rfl (AVal.indexTN rfl rfl rfl rfl rfl ⟨by omega, by omega⟩) ?_
    refine AOps.v rfl rfl rfl (AVal.loadE (d := encT _) rfl rfl rfl) ?_
    refine AOps.e rfl rfl rfl (AOp.callP (deep_c _ (ts.getD i default) rfl (fitMax (ht _ (getD_mem hlt))) _) (by first | exact LeL.eq rfl | (repeat constructor)) ?_)
    refine AOps.v rfl rfl rfl (AVal.gtr rfl rfl) ?_
    refine AOps.nil ?_
    refine ACode.condS rfl (fun h18 => ?_) (fun h18 => ?_)
    ·
      try simp only [decide_eq_true_eq, decide_eq_false_iff_not, Bool.not_eq_true', Bool.not_eq_false', Bool.and_eq_true, Bool.or_eq_true, beq_iff_eq, beq_eq_false_iff_ne] at h18
      refine ACode.seq ?_
      refine ACode.region ?_
      refine AOps.v rfl rfl rfl (AVal.assignN (by constructor)) ?_
      refine AOps.nil ?_
      refine ACode.ret ?_
      refine AFin.ret (X := X) (fn := Tryz.f8) (R := fun r L' => (∃ g, r = .ret (.bool g)) ∧ L' = []) (L' := []) rfl (.cons rfl .nil) (List.nil_sublist _) (.refl _) ⟨⟨_, rfl⟩, rfl⟩
    ·
      try simp only [decide_eq_true_eq, decide_eq_false_iff_not, Bool.not_eq_true', Bool.not_eq_false', Bool.and_eq_true, Bool.or_eq_true, beq_iff_eq, beq_eq_false_iff_ne] at h18
      refine ACode.skip ?_
      refine ACode.region ?_
      refine AOps.v rfl rfl rfl (AVal.moveN (by constructor)) ?_
      refine AOps.v rfl rfl rfl (AVal.addn rfl rfl (by omega)) ?_
      refine AOps.v rfl rfl rfl (AVal.assignN (by constructor)) ?_
      refine AOps.nil ?_
      refine ⟨i + 1, by omega, by omega, rfl, (by repeat first | exact Agree.nil | refine Agree.cons (.refl _) ?_), (by repeat first | exact List.Sublist.refl _ | apply List.Sublist.cons_cons | apply List.Sublist.cons | exact List.nil_sublist _)⟩
  ·
    try simp only [decide_eq_true_eq, decide_eq_false_iff_not, Bool.not_eq_true', Bool.not_eq_false', Bool.and_eq_true, Bool.or_eq_true, beq_iff_eq, beq_eq_false_iff_ne] at h10
    refine ACode.exit ?_
    refine ACode.seq ?_
    refine ACode.seq ?_
    refine ACode.region ?_
    refine AOps.v rfl rfl rfl (AVal.assignN (by constructor)) ?_
    refine AOps.nil ?_
    refine ACode.block ?_
    refine ACode.loop (γ := Nat) (fun g => [(0, .slC cs), (1, .slT ts), (6, .int .i64 g)]) (fun g => []) (fun g => g ≤ cs.length) (fun g => cs.length - g) 0 (Nat.zero_le _) (by repeat first | exact Agree.nil | refine Agree.cons (.refl _) ?_) (by repeat first | exact List.Sublist.refl _ | apply List.Sublist.cons_cons | apply List.Sublist.cons | exact List.nil_sublist _) ?_
    intro i hi t1
    refine ACode.seq ?_
    refine ACode.seq ?_
    refine ACode.region ?_
    refine AOps.v rfl rfl rfl (AVal.moveN (by constructor)) ?_
    refine AOps.v rfl rfl rfl (AVal.moveN (by constructor)) ?_
    refine AOps.v rfl rfl rfl (AVal.len rfl rfl rfl) ?_
    refine AOps.v rfl rfl rfl (AVal.lss rfl rfl) ?_
    refine AOps.v rfl rfl rfl (AVal.moveN (by constructor)) ?_
    refine AOps.split 23 rfl (fun h23 => ?_) (fun h23 => ?_)
    ·
      try simp only [decide_eq_true_eq, decide_eq_false_iff_not, Bool.not_eq_true', Bool.not_eq_false', Bool.and_eq_true, Bool.or_eq_true, beq_iff_eq, beq_eq_false_iff_ne] at h23
      have hlt : i < cs.length := by omega
      refine AOps.vT rfl rfl rfl rfl rfl rfl (AVal.moveN (by constructor)) ?_
      refine AOps.vT rfl rfl rfl rfl rfl rfl (AVal.lss rfl rfl) ?_
      refine AOps.v rfl rfl rfl (AVal.pickT rfl (by constructor)) ?_
      refine AOps.nil ?_
      refine ACode.condS rfl (fun h26 => ?_) (fun h26 => ?_)
      ·
        try simp only [decide_eq_true_eq, decide_eq_false_iff_not, Bool.not_eq_true', Bool.not_eq_false', Bool.and_eq_true, Bool.or_eq_true, beq_iff_eq, beq_eq_false_iff_ne] at h26
        have hlt : i < cs.length := by first | omega | (have := h23; omega)
        refine ACode.skip ?_
        refine ACode.seq ?_
        refine ACode.block ?_
        refine ACode.seq ?_
        refine ACode.region ?_
        refine AOps.v rfl rfl rfl (AVal.moveN (by constructor)) ?_
        refine AOps.v rfl rfl rfl (AVal.moveN (by constructor)) ?_
        refine AOps.v rfl rfl rfl (AVal.indexCN rfl rfl rfl rfl rfl ⟨by omega, by omega⟩) ?_
        refine AOps.v rfl rfl rfl (AVal.fieldE rfl rfl) ?_
        refine AOps.v rfl rfl rfl (AVal.loadE (d := encT _) rfl rfl rfl) ?_
        refine AOps.e rfl rfl rfl (AOp.callP (deep_c _ (cs.getD i default).body rfl (fitMax (hf _ (getD_mem hlt)).2) _) (by first | exact LeL.eq rfl | (repeat constructor)) ?_)
        refine AOps.v rfl rfl rfl (AVal.gtr rfl rfl) ?_
        refine AOps.v rfl rfl rfl (AVal.moveN (by constructor)) ?_
        refine AOps.split 36 rfl (fun h36 => ?_) (fun h36 => ?_)
        ·
          try simp only [decide_eq_true_eq, decide_eq_false_iff_not, Bool.not_eq_true', Bool.not_eq_false', Bool.and_eq_true, Bool.or_eq_true, beq_iff_eq, beq_eq_false_iff_ne] at h36
          refine AOps.vF rfl rfl rfl rfl rfl rfl rfl ?_
          refine AOps.vF rfl rfl rfl rfl rfl rfl rfl ?_
          refine AOps.vF rfl rfl rfl rfl rfl rfl rfl ?_
          refine AOps.vF rfl rfl rfl rfl rfl rfl rfl ?_
          refine AOps.vF rfl rfl rfl rfl rfl rfl rfl ?_
          refine AOps.vF rfl rfl rfl rfl rfl rfl rfl ?_
          refine AOps.vF rfl rfl rfl rfl rfl rfl rfl ?_
          refine AOps.v rfl rfl rfl (AVal.pickT rfl (by constructor)) ?_
          refine AOps.nil ?_
          refine ACode.condT rfl ?_
          refine ACode.seq ?_
          refine ACode.region ?_
          refine AOps.v rfl rfl rfl (AVal.assignN (by constructor)) ?_
          refine AOps.nil ?_
          refine ACode.ret ?_
          refine AFin.ret (X := X) (fn := Tryz.f8) (R := fun r L' => (∃ g, r = .ret (.bool g)) ∧ L' = []) (L' := []) rfl (.cons rfl .nil) (List.nil_sublist _) (.refl _) ⟨⟨_, rfl⟩, rfl⟩
        ·
          try simp only [decide_eq_true_eq, decide_eq_false_iff_not, Bool.not_eq_true', Bool.not_eq_false', Bool.and_eq_true, Bool.or_eq_true, beq_iff_eq, beq_eq_false_iff_ne] at h36
          refine AOps.vT rfl rfl rfl rfl rfl rfl (AVal.moveN (by constructor)) ?_
          refine AOps.vT rfl rfl rfl rfl rfl rfl (AVal.moveN (by constructor)) ?_
          refine AOps.vT rfl rfl rfl rfl rfl rfl (AVal.indexCN rfl rfl rfl rfl rfl ⟨by omega, by omega⟩) ?_
          refine AOps.vT rfl rfl rfl rfl rfl rfl (AVal.fieldE rfl rfl) ?_
          refine AOps.vT rfl rfl rfl rfl rfl rfl (AVal.loadE (d := encT _) rfl rfl rfl) ?_
          refine AOps.eT rfl rfl rfl rfl rfl rfl (AOp.callP (deep_c _ (cs.getD i default).typ rfl (fitMax (hf _ (getD_mem hlt)).1) _) (by first | exact LeL.eq rfl | (repeat constructor)) ?_)
          refine AOps.vT rfl rfl rfl rfl rfl rfl (AVal.gtr rfl rfl) ?_
          refine AOps.v rfl rfl rfl (AVal.pickF rfl (by constructor)) ?_
          refine AOps.nil ?_
          refine ACode.condS rfl (fun h44 => ?_) (fun h44 => ?_)
          ·
            try simp only [decide_eq_true_eq, decide_eq_false_iff_not, Bool.not_eq_true', Bool.not_eq_false', Bool.and_eq_true, Bool.or_eq_true, beq_iff_eq, beq_eq_false_iff_ne] at h44
            refine ACode.seq ?_
            refine ACode.region ?_
            refine AOps.v rfl rfl rfl (AVal.assignN (by constructor)) ?_
            refine AOps.nil ?_
            refine ACode.ret ?_
            refine AFin.ret (X := X) (fn := Tryz.f8) (R := fun r L' => (∃ g, r = .ret (.bool g)) ∧ L' = []) (L' := []) rfl (.cons rfl .nil) (List.nil_sublist _) (.refl _) ⟨⟨_, rfl⟩, rfl⟩
          ·
            try simp only [decide_eq_true_eq, decide_eq_false_iff_not, Bool.not_eq_true', Bool.not_eq_false', Bool.and_eq_true, Bool.or_eq_true, beq_iff_eq, beq_eq_false_iff_ne] at h44
            refine ACode.skip ?_
            refine ACode.region ?_
            refine AOps.v rfl rfl rfl (AVal.moveN (by constructor)) ?_
            refine AOps.v rfl rfl rfl (AVal.addn rfl rfl (by omega)) ?_
            refine AOps.v rfl rfl rfl (AVal.assignN (by constructor)) ?_
            refine AOps.nil ?_
            refine ⟨i + 1, by omega, by omega, rfl, (by repeat first | exact Agree.nil | refine Agree.cons (.refl _) ?_), (by repeat first | exact List.Sublist.refl _ | apply List.Sublist.cons_cons | apply List.Sublist.cons | exact List.nil_sublist _)⟩
      ·
        try simp only [decide_eq_true_eq, decide_eq_false_iff_not, Bool.not_eq_true', Bool.not_eq_false', Bool.and_eq_true, Bool.or_eq_true, beq_iff_eq, beq_eq_false_iff_ne] at h26
        refine ACode.exit ?_
        refine ACode.seq ?_
        refine ACode.region ?_
        refine AOps.v rfl rfl rfl (AVal.moveN (by constructor)) ?_
        refine AOps.e rfl rfl rfl (AOp.callP (coresOf_c cs 400 (by omega) (fun c hc => ⟨fitMax (hf c hc).1, fitMax (hf c hc).2⟩)) (by first | exact LeL.eq rfl | (repeat constructor)) ?_)
        refine AOps.v rfl rfl rfl (AVal.moveN (by constructor)) ?_
        refine AOps.e rfl rfl rfl (AOp.callP (termsOf_c ts 400 (by omega) (fun k hk q => termOf_c _ k rfl (fitMax (ht k hk)) q)) (by first | exact LeL.eq rfl | (repeat constructor)) ?_)
        refine AOps.v rfl rfl rfl (AVal.add rfl rfl) ?_
        refine AOps.v rfl rfl rfl (AVal.gtr rfl rfl) ?_
        refine AOps.v rfl rfl rfl (AVal.assignN (by constructor)) ?_
        refine AOps.nil ?_
        refine ACode.ret ?_
        refine AFin.ret (X := X) (fn := Tryz.f8) (R := fun r L' => (∃ g, r = .ret (.bool g)) ∧ L' = []) (L' := []) rfl (.cons rfl .nil) (List.nil_sublist _) (.refl _) ⟨⟨_, rfl⟩, rfl⟩
    ·
      try simp only [decide_eq_true_eq, decide_eq_false_iff_not, Bool.not_eq_true', Bool.not_eq_false', Bool.and_eq_true, Bool.or_eq_true, beq_iff_eq, beq_eq_false_iff_ne] at h23
      refine AOps.vF rfl rfl rfl rfl rfl rfl rfl ?_
      refine AOps.vF rfl rfl rfl rfl rfl rfl rfl ?_
      refine AOps.v rfl rfl rfl (AVal.pickF rfl (by constructor)) ?_
      refine AOps.nil ?_
      refine ACode.condF rfl ?_
      refine ACode.exit ?_
      refine ACode.seq ?_
      refine ACode.region ?_
      refine AOps.v rfl rfl rfl (AVal.moveN (by constructor)) ?_
      refine AOps.e rfl rfl rfl (AOp.callP (coresOf_c cs 400 (by omega) (fun c hc => ⟨fitMax (hf c hc).1, fitMax (hf c hc).2⟩)) (by first | exact LeL.eq rfl | (repeat constructor)) ?_)
      refine AOps.v rfl rfl rfl (AVal.moveN (by constructor)) ?_
      refine AOps.e rfl rfl rfl (AOp.callP (termsOf_c ts 400 (by omega) (fun k hk q => termOf_c _ k rfl (fitMax (ht k hk)) q)) (by first | exact LeL.eq rfl | (repeat constructor)) ?_)
      refine AOps.v rfl rfl rfl (AVal.add rfl rfl) ?_
      refine AOps.v rfl rfl rfl (AVal.gtr rfl rfl) ?_
      refine AOps.v rfl rfl rfl (AVal.assignN (by constructor)) ?_
      refine AOps.nil ?_
      refine ACode.ret ?_
      refine AFin.ret (X := X) (fn := Tryz.f8) (R := fun r L' => (∃ g, r = .ret (.bool g)) ∧ L' = []) (L' := []) rfl (.cons rfl .nil) (List.nil_sublist _) (.refl _) ⟨⟨_, rfl⟩, rfl⟩

theorem call8Great {ρ : Operand → D} {L : Loc} {dst : Option Tmp} {ty : TypeId} {pos : String} {after : Array Edge} {guard : Option (Nat × Bool)} {K Kp : D → Loc → Prop} {xs : Array Operand} {tys : Array TypeId} {cs : List Core} {ts : List Term} (hl : cs.length ≤ 1099511627776) (hf : ∀ c ∈ cs, c.typ.fit 1099511627776 ∧ c.body.fit 1099511627776) (htl : ts.length ≤ 1099511627776) (ht : ∀ t ∈ ts, t.fit 1099511627776)
    (hx : xs.toList.map ρ = [.slC cs, .slT ts]) (h : ∀ g, K (.bool g) L) : AOp X ⟨dst, .call ⟨.value (.func 8), xs, tys⟩, ty, pos, after, guard⟩ ρ L K Kp :=
  AOp.callB L (l8great_c cs ts hl hf htl ht) (LeL.eq hx) (by simp) (fun d L' h' => by obtain ⟨⟨g, e⟩, rfl⟩ := h'; cases e; rw [List.append_nil]; exact h g) (fun d L' h' => by obtain ⟨⟨g, e⟩, rfl⟩ := h'; cases e)

theorem convMost_c (hS : SortedOk) (cs : List Core) (a b c : Term) (fuel : Int) (hC : CoresOk cs) (haf : a.fit 1099511627776) (has : a.sz ≤ 1048576) (hbf : b.fit 1099511627776) (hbs : b.sz ≤ 1048576) (hcf : c.fit 1099511627776) (hcs : c.sz ≤ 1048576) (hl : cs.length ≤ 1099511627776) (hfc : ∀ c ∈ cs, c.typ.fit 1099511627776 ∧ c.body.fit 1099511627776) : AFn X 3 [.slC cs, encT a, encT b, encT c, .int .i64 fuel] (.bool true) := by
  refine ACalls.of_code Tryz.func3 rfl (by rfl) (Nat.le_of_ble_eq_true rfl) ?_
  refine ACode.seq ?_
  refine ACode.region ?_
  refine AOps.e rfl rfl rfl (AOp.boxA rfl (fun b6 => ?_))
  refine AOps.e rfl rfl rfl (AOp.boxA rfl (fun b7 => ?_))
  refine AOps.e rfl rfl rfl (AOp.boxA rfl (fun b8 => ?_))
  refine AOps.v rfl rfl rfl (AVal.assignN (by constructor)) ?_
  refine AOps.nil ?_
  refine ACode.seq ?_
  refine ACode.seq ?_
  refine ACode.region ?_
  refine AOps.e rfl rfl rfl (AOp.callP (l8awake_c hS) (by first | exact LeL.eq rfl | (repeat constructor)) ?_)
  refine AOps.v rfl rfl rfl (AVal.not rfl) ?_
  refine AOps.nil ?_
  refine ACode.condF rfl ?_
  refine ACode.skip ?_
  refine ACode.seq ?_
  refine ACode.seq ?_
  refine ACode.region ?_
  refine AOps.v rfl rfl rfl (AVal.moveN (by constructor)) ?_
  refine AOps.v rfl rfl rfl (AVal.loadP (d := encT _) 2 rfl rfl rfl rfl) ?_
  refine AOps.v rfl rfl rfl (AVal.loadP (d := encT _) 1 rfl rfl rfl rfl) ?_
  refine AOps.v rfl rfl rfl (AVal.loadP (d := encT _) 0 rfl rfl rfl rfl) ?_
  refine AOps.e rfl rfl rfl (AOp.buildSliceT (ts := [_, _, _]) rfl rfl rfl rfl rfl ?_)
  refine AOps.e rfl rfl rfl (call8Great (ts := [a, b, c]) hl hfc (by simp) (fun t ht => by simp at ht; rcases ht with rfl | rfl | rfl <;> assumption) rfl (fun g30 => ?_))
  refine AOps.v rfl rfl rfl (AVal.moveN (by constructor)) ?_
  refine AOps.split 31 rfl (fun h31 => ?_) (fun h31 => ?_)
  ·
    try simp only [decide_eq_true_eq, decide_eq_false_iff_not, Bool.not_eq_true', Bool.not_eq_false', Bool.and_eq_true, Bool.or_eq_true, beq_iff_eq, beq_eq_false_iff_ne] at h31
    refine AOps.vF rfl rfl rfl rfl rfl rfl rfl ?_
    refine AOps.vF rfl rfl rfl rfl rfl rfl rfl ?_
    refine AOps.v rfl rfl rfl (AVal.pickT rfl (by constructor)) ?_
    refine AOps.v rfl rfl rfl (AVal.moveN (by constructor)) ?_
    refine AOps.vF rfl rfl rfl rfl rfl rfl rfl ?_
    refine AOps.vF rfl rfl rfl rfl rfl rfl rfl ?_
    refine AOps.v rfl rfl rfl (AVal.pickT rfl (by constructor)) ?_
    refine AOps.nil ?_
    refine ACode.condT rfl ?_
    refine ACode.seq ?_
    refine ACode.region ?_
    refine AOps.v rfl rfl rfl (AVal.assignN (by constructor)) ?_
    refine AOps.nil ?_
    refine ACode.ret ?_
    refine AFin.pureRet rfl (.cons rfl .nil) ?_
    first | exact .refl _ | exact D.Le.eq (congrArg D.bool (by rw [k2]; simp))
  ·
    try simp only [decide_eq_true_eq, decide_eq_false_iff_not, Bool.not_eq_true', Bool.not_eq_false', Bool.and_eq_true, Bool.or_eq_true, beq_iff_eq, beq_eq_false_iff_ne] at h31
    refine AOps.vT rfl rfl rfl rfl rfl rfl (AVal.moveN (by constructor)) ?_
    refine AOps.vT rfl rfl rfl rfl rfl rfl (AVal.lss rfl rfl) ?_
    refine AOps.v rfl rfl rfl (AVal.pickF rfl (by constructor)) ?_
    refine AOps.v rfl rfl rfl (AVal.moveN (by constructor)) ?_
    refine AOps.split 35 rfl (fun h35 => ?_) (fun h35 => ?_)
    ·
      try simp only [decide_eq_true_eq, decide_eq_false_iff_not, Bool.not_eq_true', Bool.not_eq_false', Bool.and_eq_true, Bool.or_eq_true, beq_iff_eq, beq_eq_false_iff_ne] at h35
      refine AOps.vF rfl rfl rfl rfl rfl rfl rfl ?_
      refine AOps.vF rfl rfl rfl rfl rfl rfl rfl ?_
      refine AOps.v rfl rfl rfl (AVal.pickT rfl (by constructor)) ?_
      refine AOps.nil ?_
      refine ACode.condT rfl ?_
      refine ACode.seq ?_
      refine ACode.region ?_
      refine AOps.v rfl rfl rfl (AVal.assignN (by constructor)) ?_
      refine AOps.nil ?_
      refine ACode.ret ?_
      refine AFin.pureRet rfl (.cons rfl .nil) ?_
      first | exact .refl _ | exact D.Le.eq (congrArg D.bool (by rw [k2]; simp))
    ·
      try simp only [decide_eq_true_eq, decide_eq_false_iff_not, Bool.not_eq_true', Bool.not_eq_false', Bool.and_eq_true, Bool.or_eq_true, beq_iff_eq, beq_eq_false_iff_ne] at h35
      refine AOps.vT rfl rfl rfl rfl rfl rfl (AVal.moveN (by constructor)) ?_
      refine AOps.vT rfl rfl rfl rfl rfl rfl (AVal.gtr rfl rfl) ?_
      refine AOps.v rfl rfl rfl (AVal.pickF rfl (by constructor)) ?_
      refine AOps.nil ?_
      refine ACode.condS rfl (fun h38 => ?_) (fun h38 => ?_)
      ·
        try simp only [decide_eq_true_eq, decide_eq_false_iff_not, Bool.not_eq_true', Bool.not_eq_false', Bool.and_eq_true, Bool.or_eq_true, beq_iff_eq, beq_eq_false_iff_ne] at h38
        refine ACode.seq ?_
        refine ACode.region ?_
        refine AOps.v rfl rfl rfl (AVal.assignN (by constructor)) ?_
        refine AOps.nil ?_
        refine ACode.ret ?_
        refine AFin.pureRet rfl (.cons rfl .nil) ?_
        first | exact .refl _ | exact D.Le.eq (congrArg D.bool (by rw [k2]; simp))
      ·
        try simp only [decide_eq_true_eq, decide_eq_false_iff_not, Bool.not_eq_true', Bool.not_eq_false', Bool.and_eq_true, Bool.or_eq_true, beq_iff_eq, beq_eq_false_iff_ne] at h38
        refine ACode.skip ?_
        refine ACode.seq ?_
        refine ACode.region ?_
        refine AOps.v rfl rfl rfl (AVal.moveN (by constructor)) ?_
        refine AOps.v rfl rfl rfl (AVal.loadP (d := encT _) 2 rfl rfl rfl rfl) ?_
        refine AOps.v rfl rfl rfl (AVal.loadP (d := encT _) 1 rfl rfl rfl rfl) ?_
        refine AOps.v rfl rfl rfl (AVal.moveN (by constructor)) ?_
        refine AOps.e rfl rfl rfl (AOp.callP (convC hS (p := a) (q := b) (cs := cs) (F := fuel) (fun _ => ⟨hC, (W_ex haf (Nat.le_trans has (by omega)) (by omega)), (W_ex hbf (Nat.le_trans hbs (by omega)) (by omega))⟩) (a := (convM cs fuel a b).1) (b := (convM cs fuel a b).2.1) (c := (convM cs fuel a b).2.2) rfl) (by first | exact LeL.eq rfl | (repeat constructor)) ?_)
        refine AOps.v rfl rfl rfl (AVal.moveN (by constructor)) ?_
        refine AOps.v rfl rfl rfl (AVal.extractN rfl rfl (by constructor)) ?_
        refine AOps.v rfl rfl rfl (AVal.extractN rfl rfl (by constructor)) ?_
        refine AOps.v rfl rfl rfl (AVal.extractN rfl rfl (by constructor)) ?_
        refine AOps.v rfl rfl rfl (AVal.assignN (by constructor)) ?_
        refine AOps.v rfl rfl rfl (AVal.assignN (by constructor)) ?_
        refine AOps.v rfl rfl rfl (AVal.assignN (by constructor)) ?_
        refine AOps.nil ?_
        refine ACode.seq ?_
        refine ACode.region ?_
        refine AOps.v rfl rfl rfl (AVal.moveN (by constructor)) ?_
        refine AOps.v rfl rfl rfl (AVal.loadP (d := encT _) 2 rfl rfl rfl rfl) ?_
        refine AOps.v rfl rfl rfl (AVal.loadP (d := encT _) 1 rfl rfl rfl rfl) ?_
        refine AOps.v rfl rfl rfl (AVal.moveN (by constructor)) ?_
        refine AOps.e rfl rfl rfl (AOp.callP (leqC hS (p := a) (q := b) (cs := cs) (F := fuel) (fun _ => ⟨hC, (W_ex haf (Nat.le_trans has (by omega)) (by omega)), (W_ex hbf (Nat.le_trans hbs (by omega)) (by omega))⟩) (a := (leqM cs fuel a b).1) (b := (leqM cs fuel a b).2.1) (c := (leqM cs fuel a b).2.2) rfl) (by first | exact LeL.eq rfl | (repeat constructor)) ?_)
        refine AOps.v rfl rfl rfl (AVal.moveN (by constructor)) ?_
        refine AOps.v rfl rfl rfl (AVal.extractN rfl rfl (by constructor)) ?_
        refine AOps.v rfl rfl rfl (AVal.extractN rfl rfl (by constructor)) ?_
        refine AOps.v rfl rfl rfl (AVal.extractN rfl rfl (by constructor)) ?_
        refine AOps.v rfl rfl rfl (AVal.assignN (by constructor)) ?_
        refine AOps.v rfl rfl rfl (AVal.assignN (by constructor)) ?_
        refine AOps.v rfl rfl rfl (AVal.assignN (by constructor)) ?_
        refine AOps.nil ?_
        refine ACode.seq ?_
        refine ACode.region ?_
        refine AOps.v rfl rfl rfl (AVal.moveN (by constructor)) ?_
        refine AOps.v rfl rfl rfl (AVal.loadP (d := encT _) 1 rfl rfl rfl rfl) ?_
        refine AOps.v rfl rfl rfl (AVal.loadP (d := encT _) 2 rfl rfl rfl rfl) ?_
        refine AOps.v rfl rfl rfl (AVal.moveN (by constructor)) ?_
        refine AOps.e rfl rfl rfl (AOp.callP (leqC hS (p := b) (q := a) (cs := cs) (F := fuel) (fun _ => ⟨hC, (W_ex hbf (Nat.le_trans hbs (by omega)) (by omega)), (W_ex haf (Nat.le_trans has (by omega)) (by omega))⟩) (a := (leqM cs fuel b a).1) (b := (leqM cs fuel b a).2.1) (c := (leqM cs fuel b a).2.2) rfl) (by first | exact LeL.eq rfl | (repeat constructor)) ?_)
        refine AOps.v rfl rfl rfl (AVal.moveN (by constructor)) ?_
        refine AOps.v rfl rfl rfl (AVal.extractN rfl rfl (by constructor)) ?_
        refine AOps.v rfl rfl rfl (AVal.extractN rfl rfl (by constructor)) ?_
        refine AOps.v rfl rfl rfl (AVal.extractN rfl rfl (by constructor)) ?_
        refine AOps.v rfl rfl rfl (AVal.assignN (by constructor)) ?_
        refine AOps.v rfl rfl rfl (AVal.assignN (by constructor)) ?_
        refine AOps.v rfl rfl rfl (AVal.assignN (by constructor)) ?_
        refine AOps.nil ?_
        refine ACode.seq ?_
        refine ACode.seq ?_
        refine ACode.region ?_
        refine AOps.v rfl rfl rfl (AVal.moveN (by constructor)) ?_
        refine AOps.v rfl rfl rfl (AVal.eql rfl rfl) ?_
        refine AOps.v rfl rfl rfl (AVal.moveN (by constructor)) ?_
        refine AOps.split 68 rfl (fun h68 => ?_) (fun h68 => ?_)
        ·
          try simp only [decide_eq_true_eq, decide_eq_false_iff_not, Bool.not_eq_true', Bool.not_eq_false', Bool.and_eq_true, Bool.or_eq_true, beq_iff_eq, beq_eq_false_iff_ne] at h68
          refine AOps.vT rfl rfl rfl rfl rfl rfl (AVal.moveN (by constructor)) ?_
          refine AOps.v rfl rfl rfl (AVal.pickT rfl (by constructor)) ?_
          refine AOps.v rfl rfl rfl (AVal.moveN (by constructor)) ?_
          refine AOps.split 71 rfl (fun h71 => ?_) (fun h71 => ?_)
          ·
            try simp only [decide_eq_true_eq, decide_eq_false_iff_not, Bool.not_eq_true', Bool.not_eq_false', Bool.and_eq_true, Bool.or_eq_true, beq_iff_eq, beq_eq_false_iff_ne] at h71
            refine AOps.vT rfl rfl rfl rfl rfl rfl (AVal.moveN (by constructor)) ?_
            refine AOps.vT rfl rfl rfl rfl rfl rfl (AVal.eql rfl rfl) ?_
            refine AOps.vT rfl rfl rfl rfl rfl rfl (AVal.moveN (by constructor)) ?_
            refine AOps.split 74 rfl (fun h74 => ?_) (fun h74 => ?_)
            ·
              try simp only [decide_eq_true_eq, decide_eq_false_iff_not, Bool.not_eq_true', Bool.not_eq_false', Bool.and_eq_true, Bool.or_eq_true, beq_iff_eq, beq_eq_false_iff_ne] at h74
              refine AOps.vT rfl rfl rfl rfl rfl rfl (AVal.moveN (by constructor)) ?_
              refine AOps.vT rfl rfl rfl rfl rfl rfl (AVal.not rfl) ?_
              refine AOps.vT rfl rfl rfl rfl rfl rfl (AVal.pickT rfl (by constructor)) ?_
              refine AOps.vT rfl rfl rfl rfl rfl rfl (AVal.moveN (by constructor)) ?_
              refine AOps.split 78 rfl (fun h78 => ?_) (fun h78 => ?_)
              ·
                try simp only [decide_eq_true_eq, decide_eq_false_iff_not, Bool.not_eq_true', Bool.not_eq_false', Bool.and_eq_true, Bool.or_eq_true, beq_iff_eq, beq_eq_false_iff_ne] at h78
                refine AOps.vF rfl rfl rfl rfl rfl rfl rfl ?_
                refine AOps.vF rfl rfl rfl rfl rfl rfl rfl ?_
                refine AOps.vF rfl rfl rfl rfl rfl rfl rfl ?_
                refine AOps.vU rfl rfl rfl rfl rfl ?_
                refine AOps.vU rfl rfl rfl rfl rfl ?_
                refine AOps.vF rfl rfl rfl rfl rfl rfl rfl ?_
                refine AOps.vT rfl rfl rfl rfl rfl rfl (AVal.pickT rfl (by constructor)) ?_
                refine AOps.v rfl rfl rfl (AVal.pickT rfl (by constructor)) ?_
                refine AOps.nil ?_
                refine ACode.condT rfl ?_
                exfalso
                first | (have hm := conv_most hC (F := fuel) (W_ex haf (Nat.le_trans has (by omega)) (by omega)) (W_ex hbf (Nat.le_trans hbs (by omega)) (by omega)) h68 h71 h74; simp_all; done) | (have hm := conv_most' hC (F := fuel) (W_ex haf (Nat.le_trans has (by omega)) (by omega)) (W_ex hbf (Nat.le_trans hbs (by omega)) (by omega)) h68 h71 h81; simp_all; done) | (simp_all; done) --END
              ·
                try simp only [decide_eq_true_eq, decide_eq_false_iff_not, Bool.not_eq_true', Bool.not_eq_false', Bool.and_eq_true, Bool.or_eq_true, beq_iff_eq, beq_eq_false_iff_ne] at h78
                refine AOps.vT rfl rfl rfl rfl rfl rfl (AVal.moveN (by constructor)) ?_
                refine AOps.vT rfl rfl rfl rfl rfl rfl (AVal.eql rfl rfl) ?_
                refine AOps.vT rfl rfl rfl rfl rfl rfl (AVal.moveN (by constructor)) ?_
                refine AOps.split 81 rfl (fun h81 => ?_) (fun h81 => ?_)
                ·
                  try simp only [decide_eq_true_eq, decide_eq_false_iff_not, Bool.not_eq_true', Bool.not_eq_false', Bool.and_eq_true, Bool.or_eq_true, beq_iff_eq, beq_eq_false_iff_ne] at h81
                  refine AOps.vT rfl rfl rfl rfl rfl rfl (AVal.moveN (by constructor)) ?_
                  refine AOps.vT rfl rfl rfl rfl rfl rfl (AVal.not rfl) ?_
                  refine AOps.vT rfl rfl rfl rfl rfl rfl (AVal.pickT rfl (by constructor)) ?_
                  refine AOps.vT rfl rfl rfl rfl rfl rfl (AVal.pickF rfl (by constructor)) ?_
                  refine AOps.v rfl rfl rfl (AVal.pickT rfl (by constructor)) ?_
                  refine AOps.nil ?_
                  refine ACode.condS rfl (fun h86 => ?_) (fun h86 => ?_)
                  ·
                    try simp only [decide_eq_true_eq, decide_eq_false_iff_not, Bool.not_eq_true', Bool.not_eq_false', Bool.and_eq_true, Bool.or_eq_true, beq_iff_eq, beq_eq_false_iff_ne] at h86
                    exfalso
                    first | (have hm := conv_most hC (F := fuel) (W_ex haf (Nat.le_trans has (by omega)) (by omega)) (W_ex hbf (Nat.le_trans hbs (by omega)) (by omega)) h68 h71 h74; simp_all; done) | (have hm := conv_most' hC (F := fuel) (W_ex haf (Nat.le_trans has (by omega)) (by omega)) (W_ex hbf (Nat.le_trans hbs (by omega)) (by omega)) h68 h71 h81; simp_all; done) | (simp_all; done) --END
                  ·
                    try simp only [decide_eq_true_eq, decide_eq_false_iff_not, Bool.not_eq_true', Bool.not_eq_false', Bool.and_eq_true, Bool.or_eq_true, beq_iff_eq, beq_eq_false_iff_ne] at h86
                    refine ACode.skip ?_
                    refine ACode.seq ?_
                    refine ACode.seq ?_
                    refine ACode.region ?_
                    refine AOps.v rfl rfl rfl (AVal.moveN (by constructor)) ?_
                    refine AOps.v rfl rfl rfl (AVal.neq rfl rfl) ?_
                    refine AOps.nil ?_
                    refine ACode.condS rfl (fun h88 => ?_) (fun h88 => ?_)
                    ·
                      try simp only [decide_eq_true_eq, decide_eq_false_iff_not, Bool.not_eq_true', Bool.not_eq_false', Bool.and_eq_true, Bool.or_eq_true, beq_iff_eq, beq_eq_false_iff_ne] at h88
                      refine ACode.seq ?_
                      refine ACode.region ?_
                      refine AOps.v rfl rfl rfl (AVal.assignN (by constructor)) ?_
                      refine AOps.nil ?_
                      refine ACode.ret ?_
                      refine AFin.pureRet rfl (.cons rfl .nil) ?_
                      first | exact .refl _ | exact D.Le.eq (congrArg D.bool (by rw [k2]; simp))
                    ·
                      try simp only [decide_eq_true_eq, decide_eq_false_iff_not, Bool.not_eq_true', Bool.not_eq_false', Bool.and_eq_true, Bool.or_eq_true, beq_iff_eq, beq_eq_false_iff_ne] at h88
                      obtain ⟨k1, k2⟩ := leq_pi (c := c) hC (by omega) (W_ex haf (Nat.le_trans has (by omega)) (by omega)) (W_ex hbf (Nat.le_trans hbs (by omega)) (by omega)) h88
                      refine ACode.skip ?_
                      refine ACode.seq ?_
                      refine ACode.draws [.p 0, .l 1, .l 2, .p 3, .p 4, .l 5, .l 6, .p 7, .p 8, .p 9, .p 10, .p 11, .p 12, .p 13, .p 14, .p 15, .p 16, .p 17, .p 18, .p 19] mixed (by kernel_rfl) ?_
                      refine ASeq.pv rfl rfl rfl rfl (fun L0 => (AVal.moveN (by constructor))) ?_
                      refine ASeq.lv rfl rfl rfl rfl (HasCell.mk (d := encT _) 0 rfl rfl (.refl _)) ?_
                      refine ASeq.lv rfl rfl rfl rfl (HasCell.mk (d := encT _) 2 rfl rfl (.refl _)) ?_
                      refine ASeq.pe rfl rfl rfl rfl (fun L0 => (AOp.buildSliceT (ts := [_, _]) rfl rfl rfl rfl rfl ⟨rfl, rfl⟩)) ?_
                      refine ASeq.pe rfl rfl rfl rfl (fun L0 => (AOp.callP (l8of_c 4 [c, a]) (by first | exact LeL.eq rfl | (repeat constructor)) ⟨rfl, rfl⟩)) ?_
                      refine ASeq.lv rfl rfl rfl rfl (HasCell.mk (d := encT _) 0 rfl rfl (.refl _)) ?_
                      refine ASeq.lv rfl rfl rfl rfl (HasCell.mk (d := encT _) 1 rfl rfl (.refl _)) ?_
                      refine ASeq.pe rfl rfl rfl rfl (fun L0 => (AOp.buildSliceT (ts := [_, _]) rfl rfl rfl rfl rfl ⟨rfl, rfl⟩)) ?_
                      refine ASeq.pe rfl rfl rfl rfl (fun L0 => (AOp.callP (l8of_c 4 [c, b]) (by first | exact LeL.eq rfl | (repeat constructor)) ⟨rfl, rfl⟩)) ?_
                      refine ASeq.pv rfl rfl rfl rfl (fun L0 => (AVal.moveN (by constructor))) ?_
                      refine ASeq.pv rfl rfl rfl rfl (fun L0 => (AVal.muln rfl rfl (by omega))) ?_
                      refine ASeq.pv rfl rfl rfl rfl (fun L0 => (AVal.addn rfl rfl (by omega))) ?_
                      refine ASeq.pe rfl rfl rfl rfl (fun L0 => (AOp.callP (leqC hS (p := piT c a) (q := piT c b) (cs := cs) (F := 2 * fuel + 4) (fun _ => ⟨hC, (W_ex (mk_fit (by simp) (fun u hu => by simp at hu; rcases hu with rfl | rfl <;> assumption) (by omega)) (by simp [Term.sz, Term.szs]; omega) (by omega)), (W_ex (mk_fit (by simp) (fun u hu => by simp at hu; rcases hu with rfl | rfl <;> assumption) (by omega)) (by simp [Term.sz, Term.szs]; omega) (by omega))⟩) (a := (leqM cs (2 * fuel + 4) (piT c a) (piT c b)).1) (b := (leqM cs (2 * fuel + 4) (piT c a) (piT c b)).2.1) (c := (leqM cs (2 * fuel + 4) (piT c a) (piT c b)).2.2) rfl) (by first | exact LeL.eq rfl | (repeat constructor)) ⟨rfl, rfl⟩)) ?_
                      refine ASeq.pv rfl rfl rfl rfl (fun L0 => (AVal.moveN (by constructor))) ?_
                      refine ASeq.pv rfl rfl rfl rfl (fun L0 => (AVal.extractN rfl rfl (by constructor))) ?_
                      refine ASeq.pv rfl rfl rfl rfl (fun L0 => (AVal.extractN rfl rfl (by constructor))) ?_
                      refine ASeq.pv rfl rfl rfl rfl (fun L0 => (AVal.extractN rfl rfl (by constructor))) ?_
                      refine ASeq.pv rfl rfl rfl rfl (fun L0 => (AVal.assignN (by constructor))) ?_
                      refine ASeq.pv rfl rfl rfl rfl (fun L0 => (AVal.assignN (by constructor))) ?_
                      refine ASeq.pv rfl rfl rfl rfl (fun L0 => (AVal.assignN (by constructor))) ?_
                      refine ASeq.nil ?_
                      refine ACode.seq ?_
                      refine ACode.region ?_
                      refine AOps.v rfl rfl rfl (AVal.moveN (by constructor)) ?_
                      refine AOps.v rfl rfl rfl (AVal.eqlS rfl rfl k1) ?_
                      refine AOps.v rfl rfl rfl (AVal.moveN (by constructor)) ?_
                      refine AOps.vT rfl rfl rfl rfl rfl rfl (AVal.moveN (by constructor)) ?_
                      refine AOps.vT rfl rfl rfl rfl rfl rfl (AVal.moveN (by constructor)) ?_
                      refine AOps.vT rfl rfl rfl rfl rfl rfl (AVal.eqlB rfl rfl (by kernel_rfl)) ?_
                      refine AOps.v rfl rfl rfl (AVal.pickT rfl (by constructor)) ?_
                      refine AOps.v rfl rfl rfl (AVal.assignN (by constructor)) ?_
                      refine AOps.nil ?_
                      refine ACode.ret ?_
                      refine AFin.pureRet rfl (.cons rfl .nil) ?_
                      first | exact .refl _ | exact D.Le.eq (congrArg D.bool (by rw [k2]; simp))
                ·
                  try simp only [decide_eq_true_eq, decide_eq_false_iff_not, Bool.not_eq_true', Bool.not_eq_false', Bool.and_eq_true, Bool.or_eq_true, beq_iff_eq, beq_eq_false_iff_ne] at h81
                  refine AOps.vF rfl rfl rfl rfl rfl rfl rfl ?_
                  refine AOps.vF rfl rfl rfl rfl rfl rfl rfl ?_
                  refine AOps.vT rfl rfl rfl rfl rfl rfl (AVal.pickF rfl (by constructor)) ?_
                  refine AOps.vT rfl rfl rfl rfl rfl rfl (AVal.pickF rfl (by constructor)) ?_
                  refine AOps.v rfl rfl rfl (AVal.pickT rfl (by constructor)) ?_
                  refine AOps.nil ?_
                  refine ACode.condF rfl ?_
                  refine ACode.skip ?_
                  refine ACode.seq ?_
                  refine ACode.seq ?_
                  refine ACode.region ?_
                  refine AOps.v rfl rfl rfl (AVal.moveN (by constructor)) ?_
                  refine AOps.v rfl rfl rfl (AVal.neq rfl rfl) ?_
                  refine AOps.nil ?_
                  refine ACode.condS rfl (fun h88 => ?_) (fun h88 => ?_)
                  ·
                    try simp only [decide_eq_true_eq, decide_eq_false_iff_not, Bool.not_eq_true', Bool.not_eq_false', Bool.and_eq_true, Bool.or_eq_true, beq_iff_eq, beq_eq_false_iff_ne] at h88
                    refine ACode.seq ?_
                    refine ACode.region ?_
                    refine AOps.v rfl rfl rfl (AVal.assignN (by constructor)) ?_
                    refine AOps.nil ?_
                    refine ACode.ret ?_
                    refine AFin.pureRet rfl (.cons rfl .nil) ?_
                    first | exact .refl _ | exact D.Le.eq (congrArg D.bool (by rw [k2]; simp))
                  ·
                    try simp only [decide_eq_true_eq, decide_eq_false_iff_not, Bool.not_eq_true', Bool.not_eq_false', Bool.and_eq_true, Bool.or_eq_true, beq_iff_eq, beq_eq_false_iff_ne] at h88
                    obtain ⟨k1, k2⟩ := leq_pi (c := c) hC (by omega) (W_ex haf (Nat.le_trans has (by omega)) (by omega)) (W_ex hbf (Nat.le_trans hbs (by omega)) (by omega)) h88
                    refine ACode.skip ?_
                    refine ACode.seq ?_
                    refine ACode.draws [.p 0, .l 1, .l 2, .p 3, .p 4, .l 5, .l 6, .p 7, .p 8, .p 9, .p 10, .p 11, .p 12, .p 13, .p 14, .p 15, .p 16, .p 17, .p 18, .p 19] mixed (by kernel_rfl) ?_
                    refine ASeq.pv rfl rfl rfl rfl (fun L0 => (AVal.moveN (by constructor))) ?_
                    refine ASeq.lv rfl rfl rfl rfl (HasCell.mk (d := encT _) 0 rfl rfl (.refl _)) ?_
                    refine ASeq.lv rfl rfl rfl rfl (HasCell.mk (d := encT _) 2 rfl rfl (.refl _)) ?_
                    refine ASeq.pe rfl rfl rfl rfl (fun L0 => (AOp.buildSliceT (ts := [_, _]) rfl rfl rfl rfl rfl ⟨rfl, rfl⟩)) ?_
                    refine ASeq.pe rfl rfl rfl rfl (fun L0 => (AOp.callP (l8of_c 4 [c, a]) (by first | exact LeL.eq rfl | (repeat constructor)) ⟨rfl, rfl⟩)) ?_
                    refine ASeq.lv rfl rfl rfl rfl (HasCell.mk (d := encT _) 0 rfl rfl (.refl _)) ?_
                    refine ASeq.lv rfl rfl rfl rfl (HasCell.mk (d := encT _) 1 rfl rfl (.refl _)) ?_
                    refine ASeq.pe rfl rfl rfl rfl (fun L0 => (AOp.buildSliceT (ts := [_, _]) rfl rfl rfl rfl rfl ⟨rfl, rfl⟩)) ?_
                    refine ASeq.pe rfl rfl rfl rfl (fun L0 => (AOp.callP (l8of_c 4 [c, b]) (by first | exact LeL.eq rfl | (repeat constructor)) ⟨rfl, rfl⟩)) ?_
                    refine ASeq.pv rfl rfl rfl rfl (fun L0 => (AVal.moveN (by constructor))) ?_
                    refine ASeq.pv rfl rfl rfl rfl (fun L0 => (AVal.muln rfl rfl (by omega))) ?_
                    refine ASeq.pv rfl rfl rfl rfl (fun L0 => (AVal.addn rfl rfl (by omega))) ?_
                    refine ASeq.pe rfl rfl rfl rfl (fun L0 => (AOp.callP (leqC hS (p := piT c a) (q := piT c b) (cs := cs) (F := 2 * fuel + 4) (fun _ => ⟨hC, (W_ex (mk_fit (by simp) (fun u hu => by simp at hu; rcases hu with rfl | rfl <;> assumption) (by omega)) (by simp [Term.sz, Term.szs]; omega) (by omega)), (W_ex (mk_fit (by simp) (fun u hu => by simp at hu; rcases hu with rfl | rfl <;> assumption) (by omega)) (by simp [Term.sz, Term.szs]; omega) (by omega))⟩) (a := (leqM cs (2 * fuel + 4) (piT c a) (piT c b)).1) (b := (leqM cs (2 * fuel + 4) (piT c a) (piT c b)).2.1) (c := (leqM cs (2 * fuel + 4) (piT c a) (piT c b)).2.2) rfl) (by first | exact LeL.eq rfl | (repeat constructor)) ⟨rfl, rfl⟩)) ?_
                    refine ASeq.pv rfl rfl rfl rfl (fun L0 => (AVal.moveN (by constructor))) ?_
                    refine ASeq.pv rfl rfl rfl rfl (fun L0 => (AVal.extractN rfl rfl (by constructor))) ?_
                    refine ASeq.pv rfl rfl rfl rfl (fun L0 => (AVal.extractN rfl rfl (by constructor))) ?_
                    refine ASeq.pv rfl rfl rfl rfl (fun L0 => (AVal.extractN rfl rfl (by constructor))) ?_
                    refine ASeq.pv rfl rfl rfl rfl (fun L0 => (AVal.assignN (by constructor))) ?_
                    refine ASeq.pv rfl rfl rfl rfl (fun L0 => (AVal.assignN (by constructor))) ?_
                    refine ASeq.pv rfl rfl rfl rfl (fun L0 => (AVal.assignN (by constructor))) ?_
                    refine ASeq.nil ?_
                    refine ACode.seq ?_
                    refine ACode.region ?_
                    refine AOps.v rfl rfl rfl (AVal.moveN (by constructor)) ?_
                    refine AOps.v rfl rfl rfl (AVal.eqlS rfl rfl k1) ?_
                    refine AOps.v rfl rfl rfl (AVal.moveN (by constructor)) ?_
                    refine AOps.vT rfl rfl rfl rfl rfl rfl (AVal.moveN (by constructor)) ?_
                    refine AOps.vT rfl rfl rfl rfl rfl rfl (AVal.moveN (by constructor)) ?_
                    refine AOps.vT rfl rfl rfl rfl rfl rfl (AVal.eqlB rfl rfl (by kernel_rfl)) ?_
                    refine AOps.v rfl rfl rfl (AVal.pickT rfl (by constructor)) ?_
                    refine AOps.v rfl rfl rfl (AVal.assignN (by constructor)) ?_
                    refine AOps.nil ?_
                    refine ACode.ret ?_
                    refine AFin.pureRet rfl (.cons rfl .nil) ?_
                    first | exact .refl _ | exact D.Le.eq (congrArg D.bool (by rw [k2]; simp))
            ·
              try simp only [decide_eq_true_eq, decide_eq_false_iff_not, Bool.not_eq_true', Bool.not_eq_false', Bool.and_eq_true, Bool.or_eq_true, beq_iff_eq, beq_eq_false_iff_ne] at h74
              refine AOps.vF rfl rfl rfl rfl rfl rfl rfl ?_
              refine AOps.vF rfl rfl rfl rfl rfl rfl rfl ?_
              refine AOps.vT rfl rfl rfl rfl rfl rfl (AVal.pickF rfl (by constructor)) ?_
              refine AOps.vT rfl rfl rfl rfl rfl rfl (AVal.moveN (by constructor)) ?_
              refine AOps.vT rfl rfl rfl rfl rfl rfl (AVal.moveN (by constructor)) ?_
              refine AOps.vT rfl rfl rfl rfl rfl rfl (AVal.eql rfl rfl) ?_
              refine AOps.vT rfl rfl rfl rfl rfl rfl (AVal.moveN (by constructor)) ?_
              refine AOps.split 81 rfl (fun h81 => ?_) (fun h81 => ?_)
              ·
                try simp only [decide_eq_true_eq, decide_eq_false_iff_not, Bool.not_eq_true', Bool.not_eq_false', Bool.and_eq_true, Bool.or_eq_true, beq_iff_eq, beq_eq_false_iff_ne] at h81
                refine AOps.vT rfl rfl rfl rfl rfl rfl (AVal.moveN (by constructor)) ?_
                refine AOps.vT rfl rfl rfl rfl rfl rfl (AVal.not rfl) ?_
                refine AOps.vT rfl rfl rfl rfl rfl rfl (AVal.pickT rfl (by constructor)) ?_
                refine AOps.vT rfl rfl rfl rfl rfl rfl (AVal.pickF rfl (by constructor)) ?_
                refine AOps.v rfl rfl rfl (AVal.pickT rfl (by constructor)) ?_
                refine AOps.nil ?_
                refine ACode.condS rfl (fun h86 => ?_) (fun h86 => ?_)
                ·
                  try simp only [decide_eq_true_eq, decide_eq_false_iff_not, Bool.not_eq_true', Bool.not_eq_false', Bool.and_eq_true, Bool.or_eq_true, beq_iff_eq, beq_eq_false_iff_ne] at h86
                  exfalso
                  first | (have hm := conv_most hC (F := fuel) (W_ex haf (Nat.le_trans has (by omega)) (by omega)) (W_ex hbf (Nat.le_trans hbs (by omega)) (by omega)) h68 h71 h74; simp_all; done) | (have hm := conv_most' hC (F := fuel) (W_ex haf (Nat.le_trans has (by omega)) (by omega)) (W_ex hbf (Nat.le_trans hbs (by omega)) (by omega)) h68 h71 h81; simp_all; done) | (simp_all; done) --END
                ·
                  try simp only [decide_eq_true_eq, decide_eq_false_iff_not, Bool.not_eq_true', Bool.not_eq_false', Bool.and_eq_true, Bool.or_eq_true, beq_iff_eq, beq_eq_false_iff_ne] at h86
                  refine ACode.skip ?_
                  refine ACode.seq ?_
                  refine ACode.seq ?_
                  refine ACode.region ?_
                  refine AOps.v rfl rfl rfl (AVal.moveN (by constructor)) ?_
                  refine AOps.v rfl rfl rfl (AVal.neq rfl rfl) ?_
                  refine AOps.nil ?_
                  refine ACode.condS rfl (fun h88 => ?_) (fun h88 => ?_)
                  ·
                    try simp only [decide_eq_true_eq, decide_eq_false_iff_not, Bool.not_eq_true', Bool.not_eq_false', Bool.and_eq_true, Bool.or_eq_true, beq_iff_eq, beq_eq_false_iff_ne] at h88
                    refine ACode.seq ?_
                    refine ACode.region ?_
                    refine AOps.v rfl rfl rfl (AVal.assignN (by constructor)) ?_
                    refine AOps.nil ?_
                    refine ACode.ret ?_
                    refine AFin.pureRet rfl (.cons rfl .nil) ?_
                    first | exact .refl _ | exact D.Le.eq (congrArg D.bool (by rw [k2]; simp))
                  ·
                    try simp only [decide_eq_true_eq, decide_eq_false_iff_not, Bool.not_eq_true', Bool.not_eq_false', Bool.and_eq_true, Bool.or_eq_true, beq_iff_eq, beq_eq_false_iff_ne] at h88
                    obtain ⟨k1, k2⟩ := leq_pi (c := c) hC (by omega) (W_ex haf (Nat.le_trans has (by omega)) (by omega)) (W_ex hbf (Nat.le_trans hbs (by omega)) (by omega)) h88
                    refine ACode.skip ?_
                    refine ACode.seq ?_
                    refine ACode.draws [.p 0, .l 1, .l 2, .p 3, .p 4, .l 5, .l 6, .p 7, .p 8, .p 9, .p 10, .p 11, .p 12, .p 13, .p 14, .p 15, .p 16, .p 17, .p 18, .p 19] mixed (by kernel_rfl) ?_
                    refine ASeq.pv rfl rfl rfl rfl (fun L0 => (AVal.moveN (by constructor))) ?_
                    refine ASeq.lv rfl rfl rfl rfl (HasCell.mk (d := encT _) 0 rfl rfl (.refl _)) ?_
                    refine ASeq.lv rfl rfl rfl rfl (HasCell.mk (d := encT _) 2 rfl rfl (.refl _)) ?_
                    refine ASeq.pe rfl rfl rfl rfl (fun L0 => (AOp.buildSliceT (ts := [_, _]) rfl rfl rfl rfl rfl ⟨rfl, rfl⟩)) ?_
                    refine ASeq.pe rfl rfl rfl rfl (fun L0 => (AOp.callP (l8of_c 4 [c, a]) (by first | exact LeL.eq rfl | (repeat constructor)) ⟨rfl, rfl⟩)) ?_
                    refine ASeq.lv rfl rfl rfl rfl (HasCell.mk (d := encT _) 0 rfl rfl (.refl _)) ?_
                    refine ASeq.lv rfl rfl rfl rfl (HasCell.mk (d := encT _) 1 rfl rfl (.refl _)) ?_
                    refine ASeq.pe rfl rfl rfl rfl (fun L0 => (AOp.buildSliceT (ts := [_, _]) rfl rfl rfl rfl rfl ⟨rfl, rfl⟩)) ?_
                    refine ASeq.pe rfl rfl rfl rfl (fun L0 => (AOp.callP (l8of_c 4 [c, b]) (by first | exact LeL.eq rfl | (repeat constructor)) ⟨rfl, rfl⟩)) ?_
                    refine ASeq.pv rfl rfl rfl rfl (fun L0 => (AVal.moveN (by constructor))) ?_
                    refine ASeq.pv rfl rfl rfl rfl (fun L0 => (AVal.muln rfl rfl (by omega))) ?_
                    refine ASeq.pv rfl rfl rfl rfl (fun L0 => (AVal.addn rfl rfl (by omega))) ?_
                    refine ASeq.pe rfl rfl rfl rfl (fun L0 => (AOp.callP (leqC hS (p := piT c a) (q := piT c b) (cs := cs) (F := 2 * fuel + 4) (fun _ => ⟨hC, (W_ex (mk_fit (by simp) (fun u hu => by simp at hu; rcases hu with rfl | rfl <;> assumption) (by omega)) (by simp [Term.sz, Term.szs]; omega) (by omega)), (W_ex (mk_fit (by simp) (fun u hu => by simp at hu; rcases hu with rfl | rfl <;> assumption) (by omega)) (by simp [Term.sz, Term.szs]; omega) (by omega))⟩) (a := (leqM cs (2 * fuel + 4) (piT c a) (piT c b)).1) (b := (leqM cs (2 * fuel + 4) (piT c a) (piT c b)).2.1) (c := (leqM cs (2 * fuel + 4) (piT c a) (piT c b)).2.2) rfl) (by first | exact LeL.eq rfl | (repeat constructor)) ⟨rfl, rfl⟩)) ?_
                    refine ASeq.pv rfl rfl rfl rfl (fun L0 => (AVal.moveN (by constructor))) ?_
                    refine ASeq.pv rfl rfl rfl rfl (fun L0 => (AVal.extractN rfl rfl (by constructor))) ?_
                    refine ASeq.pv rfl rfl rfl rfl (fun L0 => (AVal.extractN rfl rfl (by constructor))) ?_
                    refine ASeq.pv rfl rfl rfl rfl (fun L0 => (AVal.extractN rfl rfl (by constructor))) ?_
                    refine ASeq.pv rfl rfl rfl rfl (fun L0 => (AVal.assignN (by constructor))) ?_
                    refine ASeq.pv rfl rfl rfl rfl (fun L0 => (AVal.assignN (by constructor))) ?_
                    refine ASeq.pv rfl rfl rfl rfl (fun L0 => (AVal.assignN (by constructor))) ?_
                    refine ASeq.nil ?_
                    refine ACode.seq ?_
                    refine ACode.region ?_
                    refine AOps.v rfl rfl rfl (AVal.moveN (by constructor)) ?_
                    refine AOps.v rfl rfl rfl (AVal.eqlS rfl rfl k1) ?_
                    refine AOps.v rfl rfl rfl (AVal.moveN (by constructor)) ?_
                    refine AOps.vT rfl rfl rfl rfl rfl rfl (AVal.moveN (by constructor)) ?_
                    refine AOps.vT rfl rfl rfl rfl rfl rfl (AVal.moveN (by constructor)) ?_
                    refine AOps.vT rfl rfl rfl rfl rfl rfl (AVal.eqlB rfl rfl (by kernel_rfl)) ?_
                    refine AOps.v rfl rfl rfl (AVal.pickT rfl (by constructor)) ?_
                    refine AOps.v rfl rfl rfl (AVal.assignN (by constructor)) ?_
                    refine AOps.nil ?_
                    refine ACode.ret ?_
                    refine AFin.pureRet rfl (.cons rfl .nil) ?_
                    first | exact .refl _ | exact D.Le.eq (congrArg D.bool (by rw [k2]; simp))
              ·
                try simp only [decide_eq_true_eq, decide_eq_false_iff_not, Bool.not_eq_true', Bool.not_eq_false', Bool.and_eq_true, Bool.or_eq_true, beq_iff_eq, beq_eq_false_iff_ne] at h81
                refine AOps.vF rfl rfl rfl rfl rfl rfl rfl ?_
                refine AOps.vF rfl rfl rfl rfl rfl rfl rfl ?_
                refine AOps.vT rfl rfl rfl rfl rfl rfl (AVal.pickF rfl (by constructor)) ?_
                refine AOps.vT rfl rfl rfl rfl rfl rfl (AVal.pickF rfl (by constructor)) ?_
                refine AOps.v rfl rfl rfl (AVal.pickT rfl (by constructor)) ?_
                refine AOps.nil ?_
                refine ACode.condF rfl ?_
                refine ACode.skip ?_
                refine ACode.seq ?_
                refine ACode.seq ?_
                refine ACode.region ?_
                refine AOps.v rfl rfl rfl (AVal.moveN (by constructor)) ?_
                refine AOps.v rfl rfl rfl (AVal.neq rfl rfl) ?_
                refine AOps.nil ?_
                refine ACode.condS rfl (fun h88 => ?_) (fun h88 => ?_)
                ·
                  try simp only [decide_eq_true_eq, decide_eq_false_iff_not, Bool.not_eq_true', Bool.not_eq_false', Bool.and_eq_true, Bool.or_eq_true, beq_iff_eq, beq_eq_false_iff_ne] at h88
                  refine ACode.seq ?_
                  refine ACode.region ?_
                  refine AOps.v rfl rfl rfl (AVal.assignN (by constructor)) ?_
                  refine AOps.nil ?_
                  refine ACode.ret ?_
                  refine AFin.pureRet rfl (.cons rfl .nil) ?_
                  first | exact .refl _ | exact D.Le.eq (congrArg D.bool (by rw [k2]; simp))
                ·
                  try simp only [decide_eq_true_eq, decide_eq_false_iff_not, Bool.not_eq_true', Bool.not_eq_false', Bool.and_eq_true, Bool.or_eq_true, beq_iff_eq, beq_eq_false_iff_ne] at h88
                  obtain ⟨k1, k2⟩ := leq_pi (c := c) hC (by omega) (W_ex haf (Nat.le_trans has (by omega)) (by omega)) (W_ex hbf (Nat.le_trans hbs (by omega)) (by omega)) h88
                  refine ACode.skip ?_
                  refine ACode.seq ?_
                  refine ACode.draws [.p 0, .l 1, .l 2, .p 3, .p 4, .l 5, .l 6, .p 7, .p 8, .p 9, .p 10, .p 11, .p 12, .p 13, .p 14, .p 15, .p 16, .p 17, .p 18, .p 19] mixed (by kernel_rfl) ?_
                  refine ASeq.pv rfl rfl rfl rfl (fun L0 => (AVal.moveN (by constructor))) ?_
                  refine ASeq.lv rfl rfl rfl rfl (HasCell.mk (d := encT _) 0 rfl rfl (.refl _)) ?_
                  refine ASeq.lv rfl rfl rfl rfl (HasCell.mk (d := encT _) 2 rfl rfl (.refl _)) ?_
                  refine ASeq.pe rfl rfl rfl rfl (fun L0 => (AOp.buildSliceT (ts := [_, _]) rfl rfl rfl rfl rfl ⟨rfl, rfl⟩)) ?_
                  refine ASeq.pe rfl rfl rfl rfl (fun L0 => (AOp.callP (l8of_c 4 [c, a]) (by first | exact LeL.eq rfl | (repeat constructor)) ⟨rfl, rfl⟩)) ?_
                  refine ASeq.lv rfl rfl rfl rfl (HasCell.mk (d := encT _) 0 rfl rfl (.refl _)) ?_
                  refine ASeq.lv rfl rfl rfl rfl (HasCell.mk (d := encT _) 1 rfl rfl (.refl _)) ?_
                  refine ASeq.pe rfl rfl rfl rfl (fun L0 => (AOp.buildSliceT (ts := [_, _]) rfl rfl rfl rfl rfl ⟨rfl, rfl⟩)) ?_
                  refine ASeq.pe rfl rfl rfl rfl (fun L0 => (AOp.callP (l8of_c 4 [c, b]) (by first | exact LeL.eq rfl | (repeat constructor)) ⟨rfl, rfl⟩)) ?_
                  refine ASeq.pv rfl rfl rfl rfl (fun L0 => (AVal.moveN (by constructor))) ?_
                  refine ASeq.pv rfl rfl rfl rfl (fun L0 => (AVal.muln rfl rfl (by omega))) ?_
                  refine ASeq.pv rfl rfl rfl rfl (fun L0 => (AVal.addn rfl rfl (by omega))) ?_
                  refine ASeq.pe rfl rfl rfl rfl (fun L0 => (AOp.callP (leqC hS (p := piT c a) (q := piT c b) (cs := cs) (F := 2 * fuel + 4) (fun _ => ⟨hC, (W_ex (mk_fit (by simp) (fun u hu => by simp at hu; rcases hu with rfl | rfl <;> assumption) (by omega)) (by simp [Term.sz, Term.szs]; omega) (by omega)), (W_ex (mk_fit (by simp) (fun u hu => by simp at hu; rcases hu with rfl | rfl <;> assumption) (by omega)) (by simp [Term.sz, Term.szs]; omega) (by omega))⟩) (a := (leqM cs (2 * fuel + 4) (piT c a) (piT c b)).1) (b := (leqM cs (2 * fuel + 4) (piT c a) (piT c b)).2.1) (c := (leqM cs (2 * fuel + 4) (piT c a) (piT c b)).2.2) rfl) (by first | exact LeL.eq rfl | (repeat constructor)) ⟨rfl, rfl⟩)) ?_
                  refine ASeq.pv rfl rfl rfl rfl (fun L0 => (AVal.moveN (by constructor))) ?_
                  refine ASeq.pv rfl rfl rfl rfl (fun L0 => (AVal.extractN rfl rfl (by constructor))) ?_
                  refine ASeq.pv rfl rfl rfl rfl (fun L0 => (AVal.extractN rfl rfl (by constructor))) ?_
                  refine ASeq.pv rfl rfl rfl rfl (fun L0 => (AVal.extractN rfl rfl (by constructor))) ?_
                  refine ASeq.pv rfl rfl rfl rfl (fun L0 => (AVal.assignN (by constructor))) ?_
                  refine ASeq.pv rfl rfl rfl rfl (fun L0 => (AVal.assignN (by constructor))) ?_
                  refine ASeq.pv rfl rfl rfl rfl (fun L0 => (AVal.assignN (by constructor))) ?_
                  refine ASeq.nil ?_
                  refine ACode.seq ?_
                  refine ACode.region ?_
                  refine AOps.v rfl rfl rfl (AVal.moveN (by constructor)) ?_
                  refine AOps.v rfl rfl rfl (AVal.eqlS rfl rfl k1) ?_
                  refine AOps.v rfl rfl rfl (AVal.moveN (by constructor)) ?_
                  refine AOps.vT rfl rfl rfl rfl rfl rfl (AVal.moveN (by constructor)) ?_
                  refine AOps.vT rfl rfl rfl rfl rfl rfl (AVal.moveN (by constructor)) ?_
                  refine AOps.vT rfl rfl rfl rfl rfl rfl (AVal.eqlB rfl rfl (by kernel_rfl)) ?_
                  refine AOps.v rfl rfl rfl (AVal.pickT rfl (by constructor)) ?_
                  refine AOps.v rfl rfl rfl (AVal.assignN (by constructor)) ?_
                  refine AOps.nil ?_
                  refine ACode.ret ?_
                  refine AFin.pureRet rfl (.cons rfl .nil) ?_
                  first | exact .refl _ | exact D.Le.eq (congrArg D.bool (by rw [k2]; simp))
          ·
            try simp only [decide_eq_true_eq, decide_eq_false_iff_not, Bool.not_eq_true', Bool.not_eq_false', Bool.and_eq_true, Bool.or_eq_true, beq_iff_eq, beq_eq_false_iff_ne] at h71
            refine AOps.vF rfl rfl rfl rfl rfl rfl rfl ?_
            refine AOps.vF rfl rfl rfl rfl rfl rfl rfl ?_
            refine AOps.vF rfl rfl rfl rfl rfl rfl rfl ?_
            refine AOps.vU rfl rfl rfl rfl rfl ?_
            refine AOps.vU rfl rfl rfl rfl rfl ?_
            refine AOps.vF rfl rfl rfl rfl rfl rfl rfl ?_
            refine AOps.vF rfl rfl rfl rfl rfl rfl rfl ?_
            refine AOps.vU rfl rfl rfl rfl rfl ?_
            refine AOps.vU rfl rfl rfl rfl rfl ?_
            refine AOps.vU rfl rfl rfl rfl rfl ?_
            refine AOps.vU rfl rfl rfl rfl rfl ?_
            refine AOps.vU rfl rfl rfl rfl rfl ?_
            refine AOps.vU rfl rfl rfl rfl rfl ?_
            refine AOps.vF rfl rfl rfl rfl rfl rfl rfl ?_
            refine AOps.v rfl rfl rfl (AVal.pickF rfl (by constructor)) ?_
            refine AOps.nil ?_
            refine ACode.condF rfl ?_
            refine ACode.skip ?_
            refine ACode.seq ?_
            refine ACode.seq ?_
            refine ACode.region ?_
            refine AOps.v rfl rfl rfl (AVal.moveN (by constructor)) ?_
            refine AOps.v rfl rfl rfl (AVal.neq rfl rfl) ?_
            refine AOps.nil ?_
            refine ACode.condS rfl (fun h88 => ?_) (fun h88 => ?_)
            ·
              try simp only [decide_eq_true_eq, decide_eq_false_iff_not, Bool.not_eq_true', Bool.not_eq_false', Bool.and_eq_true, Bool.or_eq_true, beq_iff_eq, beq_eq_false_iff_ne] at h88
              refine ACode.seq ?_
              refine ACode.region ?_
              refine AOps.v rfl rfl rfl (AVal.assignN (by constructor)) ?_
              refine AOps.nil ?_
              refine ACode.ret ?_
              refine AFin.pureRet rfl (.cons rfl .nil) ?_
              first | exact .refl _ | exact D.Le.eq (congrArg D.bool (by rw [k2]; simp))
            ·
              try simp only [decide_eq_true_eq, decide_eq_false_iff_not, Bool.not_eq_true', Bool.not_eq_false', Bool.and_eq_true, Bool.or_eq_true, beq_iff_eq, beq_eq_false_iff_ne] at h88
              obtain ⟨k1, k2⟩ := leq_pi (c := c) hC (by omega) (W_ex haf (Nat.le_trans has (by omega)) (by omega)) (W_ex hbf (Nat.le_trans hbs (by omega)) (by omega)) h88
              refine ACode.skip ?_
              refine ACode.seq ?_
              refine ACode.draws [.p 0, .l 1, .l 2, .p 3, .p 4, .l 5, .l 6, .p 7, .p 8, .p 9, .p 10, .p 11, .p 12, .p 13, .p 14, .p 15, .p 16, .p 17, .p 18, .p 19] mixed (by kernel_rfl) ?_
              refine ASeq.pv rfl rfl rfl rfl (fun L0 => (AVal.moveN (by constructor))) ?_
              refine ASeq.lv rfl rfl rfl rfl (HasCell.mk (d := encT _) 0 rfl rfl (.refl _)) ?_
              refine ASeq.lv rfl rfl rfl rfl (HasCell.mk (d := encT _) 2 rfl rfl (.refl _)) ?_
              refine ASeq.pe rfl rfl rfl rfl (fun L0 => (AOp.buildSliceT (ts := [_, _]) rfl rfl rfl rfl rfl ⟨rfl, rfl⟩)) ?_
              refine ASeq.pe rfl rfl rfl rfl (fun L0 => (AOp.callP (l8of_c 4 [c, a]) (by first | exact LeL.eq rfl | (repeat constructor)) ⟨rfl, rfl⟩)) ?_
              refine ASeq.lv rfl rfl rfl rfl (HasCell.mk (d := encT _) 0 rfl rfl (.refl _)) ?_
              refine ASeq.lv rfl rfl rfl rfl (HasCell.mk (d := encT _) 1 rfl rfl (.refl _)) ?_
              refine ASeq.pe rfl rfl rfl rfl (fun L0 => (AOp.buildSliceT (ts := [_, _]) rfl rfl rfl rfl rfl ⟨rfl, rfl⟩)) ?_
              refine ASeq.pe rfl rfl rfl rfl (fun L0 => (AOp.callP (l8of_c 4 [c, b]) (by first | exact LeL.eq rfl | (repeat constructor)) ⟨rfl, rfl⟩)) ?_
              refine ASeq.pv rfl rfl rfl rfl (fun L0 => (AVal.moveN (by constructor))) ?_
              refine ASeq.pv rfl rfl rfl rfl (fun L0 => (AVal.muln rfl rfl (by omega))) ?_
              refine ASeq.pv rfl rfl rfl rfl (fun L0 => (AVal.addn rfl rfl (by omega))) ?_
              refine ASeq.pe rfl rfl rfl rfl (fun L0 => (AOp.callP (leqC hS (p := piT c a) (q := piT c b) (cs := cs) (F := 2 * fuel + 4) (fun _ => ⟨hC, (W_ex (mk_fit (by simp) (fun u hu => by simp at hu; rcases hu with rfl | rfl <;> assumption) (by omega)) (by simp [Term.sz, Term.szs]; omega) (by omega)), (W_ex (mk_fit (by simp) (fun u hu => by simp at hu; rcases hu with rfl | rfl <;> assumption) (by omega)) (by simp [Term.sz, Term.szs]; omega) (by omega))⟩) (a := (leqM cs (2 * fuel + 4) (piT c a) (piT c b)).1) (b := (leqM cs (2 * fuel + 4) (piT c a) (piT c b)).2.1) (c := (leqM cs (2 * fuel + 4) (piT c a) (piT c b)).2.2) rfl) (by first | exact LeL.eq rfl | (repeat constructor)) ⟨rfl, rfl⟩)) ?_
              refine ASeq.pv rfl rfl rfl rfl (fun L0 => (AVal.moveN (by constructor))) ?_
              refine ASeq.pv rfl rfl rfl rfl (fun L0 => (AVal.extractN rfl rfl (by constructor))) ?_
              refine ASeq.pv rfl rfl rfl rfl (fun L0 => (AVal.extractN rfl rfl (by constructor))) ?_
              refine ASeq.pv rfl rfl rfl rfl (fun L0 => (AVal.extractN rfl rfl (by constructor))) ?_
              refine ASeq.pv rfl rfl rfl rfl (fun L0 => (AVal.assignN (by constructor))) ?_
              refine ASeq.pv rfl rfl rfl rfl (fun L0 => (AVal.assignN (by constructor))) ?_
              refine ASeq.pv rfl rfl rfl rfl (fun L0 => (AVal.assignN (by constructor))) ?_
              refine ASeq.nil ?_
              refine ACode.seq ?_
              refine ACode.region ?_
              refine AOps.v rfl rfl rfl (AVal.moveN (by constructor)) ?_
              refine AOps.v rfl rfl rfl (AVal.eqlS rfl rfl k1) ?_
              refine AOps.v rfl rfl rfl (AVal.moveN (by constructor)) ?_
              refine AOps.vT rfl rfl rfl rfl rfl rfl (AVal.moveN (by constructor)) ?_
              refine AOps.vT rfl rfl rfl rfl rfl rfl (AVal.moveN (by constructor)) ?_
              refine AOps.vT rfl rfl rfl rfl rfl rfl (AVal.eqlB rfl rfl (by kernel_rfl)) ?_
              refine AOps.v rfl rfl rfl (AVal.pickT rfl (by constructor)) ?_
              refine AOps.v rfl rfl rfl (AVal.assignN (by constructor)) ?_
              refine AOps.nil ?_
              refine ACode.ret ?_
              refine AFin.pureRet rfl (.cons rfl .nil) ?_
              first | exact .refl _ | exact D.Le.eq (congrArg D.bool (by rw [k2]; simp))
        ·
          try simp only [decide_eq_true_eq, decide_eq_false_iff_not, Bool.not_eq_true', Bool.not_eq_false', Bool.and_eq_true, Bool.or_eq_true, beq_iff_eq, beq_eq_false_iff_ne] at h68
          refine AOps.vF rfl rfl rfl rfl rfl rfl rfl ?_
          refine AOps.v rfl rfl rfl (AVal.pickF rfl (by constructor)) ?_
          refine AOps.v rfl rfl rfl (AVal.moveN (by constructor)) ?_
          refine AOps.vF rfl rfl rfl rfl rfl rfl rfl ?_
          refine AOps.vF rfl rfl rfl rfl rfl rfl rfl ?_
          refine AOps.vF rfl rfl rfl rfl rfl rfl rfl ?_
          refine AOps.vU rfl rfl rfl rfl rfl ?_
          refine AOps.vU rfl rfl rfl rfl rfl ?_
          refine AOps.vF rfl rfl rfl rfl rfl rfl rfl ?_
          refine AOps.vF rfl rfl rfl rfl rfl rfl rfl ?_
          refine AOps.vU rfl rfl rfl rfl rfl ?_
          refine AOps.vU rfl rfl rfl rfl rfl ?_
          refine AOps.vU rfl rfl rfl rfl rfl ?_
          refine AOps.vU rfl rfl rfl rfl rfl ?_
          refine AOps.vU rfl rfl rfl rfl rfl ?_
          refine AOps.vU rfl rfl rfl rfl rfl ?_
          refine AOps.vF rfl rfl rfl rfl rfl rfl rfl ?_
          refine AOps.v rfl rfl rfl (AVal.pickF rfl (by constructor)) ?_
          refine AOps.nil ?_
          refine ACode.condF rfl ?_
          refine ACode.skip ?_
          refine ACode.seq ?_
          refine ACode.seq ?_
          refine ACode.region ?_
          refine AOps.v rfl rfl rfl (AVal.moveN (by constructor)) ?_
          refine AOps.v rfl rfl rfl (AVal.neq rfl rfl) ?_
          refine AOps.nil ?_
          refine ACode.condS rfl (fun h88 => ?_) (fun h88 => ?_)
          ·
            try simp only [decide_eq_true_eq, decide_eq_false_iff_not, Bool.not_eq_true', Bool.not_eq_false', Bool.and_eq_true, Bool.or_eq_true, beq_iff_eq, beq_eq_false_iff_ne] at h88
            refine ACode.seq ?_
            refine ACode.region ?_
            refine AOps.v rfl rfl rfl (AVal.assignN (by constructor)) ?_
            refine AOps.nil ?_
            refine ACode.ret ?_
            refine AFin.pureRet rfl (.cons rfl .nil) ?_
            first | exact .refl _ | exact D.Le.eq (congrArg D.bool (by rw [k2]; simp))
          ·
            try simp only [decide_eq_true_eq, decide_eq_false_iff_not, Bool.not_eq_true', Bool.not_eq_false', Bool.and_eq_true, Bool.or_eq_true, beq_iff_eq, beq_eq_false_iff_ne] at h88
            obtain ⟨k1, k2⟩ := leq_pi (c := c) hC (by omega) (W_ex haf (Nat.le_trans has (by omega)) (by omega)) (W_ex hbf (Nat.le_trans hbs (by omega)) (by omega)) h88
            refine ACode.skip ?_
            refine ACode.seq ?_
            refine ACode.draws [.p 0, .l 1, .l 2, .p 3, .p 4, .l 5, .l 6, .p 7, .p 8, .p 9, .p 10, .p 11, .p 12, .p 13, .p 14, .p 15, .p 16, .p 17, .p 18, .p 19] mixed (by kernel_rfl) ?_
            refine ASeq.pv rfl rfl rfl rfl (fun L0 => (AVal.moveN (by constructor))) ?_
            refine ASeq.lv rfl rfl rfl rfl (HasCell.mk (d := encT _) 0 rfl rfl (.refl _)) ?_
            refine ASeq.lv rfl rfl rfl rfl (HasCell.mk (d := encT _) 2 rfl rfl (.refl _)) ?_
            refine ASeq.pe rfl rfl rfl rfl (fun L0 => (AOp.buildSliceT (ts := [_, _]) rfl rfl rfl rfl rfl ⟨rfl, rfl⟩)) ?_
            refine ASeq.pe rfl rfl rfl rfl (fun L0 => (AOp.callP (l8of_c 4 [c, a]) (by first | exact LeL.eq rfl | (repeat constructor)) ⟨rfl, rfl⟩)) ?_
            refine ASeq.lv rfl rfl rfl rfl (HasCell.mk (d := encT _) 0 rfl rfl (.refl _)) ?_
            refine ASeq.lv rfl rfl rfl rfl (HasCell.mk (d := encT _) 1 rfl rfl (.refl _)) ?_
            refine ASeq.pe rfl rfl rfl rfl (fun L0 => (AOp.buildSliceT (ts := [_, _]) rfl rfl rfl rfl rfl ⟨rfl, rfl⟩)) ?_
            refine ASeq.pe rfl rfl rfl rfl (fun L0 => (AOp.callP (l8of_c 4 [c, b]) (by first | exact LeL.eq rfl | (repeat constructor)) ⟨rfl, rfl⟩)) ?_
            refine ASeq.pv rfl rfl rfl rfl (fun L0 => (AVal.moveN (by constructor))) ?_
            refine ASeq.pv rfl rfl rfl rfl (fun L0 => (AVal.muln rfl rfl (by omega))) ?_
            refine ASeq.pv rfl rfl rfl rfl (fun L0 => (AVal.addn rfl rfl (by omega))) ?_
            refine ASeq.pe rfl rfl rfl rfl (fun L0 => (AOp.callP (leqC hS (p := piT c a) (q := piT c b) (cs := cs) (F := 2 * fuel + 4) (fun _ => ⟨hC, (W_ex (mk_fit (by simp) (fun u hu => by simp at hu; rcases hu with rfl | rfl <;> assumption) (by omega)) (by simp [Term.sz, Term.szs]; omega) (by omega)), (W_ex (mk_fit (by simp) (fun u hu => by simp at hu; rcases hu with rfl | rfl <;> assumption) (by omega)) (by simp [Term.sz, Term.szs]; omega) (by omega))⟩) (a := (leqM cs (2 * fuel + 4) (piT c a) (piT c b)).1) (b := (leqM cs (2 * fuel + 4) (piT c a) (piT c b)).2.1) (c := (leqM cs (2 * fuel + 4) (piT c a) (piT c b)).2.2) rfl) (by first | exact LeL.eq rfl | (repeat constructor)) ⟨rfl, rfl⟩)) ?_
            refine ASeq.pv rfl rfl rfl rfl (fun L0 => (AVal.moveN (by constructor))) ?_
            refine ASeq.pv rfl rfl rfl rfl (fun L0 => (AVal.extractN rfl rfl (by constructor))) ?_
            refine ASeq.pv rfl rfl rfl rfl (fun L0 => (AVal.extractN rfl rfl (by constructor))) ?_
            refine ASeq.pv rfl rfl rfl rfl (fun L0 => (AVal.extractN rfl rfl (by constructor))) ?_
            refine ASeq.pv rfl rfl rfl rfl (fun L0 => (AVal.assignN (by constructor))) ?_
            refine ASeq.pv rfl rfl rfl rfl (fun L0 => (AVal.assignN (by constructor))) ?_
            refine ASeq.pv rfl rfl rfl rfl (fun L0 => (AVal.assignN (by constructor))) ?_
            refine ASeq.nil ?_
            refine ACode.seq ?_
            refine ACode.region ?_
            refine AOps.v rfl rfl rfl (AVal.moveN (by constructor)) ?_
            refine AOps.v rfl rfl rfl (AVal.eqlS rfl rfl k1) ?_
            refine AOps.v rfl rfl rfl (AVal.moveN (by constructor)) ?_
            refine AOps.vT rfl rfl rfl rfl rfl rfl (AVal.moveN (by constructor)) ?_
            refine AOps.vT rfl rfl rfl rfl rfl rfl (AVal.moveN (by constructor)) ?_
            refine AOps.vT rfl rfl rfl rfl rfl rfl (AVal.eqlB rfl rfl (by kernel_rfl)) ?_
            refine AOps.v rfl rfl rfl (AVal.pickT rfl (by constructor)) ?_
            refine AOps.v rfl rfl rfl (AVal.assignN (by constructor)) ?_
            refine AOps.nil ?_
            refine ACode.ret ?_
            refine AFin.pureRet rfl (.cons rfl .nil) ?_
            first | exact .refl _ | exact D.Le.eq (congrArg D.bool (by rw [k2]; simp))

end Sp
