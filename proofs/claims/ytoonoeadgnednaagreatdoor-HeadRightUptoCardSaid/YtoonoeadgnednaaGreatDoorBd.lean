/- Walks of the program's functions and what they compute: contracts of calls; no condition beyond those that each theorem names. -/
import Derived.Test.YtoonoeadgnednaaGreatDoorBc
import Derived.Test.YtoonoeadgnednaaGreatDoorKc
import Derived.Test.YtoonoeadgnednaaGreatDoorKb
/- The walks of head: the constant, the step, the head. Written by a program of mine. -/
set_option linter.unusedVariables false
set_option linter.unusedSimpArgs false
set_option maxRecDepth 20000
namespace Sp
open Go Go.Proofs

theorem constant_c0 (b mb : Nat) (left : Int) (cs : List Core) (once dn : Bool) (hl : 0 ≤ left ∧ left ≤ 9223372036854775807) (hS : SortedOk) (t x : Term) (ht : t.fit 1099511627776) (hc : ∀ c ∈ cs, c.body.fit 1099511627776 ∧ c.body.sz ≤ 4611686018427387904) (hk : (bodyM cs t.num t.levels).2 = false) : AKeep X 50 [.ptr b 0, encT t, encT x] [(b, .cells 71 (workC (left) cs once dn mb))] (.tup [encT t, .bool false]) := by
  refine ACalls.of_code Tryz.func50 rfl (by rfl) (Nat.le_of_ble_eq_true rfl) ?_
  refine ACode.seq ?_
  refine ACode.region ?_
  refine AOps.e rfl rfl rfl (AOp.boxA rfl (fun b4 => ?_))
  refine AOps.e rfl rfl rfl (AOp.boxA rfl (fun b5 => ?_))
  refine AOps.e rfl rfl rfl (AOp.allocN rfl rfl (fun b6 => ?_))
  refine AOps.v rfl rfl rfl (AVal.assignN (by constructor)) ?_
  refine AOps.nil ?_
  refine ACode.seq ?_
  refine ACode.draws [.p 0, .p 1, .p 2, .l 3, .p 4, .l 5, .p 6, .l 7, .p 8, .p 9, .p 10, .p 11, .a 12, .e 13 [], .p 14] mixed (by kernel_rfl) ?_
  refine ASeq.pv rfl rfl rfl rfl (fun L0 => (AVal.moveN (by constructor))) ?_
  refine ASeq.pv rfl rfl rfl rfl (fun L0 => (AVal.nilCheckP rfl)) ?_
  refine ASeq.pv rfl rfl rfl rfl (fun L0 => (AVal.fieldP rfl rfl)) ?_
  refine ASeq.lv rfl rfl rfl rfl (HasCell.mk 3 rfl rfl (by constructor)) ?_
  refine ASeq.pv rfl rfl rfl rfl (fun L0 => (AVal.fieldP rfl rfl)) ?_
  refine ASeq.lv rfl rfl rfl rfl (HasCell.mk 2 rfl rfl (by constructor)) ?_
  refine ASeq.pv rfl rfl rfl rfl (fun L0 => (AVal.fieldP rfl rfl)) ?_
  refine ASeq.lv rfl rfl rfl rfl (HasCell.mk 2 rfl rfl (by constructor)) ?_
  refine ASeq.pe rfl rfl rfl rfl (fun L0 => (AOp.callP (body_c hS cs t.num t.levels hc (by have := ht.llen; omega) (fun l hl => by have := ht.plen hl; omega)) (by first | exact LeL.eq rfl | (repeat constructor)) ⟨rfl, rfl⟩)) ?_
  refine ASeq.pv rfl rfl rfl rfl (fun L0 => (AVal.moveN (by constructor))) ?_
  refine ASeq.pv rfl rfl rfl rfl (fun L0 => (AVal.extractN rfl rfl (by constructor))) ?_
  refine ASeq.pv rfl rfl rfl rfl (fun L0 => (AVal.extractN rfl rfl (by constructor))) ?_
  refine ASeq.ea rfl rfl rfl rfl rfl rfl rfl (fun b8 => ?_)
  refine ASeq.ee0 rfl rfl rfl rfl (AOp.storeN 0 rfl rfl rfl (by constructor) rfl rfl rfl (by repeat constructor) (by repeat constructor) ⟨(by first | exact Keeps.nil | (repeat first | exact Keeps.nil | refine Keeps.cons (by first | exact HasCell.mk 0 rfl rfl (.refl _) | exact HasCell.mk 1 rfl rfl (.refl _) | exact HasCell.mk 2 rfl rfl (.refl _) | exact HasCell.mk 3 rfl rfl (.refl _) | exact HasCell.mk 4 rfl rfl (.refl _) | exact HasCell.mk 5 rfl rfl (.refl _) | exact HasCell.mk 6 rfl rfl (.refl _) | exact HasCell.mk 7 rfl rfl (.refl _)) ?_)), ?_⟩)
  refine ASeq.pv rfl rfl rfl rfl (fun L0 => (AVal.assignN (by constructor))) ?_
  refine ASeq.nil ?_
  refine ACode.seq ?_
  refine ACode.seq ?_
  refine ACode.region ?_
  refine AOps.v rfl rfl rfl (AVal.moveN (by constructor)) ?_
  refine AOps.v rfl rfl rfl (AVal.not rfl) ?_
  refine AOps.nil ?_
  refine ACode.condS rfl (fun h23 => ?_) (fun h23 => ?_)
  ·
    try simp only [decide_eq_true_eq, decide_eq_false_iff_not, Bool.not_eq_true', Bool.not_eq_false', Bool.and_eq_true, Bool.or_eq_true, beq_iff_eq, beq_eq_false_iff_ne] at h23
    refine ACode.seq ?_
    refine ACode.region ?_
    refine AOps.v rfl rfl rfl (AVal.loadP (d := encT _) 3 rfl rfl rfl rfl) ?_
    refine AOps.e0 rfl rfl (AOp.storeN 1 rfl rfl rfl (by constructor) rfl rfl rfl (by repeat constructor) (by repeat constructor) ?_)
    refine AOps.v rfl rfl rfl (AVal.assignN (by constructor)) ?_
    refine AOps.nil ?_
    refine ACode.ret ?_
    refine AFin.keepRet rfl (.cons (by first | exact ARead.box (d := encT _) 0 rfl rfl rfl rfl | exact ARead.box (d := encT _) 1 rfl rfl rfl rfl | exact ARead.box (d := encT _) 2 rfl rfl rfl rfl | exact ARead.box (d := encT _) 3 rfl rfl rfl rfl | exact ARead.box (d := encT _) 4 rfl rfl rfl rfl | exact ARead.box (d := encT _) 5 rfl rfl rfl rfl | exact ARead.box (d := encT _) 6 rfl rfl rfl rfl | exact ARead.box (d := encT _) 7 rfl rfl rfl rfl | exact ARead.box 0 rfl rfl rfl rfl | exact ARead.box 1 rfl rfl rfl rfl | exact ARead.box 2 rfl rfl rfl rfl | exact ARead.box 3 rfl rfl rfl rfl | exact ARead.box 4 rfl rfl rfl rfl | exact ARead.box 5 rfl rfl rfl rfl | exact ARead.box 6 rfl rfl rfl rfl | exact ARead.box 7 rfl rfl rfl rfl) (.cons rfl .nil)) (by repeat first | exact List.Sublist.refl _ | apply List.Sublist.cons_cons | apply List.Sublist.cons) ?_
    exact .refl _
  ·
    try simp only [decide_eq_true_eq, decide_eq_false_iff_not, Bool.not_eq_true', Bool.not_eq_false', Bool.and_eq_true, Bool.or_eq_true, beq_iff_eq, beq_eq_false_iff_ne] at h23
    exact absurd (by simpa using h23) (by rw [hk]; simp) --END

theorem constant_c1 (b mb : Nat) (left : Int) (cs : List Core) (once dn : Bool) (hl : 0 ≤ left ∧ left ≤ 9223372036854775807) (hS : SortedOk) (t x : Term) (ht : t.fit 1099511627776) (hc : ∀ c ∈ cs, c.body.fit 1099511627776 ∧ c.body.sz ≤ 4611686018427387904) (hk : (bodyM cs t.num t.levels).2 = true) (hz : (bodyM cs t.num t.levels).1.fit 9223372036854775807 ∧ (bodyM cs t.num t.levels).1.sz ≤ 4611686018427387904) : AMay X 50 [.ptr b 0, encT t, encT x] [(b, .cells 71 (workC (left) cs once dn mb))] (((bodyM cs t.num t.levels).1.sz : Int) ≤ left) (.tup [encT (bodyM cs t.num t.levels).1, .bool true]) [(b, .cells 71 (workC (left - (bodyM cs t.num t.levels).1.sz) cs once dn mb))] (.iface 76 (.agg [])) [(b, .cells 71 (workC (left) cs once dn mb))] := by
  refine ACalls.of_code Tryz.func50 rfl (by rfl) (Nat.le_of_ble_eq_true rfl) ?_
  refine ACode.seq ?_
  refine ACode.region ?_
  refine AOps.e rfl rfl rfl (AOp.boxA rfl (fun b4 => ?_))
  refine AOps.e rfl rfl rfl (AOp.boxA rfl (fun b5 => ?_))
  refine AOps.e rfl rfl rfl (AOp.allocN rfl rfl (fun b6 => ?_))
  refine AOps.v rfl rfl rfl (AVal.assignN (by constructor)) ?_
  refine AOps.nil ?_
  refine ACode.seq ?_
  refine ACode.draws [.p 0, .p 1, .p 2, .l 3, .p 4, .l 5, .p 6, .l 7, .p 8, .p 9, .p 10, .p 11, .a 12, .e 13 [], .p 14] mixed (by kernel_rfl) ?_
  refine ASeq.pv rfl rfl rfl rfl (fun L0 => (AVal.moveN (by constructor))) ?_
  refine ASeq.pv rfl rfl rfl rfl (fun L0 => (AVal.nilCheckP rfl)) ?_
  refine ASeq.pv rfl rfl rfl rfl (fun L0 => (AVal.fieldP rfl rfl)) ?_
  refine ASeq.lv rfl rfl rfl rfl (HasCell.mk 3 rfl rfl (by constructor)) ?_
  refine ASeq.pv rfl rfl rfl rfl (fun L0 => (AVal.fieldP rfl rfl)) ?_
  refine ASeq.lv rfl rfl rfl rfl (HasCell.mk 2 rfl rfl (by constructor)) ?_
  refine ASeq.pv rfl rfl rfl rfl (fun L0 => (AVal.fieldP rfl rfl)) ?_
  refine ASeq.lv rfl rfl rfl rfl (HasCell.mk 2 rfl rfl (by constructor)) ?_
  refine ASeq.pe rfl rfl rfl rfl (fun L0 => (AOp.callP (body_c hS cs t.num t.levels hc (by have := ht.llen; omega) (fun l hl => by have := ht.plen hl; omega)) (by first | exact LeL.eq rfl | (repeat constructor)) ⟨rfl, rfl⟩)) ?_
  refine ASeq.pv rfl rfl rfl rfl (fun L0 => (AVal.moveN (by constructor))) ?_
  refine ASeq.pv rfl rfl rfl rfl (fun L0 => (AVal.extractN rfl rfl (by constructor))) ?_
  refine ASeq.pv rfl rfl rfl rfl (fun L0 => (AVal.extractN rfl rfl (by constructor))) ?_
  refine ASeq.ea rfl rfl rfl rfl rfl rfl rfl (fun b8 => ?_)
  refine ASeq.ee0 rfl rfl rfl rfl (AOp.storeN 0 rfl rfl rfl (by constructor) rfl rfl rfl (by repeat constructor) (by repeat constructor) ⟨(by first | exact Keeps.nil | (repeat first | exact Keeps.nil | refine Keeps.cons (by first | exact HasCell.mk 0 rfl rfl (.refl _) | exact HasCell.mk 1 rfl rfl (.refl _) | exact HasCell.mk 2 rfl rfl (.refl _) | exact HasCell.mk 3 rfl rfl (.refl _) | exact HasCell.mk 4 rfl rfl (.refl _) | exact HasCell.mk 5 rfl rfl (.refl _) | exact HasCell.mk 6 rfl rfl (.refl _) | exact HasCell.mk 7 rfl rfl (.refl _)) ?_)), ?_⟩)
  refine ASeq.pv rfl rfl rfl rfl (fun L0 => (AVal.assignN (by constructor))) ?_
  refine ASeq.nil ?_
  refine ACode.seq ?_
  refine ACode.seq ?_
  refine ACode.region ?_
  refine AOps.v rfl rfl rfl (AVal.moveN (by constructor)) ?_
  refine AOps.v rfl rfl rfl (AVal.not rfl) ?_
  refine AOps.nil ?_
  refine ACode.condS rfl (fun h23 => ?_) (fun h23 => ?_)
  ·
    try simp only [decide_eq_true_eq, decide_eq_false_iff_not, Bool.not_eq_true', Bool.not_eq_false', Bool.and_eq_true, Bool.or_eq_true, beq_iff_eq, beq_eq_false_iff_ne] at h23
    exact absurd (by simpa using h23) (by rw [hk]; simp) --END
  ·
    try simp only [decide_eq_true_eq, decide_eq_false_iff_not, Bool.not_eq_true', Bool.not_eq_false', Bool.and_eq_true, Bool.or_eq_true, beq_iff_eq, beq_eq_false_iff_ne] at h23
    refine ACode.skip ?_
    refine ACode.seq ?_
    refine ACode.region ?_
    refine AOps.v rfl rfl rfl (AVal.moveN (by constructor)) ?_
    refine AOps.v rfl rfl rfl (AVal.loadP (d := encT _) 0 rfl rfl rfl rfl) ?_
    refine AOps.e rfl rfl rfl (AOp.callM [_, _, _, _] (take_c b mb left cs once dn hl (bodyM cs t.num t.levels).1 hz.1 hz.2) (by first | exact LeL.eq rfl | (repeat constructor)) rfl (fun hok => ?_) (fun hno => ?_))
    ·
      refine AOps.e0 rfl rfl (AOp.storeN 1 rfl rfl rfl (by constructor) rfl rfl rfl (by repeat constructor) (by repeat constructor) ?_)
      refine AOps.v rfl rfl rfl (AVal.assignN (by constructor)) ?_
      refine AOps.nil ?_
      refine ACode.ret ?_
      refine AFin.mayRet rfl (.cons (by first | exact ARead.box (d := encT _) 0 rfl rfl rfl rfl | exact ARead.box (d := encT _) 1 rfl rfl rfl rfl | exact ARead.box (d := encT _) 2 rfl rfl rfl rfl | exact ARead.box (d := encT _) 3 rfl rfl rfl rfl | exact ARead.box (d := encT _) 4 rfl rfl rfl rfl | exact ARead.box (d := encT _) 5 rfl rfl rfl rfl | exact ARead.box (d := encT _) 6 rfl rfl rfl rfl | exact ARead.box (d := encT _) 7 rfl rfl rfl rfl | exact ARead.box 0 rfl rfl rfl rfl | exact ARead.box 1 rfl rfl rfl rfl | exact ARead.box 2 rfl rfl rfl rfl | exact ARead.box 3 rfl rfl rfl rfl | exact ARead.box 4 rfl rfl rfl rfl | exact ARead.box 5 rfl rfl rfl rfl | exact ARead.box 6 rfl rfl rfl rfl | exact ARead.box 7 rfl rfl rfl rfl) (.cons rfl .nil)) (by repeat first | exact List.Sublist.refl _ | apply List.Sublist.cons_cons | apply List.Sublist.cons) ?_ (hok)
      exact .refl _
    ·
      exact AFin.mayPan (X := X) (fn := Tryz.f50) rfl (by repeat first | exact List.Sublist.refl _ | apply List.Sublist.cons_cons | apply List.Sublist.cons | exact List.nil_sublist _) (hno)

def SM (b : Nat) : List (Int × D) := [(6, .func (.func 47) [.ptr b 0] []), (14, .func (.func 48) [.ptr b 0] []), (15, .func (.func 48) [.ptr b 0] []), (7, .func (.func 49) [.ptr b 0] []), (3, .func (.func 50) [.ptr b 0] []), (18, .func (.func 51) [.ptr b 0] []), (21, .func (.func 52) [.ptr b 0] []), (24, .func (.func 53) [.ptr b 0] [])]

theorem step_in (b mb : Nat) (left left2 : Int) (cs : List Core) (once dn : Bool) (t u : Term) (is : Bool) (ok : Prop) (f : FuncId) (hlen : t.kids.length ≤ 1099511627776) (hget : mget (SM b) t.kind = some (.func (.func f) [.ptr b 0] [])) (h24 : ¬ (t.kind = 24 ∧ (spotM t).2.2 = false)) (hc : AMay X f [.ptr b 0, encT t, encT (place t)] [(b, .cells 71 (workC (left) cs once dn mb))] ok (.tup [encT u, .bool is]) [(b, .cells 71 (workC (left2) cs once dn mb))] (.iface 76 (.agg [])) [(b, .cells 71 (workC (left) cs once dn mb))]) : AMay X 57 [.ptr b 0, encT t] [(mb, .map (SM b)), (b, .cells 71 (workC (left) cs once dn mb))] ok (.tup [encT u, .bool is]) [(mb, .map (SM b)), (b, .cells 71 (workC (left2) cs once dn mb))] (.iface 76 (.agg [])) [(mb, .map (SM b)), (b, .cells 71 (workC (left) cs once dn mb))] := by
  refine ACalls.of_code Tryz.func57 rfl (by rfl) (Nat.le_of_ble_eq_true rfl) ?_
  refine ACode.seq ?_
  refine ACode.region ?_
  refine AOps.e rfl rfl rfl (AOp.boxA rfl (fun b3 => ?_))
  refine AOps.e rfl rfl rfl (AOp.allocN rfl rfl (fun b4 => ?_))
  refine AOps.v rfl rfl rfl (AVal.assignN (by constructor)) ?_
  refine AOps.nil ?_
  refine ACode.seq ?_
  refine ACode.region ?_
  refine AOps.v rfl rfl rfl (AVal.loadP (d := encT _) 1 rfl rfl rfl rfl) ?_
  refine AOps.e rfl rfl rfl (AOp.callP (spot_c t hlen) (by first | exact LeL.eq rfl | (repeat constructor)) ?_)
  refine AOps.v rfl rfl rfl (AVal.moveN (by constructor)) ?_
  refine AOps.v rfl rfl rfl (AVal.extractN rfl rfl (by constructor)) ?_
  refine AOps.v rfl rfl rfl (AVal.extractN rfl rfl (by constructor)) ?_
  refine AOps.v rfl rfl rfl (AVal.extractN rfl rfl (by constructor)) ?_
  refine AOps.v rfl rfl rfl (AVal.assignN (by constructor)) ?_
  refine AOps.v rfl rfl rfl (AVal.assignN (by constructor)) ?_
  refine AOps.v rfl rfl rfl (AVal.assignN (by constructor)) ?_
  refine AOps.nil ?_
  refine ACode.seq ?_
  refine ACode.draws [.p 0, .p 1, .p 2, .l 3, .p 4, .l 5, .e 6 [], .p 7, .p 8, .p 9, .p 10, .p 11] mixed (by kernel_rfl) ?_
  refine ASeq.pv rfl rfl rfl rfl (fun L0 => (AVal.moveN (by constructor))) ?_
  refine ASeq.pv rfl rfl rfl rfl (fun L0 => (AVal.nilCheckP rfl)) ?_
  refine ASeq.pv rfl rfl rfl rfl (fun L0 => (AVal.fieldP rfl rfl)) ?_
  refine ASeq.lv rfl rfl rfl rfl (HasCell.mk 3 rfl rfl (by constructor)) ?_
  refine ASeq.pv rfl rfl rfl rfl (fun L0 => (AVal.fieldP rfl rfl)) ?_
  refine ASeq.lv rfl rfl rfl rfl (HasCell.mk 1 rfl rfl (by constructor)) ?_
  refine ASeq.ev0 rfl rfl rfl rfl rfl (by first | exact Keeps.nil | (repeat first | exact Keeps.nil | refine Keeps.cons (by first | exact HasCell.mk 0 rfl rfl (.refl _) | exact HasCell.mk 1 rfl rfl (.refl _) | exact HasCell.mk 2 rfl rfl (.refl _) | exact HasCell.mk 3 rfl rfl (.refl _) | exact HasCell.mk 4 rfl rfl (.refl _) | exact HasCell.mk 5 rfl rfl (.refl _) | exact HasCell.mk 6 rfl rfl (.refl _) | exact HasCell.mk 7 rfl rfl (.refl _)) ?_)) (AVal.lookupOk (e := 87) (d0 := .nilf) (d1 := .func (.func f) [.ptr b 0] []) (ok := true) 2 rfl rfl rfl (by kernel_rfl) (by kernel_rfl) (by rw [hget]; rfl) (by rw [hget]; rfl)) ?_
  refine ASeq.pv rfl rfl rfl rfl (fun L0 => (AVal.moveN (by constructor))) ?_
  refine ASeq.pv rfl rfl rfl rfl (fun L0 => (AVal.extractN rfl rfl (by constructor))) ?_
  refine ASeq.pv rfl rfl rfl rfl (fun L0 => (AVal.extractN rfl rfl (by constructor))) ?_
  refine ASeq.pv rfl rfl rfl rfl (fun L0 => (AVal.assignN (by constructor))) ?_
  refine ASeq.pv rfl rfl rfl rfl (fun L0 => (AVal.assignN (by constructor))) ?_
  refine ASeq.nil ?_
  refine ACode.seq ?_
  refine ACode.seq ?_
  refine ACode.region ?_
  refine AOps.v rfl rfl rfl (AVal.moveN (by constructor)) ?_
  refine AOps.v rfl rfl rfl (AVal.not rfl) ?_
  refine AOps.v rfl rfl rfl (AVal.moveN (by constructor)) ?_
  refine AOps.vT rfl rfl rfl rfl rfl rfl (AVal.fieldP rfl rfl) ?_
  refine AOps.vT rfl rfl rfl rfl rfl rfl (AVal.loadPN 1 rfl rfl rfl rfl (by constructor)) ?_
  refine AOps.vT rfl rfl rfl rfl rfl rfl (AVal.eql rfl rfl) ?_
  refine AOps.vT rfl rfl rfl rfl rfl rfl (AVal.moveN (by constructor)) ?_
  refine AOps.split 34 rfl (fun h34 => ?_) (fun h34 => ?_)
  ·
    try simp only [decide_eq_true_eq, decide_eq_false_iff_not, Bool.not_eq_true', Bool.not_eq_false', Bool.and_eq_true, Bool.or_eq_true, beq_iff_eq, beq_eq_false_iff_ne] at h34
    refine AOps.vT rfl rfl rfl rfl rfl rfl (AVal.moveN (by constructor)) ?_
    refine AOps.vT rfl rfl rfl rfl rfl rfl (AVal.not rfl) ?_
    refine AOps.vT rfl rfl rfl rfl rfl rfl (AVal.pickT rfl (by constructor)) ?_
    refine AOps.v rfl rfl rfl (AVal.pickF rfl (by constructor)) ?_
    refine AOps.nil ?_
    refine ACode.condS rfl (fun h38 => ?_) (fun h38 => ?_)
    ·
      try simp only [decide_eq_true_eq, decide_eq_false_iff_not, Bool.not_eq_true', Bool.not_eq_false', Bool.and_eq_true, Bool.or_eq_true, beq_iff_eq, beq_eq_false_iff_ne] at h38
      exact absurd ⟨h34, h38⟩ h24 --END
    ·
      try simp only [decide_eq_true_eq, decide_eq_false_iff_not, Bool.not_eq_true', Bool.not_eq_false', Bool.and_eq_true, Bool.or_eq_true, beq_iff_eq, beq_eq_false_iff_ne] at h38
      refine ACode.skip ?_
      refine ACode.seq ?_
      refine ACode.region ?_
      refine AOps.e rfl rfl rfl (AOp.allocN rfl rfl (fun b11 => ?_))
      refine AOps.nil ?_
      refine ACode.seq ?_
      refine ACode.seq ?_
      refine ACode.region ?_
      refine AOps.v rfl rfl rfl (AVal.moveN (by constructor)) ?_
      refine AOps.nil ?_
      refine ACode.condS rfl (fun h40 => ?_) (fun h40 => ?_)
      ·
        try simp only [decide_eq_true_eq, decide_eq_false_iff_not, Bool.not_eq_true', Bool.not_eq_false', Bool.and_eq_true, Bool.or_eq_true, beq_iff_eq, beq_eq_false_iff_ne] at h40
        have hpl : place t = kid t (spotM t).1 := by simp [place, h40]
        rw [hpl] at hc
        refine ACode.region ?_
        refine AOps.v rfl rfl rfl (AVal.loadP (d := encT _) 2 rfl rfl rfl rfl) ?_
        refine AOps.v rfl rfl rfl (AVal.moveN (by constructor)) ?_
        refine AOps.e rfl rfl rfl (AOp.callP (kid_c t (spotM t).1) (by first | exact LeL.eq rfl | (repeat constructor)) ?_)
        refine AOps.e0 rfl rfl (AOp.storeN 0 rfl rfl rfl (by constructor) rfl rfl rfl (by repeat constructor) (by repeat constructor) ?_)
        refine AOps.nil ?_
        refine ACode.seq ?_
        refine ACode.region ?_
        refine AOps.v rfl rfl rfl (AVal.moveN (by constructor)) ?_
        refine AOps.v rfl rfl rfl (AVal.loadP (d := encT _) 2 rfl rfl rfl rfl) ?_
        refine AOps.v rfl rfl rfl (AVal.loadP (d := encT _) 0 rfl rfl rfl rfl) ?_
        refine AOps.e rfl rfl rfl (AOp.callVM [_, _, _, _] rfl (hc) (LeL.cons (.refl _) (LeL.cons (.refl _) (LeL.cons (.refl _) .nil))) rfl (fun hok => ?_) (fun hno => ?_))
        ·
          refine AOps.v rfl rfl rfl (AVal.extractN rfl rfl (by constructor)) ?_
          refine AOps.v rfl rfl rfl (AVal.extractN rfl rfl (by constructor)) ?_
          refine AOps.e0 rfl rfl (AOp.storeN 1 rfl rfl rfl (by constructor) rfl rfl rfl (by repeat constructor) (by repeat constructor) ?_)
          refine AOps.v rfl rfl rfl (AVal.assignN (by constructor)) ?_
          refine AOps.nil ?_
          refine ACode.ret ?_
          refine AFin.mayRet rfl (.cons (by first | exact ARead.box (d := encT _) 0 rfl rfl rfl rfl | exact ARead.box (d := encT _) 1 rfl rfl rfl rfl | exact ARead.box (d := encT _) 2 rfl rfl rfl rfl | exact ARead.box (d := encT _) 3 rfl rfl rfl rfl | exact ARead.box (d := encT _) 4 rfl rfl rfl rfl | exact ARead.box (d := encT _) 5 rfl rfl rfl rfl | exact ARead.box (d := encT _) 6 rfl rfl rfl rfl | exact ARead.box (d := encT _) 7 rfl rfl rfl rfl | exact ARead.box 0 rfl rfl rfl rfl | exact ARead.box 1 rfl rfl rfl rfl | exact ARead.box 2 rfl rfl rfl rfl | exact ARead.box 3 rfl rfl rfl rfl | exact ARead.box 4 rfl rfl rfl rfl | exact ARead.box 5 rfl rfl rfl rfl | exact ARead.box 6 rfl rfl rfl rfl | exact ARead.box 7 rfl rfl rfl rfl) (.cons rfl .nil)) (by repeat first | exact List.Sublist.refl _ | apply List.Sublist.cons_cons | apply List.Sublist.cons) ?_ (hok)
          exact .refl _
        ·
          exact AFin.mayPan (X := X) (fn := Tryz.f57) rfl (by repeat first | exact List.Sublist.refl _ | apply List.Sublist.cons_cons | apply List.Sublist.cons | exact List.nil_sublist _) (hno)
      ·
        try simp only [decide_eq_true_eq, decide_eq_false_iff_not, Bool.not_eq_true', Bool.not_eq_false', Bool.and_eq_true, Bool.or_eq_true, beq_iff_eq, beq_eq_false_iff_ne] at h40
        have hpl : place t = T0 := by simp [place, h40]
        rw [hpl] at hc
        refine ACode.skip ?_
        refine ACode.seq ?_
        refine ACode.region ?_
        refine AOps.v rfl rfl rfl (AVal.moveN (by constructor)) ?_
        refine AOps.v rfl rfl rfl (AVal.loadP (d := encT _) 2 rfl rfl rfl rfl) ?_
        refine AOps.v rfl rfl rfl (AVal.loadPN 0 rfl rfl rfl rfl (by constructor)) ?_
        refine AOps.e rfl rfl rfl (AOp.callVM [_, _, _, _] rfl (hc) (LeL.cons (.refl _) (LeL.cons (.refl _) (LeL.cons (leT' .emp .emp rfl) .nil))) rfl (fun hok => ?_) (fun hno => ?_))
        ·
          refine AOps.v rfl rfl rfl (AVal.extractN rfl rfl (by constructor)) ?_
          refine AOps.v rfl rfl rfl (AVal.extractN rfl rfl (by constructor)) ?_
          refine AOps.e0 rfl rfl (AOp.storeN 1 rfl rfl rfl (by constructor) rfl rfl rfl (by repeat constructor) (by repeat constructor) ?_)
          refine AOps.v rfl rfl rfl (AVal.assignN (by constructor)) ?_
          refine AOps.nil ?_
          refine ACode.ret ?_
          refine AFin.mayRet rfl (.cons (by first | exact ARead.box (d := encT _) 0 rfl rfl rfl rfl | exact ARead.box (d := encT _) 1 rfl rfl rfl rfl | exact ARead.box (d := encT _) 2 rfl rfl rfl rfl | exact ARead.box (d := encT _) 3 rfl rfl rfl rfl | exact ARead.box (d := encT _) 4 rfl rfl rfl rfl | exact ARead.box (d := encT _) 5 rfl rfl rfl rfl | exact ARead.box (d := encT _) 6 rfl rfl rfl rfl | exact ARead.box (d := encT _) 7 rfl rfl rfl rfl | exact ARead.box 0 rfl rfl rfl rfl | exact ARead.box 1 rfl rfl rfl rfl | exact ARead.box 2 rfl rfl rfl rfl | exact ARead.box 3 rfl rfl rfl rfl | exact ARead.box 4 rfl rfl rfl rfl | exact ARead.box 5 rfl rfl rfl rfl | exact ARead.box 6 rfl rfl rfl rfl | exact ARead.box 7 rfl rfl rfl rfl) (.cons rfl .nil)) (by repeat first | exact List.Sublist.refl _ | apply List.Sublist.cons_cons | apply List.Sublist.cons) ?_ (hok)
          exact .refl _
        ·
          exact AFin.mayPan (X := X) (fn := Tryz.f57) rfl (by repeat first | exact List.Sublist.refl _ | apply List.Sublist.cons_cons | apply List.Sublist.cons | exact List.nil_sublist _) (hno)
  ·
    try simp only [decide_eq_true_eq, decide_eq_false_iff_not, Bool.not_eq_true', Bool.not_eq_false', Bool.and_eq_true, Bool.or_eq_true, beq_iff_eq, beq_eq_false_iff_ne] at h34
    refine AOps.vF rfl rfl rfl rfl rfl rfl rfl ?_
    refine AOps.vF rfl rfl rfl rfl rfl rfl rfl ?_
    refine AOps.vT rfl rfl rfl rfl rfl rfl (AVal.pickF rfl (by constructor)) ?_
    refine AOps.v rfl rfl rfl (AVal.pickF rfl (by constructor)) ?_
    refine AOps.nil ?_
    refine ACode.condF rfl ?_
    refine ACode.skip ?_
    refine ACode.seq ?_
    refine ACode.region ?_
    refine AOps.e rfl rfl rfl (AOp.allocN rfl rfl (fun b11 => ?_))
    refine AOps.nil ?_
    refine ACode.seq ?_
    refine ACode.seq ?_
    refine ACode.region ?_
    refine AOps.v rfl rfl rfl (AVal.moveN (by constructor)) ?_
    refine AOps.nil ?_
    refine ACode.condS rfl (fun h40 => ?_) (fun h40 => ?_)
    ·
      try simp only [decide_eq_true_eq, decide_eq_false_iff_not, Bool.not_eq_true', Bool.not_eq_false', Bool.and_eq_true, Bool.or_eq_true, beq_iff_eq, beq_eq_false_iff_ne] at h40
      have hpl : place t = kid t (spotM t).1 := by simp [place, h40]
      rw [hpl] at hc
      refine ACode.region ?_
      refine AOps.v rfl rfl rfl (AVal.loadP (d := encT _) 2 rfl rfl rfl rfl) ?_
      refine AOps.v rfl rfl rfl (AVal.moveN (by constructor)) ?_
      refine AOps.e rfl rfl rfl (AOp.callP (kid_c t (spotM t).1) (by first | exact LeL.eq rfl | (repeat constructor)) ?_)
      refine AOps.e0 rfl rfl (AOp.storeN 0 rfl rfl rfl (by constructor) rfl rfl rfl (by repeat constructor) (by repeat constructor) ?_)
      refine AOps.nil ?_
      refine ACode.seq ?_
      refine ACode.region ?_
      refine AOps.v rfl rfl rfl (AVal.moveN (by constructor)) ?_
      refine AOps.v rfl rfl rfl (AVal.loadP (d := encT _) 2 rfl rfl rfl rfl) ?_
      refine AOps.v rfl rfl rfl (AVal.loadP (d := encT _) 0 rfl rfl rfl rfl) ?_
      refine AOps.e rfl rfl rfl (AOp.callVM [_, _, _, _] rfl (hc) (LeL.cons (.refl _) (LeL.cons (.refl _) (LeL.cons (.refl _) .nil))) rfl (fun hok => ?_) (fun hno => ?_))
      ·
        refine AOps.v rfl rfl rfl (AVal.extractN rfl rfl (by constructor)) ?_
        refine AOps.v rfl rfl rfl (AVal.extractN rfl rfl (by constructor)) ?_
        refine AOps.e0 rfl rfl (AOp.storeN 1 rfl rfl rfl (by constructor) rfl rfl rfl (by repeat constructor) (by repeat constructor) ?_)
        refine AOps.v rfl rfl rfl (AVal.assignN (by constructor)) ?_
        refine AOps.nil ?_
        refine ACode.ret ?_
        refine AFin.mayRet rfl (.cons (by first | exact ARead.box (d := encT _) 0 rfl rfl rfl rfl | exact ARead.box (d := encT _) 1 rfl rfl rfl rfl | exact ARead.box (d := encT _) 2 rfl rfl rfl rfl | exact ARead.box (d := encT _) 3 rfl rfl rfl rfl | exact ARead.box (d := encT _) 4 rfl rfl rfl rfl | exact ARead.box (d := encT _) 5 rfl rfl rfl rfl | exact ARead.box (d := encT _) 6 rfl rfl rfl rfl | exact ARead.box (d := encT _) 7 rfl rfl rfl rfl | exact ARead.box 0 rfl rfl rfl rfl | exact ARead.box 1 rfl rfl rfl rfl | exact ARead.box 2 rfl rfl rfl rfl | exact ARead.box 3 rfl rfl rfl rfl | exact ARead.box 4 rfl rfl rfl rfl | exact ARead.box 5 rfl rfl rfl rfl | exact ARead.box 6 rfl rfl rfl rfl | exact ARead.box 7 rfl rfl rfl rfl) (.cons rfl .nil)) (by repeat first | exact List.Sublist.refl _ | apply List.Sublist.cons_cons | apply List.Sublist.cons) ?_ (hok)
        exact .refl _
      ·
        exact AFin.mayPan (X := X) (fn := Tryz.f57) rfl (by repeat first | exact List.Sublist.refl _ | apply List.Sublist.cons_cons | apply List.Sublist.cons | exact List.nil_sublist _) (hno)
    ·
      try simp only [decide_eq_true_eq, decide_eq_false_iff_not, Bool.not_eq_true', Bool.not_eq_false', Bool.and_eq_true, Bool.or_eq_true, beq_iff_eq, beq_eq_false_iff_ne] at h40
      have hpl : place t = T0 := by simp [place, h40]
      rw [hpl] at hc
      refine ACode.skip ?_
      refine ACode.seq ?_
      refine ACode.region ?_
      refine AOps.v rfl rfl rfl (AVal.moveN (by constructor)) ?_
      refine AOps.v rfl rfl rfl (AVal.loadP (d := encT _) 2 rfl rfl rfl rfl) ?_
      refine AOps.v rfl rfl rfl (AVal.loadPN 0 rfl rfl rfl rfl (by constructor)) ?_
      refine AOps.e rfl rfl rfl (AOp.callVM [_, _, _, _] rfl (hc) (LeL.cons (.refl _) (LeL.cons (.refl _) (LeL.cons (leT' .emp .emp rfl) .nil))) rfl (fun hok => ?_) (fun hno => ?_))
      ·
        refine AOps.v rfl rfl rfl (AVal.extractN rfl rfl (by constructor)) ?_
        refine AOps.v rfl rfl rfl (AVal.extractN rfl rfl (by constructor)) ?_
        refine AOps.e0 rfl rfl (AOp.storeN 1 rfl rfl rfl (by constructor) rfl rfl rfl (by repeat constructor) (by repeat constructor) ?_)
        refine AOps.v rfl rfl rfl (AVal.assignN (by constructor)) ?_
        refine AOps.nil ?_
        refine ACode.ret ?_
        refine AFin.mayRet rfl (.cons (by first | exact ARead.box (d := encT _) 0 rfl rfl rfl rfl | exact ARead.box (d := encT _) 1 rfl rfl rfl rfl | exact ARead.box (d := encT _) 2 rfl rfl rfl rfl | exact ARead.box (d := encT _) 3 rfl rfl rfl rfl | exact ARead.box (d := encT _) 4 rfl rfl rfl rfl | exact ARead.box (d := encT _) 5 rfl rfl rfl rfl | exact ARead.box (d := encT _) 6 rfl rfl rfl rfl | exact ARead.box (d := encT _) 7 rfl rfl rfl rfl | exact ARead.box 0 rfl rfl rfl rfl | exact ARead.box 1 rfl rfl rfl rfl | exact ARead.box 2 rfl rfl rfl rfl | exact ARead.box 3 rfl rfl rfl rfl | exact ARead.box 4 rfl rfl rfl rfl | exact ARead.box 5 rfl rfl rfl rfl | exact ARead.box 6 rfl rfl rfl rfl | exact ARead.box 7 rfl rfl rfl rfl) (.cons rfl .nil)) (by repeat first | exact List.Sublist.refl _ | apply List.Sublist.cons_cons | apply List.Sublist.cons) ?_ (hok)
        exact .refl _
      ·
        exact AFin.mayPan (X := X) (fn := Tryz.f57) rfl (by repeat first | exact List.Sublist.refl _ | apply List.Sublist.cons_cons | apply List.Sublist.cons | exact List.nil_sublist _) (hno)

theorem step_none (b mb : Nat) (left : Int) (cs : List Core) (once dn : Bool) (t : Term) (hlen : t.kids.length ≤ 1099511627776) (hget : mget (SM b) t.kind = none) : AKeep X 57 [.ptr b 0, encT t] [(mb, .map (SM b)), (b, .cells 71 (workC (left) cs once dn mb))] (.tup [encT t, .bool false]) := by
  refine ACalls.of_code Tryz.func57 rfl (by rfl) (Nat.le_of_ble_eq_true rfl) ?_
  refine ACode.seq ?_
  refine ACode.region ?_
  refine AOps.e rfl rfl rfl (AOp.boxA rfl (fun b3 => ?_))
  refine AOps.e rfl rfl rfl (AOp.allocN rfl rfl (fun b4 => ?_))
  refine AOps.v rfl rfl rfl (AVal.assignN (by constructor)) ?_
  refine AOps.nil ?_
  refine ACode.seq ?_
  refine ACode.region ?_
  refine AOps.v rfl rfl rfl (AVal.loadP (d := encT _) 1 rfl rfl rfl rfl) ?_
  refine AOps.e rfl rfl rfl (AOp.callP (spot_c t hlen) (by first | exact LeL.eq rfl | (repeat constructor)) ?_)
  refine AOps.v rfl rfl rfl (AVal.moveN (by constructor)) ?_
  refine AOps.v rfl rfl rfl (AVal.extractN rfl rfl (by constructor)) ?_
  refine AOps.v rfl rfl rfl (AVal.extractN rfl rfl (by constructor)) ?_
  refine AOps.v rfl rfl rfl (AVal.extractN rfl rfl (by constructor)) ?_
  refine AOps.v rfl rfl rfl (AVal.assignN (by constructor)) ?_
  refine AOps.v rfl rfl rfl (AVal.assignN (by constructor)) ?_
  refine AOps.v rfl rfl rfl (AVal.assignN (by constructor)) ?_
  refine AOps.nil ?_
  refine ACode.seq ?_
  refine ACode.draws [.p 0, .p 1, .p 2, .l 3, .p 4, .l 5, .e 6 [], .p 7, .p 8, .p 9, .p 10, .p 11] mixed (by kernel_rfl) ?_
  refine ASeq.pv rfl rfl rfl rfl (fun L0 => (AVal.moveN (by constructor))) ?_
  refine ASeq.pv rfl rfl rfl rfl (fun L0 => (AVal.nilCheckP rfl)) ?_
  refine ASeq.pv rfl rfl rfl rfl (fun L0 => (AVal.fieldP rfl rfl)) ?_
  refine ASeq.lv rfl rfl rfl rfl (HasCell.mk 3 rfl rfl (by constructor)) ?_
  refine ASeq.pv rfl rfl rfl rfl (fun L0 => (AVal.fieldP rfl rfl)) ?_
  refine ASeq.lv rfl rfl rfl rfl (HasCell.mk 1 rfl rfl (by constructor)) ?_
  refine ASeq.ev0 rfl rfl rfl rfl rfl (by first | exact Keeps.nil | (repeat first | exact Keeps.nil | refine Keeps.cons (by first | exact HasCell.mk 0 rfl rfl (.refl _) | exact HasCell.mk 1 rfl rfl (.refl _) | exact HasCell.mk 2 rfl rfl (.refl _) | exact HasCell.mk 3 rfl rfl (.refl _) | exact HasCell.mk 4 rfl rfl (.refl _) | exact HasCell.mk 5 rfl rfl (.refl _) | exact HasCell.mk 6 rfl rfl (.refl _) | exact HasCell.mk 7 rfl rfl (.refl _)) ?_)) (AVal.lookupOk (e := 87) (d0 := .nilf) (d1 := .nilf) (ok := false) 2 rfl rfl rfl (by kernel_rfl) (by kernel_rfl) (by rw [hget]; rfl) (by rw [hget]; rfl)) ?_
  refine ASeq.pv rfl rfl rfl rfl (fun L0 => (AVal.moveN (by constructor))) ?_
  refine ASeq.pv rfl rfl rfl rfl (fun L0 => (AVal.extractN rfl rfl (by constructor))) ?_
  refine ASeq.pv rfl rfl rfl rfl (fun L0 => (AVal.extractN rfl rfl (by constructor))) ?_
  refine ASeq.pv rfl rfl rfl rfl (fun L0 => (AVal.assignN (by constructor))) ?_
  refine ASeq.pv rfl rfl rfl rfl (fun L0 => (AVal.assignN (by constructor))) ?_
  refine ASeq.nil ?_
  refine ACode.seq ?_
  refine ACode.seq ?_
  refine ACode.region ?_
  refine AOps.v rfl rfl rfl (AVal.moveN (by constructor)) ?_
  refine AOps.v rfl rfl rfl (AVal.not rfl) ?_
  refine AOps.v rfl rfl rfl (AVal.moveN (by constructor)) ?_
  refine AOps.vF rfl rfl rfl rfl rfl rfl rfl ?_
  refine AOps.vF rfl rfl rfl rfl rfl rfl rfl ?_
  refine AOps.vF rfl rfl rfl rfl rfl rfl rfl ?_
  refine AOps.vF rfl rfl rfl rfl rfl rfl rfl ?_
  refine AOps.vU rfl rfl rfl rfl rfl ?_
  refine AOps.vU rfl rfl rfl rfl rfl ?_
  refine AOps.vF rfl rfl rfl rfl rfl rfl rfl ?_
  refine AOps.v rfl rfl rfl (AVal.pickT rfl (by constructor)) ?_
  refine AOps.nil ?_
  refine ACode.condT rfl ?_
  refine ACode.seq ?_
  refine ACode.region ?_
  refine AOps.v rfl rfl rfl (AVal.loadP (d := encT _) 1 rfl rfl rfl rfl) ?_
  refine AOps.e0 rfl rfl (AOp.storeN 0 rfl rfl rfl (by constructor) rfl rfl rfl (by repeat constructor) (by repeat constructor) ?_)
  refine AOps.v rfl rfl rfl (AVal.assignN (by constructor)) ?_
  refine AOps.nil ?_
  refine ACode.ret ?_
  refine AFin.keepRet rfl (.cons (by first | exact ARead.box (d := encT _) 0 rfl rfl rfl rfl | exact ARead.box (d := encT _) 1 rfl rfl rfl rfl | exact ARead.box (d := encT _) 2 rfl rfl rfl rfl | exact ARead.box (d := encT _) 3 rfl rfl rfl rfl | exact ARead.box (d := encT _) 4 rfl rfl rfl rfl | exact ARead.box (d := encT _) 5 rfl rfl rfl rfl | exact ARead.box (d := encT _) 6 rfl rfl rfl rfl | exact ARead.box (d := encT _) 7 rfl rfl rfl rfl | exact ARead.box 0 rfl rfl rfl rfl | exact ARead.box 1 rfl rfl rfl rfl | exact ARead.box 2 rfl rfl rfl rfl | exact ARead.box 3 rfl rfl rfl rfl | exact ARead.box 4 rfl rfl rfl rfl | exact ARead.box 5 rfl rfl rfl rfl | exact ARead.box 6 rfl rfl rfl rfl | exact ARead.box 7 rfl rfl rfl rfl) (.cons rfl .nil)) (by repeat first | exact List.Sublist.refl _ | apply List.Sublist.cons_cons | apply List.Sublist.cons) ?_
  exact .refl _

theorem step_24 (b mb : Nat) (left : Int) (cs : List Core) (once dn : Bool) (t : Term) (hlen : t.kids.length ≤ 1099511627776) (h24 : t.kind = 24) (hsp : (spotM t).2.2 = false) : AKeep X 57 [.ptr b 0, encT t] [(mb, .map (SM b)), (b, .cells 71 (workC (left) cs once dn mb))] (.tup [encT t, .bool false]) := by
  have hget : mget (SM b) t.kind = some (.func (.func 53) [.ptr b 0] []) := by rw [h24]; rfl
  refine ACalls.of_code Tryz.func57 rfl (by rfl) (Nat.le_of_ble_eq_true rfl) ?_
  refine ACode.seq ?_
  refine ACode.region ?_
  refine AOps.e rfl rfl rfl (AOp.boxA rfl (fun b3 => ?_))
  refine AOps.e rfl rfl rfl (AOp.allocN rfl rfl (fun b4 => ?_))
  refine AOps.v rfl rfl rfl (AVal.assignN (by constructor)) ?_
  refine AOps.nil ?_
  refine ACode.seq ?_
  refine ACode.region ?_
  refine AOps.v rfl rfl rfl (AVal.loadP (d := encT _) 1 rfl rfl rfl rfl) ?_
  refine AOps.e rfl rfl rfl (AOp.callP (spot_c t hlen) (by first | exact LeL.eq rfl | (repeat constructor)) ?_)
  refine AOps.v rfl rfl rfl (AVal.moveN (by constructor)) ?_
  refine AOps.v rfl rfl rfl (AVal.extractN rfl rfl (by constructor)) ?_
  refine AOps.v rfl rfl rfl (AVal.extractN rfl rfl (by constructor)) ?_
  refine AOps.v rfl rfl rfl (AVal.extractN rfl rfl (by constructor)) ?_
  refine AOps.v rfl rfl rfl (AVal.assignN (by constructor)) ?_
  refine AOps.v rfl rfl rfl (AVal.assignN (by constructor)) ?_
  refine AOps.v rfl rfl rfl (AVal.assignN (by constructor)) ?_
  refine AOps.nil ?_
  refine ACode.seq ?_
  refine ACode.draws [.p 0, .p 1, .p 2, .l 3, .p 4, .l 5, .e 6 [], .p 7, .p 8, .p 9, .p 10, .p 11] mixed (by kernel_rfl) ?_
  refine ASeq.pv rfl rfl rfl rfl (fun L0 => (AVal.moveN (by constructor))) ?_
  refine ASeq.pv rfl rfl rfl rfl (fun L0 => (AVal.nilCheckP rfl)) ?_
  refine ASeq.pv rfl rfl rfl rfl (fun L0 => (AVal.fieldP rfl rfl)) ?_
  refine ASeq.lv rfl rfl rfl rfl (HasCell.mk 3 rfl rfl (by constructor)) ?_
  refine ASeq.pv rfl rfl rfl rfl (fun L0 => (AVal.fieldP rfl rfl)) ?_
  refine ASeq.lv rfl rfl rfl rfl (HasCell.mk 1 rfl rfl (by constructor)) ?_
  refine ASeq.ev0 rfl rfl rfl rfl rfl (by first | exact Keeps.nil | (repeat first | exact Keeps.nil | refine Keeps.cons (by first | exact HasCell.mk 0 rfl rfl (.refl _) | exact HasCell.mk 1 rfl rfl (.refl _) | exact HasCell.mk 2 rfl rfl (.refl _) | exact HasCell.mk 3 rfl rfl (.refl _) | exact HasCell.mk 4 rfl rfl (.refl _) | exact HasCell.mk 5 rfl rfl (.refl _) | exact HasCell.mk 6 rfl rfl (.refl _) | exact HasCell.mk 7 rfl rfl (.refl _)) ?_)) (AVal.lookupOk (e := 87) (d0 := .nilf) (d1 := .func (.func 53) [.ptr b 0] []) (ok := true) 2 rfl rfl rfl (by kernel_rfl) (by kernel_rfl) (by rw [hget]; rfl) (by rw [hget]; rfl)) ?_
  refine ASeq.pv rfl rfl rfl rfl (fun L0 => (AVal.moveN (by constructor))) ?_
  refine ASeq.pv rfl rfl rfl rfl (fun L0 => (AVal.extractN rfl rfl (by constructor))) ?_
  refine ASeq.pv rfl rfl rfl rfl (fun L0 => (AVal.extractN rfl rfl (by constructor))) ?_
  refine ASeq.pv rfl rfl rfl rfl (fun L0 => (AVal.assignN (by constructor))) ?_
  refine ASeq.pv rfl rfl rfl rfl (fun L0 => (AVal.assignN (by constructor))) ?_
  refine ASeq.nil ?_
  refine ACode.seq ?_
  refine ACode.seq ?_
  refine ACode.region ?_
  refine AOps.v rfl rfl rfl (AVal.moveN (by constructor)) ?_
  refine AOps.v rfl rfl rfl (AVal.not rfl) ?_
  refine AOps.v rfl rfl rfl (AVal.moveN (by constructor)) ?_
  refine AOps.vT rfl rfl rfl rfl rfl rfl (AVal.fieldP rfl rfl) ?_
  refine AOps.vT rfl rfl rfl rfl rfl rfl (AVal.loadPN 1 rfl rfl rfl rfl (by constructor)) ?_
  refine AOps.vT rfl rfl rfl rfl rfl rfl (AVal.eql rfl rfl) ?_
  refine AOps.vT rfl rfl rfl rfl rfl rfl (AVal.moveN (by constructor)) ?_
  refine AOps.split 34 rfl (fun h34 => ?_) (fun h34 => ?_)
  ·
    try simp only [decide_eq_true_eq, decide_eq_false_iff_not, Bool.not_eq_true', Bool.not_eq_false', Bool.and_eq_true, Bool.or_eq_true, beq_iff_eq, beq_eq_false_iff_ne] at h34
    refine AOps.vT rfl rfl rfl rfl rfl rfl (AVal.moveN (by constructor)) ?_
    refine AOps.vT rfl rfl rfl rfl rfl rfl (AVal.not rfl) ?_
    refine AOps.vT rfl rfl rfl rfl rfl rfl (AVal.pickT rfl (by constructor)) ?_
    refine AOps.v rfl rfl rfl (AVal.pickF rfl (by constructor)) ?_
    refine AOps.nil ?_
    refine ACode.condS rfl (fun h38 => ?_) (fun h38 => ?_)
    ·
      try simp only [decide_eq_true_eq, decide_eq_false_iff_not, Bool.not_eq_true', Bool.not_eq_false', Bool.and_eq_true, Bool.or_eq_true, beq_iff_eq, beq_eq_false_iff_ne] at h38
      refine ACode.seq ?_
      refine ACode.region ?_
      refine AOps.v rfl rfl rfl (AVal.loadP (d := encT _) 1 rfl rfl rfl rfl) ?_
      refine AOps.e0 rfl rfl (AOp.storeN 0 rfl rfl rfl (by constructor) rfl rfl rfl (by repeat constructor) (by repeat constructor) ?_)
      refine AOps.v rfl rfl rfl (AVal.assignN (by constructor)) ?_
      refine AOps.nil ?_
      refine ACode.ret ?_
      refine AFin.keepRet rfl (.cons (by first | exact ARead.box (d := encT _) 0 rfl rfl rfl rfl | exact ARead.box (d := encT _) 1 rfl rfl rfl rfl | exact ARead.box (d := encT _) 2 rfl rfl rfl rfl | exact ARead.box (d := encT _) 3 rfl rfl rfl rfl | exact ARead.box (d := encT _) 4 rfl rfl rfl rfl | exact ARead.box (d := encT _) 5 rfl rfl rfl rfl | exact ARead.box (d := encT _) 6 rfl rfl rfl rfl | exact ARead.box (d := encT _) 7 rfl rfl rfl rfl | exact ARead.box 0 rfl rfl rfl rfl | exact ARead.box 1 rfl rfl rfl rfl | exact ARead.box 2 rfl rfl rfl rfl | exact ARead.box 3 rfl rfl rfl rfl | exact ARead.box 4 rfl rfl rfl rfl | exact ARead.box 5 rfl rfl rfl rfl | exact ARead.box 6 rfl rfl rfl rfl | exact ARead.box 7 rfl rfl rfl rfl) (.cons rfl .nil)) (by repeat first | exact List.Sublist.refl _ | apply List.Sublist.cons_cons | apply List.Sublist.cons) ?_
      exact .refl _
    ·
      try simp only [decide_eq_true_eq, decide_eq_false_iff_not, Bool.not_eq_true', Bool.not_eq_false', Bool.and_eq_true, Bool.or_eq_true, beq_iff_eq, beq_eq_false_iff_ne] at h38
      exact absurd h38 (by rw [hsp]; simp) --END
  ·
    try simp only [decide_eq_true_eq, decide_eq_false_iff_not, Bool.not_eq_true', Bool.not_eq_false', Bool.and_eq_true, Bool.or_eq_true, beq_iff_eq, beq_eq_false_iff_ne] at h34
    refine AOps.vF rfl rfl rfl rfl rfl rfl rfl ?_
    refine AOps.vF rfl rfl rfl rfl rfl rfl rfl ?_
    refine AOps.vT rfl rfl rfl rfl rfl rfl (AVal.pickF rfl (by constructor)) ?_
    refine AOps.v rfl rfl rfl (AVal.pickF rfl (by constructor)) ?_
    refine AOps.nil ?_
    refine ACode.condF rfl ?_
    exact absurd h24 h34 --END

end Sp

/- The walks of head: one step, the way to the head. Written by a program of mine. -/
set_option linter.unusedVariables false
set_option linter.unusedSimpArgs false
set_option maxRecDepth 20000
namespace Sp
open Go Go.Proofs

theorem hget_none {b : Nat} {k : Int} (h6 : ¬ k = 6) (h14 : ¬ (k = 14 ∨ k = 15)) (h7 : ¬ k = 7) (h3 : ¬ k = 3) (h18 : ¬ k = 18) (h21 : ¬ k = 21) (h24 : ¬ k = 24) : mget (SM b) k = none := by
  have e : mpos (SM b) k = none := by
    simp only [mpos, SM, List.findIdx?_eq_none_iff, List.mem_cons, List.not_mem_nil, or_false]
    rintro e (rfl | rfl | rfl | rfl | rfl | rfl | rfl | rfl) <;> simp only [decide_eq_false_iff_not] <;> omega
  simp only [mget, e]

theorem step_c (hS : SortedOk) (b mb : Nat) (left : Int) (cs : List Core) (once dn : Bool) (hl : 0 ≤ left ∧ left ≤ 9223372036854775807) (t : Term) (ht : t.fit 1099511627776) (hs : t.sz ≤ 268435456) (hc : CoresOk cs) :
    AMay X 57 [.ptr b 0, encT t] [(mb, .map (SM b)), (b, .cells 71 (workC (left) cs once dn mb))] (stepC cs t ≤ left) (.tup [encT (stepU cs t), .bool (ownStep cs t).isSome]) [(mb, .map (SM b)), (b, .cells 71 (workC (left - stepC cs t) cs once dn mb))] (.iface 76 (.agg [])) [(mb, .map (SM b)), (b, .cells 71 (workC (left) cs once dn mb))] := by
  have hlen := ht.len
  have hp := place_fit ht
  have hps : (place t).sz ≤ 268435456 := Nat.le_trans (place_sz t) hs
  have no : ∀ {f : FuncId}, ownStep cs t = none → AKeep X 57 [.ptr b 0, encT t] [(mb, .map (SM b)), (b, .cells 71 (workC (left) cs once dn mb))] (.tup [encT t, .bool false]) →
      AMay X 57 [.ptr b 0, encT t] [(mb, .map (SM b)), (b, .cells 71 (workC (left) cs once dn mb))] (stepC cs t ≤ left) (.tup [encT (stepU cs t), .bool (ownStep cs t).isSome]) [(mb, .map (SM b)), (b, .cells 71 (workC (left - stepC cs t) cs once dn mb))] (.iface 76 (.agg [])) [(mb, .map (SM b)), (b, .cells 71 (workC (left) cs once dn mb))] := fun {f} ho h => by
    simp only [stepU, stepC, ho, Option.isSome_none, Int.sub_zero]
    exact h.may hl.1
  have go : ∀ (k : Int) (f : FuncId), t.kind = k → mget (SM b) k = some (.func (.func f) [.ptr b 0] []) → ¬ (t.kind = 24 ∧ (spotM t).2.2 = false) →
      (ownStep cs t = none ∧ AKeep X f [.ptr b 0, encT t, encT (place t)] [(b, .cells 71 (workC (left) cs once dn mb))] (.tup [encT t, .bool false]) ∨
        ∃ u c, ownStep cs t = some (u, c) ∧ AMay X f [.ptr b 0, encT t, encT (place t)] [(b, .cells 71 (workC (left) cs once dn mb))] (c ≤ left) (.tup [encT u, .bool true]) [(b, .cells 71 (workC (left - c) cs once dn mb))] (.iface 76 (.agg [])) [(b, .cells 71 (workC (left) cs once dn mb))]) →
      AMay X 57 [.ptr b 0, encT t] [(mb, .map (SM b)), (b, .cells 71 (workC (left) cs once dn mb))] (stepC cs t ≤ left) (.tup [encT (stepU cs t), .bool (ownStep cs t).isSome]) [(mb, .map (SM b)), (b, .cells 71 (workC (left - stepC cs t) cs once dn mb))] (.iface 76 (.agg [])) [(mb, .map (SM b)), (b, .cells 71 (workC (left) cs once dn mb))] := fun k f hk hg h24 h => by
    rcases h with ⟨ho, h⟩ | ⟨u, c, ho, h⟩
    · simp only [stepU, stepC, ho, Option.isSome_none, Int.sub_zero]
      exact step_in b mb left left cs once dn t t false (0 ≤ left) f hlen (by rw [hk]; exact hg) h24 (h.may hl.1)
    · simp only [stepU, stepC, ho, Option.isSome_some]
      exact step_in b mb left (left - c) cs once dn t u true (c ≤ left) f hlen (by rw [hk]; exact hg) h24 h
  by_cases k6 : t.kind = 6
  · refine go 6 _ k6 rfl (by omega) ?_
    by_cases e : (place t).kind = 5
    · exact .inr ⟨_, _, by rw [ownStep, if_pos k6, if_pos e], app_c1 b mb left cs once dn hl t (place t) e ht hp hs hps⟩
    · exact .inl ⟨by rw [ownStep, if_pos k6, if_neg e], app_c0 b mb left cs once dn hl t (place t) e⟩
  by_cases k14 : t.kind = 14 ∨ t.kind = 15
  · have h14 : ∀ (f : FuncId), (mget (SM b) 14 = some (.func (.func f) [.ptr b 0] []) ∧ mget (SM b) 15 = some (.func (.func f) [.ptr b 0] [])) → mget (SM b) t.kind = some (.func (.func f) [.ptr b 0] []) := fun f h => by
      rcases k14 with e | e <;> rw [e]
      · exact h.1
      · exact h.2
    refine go t.kind _ rfl (h14 _ ⟨rfl, rfl⟩) (by omega) ?_
    by_cases e : (place t).kind = 13
    · exact .inr ⟨_, _, by rw [ownStep, if_neg k6, if_pos k14, if_pos e], half_c1 b mb left cs once dn hl t (place t) e ht hp hs hps⟩
    · exact .inl ⟨by rw [ownStep, if_neg k6, if_pos k14, if_neg e], half_c0 b mb left cs once dn hl t (place t) e⟩
  by_cases k7 : t.kind = 7
  · refine go 7 _ k7 rfl (by omega) ?_
    exact .inr ⟨_, _, by rw [ownStep, if_neg k6, if_neg k14, if_pos k7], let_c1 b mb left cs once dn hl t (place t) ht hp hs hps⟩
  by_cases k3 : t.kind = 3
  · refine go 3 _ k3 rfl (by omega) ?_
    have hcc : ∀ c ∈ cs, c.body.fit 1099511627776 ∧ c.body.sz ≤ 4611686018427387904 := fun c h => ⟨(hc c h).1, Nat.le_trans (hc c h).2 (by omega)⟩
    have hb := body_ok hc t.num t.levels
    by_cases e : (bodyM cs t.num t.levels).2 = true
    · exact .inr ⟨_, _, by rw [ownStep, if_neg k6, if_neg k14, if_neg k7, if_pos k3, if_pos e], constant_c1 b mb left cs once dn hl hS t (place t) ht hcc e ⟨fitX hb.1, by omega⟩⟩
    · exact .inl ⟨by rw [ownStep, if_neg k6, if_neg k14, if_neg k7, if_pos k3, if_neg e], constant_c0 b mb left cs once dn hl hS t (place t) ht hcc (by simpa using e)⟩
  by_cases k18 : t.kind = 18
  · refine go 18 _ k18 rfl (by omega) ?_
    by_cases e : (place t).kind = 17
    · exact .inr ⟨_, _, by rw [ownStep, if_neg k6, if_neg k14, if_neg k7, if_neg k3, if_pos k18, if_pos e], tree_c1 b mb left cs once dn hl t (place t) e ht hp hs hps⟩
    · exact .inl ⟨by rw [ownStep, if_neg k6, if_neg k14, if_neg k7, if_neg k3, if_pos k18, if_neg e], tree_c0 b mb left cs once dn hl t (place t) e⟩
  by_cases k21 : t.kind = 21
  · refine go 21 _ k21 rfl (by omega) ?_
    by_cases e : (place t).kind = 20
    · exact .inr ⟨_, _, by rw [ownStep, if_neg k6, if_neg k14, if_neg k7, if_neg k3, if_neg k18, if_pos k21, if_pos e], path_c1 b mb left cs once dn hl t (place t) e ht hp hs hps⟩
    · exact .inl ⟨by rw [ownStep, if_neg k6, if_neg k14, if_neg k7, if_neg k3, if_neg k18, if_pos k21, if_neg e], path_c0 b mb left cs once dn hl t (place t) e⟩
  by_cases k24 : t.kind = 24
  · cases hsp : (spotM t).2.2 with
    | false => exact no (f := 0) (by rw [ownStep, if_neg k6, if_neg k14, if_neg k7, if_neg k3, if_neg k18, if_neg k21, if_pos k24, if_neg (fun q => by rw [hsp] at q; cases q.1)]) (step_24 b mb left cs once dn t hlen k24 hsp)
    | true =>
      have hr := spot_range hsp (by omega)
      refine go 24 _ k24 rfl (by rw [hsp]; simp) ?_
      by_cases e : ((place t).kind = 23 ∧ 0 ≤ (place t).num ∧ (place t).num < t.at_)
      · exact .inr ⟨_, _, by rw [ownStep, if_neg k6, if_neg k14, if_neg k7, if_neg k3, if_neg k18, if_neg k21, if_pos k24, if_pos ⟨hsp, e⟩], branch_c1 b mb left cs once dn hl t (place t) e (by omega) ht hp hs hps⟩
      · exact .inl ⟨by rw [ownStep, if_neg k6, if_neg k14, if_neg k7, if_neg k3, if_neg k18, if_neg k21, if_pos k24, if_neg (fun q => e q.2)], branch_c0 b mb left cs once dn hl t (place t) e⟩
  · exact no (f := 0) (by rw [ownStep, if_neg k6, if_neg k14, if_neg k7, if_neg k3, if_neg k18, if_neg k21, if_neg k24]) (step_none b mb left cs once dn t hlen (hget_none k6 k14 k7 k3 k18 k21 k24))

end Sp

/- The walks of head: the way to the head, in one step and in all. Written by a program of mine. -/
set_option linter.unusedVariables false
set_option linter.unusedSimpArgs false
set_option maxRecDepth 20000
namespace Sp
open Go Go.Proofs

theorem head_c (hS : SortedOk) (b mb : Nat) (cs : List Core) (hc : CoresOk cs) : ∀ (n : Nat) (left : Int), left.toNat = n → ∀ (m : Nat) (t : Term), spz t = m → ∀ dn : Bool, 0 ≤ left → t.fit 1099511627776 → (psz t : Int) + 7 * left ≤ 268435456 → AMay X 25 [.ptr b 0, encT t] [(mb, .map (SM b)), (b, .cells 71 (workC (left) cs false dn mb))] ((multi cs t left dn).1 = true) (encT (multi cs t left dn).2.1) [(mb, .map (SM b)), (b, .cells 71 (workC ((multi cs t left dn).2.2.1) cs false (multi cs t left dn).2.2.2 mb))] (.iface 76 (.agg [])) [(mb, .map (SM b)), (b, .cells 71 (workC ((multi cs t left dn).2.2.1) cs false (multi cs t left dn).2.2.2 mb))] := by
  intro n
  induction n using Nat.strongRecOn with
  | _ n ihn =>
  intro left hn m
  induction m using Nat.strongRecOn with
  | _ m ihm =>
  intro t hm dn hl0 htf htz
  refine ACalls.of_code Tryz.func25 rfl (by rfl) (Nat.le_of_ble_eq_true rfl) ?_
  refine ACode.seq ?_
  refine ACode.region ?_
  refine AOps.e rfl rfl rfl (AOp.boxA rfl (fun b3 => ?_))
  refine AOps.e rfl rfl rfl (AOp.allocN rfl rfl (fun b4 => ?_))
  refine AOps.nil ?_
  refine ACode.block ?_
  refine ACode.loop (γ := Term × Int × Bool) (fun g => [(0, .ptr b 0), (3, .ptr b3 0), (4, .ptr b4 0)]) (fun g => [(b4, .cells 27 [.int .i64 0, .int .i64 0, .int .i64 0, .emp, .emp]), (b3, .cells 27 (cellsT g.1)), (mb, .map (SM b)), (b, .cells 71 (workC g.2.1 cs false g.2.2 mb))]) (fun g => multi cs g.1 g.2.1 g.2.2 = multi cs t left dn ∧ g.1.fit 1099511627776 ∧ (psz g.1 : Int) + 7 * g.2.1 ≤ 268435456 ∧ 0 ≤ g.2.1 ∧ (g.2.1 < left ∨ (g.2.1 = left ∧ spz g.1 = m))) (fun g => g.2.1.toNat) (t, left, dn) ⟨rfl, htf, htz, hl0, .inr ⟨rfl, hm⟩⟩ (by repeat first | exact Agree.nil | refine Agree.cons (.refl _) ?_) (by repeat first | exact List.Sublist.refl _ | apply List.Sublist.cons_cons | apply List.Sublist.cons | exact List.nil_sublist _) ?_
  rintro ⟨u, F, d⟩ ⟨hg, hf, hz, hF0, hord⟩ t1
  simp only at hg hf hz hF0 hord ⊢
  have hlen40 := hf.len
  have hlen : u.kids.length ≤ 4611686018427387904 := by omega
  refine ACode.block ?_
  refine ACode.seq ?_
  refine ACode.seq ?_
  refine ACode.region ?_
  refine AOps.v rfl rfl rfl (AVal.loadP (d := encT _) 1 rfl rfl rfl rfl) ?_
  refine AOps.e rfl rfl rfl (AOp.callP (spot_c u hlen40) (by first | exact LeL.eq rfl | (repeat constructor)) ?_)
  refine AOps.v rfl rfl rfl (AVal.moveN (by constructor)) ?_
  refine AOps.v rfl rfl rfl (AVal.extractN rfl rfl (by constructor)) ?_
  refine AOps.v rfl rfl rfl (AVal.extractN rfl rfl (by constructor)) ?_
  refine AOps.v rfl rfl rfl (AVal.extractN rfl rfl (by constructor)) ?_
  refine AOps.v rfl rfl rfl (AVal.assignN (by constructor)) ?_
  refine AOps.v rfl rfl rfl (AVal.assignN (by constructor)) ?_
  refine AOps.v rfl rfl rfl (AVal.assignN (by constructor)) ?_
  refine AOps.nil ?_
  refine ACode.seq ?_
  refine ACode.region ?_
  refine AOps.v rfl rfl rfl (AVal.moveN (by constructor)) ?_
  refine AOps.nil ?_
  refine ACode.condS rfl (fun h16 => ?_) (fun h16 => ?_)
  ·
    try simp only [decide_eq_true_eq, decide_eq_false_iff_not, Bool.not_eq_true', Bool.not_eq_false', Bool.and_eq_true, Bool.or_eq_true, beq_iff_eq, beq_eq_false_iff_ne] at h16
    have hU := behind_ok (d := d) hc hf hF0 hz h16
    have hpk := psz_kid h16 hlen
    have hsk := spz_kid h16
    have hrec : AMay X 25 [.ptr b 0, encT (kid u (spotM u).1)] [(mb, .map (SM b)), (b, .cells 71 (workC (F) cs false d mb))] ((multi cs (kid u (spotM u).1) F d).1 = true) (encT (multi cs (kid u (spotM u).1) F d).2.1) [(mb, .map (SM b)), (b, .cells 71 (workC ((multi cs (kid u (spotM u).1) F d).2.2.1) cs false (multi cs (kid u (spotM u).1) F d).2.2.2 mb))] (.iface 76 (.agg [])) [(mb, .map (SM b)), (b, .cells 71 (workC ((multi cs (kid u (spotM u).1) F d).2.2.1) cs false (multi cs (kid u (spotM u).1) F d).2.2.2 mb))] := by
      rcases hord with hlt | ⟨heq, hsp⟩
      · exact ihn F.toNat (by omega) F rfl _ (kid u (spotM u).1) rfl d hF0 (kid_fit hf _) (by omega)
      · subst heq
        exact ihm _ (by omega) (kid u (spotM u).1) rfl d hF0 (kid_fit hf _) (by omega)
    refine ACode.seq ?_
    refine ACode.draws [.l 0, .p 1, .l 2, .p 3, .p 4, .p 6, .p 7, .e 5 [0], .p 8, .e 9 []] mixed (by kernel_rfl) ?_
    refine ASeq.lv rfl rfl rfl rfl (HasCell.mk (d := encT _) 1 rfl rfl (.refl _)) ?_
    refine ASeq.pv rfl rfl rfl rfl (fun L0 => (AVal.moveN (by constructor))) ?_
    refine ASeq.lv rfl rfl rfl rfl (HasCell.mk (d := encT _) 1 rfl rfl (.refl _)) ?_
    refine ASeq.pv rfl rfl rfl rfl (fun L0 => (AVal.moveN (by constructor))) ?_
    refine ASeq.pe rfl rfl rfl rfl (fun L0 => (AOp.callP (kid_c u (spotM u).1) (by first | exact LeL.eq rfl | (repeat constructor)) ⟨rfl, rfl⟩)) ?_
    refine ASeq.pv rfl rfl rfl rfl (fun L0 => (AVal.moveN (by constructor))) ?_
    refine ASeq.pv rfl rfl rfl rfl (fun L0 => (AVal.moveN (by constructor))) ?_
    refine ASeq.ee rfl rfl rfl rfl rfl (AOp.callM [_, _] (hrec) (by first | exact LeL.eq rfl | (repeat constructor)) rfl (fun hokR => ⟨(by first | exact Keeps.nil | (repeat first | exact Keeps.nil | refine Keeps.cons (by first | exact HasCell.mk 0 rfl rfl (.refl _) | exact HasCell.mk 1 rfl rfl (.refl _) | exact HasCell.mk 2 rfl rfl (.refl _) | exact HasCell.mk 3 rfl rfl (.refl _) | exact HasCell.mk 4 rfl rfl (.refl _) | exact HasCell.mk 5 rfl rfl (.refl _) | exact HasCell.mk 6 rfl rfl (.refl _) | exact HasCell.mk 7 rfl rfl (.refl _)) ?_)), ?_⟩) (fun hno => ?_))
    ·
      refine ASeq.pe rfl rfl rfl rfl (fun L0 => (AOp.callP (with_c u (multi cs (kid u (spotM u).1) F d).2.1 (spotM u).1 (spotM u).2.1 (spot_many (B := 1099511627776) h16 hlen40 (by omega) (by omega))) (by first | exact LeL.eq rfl | (repeat constructor)) ⟨rfl, rfl⟩)) ?_
      refine ASeq.ee0 rfl rfl rfl rfl (AOp.storeN 1 rfl rfl rfl (by constructor) rfl rfl rfl (by repeat constructor) (by repeat constructor) ⟨(by first | exact Keeps.nil | (repeat first | exact Keeps.nil | refine Keeps.cons (by first | exact HasCell.mk 0 rfl rfl (.refl _) | exact HasCell.mk 1 rfl rfl (.refl _) | exact HasCell.mk 2 rfl rfl (.refl _) | exact HasCell.mk 3 rfl rfl (.refl _) | exact HasCell.mk 4 rfl rfl (.refl _) | exact HasCell.mk 5 rfl rfl (.refl _) | exact HasCell.mk 6 rfl rfl (.refl _) | exact HasCell.mk 7 rfl rfl (.refl _)) ?_)), ?_⟩)
      refine ASeq.nil ?_
      refine ACode.seq ?_
      refine ACode.region ?_
      refine AOps.v rfl rfl rfl (AVal.moveN (by constructor)) ?_
      refine AOps.v rfl rfl rfl (AVal.nilCheckP rfl) ?_
      refine AOps.v rfl rfl rfl (AVal.fieldP rfl rfl) ?_
      refine AOps.v rfl rfl rfl (AVal.loadPN 3 rfl rfl rfl rfl (by constructor)) ?_
      refine AOps.v rfl rfl rfl (AVal.moveN (by constructor)) ?_
      refine AOps.vF rfl rfl rfl rfl rfl rfl rfl ?_
      refine AOps.vF rfl rfl rfl rfl rfl rfl rfl ?_
      refine AOps.vF rfl rfl rfl rfl rfl rfl rfl ?_
      refine AOps.vF rfl rfl rfl rfl rfl rfl rfl ?_
      refine AOps.v rfl rfl rfl (AVal.pickF rfl (by constructor)) ?_
      refine AOps.nil ?_
      refine ACode.condF rfl ?_
      refine ACode.skip ?_
      refine ACode.seq ?_
      refine ACode.region ?_
      refine AOps.v rfl rfl rfl (AVal.moveN (by constructor)) ?_
      refine AOps.v rfl rfl rfl (AVal.loadP (d := encT _) 1 rfl rfl rfl rfl) ?_
      refine AOps.e rfl rfl rfl (AOp.callM [_, _] (step_c hS b mb (multi cs (kid u (spotM u).1) F d).2.2.1 cs false (multi cs (kid u (spotM u).1) F d).2.2.2 ⟨hU.1, by have := hU.2.1; omega⟩ (withM u (multi cs (kid u (spotM u).1) F d).2.1 (spotM u).1 (spotM u).2.1) (hU.2.2 hokR).1 (by have := (hU.2.2 hokR).2.1; have := hU.1; omega) hc) (by first | exact LeL.eq rfl | (repeat constructor)) rfl (fun hok => ?_) (fun hno => ?_))
      ·
        refine AOps.v rfl rfl rfl (AVal.moveN (by constructor)) ?_
        refine AOps.v rfl rfl rfl (AVal.extractN rfl rfl (by constructor)) ?_
        refine AOps.v rfl rfl rfl (AVal.extractN rfl rfl (by constructor)) ?_
        refine AOps.e rfl rfl rfl (AOp.allocN rfl rfl (fun b8 => ?_))
        refine AOps.e0 rfl rfl (AOp.storeN 0 rfl rfl rfl (by constructor) rfl rfl rfl (by repeat constructor) (by repeat constructor) ?_)
        refine AOps.v rfl rfl rfl (AVal.assignN (by constructor)) ?_
        refine AOps.nil ?_
        refine ACode.seq ?_
        refine ACode.seq ?_
        refine ACode.region ?_
        refine AOps.v rfl rfl rfl (AVal.moveN (by constructor)) ?_
        refine AOps.v rfl rfl rfl (AVal.not rfl) ?_
        refine AOps.nil ?_
        refine ACode.condS rfl (fun h44 => ?_) (fun h44 => ?_)
        ·
          try simp only [decide_eq_true_eq, decide_eq_false_iff_not, Bool.not_eq_true', Bool.not_eq_false', Bool.and_eq_true, Bool.or_eq_true, beq_iff_eq, beq_eq_false_iff_ne] at h44
          have hm : multi cs t left dn = (true, (withM u (multi cs (kid u (spotM u).1) F d).2.1 (spotM u).1 (spotM u).2.1), (multi cs (kid u (spotM u).1) F d).2.2.1, (multi cs (kid u (spotM u).1) F d).2.2.2) := by rw [← hg, (hU.2.2 hokR).2.2]; exact rest_none h44
          rw [hm, (step_no h44).2, Int.sub_zero]
          refine ACode.seq ?_
          refine ACode.region ?_
          refine AOps.v rfl rfl rfl (AVal.loadP (d := encT _) 2 rfl rfl rfl rfl) ?_
          refine AOps.e0 rfl rfl (AOp.storeN 1 rfl rfl rfl (by constructor) rfl rfl rfl (by repeat constructor) (by repeat constructor) ?_)
          refine AOps.nil ?_
          refine ACode.ret ?_
          refine AFin.mayRet rfl (.cons (by first | exact ARead.box (d := encT _) 0 rfl rfl rfl rfl | exact ARead.box (d := encT _) 1 rfl rfl rfl rfl | exact ARead.box (d := encT _) 2 rfl rfl rfl rfl | exact ARead.box (d := encT _) 3 rfl rfl rfl rfl | exact ARead.box (d := encT _) 4 rfl rfl rfl rfl | exact ARead.box (d := encT _) 5 rfl rfl rfl rfl | exact ARead.box (d := encT _) 6 rfl rfl rfl rfl | exact ARead.box (d := encT _) 7 rfl rfl rfl rfl | exact ARead.box 0 rfl rfl rfl rfl | exact ARead.box 1 rfl rfl rfl rfl | exact ARead.box 2 rfl rfl rfl rfl | exact ARead.box 3 rfl rfl rfl rfl | exact ARead.box 4 rfl rfl rfl rfl | exact ARead.box 5 rfl rfl rfl rfl | exact ARead.box 6 rfl rfl rfl rfl | exact ARead.box 7 rfl rfl rfl rfl) .nil) (by repeat first | exact List.Sublist.refl _ | apply List.Sublist.cons_cons | apply List.Sublist.cons) ?_ (rfl)
          exact .refl _
        ·
          try simp only [decide_eq_true_eq, decide_eq_false_iff_not, Bool.not_eq_true', Bool.not_eq_false', Bool.and_eq_true, Bool.or_eq_true, beq_iff_eq, beq_eq_false_iff_ne] at h44
          obtain ⟨hUf, hUz, hUm⟩ := hU.2.2 hokR
          have hU0 := hU.1
          have hU1 := hU.2.1
          have ho := own_ok hc hUf (by omega) (step_yes h44)
          have h7 := psz_le _ (stepU cs (withM u (multi cs (kid u (spotM u).1) F d).2.1 (spotM u).1 (spotM u).2.1)) rfl ho.2.2.1
          refine ACode.skip ?_
          refine ACode.seq ?_
          refine ACode.region ?_
          refine AOps.v rfl rfl rfl (AVal.moveN (by constructor)) ?_
          refine AOps.v rfl rfl rfl (AVal.loadP (d := encT _) 0 rfl rfl rfl rfl) ?_
          refine AOps.e0 rfl rfl (AOp.storeN 2 rfl rfl rfl (by constructor) rfl rfl rfl (by repeat constructor) (by repeat constructor) ?_)
          refine AOps.v rfl rfl rfl (AVal.nilCheckP rfl) ?_
          refine AOps.v rfl rfl rfl (AVal.fieldP rfl rfl) ?_
          refine AOps.e0 rfl rfl (AOp.storeN 4 rfl rfl rfl (by constructor) rfl rfl rfl (by repeat constructor) (by repeat constructor) ?_)
          refine AOps.nil ?_
          refine ACode.seq ?_
          refine ACode.region ?_
          refine AOps.v rfl rfl rfl (AVal.moveN (by constructor)) ?_
          refine AOps.v rfl rfl rfl (AVal.nilCheckP rfl) ?_
          refine AOps.v rfl rfl rfl (AVal.fieldP rfl rfl) ?_
          refine AOps.v rfl rfl rfl (AVal.loadPN 4 rfl rfl rfl rfl (by constructor)) ?_
          refine AOps.nil ?_
          refine ACode.condF rfl ?_
          refine ACode.skip ?_
          refine ⟨(stepU cs (withM u (multi cs (kid u (spotM u).1) F d).2.1 (spotM u).1 (spotM u).2.1), (multi cs (kid u (spotM u).1) F d).2.2.1 - stepC cs (withM u (multi cs (kid u (spotM u).1) F d).2.1 (spotM u).1 (spotM u).2.1), true), ⟨?_, ho.2.2.1, by simp only; omega, by simp only; omega, .inl (by simp only; omega)⟩, by simp only; omega, rfl, (by repeat first | exact Agree.nil | refine Agree.cons (.refl _) ?_), (by repeat first | exact List.Sublist.refl _ | apply List.Sublist.cons_cons | apply List.Sublist.cons | exact List.nil_sublist _)⟩
          show multi cs _ _ true = _
          rw [← hg, hUm]
          exact (rest_some h44 ho.1 hok).symm
      ·
        have hm : multi cs t left dn = (false, T0, (multi cs (kid u (spotM u).1) F d).2.2.1, (multi cs (kid u (spotM u).1) F d).2.2.2) := by rw [← hg, (hU.2.2 hokR).2.2]; exact rest_gone hU.1 hno
        rw [hm]
        exact AFin.mayPan (X := X) (fn := Tryz.f25) rfl (by repeat first | exact List.Sublist.refl _ | apply List.Sublist.cons_cons | apply List.Sublist.cons | exact List.nil_sublist _) (by simp)
    ·
      have hm : multi cs t left dn = (false, T0, (multi cs (kid u (spotM u).1) F d).2.2.1, (multi cs (kid u (spotM u).1) F d).2.2.2) := by rw [← hg, multi_T _ rfl h16 hlen, after]; rw [show (multi cs (kid u (spotM u).1) F d).1 = false by simpa using hno]; rfl
      rw [hm]
      exact AFin.mayPan (X := X) (fn := Tryz.f25) rfl (by repeat first | exact List.Sublist.refl _ | apply List.Sublist.cons_cons | apply List.Sublist.cons | exact List.nil_sublist _) (by simp)
  ·
    try simp only [decide_eq_true_eq, decide_eq_false_iff_not, Bool.not_eq_true', Bool.not_eq_false', Bool.and_eq_true, Bool.or_eq_true, beq_iff_eq, beq_eq_false_iff_ne] at h16
    have hU : u.fit 1099511627776 ∧ (u.sz : Int) + 7 * F ≤ 268435456 ∧ multi cs u F d = rest cs u F d := ⟨hf, by rw [psz_F h16] at hz; exact hz, multi_F h16⟩
    refine ACode.skip ?_
    refine ACode.seq ?_
    refine ACode.region ?_
    refine AOps.v rfl rfl rfl (AVal.moveN (by constructor)) ?_
    refine AOps.v rfl rfl rfl (AVal.loadP (d := encT _) 1 rfl rfl rfl rfl) ?_
    refine AOps.e rfl rfl rfl (AOp.callM [_, _] (step_c hS b mb F cs false d ⟨hF0, by omega⟩ u hf (by have := hU.2.1; omega) hc) (by first | exact LeL.eq rfl | (repeat constructor)) rfl (fun hok => ?_) (fun hno => ?_))
    ·
      refine AOps.v rfl rfl rfl (AVal.moveN (by constructor)) ?_
      refine AOps.v rfl rfl rfl (AVal.extractN rfl rfl (by constructor)) ?_
      refine AOps.v rfl rfl rfl (AVal.extractN rfl rfl (by constructor)) ?_
      refine AOps.e rfl rfl rfl (AOp.allocN rfl rfl (fun b8 => ?_))
      refine AOps.e0 rfl rfl (AOp.storeN 0 rfl rfl rfl (by constructor) rfl rfl rfl (by repeat constructor) (by repeat constructor) ?_)
      refine AOps.v rfl rfl rfl (AVal.assignN (by constructor)) ?_
      refine AOps.nil ?_
      refine ACode.seq ?_
      refine ACode.seq ?_
      refine ACode.region ?_
      refine AOps.v rfl rfl rfl (AVal.moveN (by constructor)) ?_
      refine AOps.v rfl rfl rfl (AVal.not rfl) ?_
      refine AOps.nil ?_
      refine ACode.condS rfl (fun h44 => ?_) (fun h44 => ?_)
      ·
        try simp only [decide_eq_true_eq, decide_eq_false_iff_not, Bool.not_eq_true', Bool.not_eq_false', Bool.and_eq_true, Bool.or_eq_true, beq_iff_eq, beq_eq_false_iff_ne] at h44
        have hm : multi cs t left dn = (true, u, F, d) := by rw [← hg, (hU).2.2]; exact rest_none h44
        rw [hm, (step_no h44).2, Int.sub_zero]
        refine ACode.seq ?_
        refine ACode.region ?_
        refine AOps.v rfl rfl rfl (AVal.loadP (d := encT _) 2 rfl rfl rfl rfl) ?_
        refine AOps.e0 rfl rfl (AOp.storeN 1 rfl rfl rfl (by constructor) rfl rfl rfl (by repeat constructor) (by repeat constructor) ?_)
        refine AOps.nil ?_
        refine ACode.ret ?_
        refine AFin.mayRet rfl (.cons (by first | exact ARead.box (d := encT _) 0 rfl rfl rfl rfl | exact ARead.box (d := encT _) 1 rfl rfl rfl rfl | exact ARead.box (d := encT _) 2 rfl rfl rfl rfl | exact ARead.box (d := encT _) 3 rfl rfl rfl rfl | exact ARead.box (d := encT _) 4 rfl rfl rfl rfl | exact ARead.box (d := encT _) 5 rfl rfl rfl rfl | exact ARead.box (d := encT _) 6 rfl rfl rfl rfl | exact ARead.box (d := encT _) 7 rfl rfl rfl rfl | exact ARead.box 0 rfl rfl rfl rfl | exact ARead.box 1 rfl rfl rfl rfl | exact ARead.box 2 rfl rfl rfl rfl | exact ARead.box 3 rfl rfl rfl rfl | exact ARead.box 4 rfl rfl rfl rfl | exact ARead.box 5 rfl rfl rfl rfl | exact ARead.box 6 rfl rfl rfl rfl | exact ARead.box 7 rfl rfl rfl rfl) .nil) (by repeat first | exact List.Sublist.refl _ | apply List.Sublist.cons_cons | apply List.Sublist.cons) ?_ (rfl)
        exact .refl _
      ·
        try simp only [decide_eq_true_eq, decide_eq_false_iff_not, Bool.not_eq_true', Bool.not_eq_false', Bool.and_eq_true, Bool.or_eq_true, beq_iff_eq, beq_eq_false_iff_ne] at h44
        obtain ⟨hUf, hUz, hUm⟩ := hU
        have hU1 : F ≤ F := Int.le_refl _
        have ho := own_ok hc hUf (by omega) (step_yes h44)
        have h7 := psz_le _ (stepU cs u) rfl ho.2.2.1
        refine ACode.skip ?_
        refine ACode.seq ?_
        refine ACode.region ?_
        refine AOps.v rfl rfl rfl (AVal.moveN (by constructor)) ?_
        refine AOps.v rfl rfl rfl (AVal.loadP (d := encT _) 0 rfl rfl rfl rfl) ?_
        refine AOps.e0 rfl rfl (AOp.storeN 2 rfl rfl rfl (by constructor) rfl rfl rfl (by repeat constructor) (by repeat constructor) ?_)
        refine AOps.v rfl rfl rfl (AVal.nilCheckP rfl) ?_
        refine AOps.v rfl rfl rfl (AVal.fieldP rfl rfl) ?_
        refine AOps.e0 rfl rfl (AOp.storeN 4 rfl rfl rfl (by constructor) rfl rfl rfl (by repeat constructor) (by repeat constructor) ?_)
        refine AOps.nil ?_
        refine ACode.seq ?_
        refine ACode.region ?_
        refine AOps.v rfl rfl rfl (AVal.moveN (by constructor)) ?_
        refine AOps.v rfl rfl rfl (AVal.nilCheckP rfl) ?_
        refine AOps.v rfl rfl rfl (AVal.fieldP rfl rfl) ?_
        refine AOps.v rfl rfl rfl (AVal.loadPN 4 rfl rfl rfl rfl (by constructor)) ?_
        refine AOps.nil ?_
        refine ACode.condF rfl ?_
        refine ACode.skip ?_
        refine ⟨(stepU cs u, F - stepC cs u, true), ⟨?_, ho.2.2.1, by simp only; omega, by simp only; omega, .inl (by simp only; omega)⟩, by simp only; omega, rfl, (by repeat first | exact Agree.nil | refine Agree.cons (.refl _) ?_), (by repeat first | exact List.Sublist.refl _ | apply List.Sublist.cons_cons | apply List.Sublist.cons | exact List.nil_sublist _)⟩
        show multi cs _ _ true = _
        rw [← hg, hUm]
        exact (rest_some h44 ho.1 hok).symm
    ·
      have hm : multi cs t left dn = (false, T0, F, d) := by rw [← hg, (hU).2.2]; exact rest_gone hF0 hno
      rw [hm]
      exact AFin.mayPan (X := X) (fn := Tryz.f25) rfl (by repeat first | exact List.Sublist.refl _ | apply List.Sublist.cons_cons | apply List.Sublist.cons | exact List.nil_sublist _) (by simp)

theorem head1_c (hS : SortedOk) (b mb : Nat) (cs : List Core) (hc : CoresOk cs) (left : Int) (hl : 72057596190000000 ≤ left ∧ left ≤ 9223372036854775807) : ∀ (m : Nat) (t : Term), spz t = m → t.fit 1099511627776 → psz t ≤ 268435456 → AMay X 25 [.ptr b 0, encT t] [(mb, .map (SM b)), (b, .cells 71 (workC (left) cs true false mb))] True (encT (onceT cs t)) [(mb, .map (SM b)), (b, .cells 71 (workC (left - onceC cs t) cs true (stepOnce cs t).isSome mb))] (.iface 76 (.agg [])) [(mb, .map (SM b)), (b, .cells 71 (workC (left) cs true false mb))] := by
  intro m
  induction m using Nat.strongRecOn with
  | _ m ihm =>
  intro t hm hf hz
  have hlen40 := hf.len
  have hlen : t.kids.length ≤ 4611686018427387904 := by omega
  refine ACalls.of_code Tryz.func25 rfl (by rfl) (Nat.le_of_ble_eq_true rfl) ?_
  refine ACode.seq ?_
  refine ACode.region ?_
  refine AOps.e rfl rfl rfl (AOp.boxA rfl (fun b3 => ?_))
  refine AOps.e rfl rfl rfl (AOp.allocN rfl rfl (fun b4 => ?_))
  refine AOps.nil ?_
  refine ACode.block ?_
  refine ACode.loop (γ := Unit) (fun g => [(0, .ptr b 0), (3, .ptr b3 0), (4, .ptr b4 0)]) (fun g => [(b4, .cells 27 [.int .i64 0, .int .i64 0, .int .i64 0, .emp, .emp]), (b3, .cells 27 (cellsT t)), (mb, .map (SM b)), (b, .cells 71 (workC left cs true false mb))]) (fun g => True) (fun g => 0) () trivial (by repeat first | exact Agree.nil | refine Agree.cons (.refl _) ?_) (by repeat first | exact List.Sublist.refl _ | apply List.Sublist.cons_cons | apply List.Sublist.cons | exact List.nil_sublist _) ?_
  intro _ _ t1
  refine ACode.block ?_
  refine ACode.seq ?_
  refine ACode.seq ?_
  refine ACode.region ?_
  refine AOps.v rfl rfl rfl (AVal.loadP (d := encT _) 1 rfl rfl rfl rfl) ?_
  refine AOps.e rfl rfl rfl (AOp.callP (spot_c t hlen40) (by first | exact LeL.eq rfl | (repeat constructor)) ?_)
  refine AOps.v rfl rfl rfl (AVal.moveN (by constructor)) ?_
  refine AOps.v rfl rfl rfl (AVal.extractN rfl rfl (by constructor)) ?_
  refine AOps.v rfl rfl rfl (AVal.extractN rfl rfl (by constructor)) ?_
  refine AOps.v rfl rfl rfl (AVal.extractN rfl rfl (by constructor)) ?_
  refine AOps.v rfl rfl rfl (AVal.assignN (by constructor)) ?_
  refine AOps.v rfl rfl rfl (AVal.assignN (by constructor)) ?_
  refine AOps.v rfl rfl rfl (AVal.assignN (by constructor)) ?_
  refine AOps.nil ?_
  refine ACode.seq ?_
  refine ACode.region ?_
  refine AOps.v rfl rfl rfl (AVal.moveN (by constructor)) ?_
  refine AOps.nil ?_
  refine ACode.condS rfl (fun h16 => ?_) (fun h16 => ?_)
  ·
    try simp only [decide_eq_true_eq, decide_eq_false_iff_not, Bool.not_eq_true', Bool.not_eq_false', Bool.and_eq_true, Bool.or_eq_true, beq_iff_eq, beq_eq_false_iff_ne] at h16
    have hpk := psz_kid h16 hlen
    have hrec := ihm _ (by rw [← hm]; exact spz_kid h16) (kid t (spotM t).1) rfl (kid_fit hf _) (by omega)
    refine ACode.seq ?_
    refine ACode.draws [.l 0, .p 1, .l 2, .p 3, .p 4, .p 6, .p 7, .e 5 [0], .p 8, .e 9 []] mixed (by kernel_rfl) ?_
    refine ASeq.lv rfl rfl rfl rfl (HasCell.mk (d := encT _) 1 rfl rfl (.refl _)) ?_
    refine ASeq.pv rfl rfl rfl rfl (fun L0 => (AVal.moveN (by constructor))) ?_
    refine ASeq.lv rfl rfl rfl rfl (HasCell.mk (d := encT _) 1 rfl rfl (.refl _)) ?_
    refine ASeq.pv rfl rfl rfl rfl (fun L0 => (AVal.moveN (by constructor))) ?_
    refine ASeq.pe rfl rfl rfl rfl (fun L0 => (AOp.callP (kid_c t (spotM t).1) (by first | exact LeL.eq rfl | (repeat constructor)) ⟨rfl, rfl⟩)) ?_
    refine ASeq.pv rfl rfl rfl rfl (fun L0 => (AVal.moveN (by constructor))) ?_
    refine ASeq.pv rfl rfl rfl rfl (fun L0 => (AVal.moveN (by constructor))) ?_
    refine ASeq.ee rfl rfl rfl rfl rfl (AOp.callM [_, _] (hrec) (by first | exact LeL.eq rfl | (repeat constructor)) rfl (fun hokR => ⟨(by first | exact Keeps.nil | (repeat first | exact Keeps.nil | refine Keeps.cons (by first | exact HasCell.mk 0 rfl rfl (.refl _) | exact HasCell.mk 1 rfl rfl (.refl _) | exact HasCell.mk 2 rfl rfl (.refl _) | exact HasCell.mk 3 rfl rfl (.refl _) | exact HasCell.mk 4 rfl rfl (.refl _) | exact HasCell.mk 5 rfl rfl (.refl _) | exact HasCell.mk 6 rfl rfl (.refl _) | exact HasCell.mk 7 rfl rfl (.refl _)) ?_)), ?_⟩) (fun hno => ?_))
    ·
      refine ASeq.pe rfl rfl rfl rfl (fun L0 => (AOp.callP (with_c t (onceT cs (kid t (spotM t).1)) (spotM t).1 (spotM t).2.1 (spot_many (B := 1099511627776) h16 hlen40 (by omega) (by omega))) (by first | exact LeL.eq rfl | (repeat constructor)) ⟨rfl, rfl⟩)) ?_
      refine ASeq.ee0 rfl rfl rfl rfl (AOp.storeN 1 rfl rfl rfl (by constructor) rfl rfl rfl (by repeat constructor) (by repeat constructor) ⟨(by first | exact Keeps.nil | (repeat first | exact Keeps.nil | refine Keeps.cons (by first | exact HasCell.mk 0 rfl rfl (.refl _) | exact HasCell.mk 1 rfl rfl (.refl _) | exact HasCell.mk 2 rfl rfl (.refl _) | exact HasCell.mk 3 rfl rfl (.refl _) | exact HasCell.mk 4 rfl rfl (.refl _) | exact HasCell.mk 5 rfl rfl (.refl _) | exact HasCell.mk 6 rfl rfl (.refl _) | exact HasCell.mk 7 rfl rfl (.refl _)) ?_)), ?_⟩)
      refine ASeq.nil ?_
      refine ACode.seq ?_
      refine ACode.region ?_
      refine AOps.v rfl rfl rfl (AVal.moveN (by constructor)) ?_
      refine AOps.v rfl rfl rfl (AVal.nilCheckP rfl) ?_
      refine AOps.v rfl rfl rfl (AVal.fieldP rfl rfl) ?_
      refine AOps.v rfl rfl rfl (AVal.loadPN 3 rfl rfl rfl rfl (by constructor)) ?_
      refine AOps.v rfl rfl rfl (AVal.moveN (by constructor)) ?_
      refine AOps.vT rfl rfl rfl rfl rfl rfl (AVal.moveN (by constructor)) ?_
      refine AOps.vT rfl rfl rfl rfl rfl rfl (AVal.nilCheckP rfl) ?_
      refine AOps.vT rfl rfl rfl rfl rfl rfl (AVal.fieldP rfl rfl) ?_
      refine AOps.vT rfl rfl rfl rfl rfl rfl (AVal.loadPN 3 rfl rfl rfl rfl (by constructor)) ?_
      refine AOps.v rfl rfl rfl (AVal.pickT rfl (by constructor)) ?_
      refine AOps.nil ?_
      refine ACode.condS rfl (fun h35 => ?_) (fun h35 => ?_)
      ·
        try simp only [decide_eq_true_eq, decide_eq_false_iff_not, Bool.not_eq_true', Bool.not_eq_false', Bool.and_eq_true, Bool.or_eq_true, beq_iff_eq, beq_eq_false_iff_ne] at h35
        obtain ⟨n1, n2, n3⟩ := once_kid h16 h35
        rw [n1, n2, n3, h35]
        refine ACode.seq ?_
        refine ACode.region ?_
        refine AOps.v rfl rfl rfl (AVal.loadP (d := encT _) 1 rfl rfl rfl rfl) ?_
        refine AOps.e0 rfl rfl (AOp.storeN 0 rfl rfl rfl (by constructor) rfl rfl rfl (by repeat constructor) (by repeat constructor) ?_)
        refine AOps.nil ?_
        refine ACode.ret ?_
        refine AFin.mayRet rfl (.cons (by first | exact ARead.box (d := encT _) 0 rfl rfl rfl rfl | exact ARead.box (d := encT _) 1 rfl rfl rfl rfl | exact ARead.box (d := encT _) 2 rfl rfl rfl rfl | exact ARead.box (d := encT _) 3 rfl rfl rfl rfl | exact ARead.box (d := encT _) 4 rfl rfl rfl rfl | exact ARead.box (d := encT _) 5 rfl rfl rfl rfl | exact ARead.box (d := encT _) 6 rfl rfl rfl rfl | exact ARead.box (d := encT _) 7 rfl rfl rfl rfl | exact ARead.box 0 rfl rfl rfl rfl | exact ARead.box 1 rfl rfl rfl rfl | exact ARead.box 2 rfl rfl rfl rfl | exact ARead.box 3 rfl rfl rfl rfl | exact ARead.box 4 rfl rfl rfl rfl | exact ARead.box 5 rfl rfl rfl rfl | exact ARead.box 6 rfl rfl rfl rfl | exact ARead.box 7 rfl rfl rfl rfl) .nil) (by repeat first | exact List.Sublist.refl _ | apply List.Sublist.cons_cons | apply List.Sublist.cons) ?_ (trivial)
        exact .refl _
      ·
        try simp only [decide_eq_true_eq, decide_eq_false_iff_not, Bool.not_eq_true', Bool.not_eq_false', Bool.and_eq_true, Bool.or_eq_true, beq_iff_eq, beq_eq_false_iff_ne] at h35
        obtain ⟨o1, o2, o3⟩ := once_own h16 h35
        rw [o1, o2, h35, Int.sub_zero]
        refine ACode.skip ?_
        refine ACode.seq ?_
        refine ACode.region ?_
        refine AOps.v rfl rfl rfl (AVal.moveN (by constructor)) ?_
        refine AOps.v rfl rfl rfl (AVal.loadP (d := encT _) 1 rfl rfl rfl rfl) ?_
        refine AOps.e rfl rfl rfl (AOp.callM [_, _] (step_c hS b mb left cs true false ⟨by omega, hl.2⟩ (pad t) (pad_fit _ t rfl hf) hz hc) (by first | exact LeL.eq rfl | (repeat constructor)) rfl (fun hok => ?_) (fun hno => ?_))
        ·
          refine AOps.v rfl rfl rfl (AVal.moveN (by constructor)) ?_
          refine AOps.v rfl rfl rfl (AVal.extractN rfl rfl (by constructor)) ?_
          refine AOps.v rfl rfl rfl (AVal.extractN rfl rfl (by constructor)) ?_
          refine AOps.e rfl rfl rfl (AOp.allocN rfl rfl (fun b8 => ?_))
          refine AOps.e0 rfl rfl (AOp.storeN 0 rfl rfl rfl (by constructor) rfl rfl rfl (by repeat constructor) (by repeat constructor) ?_)
          refine AOps.v rfl rfl rfl (AVal.assignN (by constructor)) ?_
          refine AOps.nil ?_
          refine ACode.seq ?_
          refine ACode.seq ?_
          refine ACode.region ?_
          refine AOps.v rfl rfl rfl (AVal.moveN (by constructor)) ?_
          refine AOps.v rfl rfl rfl (AVal.not rfl) ?_
          refine AOps.nil ?_
          refine ACode.condS rfl (fun h44 => ?_) (fun h44 => ?_)
          ·
            try simp only [decide_eq_true_eq, decide_eq_false_iff_not, Bool.not_eq_true', Bool.not_eq_false', Bool.and_eq_true, Bool.or_eq_true, beq_iff_eq, beq_eq_false_iff_ne] at h44
            obtain ⟨n1, n2, n3, n4, n5⟩ := once_no' o3 rfl h44
            rw [n1, n2, n3, n4, Int.sub_zero]
            refine ACode.seq ?_
            refine ACode.region ?_
            refine AOps.v rfl rfl rfl (AVal.loadP (d := encT _) 2 rfl rfl rfl rfl) ?_
            refine AOps.e0 rfl rfl (AOp.storeN 1 rfl rfl rfl (by constructor) rfl rfl rfl (by repeat constructor) (by repeat constructor) ?_)
            refine AOps.nil ?_
            refine ACode.ret ?_
            refine AFin.mayRet rfl (.cons (by first | exact ARead.box (d := encT _) 0 rfl rfl rfl rfl | exact ARead.box (d := encT _) 1 rfl rfl rfl rfl | exact ARead.box (d := encT _) 2 rfl rfl rfl rfl | exact ARead.box (d := encT _) 3 rfl rfl rfl rfl | exact ARead.box (d := encT _) 4 rfl rfl rfl rfl | exact ARead.box (d := encT _) 5 rfl rfl rfl rfl | exact ARead.box (d := encT _) 6 rfl rfl rfl rfl | exact ARead.box (d := encT _) 7 rfl rfl rfl rfl | exact ARead.box 0 rfl rfl rfl rfl | exact ARead.box 1 rfl rfl rfl rfl | exact ARead.box 2 rfl rfl rfl rfl | exact ARead.box 3 rfl rfl rfl rfl | exact ARead.box 4 rfl rfl rfl rfl | exact ARead.box 5 rfl rfl rfl rfl | exact ARead.box 6 rfl rfl rfl rfl | exact ARead.box 7 rfl rfl rfl rfl) .nil) (by repeat first | exact List.Sublist.refl _ | apply List.Sublist.cons_cons | apply List.Sublist.cons) ?_ (trivial)
            exact .refl _
          ·
            try simp only [decide_eq_true_eq, decide_eq_false_iff_not, Bool.not_eq_true', Bool.not_eq_false', Bool.and_eq_true, Bool.or_eq_true, beq_iff_eq, beq_eq_false_iff_ne] at h44
            obtain ⟨n1, n2, n3⟩ := once_yes' o3 h44
            rw [n1, n2, n3]
            refine ACode.skip ?_
            refine ACode.seq ?_
            refine ACode.region ?_
            refine AOps.v rfl rfl rfl (AVal.moveN (by constructor)) ?_
            refine AOps.v rfl rfl rfl (AVal.loadP (d := encT _) 0 rfl rfl rfl rfl) ?_
            refine AOps.e0 rfl rfl (AOp.storeN 2 rfl rfl rfl (by constructor) rfl rfl rfl (by repeat constructor) (by repeat constructor) ?_)
            refine AOps.v rfl rfl rfl (AVal.nilCheckP rfl) ?_
            refine AOps.v rfl rfl rfl (AVal.fieldP rfl rfl) ?_
            refine AOps.e0 rfl rfl (AOp.storeN 4 rfl rfl rfl (by constructor) rfl rfl rfl (by repeat constructor) (by repeat constructor) ?_)
            refine AOps.nil ?_
            refine ACode.seq ?_
            refine ACode.region ?_
            refine AOps.v rfl rfl rfl (AVal.moveN (by constructor)) ?_
            refine AOps.v rfl rfl rfl (AVal.nilCheckP rfl) ?_
            refine AOps.v rfl rfl rfl (AVal.fieldP rfl rfl) ?_
            refine AOps.v rfl rfl rfl (AVal.loadPN 4 rfl rfl rfl rfl (by constructor)) ?_
            refine AOps.nil ?_
            refine ACode.condT rfl ?_
            refine ACode.seq ?_
            refine ACode.region ?_
            refine AOps.v rfl rfl rfl (AVal.loadP (d := encT _) 2 rfl rfl rfl rfl) ?_
            refine AOps.e0 rfl rfl (AOp.storeN 1 rfl rfl rfl (by constructor) rfl rfl rfl (by repeat constructor) (by repeat constructor) ?_)
            refine AOps.nil ?_
            refine ACode.ret ?_
            refine AFin.mayRet rfl (.cons (by first | exact ARead.box (d := encT _) 0 rfl rfl rfl rfl | exact ARead.box (d := encT _) 1 rfl rfl rfl rfl | exact ARead.box (d := encT _) 2 rfl rfl rfl rfl | exact ARead.box (d := encT _) 3 rfl rfl rfl rfl | exact ARead.box (d := encT _) 4 rfl rfl rfl rfl | exact ARead.box (d := encT _) 5 rfl rfl rfl rfl | exact ARead.box (d := encT _) 6 rfl rfl rfl rfl | exact ARead.box (d := encT _) 7 rfl rfl rfl rfl | exact ARead.box 0 rfl rfl rfl rfl | exact ARead.box 1 rfl rfl rfl rfl | exact ARead.box 2 rfl rfl rfl rfl | exact ARead.box 3 rfl rfl rfl rfl | exact ARead.box 4 rfl rfl rfl rfl | exact ARead.box 5 rfl rfl rfl rfl | exact ARead.box 6 rfl rfl rfl rfl | exact ARead.box 7 rfl rfl rfl rfl) .nil) (by repeat first | exact List.Sublist.refl _ | apply List.Sublist.cons_cons | apply List.Sublist.cons) ?_ (trivial)
            exact .refl _
        ·
          exact absurd (by have := stepC_bound hc (pad_fit _ t rfl hf) hz; omega) hno
    ·
      exact absurd trivial hno
  ·
    try simp only [decide_eq_true_eq, decide_eq_false_iff_not, Bool.not_eq_true', Bool.not_eq_false', Bool.and_eq_true, Bool.or_eq_true, beq_iff_eq, beq_eq_false_iff_ne] at h16
    refine ACode.skip ?_
    refine ACode.seq ?_
    refine ACode.region ?_
    refine AOps.v rfl rfl rfl (AVal.moveN (by constructor)) ?_
    refine AOps.v rfl rfl rfl (AVal.loadP (d := encT _) 1 rfl rfl rfl rfl) ?_
    refine AOps.e rfl rfl rfl (AOp.callM [_, _] (step_c hS b mb left cs true false ⟨by omega, hl.2⟩ t hf (by rw [psz_F h16] at hz; exact hz) hc) (by first | exact LeL.eq rfl | (repeat constructor)) rfl (fun hok => ?_) (fun hno => ?_))
    ·
      refine AOps.v rfl rfl rfl (AVal.moveN (by constructor)) ?_
      refine AOps.v rfl rfl rfl (AVal.extractN rfl rfl (by constructor)) ?_
      refine AOps.v rfl rfl rfl (AVal.extractN rfl rfl (by constructor)) ?_
      refine AOps.e rfl rfl rfl (AOp.allocN rfl rfl (fun b8 => ?_))
      refine AOps.e0 rfl rfl (AOp.storeN 0 rfl rfl rfl (by constructor) rfl rfl rfl (by repeat constructor) (by repeat constructor) ?_)
      refine AOps.v rfl rfl rfl (AVal.assignN (by constructor)) ?_
      refine AOps.nil ?_
      refine ACode.seq ?_
      refine ACode.seq ?_
      refine ACode.region ?_
      refine AOps.v rfl rfl rfl (AVal.moveN (by constructor)) ?_
      refine AOps.v rfl rfl rfl (AVal.not rfl) ?_
      refine AOps.nil ?_
      refine ACode.condS rfl (fun h44 => ?_) (fun h44 => ?_)
      ·
        try simp only [decide_eq_true_eq, decide_eq_false_iff_not, Bool.not_eq_true', Bool.not_eq_false', Bool.and_eq_true, Bool.or_eq_true, beq_iff_eq, beq_eq_false_iff_ne] at h44
        obtain ⟨n1, n2, n3, n4, n5⟩ := once_no' (once_F h16) (pad_F h16) h44
        rw [n1, n2, n3, n4, Int.sub_zero]
        refine ACode.seq ?_
        refine ACode.region ?_
        refine AOps.v rfl rfl rfl (AVal.loadP (d := encT _) 2 rfl rfl rfl rfl) ?_
        refine AOps.e0 rfl rfl (AOp.storeN 1 rfl rfl rfl (by constructor) rfl rfl rfl (by repeat constructor) (by repeat constructor) ?_)
        refine AOps.nil ?_
        refine ACode.ret ?_
        refine AFin.mayRet rfl (.cons (by first | exact ARead.box (d := encT _) 0 rfl rfl rfl rfl | exact ARead.box (d := encT _) 1 rfl rfl rfl rfl | exact ARead.box (d := encT _) 2 rfl rfl rfl rfl | exact ARead.box (d := encT _) 3 rfl rfl rfl rfl | exact ARead.box (d := encT _) 4 rfl rfl rfl rfl | exact ARead.box (d := encT _) 5 rfl rfl rfl rfl | exact ARead.box (d := encT _) 6 rfl rfl rfl rfl | exact ARead.box (d := encT _) 7 rfl rfl rfl rfl | exact ARead.box 0 rfl rfl rfl rfl | exact ARead.box 1 rfl rfl rfl rfl | exact ARead.box 2 rfl rfl rfl rfl | exact ARead.box 3 rfl rfl rfl rfl | exact ARead.box 4 rfl rfl rfl rfl | exact ARead.box 5 rfl rfl rfl rfl | exact ARead.box 6 rfl rfl rfl rfl | exact ARead.box 7 rfl rfl rfl rfl) .nil) (by repeat first | exact List.Sublist.refl _ | apply List.Sublist.cons_cons | apply List.Sublist.cons) ?_ (trivial)
        exact .refl _
      ·
        try simp only [decide_eq_true_eq, decide_eq_false_iff_not, Bool.not_eq_true', Bool.not_eq_false', Bool.and_eq_true, Bool.or_eq_true, beq_iff_eq, beq_eq_false_iff_ne] at h44
        obtain ⟨n1, n2, n3⟩ := once_yes' (once_F h16) h44
        rw [n1, n2, n3]
        refine ACode.skip ?_
        refine ACode.seq ?_
        refine ACode.region ?_
        refine AOps.v rfl rfl rfl (AVal.moveN (by constructor)) ?_
        refine AOps.v rfl rfl rfl (AVal.loadP (d := encT _) 0 rfl rfl rfl rfl) ?_
        refine AOps.e0 rfl rfl (AOp.storeN 2 rfl rfl rfl (by constructor) rfl rfl rfl (by repeat constructor) (by repeat constructor) ?_)
        refine AOps.v rfl rfl rfl (AVal.nilCheckP rfl) ?_
        refine AOps.v rfl rfl rfl (AVal.fieldP rfl rfl) ?_
        refine AOps.e0 rfl rfl (AOp.storeN 4 rfl rfl rfl (by constructor) rfl rfl rfl (by repeat constructor) (by repeat constructor) ?_)
        refine AOps.nil ?_
        refine ACode.seq ?_
        refine ACode.region ?_
        refine AOps.v rfl rfl rfl (AVal.moveN (by constructor)) ?_
        refine AOps.v rfl rfl rfl (AVal.nilCheckP rfl) ?_
        refine AOps.v rfl rfl rfl (AVal.fieldP rfl rfl) ?_
        refine AOps.v rfl rfl rfl (AVal.loadPN 4 rfl rfl rfl rfl (by constructor)) ?_
        refine AOps.nil ?_
        refine ACode.condT rfl ?_
        refine ACode.seq ?_
        refine ACode.region ?_
        refine AOps.v rfl rfl rfl (AVal.loadP (d := encT _) 2 rfl rfl rfl rfl) ?_
        refine AOps.e0 rfl rfl (AOp.storeN 1 rfl rfl rfl (by constructor) rfl rfl rfl (by repeat constructor) (by repeat constructor) ?_)
        refine AOps.nil ?_
        refine ACode.ret ?_
        refine AFin.mayRet rfl (.cons (by first | exact ARead.box (d := encT _) 0 rfl rfl rfl rfl | exact ARead.box (d := encT _) 1 rfl rfl rfl rfl | exact ARead.box (d := encT _) 2 rfl rfl rfl rfl | exact ARead.box (d := encT _) 3 rfl rfl rfl rfl | exact ARead.box (d := encT _) 4 rfl rfl rfl rfl | exact ARead.box (d := encT _) 5 rfl rfl rfl rfl | exact ARead.box (d := encT _) 6 rfl rfl rfl rfl | exact ARead.box (d := encT _) 7 rfl rfl rfl rfl | exact ARead.box 0 rfl rfl rfl rfl | exact ARead.box 1 rfl rfl rfl rfl | exact ARead.box 2 rfl rfl rfl rfl | exact ARead.box 3 rfl rfl rfl rfl | exact ARead.box 4 rfl rfl rfl rfl | exact ARead.box 5 rfl rfl rfl rfl | exact ARead.box 6 rfl rfl rfl rfl | exact ARead.box 7 rfl rfl rfl rfl) .nil) (by repeat first | exact List.Sublist.refl _ | apply List.Sublist.cons_cons | apply List.Sublist.cons) ?_ (trivial)
        exact .refl _
    ·
      exact absurd (by have := stepC_bound hc hf (by rw [psz_F h16] at hz; exact hz); omega) hno

theorem at_c (cs : List Core) (left : Int) : ACalls X 24 [.slC cs, .int .i64 left] [] (fun r L' => ∃ b mb, r = .ret (.ptr b 0) ∧ L' = [(mb, .map (SM b)), (b, .cells 71 (workC left cs false false mb))]) := by
  refine ACalls.of_code Tryz.func24 rfl (by rfl) (Nat.le_of_ble_eq_true rfl) ?_
  refine ACode.seq ?_
  refine ACode.region ?_
  refine AOps.v rfl rfl rfl (AVal.assignN (by constructor)) ?_
  refine AOps.nil ?_
  refine ACode.seq ?_
  refine ACode.region ?_
  refine AOps.v rfl rfl rfl (AVal.moveN (by constructor)) ?_
  refine AOps.v rfl rfl rfl (AVal.build rfl rfl rfl) ?_
  refine AOps.v rfl rfl rfl (AVal.moveN (by constructor)) ?_
  refine AOps.v rfl rfl rfl (AVal.build rfl rfl rfl) ?_
  refine AOps.e rfl rfl rfl (AOp.boxA rfl (fun b10 => ?_))
  refine AOps.v rfl rfl rfl (AVal.assignN (by constructor)) ?_
  refine AOps.nil ?_
  refine ACode.seq ?_
  refine ACode.region ?_
  refine AOps.v rfl rfl rfl (AVal.moveN (by constructor)) ?_
  refine AOps.e rfl rfl rfl (AOp.makeMapN (fun mb => ?_))
  refine AOps.v rfl rfl rfl (AVal.moveN (by constructor)) ?_
  refine AOps.v rfl rfl rfl (AVal.makeFunc) ?_
  refine AOps.e0 rfl rfl (AOp.insertN (e := 87) 0 rfl rfl rfl (by kernel_rfl) (by repeat constructor) rfl (by repeat constructor) ?_)
  refine AOps.v rfl rfl rfl (AVal.moveN (by constructor)) ?_
  refine AOps.v rfl rfl rfl (AVal.makeFunc) ?_
  refine AOps.e0 rfl rfl (AOp.insertN (e := 87) 0 rfl rfl rfl (by kernel_rfl) (by repeat constructor) rfl (by repeat constructor) ?_)
  refine AOps.v rfl rfl rfl (AVal.moveN (by constructor)) ?_
  refine AOps.v rfl rfl rfl (AVal.makeFunc) ?_
  refine AOps.e0 rfl rfl (AOp.insertN (e := 87) 0 rfl rfl rfl (by kernel_rfl) (by repeat constructor) rfl (by repeat constructor) ?_)
  refine AOps.v rfl rfl rfl (AVal.moveN (by constructor)) ?_
  refine AOps.v rfl rfl rfl (AVal.makeFunc) ?_
  refine AOps.e0 rfl rfl (AOp.insertN (e := 87) 0 rfl rfl rfl (by kernel_rfl) (by repeat constructor) rfl (by repeat constructor) ?_)
  refine AOps.v rfl rfl rfl (AVal.moveN (by constructor)) ?_
  refine AOps.v rfl rfl rfl (AVal.makeFunc) ?_
  refine AOps.e0 rfl rfl (AOp.insertN (e := 87) 0 rfl rfl rfl (by kernel_rfl) (by repeat constructor) rfl (by repeat constructor) ?_)
  refine AOps.v rfl rfl rfl (AVal.moveN (by constructor)) ?_
  refine AOps.v rfl rfl rfl (AVal.makeFunc) ?_
  refine AOps.e0 rfl rfl (AOp.insertN (e := 87) 0 rfl rfl rfl (by kernel_rfl) (by repeat constructor) rfl (by repeat constructor) ?_)
  refine AOps.v rfl rfl rfl (AVal.moveN (by constructor)) ?_
  refine AOps.v rfl rfl rfl (AVal.makeFunc) ?_
  refine AOps.e0 rfl rfl (AOp.insertN (e := 87) 0 rfl rfl rfl (by kernel_rfl) (by repeat constructor) rfl (by repeat constructor) ?_)
  refine AOps.v rfl rfl rfl (AVal.moveN (by constructor)) ?_
  refine AOps.v rfl rfl rfl (AVal.makeFunc) ?_
  refine AOps.e0 rfl rfl (AOp.insertN (e := 87) 0 rfl rfl rfl (by kernel_rfl) (by repeat constructor) rfl (by repeat constructor) ?_)
  refine AOps.v rfl rfl rfl (AVal.moveN (by constructor)) ?_
  refine AOps.v rfl rfl rfl (AVal.nilCheckP rfl) ?_
  refine AOps.v rfl rfl rfl (AVal.fieldP rfl rfl) ?_
  refine AOps.e0 rfl rfl (AOp.storeN 1 rfl rfl rfl (by constructor) rfl rfl rfl (by repeat constructor) (by repeat constructor) ?_)
  refine AOps.nil ?_
  refine ACode.seq ?_
  refine ACode.region ?_
  refine AOps.v rfl rfl rfl (AVal.moveN (by constructor)) ?_
  refine AOps.v rfl rfl rfl (AVal.assignN (by constructor)) ?_
  refine AOps.nil ?_
  refine ACode.ret ?_
  refine AFin.ret (X := X) (fn := Tryz.f24) (R := fun r L' => ∃ b mb, r = .ret (.ptr b 0) ∧ L' = [(mb, .map (SM b)), (b, .cells 71 (workC left cs false false mb))]) (L' := [(mb, .map (SM b10)), (b10, .cells 71 (workC left cs false false mb))]) rfl (.cons rfl .nil) (by repeat first | exact List.Sublist.refl _ | apply List.Sublist.cons_cons | apply List.Sublist.cons | exact List.nil_sublist _) (.refl _) ?_
  exact ⟨b10, mb, rfl, rfl⟩

end Sp
