/- Walks of the program's functions and what they compute: contracts of calls; no condition beyond those that each theorem names. -/
import Derived.Test.YtoonoeadgnednaaGreatDoorBa
import Derived.Test.YtoonoeadgnednaaGreatDoorKb
import Derived.Test.YtoonoeadgnednaaGreatDoorKc
/- The walks of head: spots, sizes, the steps that burn fuel. Written by a program of mine. -/
set_option linter.unusedVariables false
set_option linter.unusedSimpArgs false
set_option maxRecDepth 20000
namespace Sp
open Go Go.Proofs

theorem kid_c (t : Term) (k : Int) : AFn X 56 [encT t, .int .i64 k] (encT (kid t k)) := by
  refine ACalls.of_code Tryz.func56 rfl (by rfl) (Nat.le_of_ble_eq_true rfl) ?_
  refine ACode.seq ?_
  refine ACode.region ?_
  refine AOps.e rfl rfl rfl (AOp.boxA rfl (fun b2 => ?_))
  refine AOps.e rfl rfl rfl (AOp.allocN rfl rfl (fun b4 => ?_))
  refine AOps.nil ?_
  refine ACode.seq ?_
  refine ACode.seq ?_
  refine ACode.region ?_
  refine AOps.v rfl rfl rfl (AVal.moveN (by constructor)) ?_
  refine AOps.v rfl rfl rfl (AVal.lss rfl rfl) ?_
  refine AOps.v rfl rfl rfl (AVal.moveN (by constructor)) ?_
  refine AOps.split 7 rfl (fun h7 => ?_) (fun h7 => ?_)
  ·
    try simp only [decide_eq_true_eq, decide_eq_false_iff_not, Bool.not_eq_true', Bool.not_eq_false', Bool.and_eq_true, Bool.or_eq_true, beq_iff_eq, beq_eq_false_iff_ne] at h7
    refine AOps.vF rfl rfl rfl rfl rfl rfl rfl ?_
    refine AOps.vF rfl rfl rfl rfl rfl rfl rfl ?_
    refine AOps.vF rfl rfl rfl rfl rfl rfl rfl ?_
    refine AOps.vF rfl rfl rfl rfl rfl rfl rfl ?_
    refine AOps.vF rfl rfl rfl rfl rfl rfl rfl ?_
    refine AOps.v rfl rfl rfl (AVal.pickT rfl (by constructor)) ?_
    refine AOps.nil ?_
    refine ACode.condT rfl ?_
    refine ACode.seq ?_
    refine ACode.region ?_
    refine AOps.v rfl rfl rfl (AVal.buildT rfl rfl rfl (by constructor) (by constructor)) ?_
    refine AOps.e0 rfl rfl (AOp.storeN 0 rfl rfl rfl (by constructor) rfl rfl rfl (by repeat constructor) (by repeat constructor) ?_)
    refine AOps.nil ?_
    refine ACode.ret ?_
    refine AFin.pureRet rfl (.cons (by first | exact ARead.box (d := encT _) 0 rfl rfl rfl rfl | exact ARead.box (d := encT _) 1 rfl rfl rfl rfl | exact ARead.box (d := encT _) 2 rfl rfl rfl rfl | exact ARead.box (d := encT _) 3 rfl rfl rfl rfl | exact ARead.box (d := encT _) 4 rfl rfl rfl rfl | exact ARead.box (d := encT _) 5 rfl rfl rfl rfl | exact ARead.box (d := encT _) 6 rfl rfl rfl rfl | exact ARead.box (d := encT _) 7 rfl rfl rfl rfl | exact ARead.box 0 rfl rfl rfl rfl | exact ARead.box 1 rfl rfl rfl rfl | exact ARead.box 2 rfl rfl rfl rfl | exact ARead.box 3 rfl rfl rfl rfl | exact ARead.box 4 rfl rfl rfl rfl | exact ARead.box 5 rfl rfl rfl rfl | exact ARead.box 6 rfl rfl rfl rfl | exact ARead.box 7 rfl rfl rfl rfl) .nil) ?_
    exact D.Le.eq (encT_eq (by unfold kid; rw [if_pos (by omega)]; rfl))
  ·
    try simp only [decide_eq_true_eq, decide_eq_false_iff_not, Bool.not_eq_true', Bool.not_eq_false', Bool.and_eq_true, Bool.or_eq_true, beq_iff_eq, beq_eq_false_iff_ne] at h7
    refine AOps.vT rfl rfl rfl rfl rfl rfl (AVal.moveN (by constructor)) ?_
    refine AOps.vT rfl rfl rfl rfl rfl rfl (AVal.fieldP rfl rfl) ?_
    refine AOps.vT rfl rfl rfl rfl rfl rfl (AVal.loadPN 1 rfl rfl rfl rfl (by constructor)) ?_
    refine AOps.vT rfl rfl rfl rfl rfl rfl (AVal.len rfl rfl rfl) ?_
    refine AOps.vT rfl rfl rfl rfl rfl rfl (AVal.geq rfl rfl) ?_
    refine AOps.v rfl rfl rfl (AVal.pickF rfl (by constructor)) ?_
    refine AOps.nil ?_
    refine ACode.condS rfl (fun h13 => ?_) (fun h13 => ?_)
    ·
      try simp only [decide_eq_true_eq, decide_eq_false_iff_not, Bool.not_eq_true', Bool.not_eq_false', Bool.and_eq_true, Bool.or_eq_true, beq_iff_eq, beq_eq_false_iff_ne] at h13
      refine ACode.seq ?_
      refine ACode.region ?_
      refine AOps.v rfl rfl rfl (AVal.buildT rfl rfl rfl (by constructor) (by constructor)) ?_
      refine AOps.e0 rfl rfl (AOp.storeN 0 rfl rfl rfl (by constructor) rfl rfl rfl (by repeat constructor) (by repeat constructor) ?_)
      refine AOps.nil ?_
      refine ACode.ret ?_
      refine AFin.pureRet rfl (.cons (by first | exact ARead.box (d := encT _) 0 rfl rfl rfl rfl | exact ARead.box (d := encT _) 1 rfl rfl rfl rfl | exact ARead.box (d := encT _) 2 rfl rfl rfl rfl | exact ARead.box (d := encT _) 3 rfl rfl rfl rfl | exact ARead.box (d := encT _) 4 rfl rfl rfl rfl | exact ARead.box (d := encT _) 5 rfl rfl rfl rfl | exact ARead.box (d := encT _) 6 rfl rfl rfl rfl | exact ARead.box (d := encT _) 7 rfl rfl rfl rfl | exact ARead.box 0 rfl rfl rfl rfl | exact ARead.box 1 rfl rfl rfl rfl | exact ARead.box 2 rfl rfl rfl rfl | exact ARead.box 3 rfl rfl rfl rfl | exact ARead.box 4 rfl rfl rfl rfl | exact ARead.box 5 rfl rfl rfl rfl | exact ARead.box 6 rfl rfl rfl rfl | exact ARead.box 7 rfl rfl rfl rfl) .nil) ?_
      exact D.Le.eq (encT_eq (by unfold kid; rw [if_pos (by omega)]; rfl))
    ·
      try simp only [decide_eq_true_eq, decide_eq_false_iff_not, Bool.not_eq_true', Bool.not_eq_false', Bool.and_eq_true, Bool.or_eq_true, beq_iff_eq, beq_eq_false_iff_ne] at h13
      refine ACode.skip ?_
      refine ACode.seq ?_
      refine ACode.region ?_
      refine AOps.v rfl rfl rfl (AVal.fieldP rfl rfl) ?_
      refine AOps.v rfl rfl rfl (AVal.loadPN 1 rfl rfl rfl rfl (by constructor)) ?_
      refine AOps.v rfl rfl rfl (AVal.moveN (by constructor)) ?_
      refine AOps.v rfl rfl rfl (AVal.indexTN rfl rfl rfl rfl rfl (by first | omega | (simp_all; omega) | simp_all)) ?_
      refine AOps.v rfl rfl rfl (AVal.loadE (d := encT _) rfl rfl rfl) ?_
      refine AOps.e0 rfl rfl (AOp.storeN 0 rfl rfl rfl (by constructor) rfl rfl rfl (by repeat constructor) (by repeat constructor) ?_)
      refine AOps.nil ?_
      refine ACode.ret ?_
      refine AFin.pureRet rfl (.cons (by first | exact ARead.box (d := encT _) 0 rfl rfl rfl rfl | exact ARead.box (d := encT _) 1 rfl rfl rfl rfl | exact ARead.box (d := encT _) 2 rfl rfl rfl rfl | exact ARead.box (d := encT _) 3 rfl rfl rfl rfl | exact ARead.box (d := encT _) 4 rfl rfl rfl rfl | exact ARead.box (d := encT _) 5 rfl rfl rfl rfl | exact ARead.box (d := encT _) 6 rfl rfl rfl rfl | exact ARead.box (d := encT _) 7 rfl rfl rfl rfl | exact ARead.box 0 rfl rfl rfl rfl | exact ARead.box 1 rfl rfl rfl rfl | exact ARead.box 2 rfl rfl rfl rfl | exact ARead.box 3 rfl rfl rfl rfl | exact ARead.box 4 rfl rfl rfl rfl | exact ARead.box 5 rfl rfl rfl rfl | exact ARead.box 6 rfl rfl rfl rfl | exact ARead.box 7 rfl rfl rfl rfl) .nil) ?_
      exact D.Le.eq (encT_eq (by unfold kid; rw [if_neg (by omega)]))

theorem of_c (k : Int) (ts : List Term) : AFn X 74 [.int .i64 k, .slT ts] (encT (.mk k 0 0 [] ts)) := by
  refine ACalls.of_code Tryz.func74 rfl (by rfl) (Nat.le_of_ble_eq_true rfl) ?_
  refine ACode.seq ?_
  refine ACode.region ?_
  refine AOps.e rfl rfl rfl (AOp.allocN rfl rfl (fun b4 => ?_))
  refine AOps.nil ?_
  refine ACode.seq ?_
  refine ACode.region ?_
  refine AOps.v rfl rfl rfl (AVal.moveN (by constructor)) ?_
  refine AOps.v rfl rfl rfl (AVal.moveN (by constructor)) ?_
  refine AOps.v rfl rfl rfl (AVal.buildT rfl rfl rfl (by constructor) (by constructor)) ?_
  refine AOps.e0 rfl rfl (AOp.storeN 0 rfl rfl rfl (by constructor) rfl rfl rfl (by repeat constructor) (by repeat constructor) ?_)
  refine AOps.nil ?_
  refine ACode.ret ?_
  refine AFin.pureRet rfl (.cons (by first | exact ARead.box (d := encT _) 0 rfl rfl rfl rfl | exact ARead.box (d := encT _) 1 rfl rfl rfl rfl | exact ARead.box (d := encT _) 2 rfl rfl rfl rfl | exact ARead.box (d := encT _) 3 rfl rfl rfl rfl | exact ARead.box (d := encT _) 4 rfl rfl rfl rfl | exact ARead.box (d := encT _) 5 rfl rfl rfl rfl | exact ARead.box (d := encT _) 6 rfl rfl rfl rfl | exact ARead.box (d := encT _) 7 rfl rfl rfl rfl | exact ARead.box 0 rfl rfl rfl rfl | exact ARead.box 1 rfl rfl rfl rfl | exact ARead.box 2 rfl rfl rfl rfl | exact ARead.box 3 rfl rfl rfl rfl | exact ARead.box 4 rfl rfl rfl rfl | exact ARead.box 5 rfl rfl rfl rfl | exact ARead.box 6 rfl rfl rfl rfl | exact ARead.box 7 rfl rfl rfl rfl) .nil) ?_
  exact D.Le.refl _

theorem spot_c (t : Term) (hl : t.kids.length ≤ 1099511627776) : AFn X 54 [encT t] (.tup [.int .i64 (spotM t).1, .int .i64 (spotM t).2.1, .bool (spotM t).2.2]) := by
  refine ACalls.of_code Tryz.func54 rfl (by rfl) (Nat.le_of_ble_eq_true rfl) ?_
  refine ACode.seq ?_
  refine ACode.region ?_
  refine AOps.e rfl rfl rfl (AOp.boxA rfl (fun b1 => ?_))
  refine AOps.v rfl rfl rfl (AVal.assignN (by constructor)) ?_
  refine AOps.v rfl rfl rfl (AVal.assignN (by constructor)) ?_
  refine AOps.v rfl rfl rfl (AVal.assignN (by constructor)) ?_
  refine AOps.nil ?_
  refine ACode.seq ?_
  refine ACode.seq ?_
  refine ACode.region ?_
  refine AOps.v rfl rfl rfl (AVal.fieldP rfl rfl) ?_
  refine AOps.v rfl rfl rfl (AVal.loadPN 0 rfl rfl rfl rfl (by constructor)) ?_
  refine AOps.nil ?_
  refine ACode.block ?_
  refine ACode.seq ?_
  refine ACode.region ?_
  refine AOps.v rfl rfl rfl (AVal.eql rfl rfl) ?_
  refine AOps.v rfl rfl rfl (AVal.assignN (by constructor)) ?_
  refine AOps.nil ?_
  refine ACode.condS rfl (fun h7 => ?_) (fun h7 => ?_)
  ·
    try simp only [decide_eq_true_eq, decide_eq_false_iff_not, Bool.not_eq_true', Bool.not_eq_false', Bool.and_eq_true, Bool.or_eq_true, beq_iff_eq, beq_eq_false_iff_ne] at h7
    refine ACode.seq ?_
    refine ACode.region ?_
    refine AOps.v rfl rfl rfl (AVal.assignN (by constructor)) ?_
    refine AOps.v rfl rfl rfl (AVal.assignN (by constructor)) ?_
    refine AOps.v rfl rfl rfl (AVal.assignN (by constructor)) ?_
    refine AOps.nil ?_
    refine ACode.ret ?_
    refine AFin.pureRet rfl (.cons rfl (.cons rfl (.cons rfl .nil))) ?_
    exact D.Le.eq (by simp only [spotM, h7, if_true]; rfl)
  ·
    try simp only [decide_eq_true_eq, decide_eq_false_iff_not, Bool.not_eq_true', Bool.not_eq_false', Bool.and_eq_true, Bool.or_eq_true, beq_iff_eq, beq_eq_false_iff_ne] at h7
    refine ACode.seq ?_
    refine ACode.seq ?_
    refine ACode.region ?_
    refine AOps.v rfl rfl rfl (AVal.eql rfl rfl) ?_
    refine AOps.v rfl rfl rfl (AVal.assignN (by constructor)) ?_
    refine AOps.nil ?_
    refine ACode.condS rfl (fun h9 => ?_) (fun h9 => ?_)
    ·
      try simp only [decide_eq_true_eq, decide_eq_false_iff_not, Bool.not_eq_true', Bool.not_eq_false', Bool.and_eq_true, Bool.or_eq_true, beq_iff_eq, beq_eq_false_iff_ne] at h9
      refine ACode.skip ?_
      refine ACode.condT rfl ?_
      refine ACode.seq ?_
      refine ACode.region ?_
      refine AOps.v rfl rfl rfl (AVal.assignN (by constructor)) ?_
      refine AOps.v rfl rfl rfl (AVal.assignN (by constructor)) ?_
      refine AOps.v rfl rfl rfl (AVal.assignN (by constructor)) ?_
      refine AOps.nil ?_
      refine ACode.ret ?_
      refine AFin.pureRet rfl (.cons rfl (.cons rfl (.cons rfl .nil))) ?_
      exact D.Le.eq (by rw [show spotM t = (0, 1, true) by simp [spotM, h9]]; rfl)
    ·
      try simp only [decide_eq_true_eq, decide_eq_false_iff_not, Bool.not_eq_true', Bool.not_eq_false', Bool.and_eq_true, Bool.or_eq_true, beq_iff_eq, beq_eq_false_iff_ne] at h9
      refine ACode.region ?_
      refine AOps.v rfl rfl rfl (AVal.eql rfl rfl) ?_
      refine AOps.v rfl rfl rfl (AVal.assignN (by constructor)) ?_
      refine AOps.nil ?_
      refine ACode.condS rfl (fun h9 => ?_) (fun h9 => ?_)
      ·
        try simp only [decide_eq_true_eq, decide_eq_false_iff_not, Bool.not_eq_true', Bool.not_eq_false', Bool.and_eq_true, Bool.or_eq_true, beq_iff_eq, beq_eq_false_iff_ne] at h9
        refine ACode.seq ?_
        refine ACode.region ?_
        refine AOps.v rfl rfl rfl (AVal.assignN (by constructor)) ?_
        refine AOps.v rfl rfl rfl (AVal.assignN (by constructor)) ?_
        refine AOps.v rfl rfl rfl (AVal.assignN (by constructor)) ?_
        refine AOps.nil ?_
        refine ACode.ret ?_
        refine AFin.pureRet rfl (.cons rfl (.cons rfl (.cons rfl .nil))) ?_
        exact D.Le.eq (by rw [show spotM t = (0, 1, true) by simp [spotM, h9]]; rfl)
      ·
        try simp only [decide_eq_true_eq, decide_eq_false_iff_not, Bool.not_eq_true', Bool.not_eq_false', Bool.and_eq_true, Bool.or_eq_true, beq_iff_eq, beq_eq_false_iff_ne] at h9
        refine ACode.seq ?_
        refine ACode.region ?_
        refine AOps.v rfl rfl rfl (AVal.eql rfl rfl) ?_
        refine AOps.v rfl rfl rfl (AVal.assignN (by constructor)) ?_
        refine AOps.nil ?_
        refine ACode.condS rfl (fun h12 => ?_) (fun h12 => ?_)
        ·
          try simp only [decide_eq_true_eq, decide_eq_false_iff_not, Bool.not_eq_true', Bool.not_eq_false', Bool.and_eq_true, Bool.or_eq_true, beq_iff_eq, beq_eq_false_iff_ne] at h12
          refine ACode.seq ?_
          refine ACode.region ?_
          refine AOps.v rfl rfl rfl (AVal.assignN (by constructor)) ?_
          refine AOps.v rfl rfl rfl (AVal.assignN (by constructor)) ?_
          refine AOps.v rfl rfl rfl (AVal.assignN (by constructor)) ?_
          refine AOps.nil ?_
          refine ACode.ret ?_
          refine AFin.pureRet rfl (.cons rfl (.cons rfl (.cons rfl .nil))) ?_
          exact D.Le.eq (by rw [show spotM t = (4, 5, true) by simp [spotM, h12]]; rfl)
        ·
          try simp only [decide_eq_true_eq, decide_eq_false_iff_not, Bool.not_eq_true', Bool.not_eq_false', Bool.and_eq_true, Bool.or_eq_true, beq_iff_eq, beq_eq_false_iff_ne] at h12
          refine ACode.seq ?_
          refine ACode.region ?_
          refine AOps.v rfl rfl rfl (AVal.eql rfl rfl) ?_
          refine AOps.v rfl rfl rfl (AVal.assignN (by constructor)) ?_
          refine AOps.nil ?_
          refine ACode.condS rfl (fun h14 => ?_) (fun h14 => ?_)
          ·
            try simp only [decide_eq_true_eq, decide_eq_false_iff_not, Bool.not_eq_true', Bool.not_eq_false', Bool.and_eq_true, Bool.or_eq_true, beq_iff_eq, beq_eq_false_iff_ne] at h14
            refine ACode.seq ?_
            refine ACode.region ?_
            refine AOps.v rfl rfl rfl (AVal.assignN (by constructor)) ?_
            refine AOps.v rfl rfl rfl (AVal.assignN (by constructor)) ?_
            refine AOps.v rfl rfl rfl (AVal.assignN (by constructor)) ?_
            refine AOps.nil ?_
            refine ACode.ret ?_
            refine AFin.pureRet rfl (.cons rfl (.cons rfl (.cons rfl .nil))) ?_
            exact D.Le.eq (by rw [show spotM t = (5, 6, true) by simp [spotM, h14]]; rfl)
          ·
            try simp only [decide_eq_true_eq, decide_eq_false_iff_not, Bool.not_eq_true', Bool.not_eq_false', Bool.and_eq_true, Bool.or_eq_true, beq_iff_eq, beq_eq_false_iff_ne] at h14
            refine ACode.seq ?_
            refine ACode.region ?_
            refine AOps.v rfl rfl rfl (AVal.eql rfl rfl) ?_
            refine AOps.v rfl rfl rfl (AVal.assignN (by constructor)) ?_
            refine AOps.nil ?_
            refine ACode.condS rfl (fun h16 => ?_) (fun h16 => ?_)
            ·
              try simp only [decide_eq_true_eq, decide_eq_false_iff_not, Bool.not_eq_true', Bool.not_eq_false', Bool.and_eq_true, Bool.or_eq_true, beq_iff_eq, beq_eq_false_iff_ne] at h16
              refine ACode.seq ?_
              refine ACode.draws [.p 0, .l 1, .p 2, .p 3, .l 4, .p 5, .p 6, .l 7, .p 8, .p 9, .p 10, .l 11, .p 12, .p 13, .p 14, .l 15, .p 16, .p 17, .p 18, .p 19, .p 20] mixed (by kernel_rfl) ?_
              refine ASeq.pv rfl rfl rfl rfl (fun L0 => (AVal.fieldP rfl rfl)) ?_
              refine ASeq.lv rfl rfl rfl rfl (HasCell.mk 0 rfl rfl (by constructor)) ?_
              refine ASeq.pv rfl rfl rfl rfl (fun L0 => (AVal.add rfl rfl)) ?_
              refine ASeq.pv rfl rfl rfl rfl (fun L0 => (AVal.fieldP rfl rfl)) ?_
              refine ASeq.lv rfl rfl rfl rfl (HasCell.mk 0 rfl rfl (by constructor)) ?_
              refine ASeq.pv rfl rfl rfl rfl (fun L0 => (AVal.add rfl rfl)) ?_
              refine ASeq.pv rfl rfl rfl rfl (fun L0 => (AVal.fieldP rfl rfl)) ?_
              refine ASeq.lv rfl rfl rfl rfl (HasCell.mk 0 rfl rfl (by constructor)) ?_
              refine ASeq.pv rfl rfl rfl rfl (fun L0 => (AVal.geq rfl rfl)) ?_
              refine ASeq.pv rfl rfl rfl rfl (fun L0 => (AVal.moveN (by constructor))) ?_
              refine ASeq.split 27 rfl (fun h27 => ?_) (fun h27 => ?_)
              ·
                try simp only [decide_eq_true_eq, decide_eq_false_iff_not, Bool.not_eq_true', Bool.not_eq_false', Bool.and_eq_true, Bool.or_eq_true, beq_iff_eq, beq_eq_false_iff_ne] at h27
                refine ASeq.pvT rfl rfl rfl rfl rfl rfl rfl (fun L0 => (AVal.fieldP rfl rfl)) ?_
                refine ASeq.lvT rfl rfl rfl rfl rfl rfl rfl (HasCell.mk 0 rfl rfl (by constructor)) ?_
                refine ASeq.pvT rfl rfl rfl rfl rfl rfl rfl (fun L0 => (AVal.len rfl rfl rfl)) ?_
                refine ASeq.pvT rfl rfl rfl rfl rfl rfl rfl (fun L0 => (AVal.subn rfl rfl (by omega))) ?_
                refine ASeq.pvT rfl rfl rfl rfl rfl rfl rfl (fun L0 => (AVal.fieldP rfl rfl)) ?_
                refine ASeq.lvT rfl rfl rfl rfl rfl rfl rfl (HasCell.mk 0 rfl rfl (by constructor)) ?_
                refine ASeq.pvT rfl rfl rfl rfl rfl rfl rfl (fun L0 => (AVal.eql rfl rfl)) ?_
                refine ASeq.pv rfl rfl rfl rfl (fun L0 => (AVal.pickT rfl (by constructor))) ?_
                refine ASeq.pv rfl rfl rfl rfl (fun L0 => (AVal.assignN (by constructor))) ?_
                refine ASeq.pv rfl rfl rfl rfl (fun L0 => (AVal.assignN (by constructor))) ?_
                refine ASeq.pv rfl rfl rfl rfl (fun L0 => (AVal.assignN (by constructor))) ?_
                refine ASeq.nil ?_
                refine ACode.ret ?_
                refine AFin.pureRet rfl (.cons rfl (.cons rfl (.cons rfl .nil))) ?_
                exact D.Le.eq (by rw [show spotM t = (w64 (t.at_ + 1), w64 (t.at_ + 2), decide ((t.kids.length : Int) - 2 = t.at_)) by simp [spotM, h16, h27]]; rfl)
              ·
                try simp only [decide_eq_true_eq, decide_eq_false_iff_not, Bool.not_eq_true', Bool.not_eq_false', Bool.and_eq_true, Bool.or_eq_true, beq_iff_eq, beq_eq_false_iff_ne] at h27
                refine ASeq.pvF rfl rfl rfl rfl rfl rfl rfl rfl ?_
                refine ASeq.lvF rfl rfl rfl rfl rfl rfl (HasCell.mk (o := 0) (i := ⟨1, false, [], 0⟩) 0 rfl rfl (.refl _)) ?_
                refine ASeq.pvF rfl rfl rfl rfl rfl rfl rfl rfl ?_
                refine ASeq.pvF rfl rfl rfl rfl rfl rfl rfl rfl ?_
                refine ASeq.pvF rfl rfl rfl rfl rfl rfl rfl rfl ?_
                refine ASeq.lvF rfl rfl rfl rfl rfl rfl (HasCell.mk (o := 0) (i := ⟨1, false, [], 0⟩) 0 rfl rfl (.refl _)) ?_
                refine ASeq.pvF rfl rfl rfl rfl rfl rfl rfl rfl ?_
                refine ASeq.pv rfl rfl rfl rfl (fun L0 => (AVal.pickF rfl (by constructor))) ?_
                refine ASeq.pv rfl rfl rfl rfl (fun L0 => (AVal.assignN (by constructor))) ?_
                refine ASeq.pv rfl rfl rfl rfl (fun L0 => (AVal.assignN (by constructor))) ?_
                refine ASeq.pv rfl rfl rfl rfl (fun L0 => (AVal.assignN (by constructor))) ?_
                refine ASeq.nil ?_
                refine ACode.ret ?_
                refine AFin.pureRet rfl (.cons rfl (.cons rfl (.cons rfl .nil))) ?_
                exact D.Le.eq (by rw [show spotM t = (w64 (t.at_ + 1), w64 (t.at_ + 2), false) by simp [spotM, h16]; intros; omega]; rfl)
            ·
              try simp only [decide_eq_true_eq, decide_eq_false_iff_not, Bool.not_eq_true', Bool.not_eq_false', Bool.and_eq_true, Bool.or_eq_true, beq_iff_eq, beq_eq_false_iff_ne] at h16
              refine ACode.skip ?_
              refine ACode.seq ?_
              refine ACode.region ?_
              refine AOps.v rfl rfl rfl (AVal.assignN (by constructor)) ?_
              refine AOps.v rfl rfl rfl (AVal.assignN (by constructor)) ?_
              refine AOps.v rfl rfl rfl (AVal.assignN (by constructor)) ?_
              refine AOps.nil ?_
              refine ACode.ret ?_
              refine AFin.pureRet rfl (.cons rfl (.cons rfl (.cons rfl .nil))) ?_
              exact D.Le.eq (by rw [show spotM t = (0, 0, false) by simp [spotM, *]]; rfl)

theorem with_c (t x : Term) (at_ many : Int) (hm : many ≤ 1099511627776) : AFn X 55 [encT t, encT x, .int .i64 at_, .int .i64 many] (encT (withM t x at_ many)) := by
  refine ACalls.of_code Tryz.func55 rfl (by rfl) (Nat.le_of_ble_eq_true rfl) ?_
  refine ACode.seq ?_
  refine ACode.region ?_
  refine AOps.e rfl rfl rfl (AOp.boxA rfl (fun b4 => ?_))
  refine AOps.e rfl rfl rfl (AOp.boxA rfl (fun b5 => ?_))
  refine AOps.e rfl rfl rfl (AOp.allocN rfl rfl (fun b8 => ?_))
  refine AOps.nil ?_
  refine ACode.seq ?_
  refine ACode.region ?_
  refine AOps.v rfl rfl rfl (AVal.fieldP rfl rfl) ?_
  refine AOps.v rfl rfl rfl (AVal.loadPN 2 rfl rfl rfl rfl (by constructor)) ?_
  refine AOps.v rfl rfl rfl (AVal.fieldP rfl rfl) ?_
  refine AOps.v rfl rfl rfl (AVal.loadPN 2 rfl rfl rfl rfl (by constructor)) ?_
  refine AOps.v rfl rfl rfl (AVal.fieldP rfl rfl) ?_
  refine AOps.v rfl rfl rfl (AVal.loadPN 2 rfl rfl rfl rfl (by constructor)) ?_
  refine AOps.v rfl rfl rfl (AVal.fieldP rfl rfl) ?_
  refine AOps.v rfl rfl rfl (AVal.loadPN 2 rfl rfl rfl rfl (by constructor)) ?_
  refine AOps.v rfl rfl rfl (AVal.build rfl rfl rfl) ?_
  refine AOps.e rfl rfl rfl (AOp.allocN rfl rfl (fun b9 => ?_))
  refine AOps.e0 rfl rfl (AOp.storeN 0 rfl rfl rfl (by constructor) rfl rfl rfl (by repeat constructor) (by repeat constructor) ?_)
  refine AOps.nil ?_
  refine ACode.seq ?_
  refine ACode.seq ?_
  refine ACode.region ?_
  refine AOps.v rfl rfl rfl (AVal.moveN (by constructor)) ?_
  refine AOps.v rfl rfl rfl (AVal.moveN (by constructor)) ?_
  refine AOps.nil ?_
  refine ACode.block ?_
  refine ACode.loop (γ := Nat × Nat × Nat) (fun g => [(2, .int .i64 at_), (4, .ptr b4 0), (5, .ptr b5 0), (8, .ptr b8 0), (9, .ptr b9 0), (20, .int .i64 many), (21, .int .i64 g.1)]) (fun g => growL 27 5 g.1 g.2.1 g.2.2 ((withKids t x at_ g.1).map encT) ++ [(b9, .cells 27 [.int .i64 t.kind, .int .i64 t.num, .int .i64 t.at_, .slL t.levels, (growD g.1 g.2.1 g.2.2 ((withKids t x at_ g.1).map encT))]), (b8, .cells 27 [.int .i64 0, .int .i64 0, .int .i64 0, .emp, .emp]), (b5, .cells 27 (cellsT x)), (b4, .cells 27 (cellsT t))]) (fun g => g.1 ≤ many.toNat) (fun g => many.toNat - g.1) (0, 0, 0) (Nat.zero_le _) (by repeat first | exact Agree.nil | refine Agree.cons (.refl _) ?_) (List.Sublist.refl _) ?_
  rintro ⟨i, bb, cap⟩ hi t1
  simp only at hi ⊢
  rcases i with _ | i
  ·
    simp only [growL, growD, List.nil_append]
    refine ACode.seq ?_
    refine ACode.region ?_
    refine AOps.v rfl rfl rfl (AVal.lss rfl rfl) ?_
    refine AOps.nil ?_
    refine ACode.seq ?_
    refine ACode.condS rfl (fun h22 => ?_) (fun h22 => ?_)
    ·
      try simp only [decide_eq_true_eq, decide_eq_false_iff_not, Bool.not_eq_true', Bool.not_eq_false', Bool.and_eq_true, Bool.or_eq_true, beq_iff_eq, beq_eq_false_iff_ne] at h22
      refine ACode.skip ?_
      refine ACode.seq ?_
      refine ACode.block ?_
      refine ACode.seq ?_
      refine ACode.region ?_
      refine AOps.v rfl rfl rfl (AVal.moveN (by constructor)) ?_
      refine AOps.v rfl rfl rfl (AVal.assignN (by constructor)) ?_
      refine AOps.nil ?_
      refine ACode.seq ?_
      refine ACode.seq ?_
      refine ACode.region ?_
      refine AOps.v rfl rfl rfl (AVal.moveN (by constructor)) ?_
      refine AOps.v rfl rfl rfl (AVal.moveN (by constructor)) ?_
      refine AOps.v rfl rfl rfl (AVal.eql rfl rfl) ?_
      refine AOps.nil ?_
      refine ACode.condS rfl (fun h26 => ?_) (fun h26 => ?_)
      ·
        try simp only [decide_eq_true_eq, decide_eq_false_iff_not, Bool.not_eq_true', Bool.not_eq_false', Bool.and_eq_true, Bool.or_eq_true, beq_iff_eq, beq_eq_false_iff_ne] at h26
        have h26 : ((0 : Nat) : Int) = at_ := by simpa using h26
        refine ACode.seq ?_
        refine ACode.region ?_
        refine AOps.v rfl rfl rfl (AVal.fieldP rfl rfl) ?_
        refine AOps.v rfl rfl rfl (AVal.loadPN 0 rfl rfl rfl rfl (by constructor)) ?_
        refine AOps.v rfl rfl rfl (AVal.loadP (d := encT _) 2 rfl rfl rfl rfl) ?_
        refine AOps.e rfl rfl rfl (AOp.buildSliceT (ts := [_]) rfl rfl rfl rfl rfl ?_)
        refine AOps.e rfl rfl rfl (AOp.app1New rfl rfl rfl rfl rfl rfl rfl rfl (fun bq cap' => ?_))
        refine AOps.v rfl rfl rfl (AVal.fieldP rfl rfl) ?_
        refine AOps.e0 rfl rfl (AOp.storeN 1 rfl rfl rfl (by constructor) rfl rfl rfl (by repeat constructor) (by repeat constructor) ?_)
        refine AOps.nil ?_
        refine ACode.exit ?_
        refine ACode.region ?_
        refine AOps.v rfl rfl rfl (AVal.addn rfl rfl (by omega)) ?_
        refine AOps.v rfl rfl rfl (AVal.moveN (by constructor)) ?_
        refine AOps.nil ?_
        refine ⟨(0 + 1, bq, cap'), by simp only; omega, by simp only; omega, rfl, (by repeat first | exact Agree.nil | refine Agree.cons (.refl _) ?_), ?_⟩
        simp only [growL, growD, List.cons_append, List.nil_append, withKids_succ t x at_ (0), if_pos h26, List.map_append, List.map_cons, List.map_nil]
        exact (by repeat first | exact List.Sublist.refl _ | apply List.Sublist.cons_cons | apply List.Sublist.cons | exact List.nil_sublist _)
      ·
        try simp only [decide_eq_true_eq, decide_eq_false_iff_not, Bool.not_eq_true', Bool.not_eq_false', Bool.and_eq_true, Bool.or_eq_true, beq_iff_eq, beq_eq_false_iff_ne] at h26
        have h26 : ¬ ((0 : Nat) : Int) = at_ := by simpa using h26
        refine ACode.skip ?_
        refine ACode.draws [.p 0, .l 1, .l 2, .p 3, .p 4, .p 5, .e 6 [], .p 7, .e 8 []] mixed (by kernel_rfl) ?_
        refine ASeq.pv rfl rfl rfl rfl (fun L0 => (AVal.fieldP rfl rfl)) ?_
        refine ASeq.lv rfl rfl rfl rfl (HasCell.mk 0 rfl rfl (by constructor)) ?_
        refine ASeq.lv rfl rfl rfl rfl (HasCell.mk (d := encT _) 3 rfl rfl (.refl _)) ?_
        refine ASeq.pv rfl rfl rfl rfl (fun L0 => (AVal.moveN (by constructor))) ?_
        refine ASeq.pe rfl rfl rfl rfl (fun L0 => (AOp.callP (kid_c t (0 : Nat)) (by first | exact LeL.eq rfl | (repeat constructor)) ⟨rfl, rfl⟩)) ?_
        refine ASeq.pe rfl rfl rfl rfl (fun L0 => (AOp.buildSliceT (ts := [_]) rfl rfl rfl rfl rfl ⟨rfl, rfl⟩)) ?_
        refine ASeq.ee rfl rfl rfl rfl rfl (AOp.app1New rfl rfl rfl rfl rfl rfl rfl rfl (fun bq cap' => ⟨(by first | exact Keeps.nil | (repeat first | exact Keeps.nil | refine Keeps.cons (by first | exact HasCell.mk 0 rfl rfl (.refl _) | exact HasCell.mk 1 rfl rfl (.refl _) | exact HasCell.mk 2 rfl rfl (.refl _) | exact HasCell.mk 3 rfl rfl (.refl _) | exact HasCell.mk 4 rfl rfl (.refl _) | exact HasCell.mk 5 rfl rfl (.refl _) | exact HasCell.mk 6 rfl rfl (.refl _) | exact HasCell.mk 7 rfl rfl (.refl _)) ?_)), ?_⟩))
        refine ASeq.pv rfl rfl rfl rfl (fun L0 => (AVal.fieldP rfl rfl)) ?_
        refine ASeq.ee0 rfl rfl rfl rfl (AOp.storeN 1 rfl rfl rfl (by constructor) rfl rfl rfl (by repeat constructor) (by repeat constructor) ⟨(by first | exact Keeps.nil | (repeat first | exact Keeps.nil | refine Keeps.cons (by first | exact HasCell.mk 0 rfl rfl (.refl _) | exact HasCell.mk 1 rfl rfl (.refl _) | exact HasCell.mk 2 rfl rfl (.refl _) | exact HasCell.mk 3 rfl rfl (.refl _) | exact HasCell.mk 4 rfl rfl (.refl _) | exact HasCell.mk 5 rfl rfl (.refl _) | exact HasCell.mk 6 rfl rfl (.refl _) | exact HasCell.mk 7 rfl rfl (.refl _)) ?_)), ?_⟩)
        refine ASeq.nil ?_
        refine ACode.region ?_
        refine AOps.v rfl rfl rfl (AVal.addn rfl rfl (by omega)) ?_
        refine AOps.v rfl rfl rfl (AVal.moveN (by constructor)) ?_
        refine AOps.nil ?_
        refine ⟨(0 + 1, bq, cap'), by simp only; omega, by simp only; omega, rfl, (by repeat first | exact Agree.nil | refine Agree.cons (.refl _) ?_), ?_⟩
        simp only [growL, growD, List.cons_append, List.nil_append, withKids_succ t x at_ (0), if_neg h26, List.map_append, List.map_cons, List.map_nil]
        exact (by repeat first | exact List.Sublist.refl _ | apply List.Sublist.cons_cons | apply List.Sublist.cons | exact List.nil_sublist _)
    ·
      try simp only [decide_eq_true_eq, decide_eq_false_iff_not, Bool.not_eq_true', Bool.not_eq_false', Bool.and_eq_true, Bool.or_eq_true, beq_iff_eq, beq_eq_false_iff_ne] at h22
      refine ACode.exit ?_
      refine ACode.seq ?_
      refine ACode.region ?_
      refine AOps.v rfl rfl rfl (AVal.loadPN 0 rfl rfl rfl rfl (by constructor)) ?_
      refine AOps.e0 rfl rfl (AOp.storeN 1 rfl rfl rfl (by constructor) rfl rfl rfl (by repeat constructor) (by repeat constructor) ?_)
      refine AOps.nil ?_
      refine ACode.ret ?_
      refine AFin.pureRet rfl (.cons (by first | exact ARead.box (d := encT _) 0 rfl rfl rfl rfl | exact ARead.box (d := encT _) 1 rfl rfl rfl rfl | exact ARead.box (d := encT _) 2 rfl rfl rfl rfl | exact ARead.box (d := encT _) 3 rfl rfl rfl rfl | exact ARead.box (d := encT _) 4 rfl rfl rfl rfl | exact ARead.box (d := encT _) 5 rfl rfl rfl rfl | exact ARead.box (d := encT _) 6 rfl rfl rfl rfl | exact ARead.box (d := encT _) 7 rfl rfl rfl rfl | exact ARead.box 0 rfl rfl rfl rfl | exact ARead.box 1 rfl rfl rfl rfl | exact ARead.box 2 rfl rfl rfl rfl | exact ARead.box 3 rfl rfl rfl rfl | exact ARead.box 4 rfl rfl rfl rfl | exact ARead.box 5 rfl rfl rfl rfl | exact ARead.box 6 rfl rfl rfl rfl | exact ARead.box 7 rfl rfl rfl rfl) .nil) ?_
      exact leT' (.slL _) .emp (by unfold withM; rw [show many.toNat = 0 by omega]; rfl)
  ·
    simp only [growL, growD, List.cons_append, List.nil_append]
    refine ACode.seq ?_
    refine ACode.region ?_
    refine AOps.v rfl rfl rfl (AVal.lss rfl rfl) ?_
    refine AOps.nil ?_
    refine ACode.seq ?_
    refine ACode.condS rfl (fun h22 => ?_) (fun h22 => ?_)
    ·
      try simp only [decide_eq_true_eq, decide_eq_false_iff_not, Bool.not_eq_true', Bool.not_eq_false', Bool.and_eq_true, Bool.or_eq_true, beq_iff_eq, beq_eq_false_iff_ne] at h22
      refine ACode.skip ?_
      refine ACode.seq ?_
      refine ACode.block ?_
      refine ACode.seq ?_
      refine ACode.region ?_
      refine AOps.v rfl rfl rfl (AVal.moveN (by constructor)) ?_
      refine AOps.v rfl rfl rfl (AVal.assignN (by constructor)) ?_
      refine AOps.nil ?_
      refine ACode.seq ?_
      refine ACode.seq ?_
      refine ACode.region ?_
      refine AOps.v rfl rfl rfl (AVal.moveN (by constructor)) ?_
      refine AOps.v rfl rfl rfl (AVal.moveN (by constructor)) ?_
      refine AOps.v rfl rfl rfl (AVal.eql rfl rfl) ?_
      refine AOps.nil ?_
      refine ACode.condS rfl (fun h26 => ?_) (fun h26 => ?_)
      ·
        try simp only [decide_eq_true_eq, decide_eq_false_iff_not, Bool.not_eq_true', Bool.not_eq_false', Bool.and_eq_true, Bool.or_eq_true, beq_iff_eq, beq_eq_false_iff_ne] at h26
        have h26 : ((i + 1 : Nat) : Int) = at_ := by simpa using h26
        refine ACode.seq ?_
        refine ACode.region ?_
        refine AOps.v rfl rfl rfl (AVal.fieldP rfl rfl) ?_
        refine AOps.v rfl rfl rfl (AVal.loadPN 1 rfl rfl rfl rfl (by constructor)) ?_
        refine AOps.v rfl rfl rfl (AVal.loadP (d := encT _) 3 rfl rfl rfl rfl) ?_
        refine AOps.e rfl rfl rfl (AOp.buildSliceT (ts := [_]) rfl rfl rfl rfl rfl ?_)
        refine AOps.e rfl rfl rfl (AOp.app1Own 0 rfl rfl rfl rfl rfl rfl rfl rfl rfl (by simp only [List.length_map, withKids, List.length_range]; omega) rfl (by repeat constructor) (fun bq cap' => ?_))
        refine AOps.v rfl rfl rfl (AVal.fieldP rfl rfl) ?_
        refine AOps.e0 rfl rfl (AOp.storeN 1 rfl rfl rfl (by constructor) rfl rfl rfl (by repeat constructor) (by repeat constructor) ?_)
        refine AOps.nil ?_
        refine ACode.exit ?_
        refine ACode.region ?_
        refine AOps.v rfl rfl rfl (AVal.addn rfl rfl (by omega)) ?_
        refine AOps.v rfl rfl rfl (AVal.moveN (by constructor)) ?_
        refine AOps.nil ?_
        refine ⟨(i + 1 + 1, bq, cap'), by simp only; omega, by simp only; omega, rfl, (by repeat first | exact Agree.nil | refine Agree.cons (.refl _) ?_), ?_⟩
        simp only [growL, growD, List.cons_append, List.nil_append, withKids_succ t x at_ (i + 1), if_pos h26, List.map_append, List.map_cons, List.map_nil]
        exact (by repeat first | exact List.Sublist.refl _ | apply List.Sublist.cons_cons | apply List.Sublist.cons | exact List.nil_sublist _)
      ·
        try simp only [decide_eq_true_eq, decide_eq_false_iff_not, Bool.not_eq_true', Bool.not_eq_false', Bool.and_eq_true, Bool.or_eq_true, beq_iff_eq, beq_eq_false_iff_ne] at h26
        have h26 : ¬ ((i + 1 : Nat) : Int) = at_ := by simpa using h26
        refine ACode.skip ?_
        refine ACode.draws [.p 0, .l 1, .l 2, .p 3, .p 4, .p 5, .e 6 [], .p 7, .e 8 []] mixed (by kernel_rfl) ?_
        refine ASeq.pv rfl rfl rfl rfl (fun L0 => (AVal.fieldP rfl rfl)) ?_
        refine ASeq.lv rfl rfl rfl rfl (HasCell.mk 1 rfl rfl (by constructor)) ?_
        refine ASeq.lv rfl rfl rfl rfl (HasCell.mk (d := encT _) 4 rfl rfl (.refl _)) ?_
        refine ASeq.pv rfl rfl rfl rfl (fun L0 => (AVal.moveN (by constructor))) ?_
        refine ASeq.pe rfl rfl rfl rfl (fun L0 => (AOp.callP (kid_c t (i + 1 : Nat)) (by first | exact LeL.eq rfl | (repeat constructor)) ⟨rfl, rfl⟩)) ?_
        refine ASeq.pe rfl rfl rfl rfl (fun L0 => (AOp.buildSliceT (ts := [_]) rfl rfl rfl rfl rfl ⟨rfl, rfl⟩)) ?_
        refine ASeq.ee rfl rfl rfl rfl rfl (AOp.app1Own 0 rfl rfl rfl rfl rfl rfl rfl rfl rfl (by simp only [List.length_map, withKids, List.length_range]; omega) rfl (by repeat constructor) (fun bq cap' => ⟨(by first | exact Keeps.nil | (repeat first | exact Keeps.nil | refine Keeps.cons (by first | exact HasCell.mk 0 rfl rfl (.refl _) | exact HasCell.mk 1 rfl rfl (.refl _) | exact HasCell.mk 2 rfl rfl (.refl _) | exact HasCell.mk 3 rfl rfl (.refl _) | exact HasCell.mk 4 rfl rfl (.refl _) | exact HasCell.mk 5 rfl rfl (.refl _) | exact HasCell.mk 6 rfl rfl (.refl _) | exact HasCell.mk 7 rfl rfl (.refl _)) ?_)), ?_⟩))
        refine ASeq.pv rfl rfl rfl rfl (fun L0 => (AVal.fieldP rfl rfl)) ?_
        refine ASeq.ee0 rfl rfl rfl rfl (AOp.storeN 1 rfl rfl rfl (by constructor) rfl rfl rfl (by repeat constructor) (by repeat constructor) ⟨(by first | exact Keeps.nil | (repeat first | exact Keeps.nil | refine Keeps.cons (by first | exact HasCell.mk 0 rfl rfl (.refl _) | exact HasCell.mk 1 rfl rfl (.refl _) | exact HasCell.mk 2 rfl rfl (.refl _) | exact HasCell.mk 3 rfl rfl (.refl _) | exact HasCell.mk 4 rfl rfl (.refl _) | exact HasCell.mk 5 rfl rfl (.refl _) | exact HasCell.mk 6 rfl rfl (.refl _) | exact HasCell.mk 7 rfl rfl (.refl _)) ?_)), ?_⟩)
        refine ASeq.nil ?_
        refine ACode.region ?_
        refine AOps.v rfl rfl rfl (AVal.addn rfl rfl (by omega)) ?_
        refine AOps.v rfl rfl rfl (AVal.moveN (by constructor)) ?_
        refine AOps.nil ?_
        refine ⟨(i + 1 + 1, bq, cap'), by simp only; omega, by simp only; omega, rfl, (by repeat first | exact Agree.nil | refine Agree.cons (.refl _) ?_), ?_⟩
        simp only [growL, growD, List.cons_append, List.nil_append, withKids_succ t x at_ (i + 1), if_neg h26, List.map_append, List.map_cons, List.map_nil]
        exact (by repeat first | exact List.Sublist.refl _ | apply List.Sublist.cons_cons | apply List.Sublist.cons | exact List.nil_sublist _)
    ·
      try simp only [decide_eq_true_eq, decide_eq_false_iff_not, Bool.not_eq_true', Bool.not_eq_false', Bool.and_eq_true, Bool.or_eq_true, beq_iff_eq, beq_eq_false_iff_ne] at h22
      refine ACode.exit ?_
      refine ACode.seq ?_
      refine ACode.region ?_
      refine AOps.v rfl rfl rfl (AVal.loadPN 1 rfl rfl rfl rfl (by constructor)) ?_
      refine AOps.e0 rfl rfl (AOp.storeN 2 rfl rfl rfl (by constructor) rfl rfl rfl (by repeat constructor) (by repeat constructor) ?_)
      refine AOps.nil ?_
      refine ACode.ret ?_
      refine AFin.pureRet rfl (.cons (by first | exact ARead.box (d := encT _) 0 rfl rfl rfl rfl | exact ARead.box (d := encT _) 1 rfl rfl rfl rfl | exact ARead.box (d := encT _) 2 rfl rfl rfl rfl | exact ARead.box (d := encT _) 3 rfl rfl rfl rfl | exact ARead.box (d := encT _) 4 rfl rfl rfl rfl | exact ARead.box (d := encT _) 5 rfl rfl rfl rfl | exact ARead.box (d := encT _) 6 rfl rfl rfl rfl | exact ARead.box (d := encT _) 7 rfl rfl rfl rfl | exact ARead.box 0 rfl rfl rfl rfl | exact ARead.box 1 rfl rfl rfl rfl | exact ARead.box 2 rfl rfl rfl rfl | exact ARead.box 3 rfl rfl rfl rfl | exact ARead.box 4 rfl rfl rfl rfl | exact ARead.box 5 rfl rfl rfl rfl | exact ARead.box 6 rfl rfl rfl rfl | exact ARead.box 7 rfl rfl rfl rfl) .nil) ?_
      exact leT' (.slL _) (.own _ _ _) (by unfold withM; rw [show many.toNat = i + 1 by omega])

theorem sizes_c (ts : List Term) (hl : ts.length ≤ 9223372036854775807) (h : ∀ k ∈ ts, k.fit 9223372036854775807) : AFn X 71 [.slT ts] (.int .i64 (w64 (Term.szs ts))) := by
  refine ACalls.of_code Tryz.func71 rfl (by rfl) (Nat.le_of_ble_eq_true rfl) ?_
  refine ACode.seq ?_
  refine ACode.region ?_
  refine AOps.v rfl rfl rfl (AVal.assignN (by constructor)) ?_
  refine AOps.nil ?_
  refine ACode.seq ?_
  refine ACode.region ?_
  refine AOps.v rfl rfl rfl (AVal.assignN (by constructor)) ?_
  refine AOps.nil ?_
  refine ACode.seq ?_
  refine ACode.seq ?_
  refine ACode.region ?_
  refine AOps.v rfl rfl rfl (AVal.moveN (by constructor)) ?_
  refine AOps.v rfl rfl rfl (AVal.len rfl rfl rfl) ?_
  refine AOps.v rfl rfl rfl (AVal.moveN (by constructor)) ?_
  refine AOps.nil ?_
  refine ACode.block ?_
  refine ACode.loop (γ := Nat) (fun g => [(6, .slT ts), (7, .int .i64 ts.length), (8, .int .i64 g), (3, .int .i64 (w64 (Term.szs (ts.take g))))]) (fun g => []) (fun g => g ≤ ts.length) (fun g => ts.length - g) 0 (Nat.zero_le _) (by repeat first | exact Agree.nil | refine Agree.cons (.refl _) ?_) (by repeat first | exact List.Sublist.refl _ | apply List.Sublist.cons_cons | apply List.Sublist.cons | exact List.nil_sublist _) ?_
  intro i hi t1
  refine ACode.seq ?_
  refine ACode.region ?_
  refine AOps.v rfl rfl rfl (AVal.lss rfl rfl) ?_
  refine AOps.nil ?_
  refine ACode.seq ?_
  refine ACode.condS rfl (fun h9 => ?_) (fun h9 => ?_)
  ·
    try simp only [decide_eq_true_eq, decide_eq_false_iff_not, Bool.not_eq_true', Bool.not_eq_false', Bool.and_eq_true, Bool.or_eq_true, beq_iff_eq, beq_eq_false_iff_ne] at h9
    have hlt : i < ts.length := by omega
    refine ACode.skip ?_
    refine ACode.seq ?_
    refine ACode.block ?_
    refine ACode.seq ?_
    refine ACode.region ?_
    refine AOps.v rfl rfl rfl (AVal.indexTN rfl rfl rfl rfl rfl ⟨by omega, by omega⟩) ?_
    refine AOps.v rfl rfl rfl (AVal.loadE (d := encT _) rfl rfl rfl) ?_
    refine AOps.e rfl rfl rfl (AOp.allocN rfl rfl (fun b5 => ?_))
    refine AOps.e0 rfl rfl (AOp.storeN 0 rfl rfl rfl (by constructor) rfl rfl rfl (by repeat constructor) (by repeat constructor) ?_)
    refine AOps.nil ?_
    refine ACode.region ?_
    refine AOps.v rfl rfl rfl (AVal.moveN (by constructor)) ?_
    refine AOps.v rfl rfl rfl (AVal.loadP (d := encT _) 0 rfl rfl rfl rfl) ?_
    refine AOps.e rfl rfl rfl (AOp.callP (size_c _ (ts.getD i default) rfl (h _ (getD_mem hlt))) (by first | exact LeL.eq rfl | (repeat constructor)) ?_)
    refine AOps.v rfl rfl rfl (AVal.add rfl rfl) ?_
    refine AOps.v rfl rfl rfl (AVal.assignN (by constructor)) ?_
    refine AOps.nil ?_
    refine ACode.region ?_
    refine AOps.v rfl rfl rfl (AVal.addn rfl rfl (by omega)) ?_
    refine AOps.v rfl rfl rfl (AVal.moveN (by constructor)) ?_
    refine AOps.nil ?_
    refine ⟨i + 1, by omega, by omega, rfl, (by refine Agree.cons (.refl _) (Agree.cons (.refl _) (Agree.cons (.refl _) (Agree.cons (D.Le.eq (congrArg (D.int .i64) ((w64_add _ _).trans (congrArg w64 ?_)))) Agree.nil))); rw [Term.szs_take_succ hlt]; omega), (by repeat first | exact List.Sublist.refl _ | apply List.Sublist.cons_cons | apply List.Sublist.cons | exact List.nil_sublist _)⟩
  ·
    try simp only [decide_eq_true_eq, decide_eq_false_iff_not, Bool.not_eq_true', Bool.not_eq_false', Bool.and_eq_true, Bool.or_eq_true, beq_iff_eq, beq_eq_false_iff_ne] at h9
    refine ACode.exit ?_
    refine ACode.seq ?_
    refine ACode.region ?_
    refine AOps.v rfl rfl rfl (AVal.moveN (by constructor)) ?_
    refine AOps.v rfl rfl rfl (AVal.assignN (by constructor)) ?_
    refine AOps.nil ?_
    refine ACode.ret ?_
    refine AFin.pureRet rfl (.cons rfl .nil) ?_
    exact D.Le.eq (congrArg (D.int .i64) (by rw [List.take_of_length_le (by omega)]))

theorem sized_c  : ∀ (m : Nat) (t : Term), t.sz = m → t.fit 9223372036854775807 → ∀ (many below : Int), (-9223372036854775808 ≤ many ∧ many ≤ 9223372036854775807) → 0 ≤ below → below + m ≤ 4611686018427387904 → AFn X 84 [encT t, .int .i64 many, .int .i64 below] (.int .i64 (w64 (sizedM many below t))) := by
  intro m
  induction m using Nat.strongRecOn with
  | _ m ih =>
  intro t hm hf many below hmr hb0 hb1
  have hlen := hf.len
  have hpos := Term.sz_pos t
  refine ACalls.of_code Tryz.func84 rfl (by rfl) (Nat.le_of_ble_eq_true rfl) ?_
  refine ACode.seq ?_
  refine ACode.region ?_
  refine AOps.e rfl rfl rfl (AOp.boxA rfl (fun b3 => ?_))
  refine AOps.v rfl rfl rfl (AVal.assignN (by constructor)) ?_
  refine AOps.nil ?_
  refine ACode.seq ?_
  refine ACode.seq ?_
  refine ACode.region ?_
  refine AOps.v rfl rfl rfl (AVal.fieldP rfl rfl) ?_
  refine AOps.v rfl rfl rfl (AVal.loadPN 0 rfl rfl rfl rfl (by constructor)) ?_
  refine AOps.v rfl rfl rfl (AVal.eql rfl rfl) ?_
  refine AOps.v rfl rfl rfl (AVal.moveN (by constructor)) ?_
  refine AOps.split 13 rfl (fun h13 => ?_) (fun h13 => ?_)
  ·
    try simp only [decide_eq_true_eq, decide_eq_false_iff_not, Bool.not_eq_true', Bool.not_eq_false', Bool.and_eq_true, Bool.or_eq_true, beq_iff_eq, beq_eq_false_iff_ne] at h13
    refine AOps.vT rfl rfl rfl rfl rfl rfl (AVal.fieldP rfl rfl) ?_
    refine AOps.vT rfl rfl rfl rfl rfl rfl (AVal.loadPN 0 rfl rfl rfl rfl (by constructor)) ?_
    refine AOps.vT rfl rfl rfl rfl rfl rfl (AVal.moveN (by constructor)) ?_
    refine AOps.vT rfl rfl rfl rfl rfl rfl (AVal.eql rfl rfl) ?_
    refine AOps.v rfl rfl rfl (AVal.pickT rfl (by constructor)) ?_
    refine AOps.nil ?_
    refine ACode.condS rfl (fun h18 => ?_) (fun h18 => ?_)
    ·
      try simp only [decide_eq_true_eq, decide_eq_false_iff_not, Bool.not_eq_true', Bool.not_eq_false', Bool.and_eq_true, Bool.or_eq_true, beq_iff_eq, beq_eq_false_iff_ne] at h18
      refine ACode.seq ?_
      refine ACode.region ?_
      refine AOps.v rfl rfl rfl (AVal.moveN (by constructor)) ?_
      refine AOps.v rfl rfl rfl (AVal.assignN (by constructor)) ?_
      refine AOps.nil ?_
      refine ACode.ret ?_
      refine AFin.pureRet rfl (.cons rfl .nil) ?_
      exact D.Le.eq (congrArg (D.int .i64) (by rw [sizedM_eq, if_pos ⟨h13, h18⟩, w64_id hmr.1 hmr.2]))
    ·
      try simp only [decide_eq_true_eq, decide_eq_false_iff_not, Bool.not_eq_true', Bool.not_eq_false', Bool.and_eq_true, Bool.or_eq_true, beq_iff_eq, beq_eq_false_iff_ne] at h18
      refine ACode.skip ?_
      refine ACode.seq ?_
      refine ACode.region ?_
      refine AOps.v rfl rfl rfl (AVal.assignN (by constructor)) ?_
      refine AOps.nil ?_
      refine ACode.seq ?_
      refine ACode.seq ?_
      refine ACode.region ?_
      refine AOps.v rfl rfl rfl (AVal.fieldP rfl rfl) ?_
      refine AOps.v rfl rfl rfl (AVal.loadPN 0 rfl rfl rfl rfl (by constructor)) ?_
      refine AOps.v rfl rfl rfl (AVal.len rfl rfl rfl) ?_
      refine AOps.v rfl rfl rfl (AVal.moveN (by constructor)) ?_
      refine AOps.nil ?_
      refine ACode.block ?_
      refine ACode.loop (γ := Nat) (fun g => [(1, .int .i64 many), (2, .int .i64 below), (3, .ptr b3 0), (21, .slT t.kids), (22, .int .i64 t.kids.length), (23, .int .i64 g), (7, .int .i64 (w64 (1 + sizedsM many below t.kind 0 (t.kids.take g))))]) (fun g => [(b3, .cells 27 (cellsT t))]) (fun g => g ≤ t.kids.length) (fun g => t.kids.length - g) 0 (Nat.zero_le _) (by repeat first | exact Agree.nil | refine Agree.cons (.refl _) ?_) (by repeat first | exact List.Sublist.refl _ | apply List.Sublist.cons_cons | apply List.Sublist.cons | exact List.nil_sublist _) ?_
      intro i hi t1
      refine ACode.seq ?_
      refine ACode.region ?_
      refine AOps.v rfl rfl rfl (AVal.lss rfl rfl) ?_
      refine AOps.nil ?_
      refine ACode.seq ?_
      refine ACode.condS rfl (fun h24 => ?_) (fun h24 => ?_)
      ·
        try simp only [decide_eq_true_eq, decide_eq_false_iff_not, Bool.not_eq_true', Bool.not_eq_false', Bool.and_eq_true, Bool.or_eq_true, beq_iff_eq, beq_eq_false_iff_ne] at h24
        have hlt : i < t.kids.length := by omega
        have hmem : t.kids.getD i default ∈ t.kids := getD_mem hlt
        refine ACode.skip ?_
        refine ACode.seq ?_
        refine ACode.block ?_
        refine ACode.seq ?_
        refine ACode.region ?_
        refine AOps.v rfl rfl rfl (AVal.moveN (by constructor)) ?_
        refine AOps.v rfl rfl rfl (AVal.indexTN rfl rfl rfl rfl rfl ⟨by omega, by omega⟩) ?_
        refine AOps.v rfl rfl rfl (AVal.loadE (d := encT _) rfl rfl rfl) ?_
        refine AOps.e rfl rfl rfl (AOp.allocN rfl rfl (fun b9 => ?_))
        refine AOps.v rfl rfl rfl (AVal.assignN (by constructor)) ?_
        refine AOps.e0 rfl rfl (AOp.storeN 0 rfl rfl rfl (by constructor) rfl rfl rfl (by repeat constructor) (by repeat constructor) ?_)
        refine AOps.nil ?_
        refine ACode.seq ?_
        refine ACode.region ?_
        refine AOps.v rfl rfl rfl (AVal.fieldP rfl rfl) ?_
        refine AOps.v rfl rfl rfl (AVal.loadPN 1 rfl rfl rfl rfl (by constructor)) ?_
        refine AOps.v rfl rfl rfl (AVal.moveN (by constructor)) ?_
        refine AOps.e rfl rfl rfl (AOp.callP (binds_c t.kind i) (by first | exact LeL.eq rfl | (repeat constructor)) ?_)
        refine AOps.nil ?_
        refine ACode.condS rfl (fun h31 => ?_) (fun h31 => ?_)
        ·
          try simp only [decide_eq_true_eq, decide_eq_false_iff_not, Bool.not_eq_true', Bool.not_eq_false', Bool.and_eq_true, Bool.or_eq_true, beq_iff_eq, beq_eq_false_iff_ne] at h31
          refine ACode.region ?_
          refine AOps.v rfl rfl rfl (AVal.moveN (by constructor)) ?_
          refine AOps.v rfl rfl rfl (AVal.loadP (d := encT _) 0 rfl rfl rfl rfl) ?_
          refine AOps.v rfl rfl rfl (AVal.moveN (by constructor)) ?_
          refine AOps.v rfl rfl rfl (AVal.moveN (by constructor)) ?_
          refine AOps.v rfl rfl rfl (AVal.addn rfl rfl (by omega)) ?_
          refine AOps.e rfl rfl rfl (AOp.callP (ih (t.kids.getD i default).sz (by rw [← hm]; exact Term.sz_lt hmem) _ rfl (hf.kid hmem) many (below + 1) hmr (by omega) (by have := Term.sz_lt hmem; omega)) (by first | exact LeL.eq rfl | (repeat constructor)) ?_)
          refine AOps.v rfl rfl rfl (AVal.add rfl rfl) ?_
          refine AOps.v rfl rfl rfl (AVal.assignN (by constructor)) ?_
          refine AOps.nil ?_
          refine ACode.region ?_
          refine AOps.v rfl rfl rfl (AVal.addn rfl rfl (by omega)) ?_
          refine AOps.v rfl rfl rfl (AVal.moveN (by constructor)) ?_
          refine AOps.nil ?_
          refine ⟨i + 1, by omega, by omega, rfl, (by refine Agree.cons (.refl _) (Agree.cons (.refl _) (Agree.cons (.refl _) (Agree.cons (.refl _) (Agree.cons (.refl _) (Agree.cons (.refl _) (Agree.cons (D.Le.eq (congrArg (D.int .i64) ((w64_add _ _).trans (congrArg w64 ?_)))) Agree.nil)))))); rw [sizedsM_take_succ _ _ _ hlt, h31]; simp only [cond_true, cond_false]; omega), (by repeat first | exact List.Sublist.refl _ | apply List.Sublist.cons_cons | apply List.Sublist.cons | exact List.nil_sublist _)⟩
        ·
          try simp only [decide_eq_true_eq, decide_eq_false_iff_not, Bool.not_eq_true', Bool.not_eq_false', Bool.and_eq_true, Bool.or_eq_true, beq_iff_eq, beq_eq_false_iff_ne] at h31
          refine ACode.region ?_
          refine AOps.v rfl rfl rfl (AVal.moveN (by constructor)) ?_
          refine AOps.v rfl rfl rfl (AVal.loadP (d := encT _) 0 rfl rfl rfl rfl) ?_
          refine AOps.v rfl rfl rfl (AVal.moveN (by constructor)) ?_
          refine AOps.v rfl rfl rfl (AVal.moveN (by constructor)) ?_
          refine AOps.e rfl rfl rfl (AOp.callP (ih (t.kids.getD i default).sz (by rw [← hm]; exact Term.sz_lt hmem) _ rfl (hf.kid hmem) many below hmr (by omega) (by have := Term.sz_lt hmem; omega)) (by first | exact LeL.eq rfl | (repeat constructor)) ?_)
          refine AOps.v rfl rfl rfl (AVal.add rfl rfl) ?_
          refine AOps.v rfl rfl rfl (AVal.assignN (by constructor)) ?_
          refine AOps.nil ?_
          refine ACode.region ?_
          refine AOps.v rfl rfl rfl (AVal.addn rfl rfl (by omega)) ?_
          refine AOps.v rfl rfl rfl (AVal.moveN (by constructor)) ?_
          refine AOps.nil ?_
          refine ⟨i + 1, by omega, by omega, rfl, (by refine Agree.cons (.refl _) (Agree.cons (.refl _) (Agree.cons (.refl _) (Agree.cons (.refl _) (Agree.cons (.refl _) (Agree.cons (.refl _) (Agree.cons (D.Le.eq (congrArg (D.int .i64) ((w64_add _ _).trans (congrArg w64 ?_)))) Agree.nil)))))); rw [sizedsM_take_succ _ _ _ hlt, h31]; simp only [cond_true, cond_false]; omega), (by repeat first | exact List.Sublist.refl _ | apply List.Sublist.cons_cons | apply List.Sublist.cons | exact List.nil_sublist _)⟩
      ·
        try simp only [decide_eq_true_eq, decide_eq_false_iff_not, Bool.not_eq_true', Bool.not_eq_false', Bool.and_eq_true, Bool.or_eq_true, beq_iff_eq, beq_eq_false_iff_ne] at h24
        refine ACode.exit ?_
        refine ACode.seq ?_
        refine ACode.region ?_
        refine AOps.v rfl rfl rfl (AVal.moveN (by constructor)) ?_
        refine AOps.v rfl rfl rfl (AVal.assignN (by constructor)) ?_
        refine AOps.nil ?_
        refine ACode.ret ?_
        refine AFin.pureRet rfl (.cons rfl .nil) ?_
        exact D.Le.eq (congrArg (D.int .i64) (by rw [sizedM_eq, if_neg (fun e => h18 e.2), List.take_of_length_le (by omega)]))
  ·
    try simp only [decide_eq_true_eq, decide_eq_false_iff_not, Bool.not_eq_true', Bool.not_eq_false', Bool.and_eq_true, Bool.or_eq_true, beq_iff_eq, beq_eq_false_iff_ne] at h13
    refine AOps.vF rfl rfl rfl rfl rfl rfl rfl ?_
    refine AOps.vF rfl rfl rfl rfl rfl rfl rfl ?_
    refine AOps.vF rfl rfl rfl rfl rfl rfl rfl ?_
    refine AOps.vF rfl rfl rfl rfl rfl rfl rfl ?_
    refine AOps.v rfl rfl rfl (AVal.pickF rfl (by constructor)) ?_
    refine AOps.nil ?_
    refine ACode.condF rfl ?_
    refine ACode.skip ?_
    refine ACode.seq ?_
    refine ACode.region ?_
    refine AOps.v rfl rfl rfl (AVal.assignN (by constructor)) ?_
    refine AOps.nil ?_
    refine ACode.seq ?_
    refine ACode.seq ?_
    refine ACode.region ?_
    refine AOps.v rfl rfl rfl (AVal.fieldP rfl rfl) ?_
    refine AOps.v rfl rfl rfl (AVal.loadPN 0 rfl rfl rfl rfl (by constructor)) ?_
    refine AOps.v rfl rfl rfl (AVal.len rfl rfl rfl) ?_
    refine AOps.v rfl rfl rfl (AVal.moveN (by constructor)) ?_
    refine AOps.nil ?_
    refine ACode.block ?_
    refine ACode.loop (γ := Nat) (fun g => [(1, .int .i64 many), (2, .int .i64 below), (3, .ptr b3 0), (21, .slT t.kids), (22, .int .i64 t.kids.length), (23, .int .i64 g), (7, .int .i64 (w64 (1 + sizedsM many below t.kind 0 (t.kids.take g))))]) (fun g => [(b3, .cells 27 (cellsT t))]) (fun g => g ≤ t.kids.length) (fun g => t.kids.length - g) 0 (Nat.zero_le _) (by repeat first | exact Agree.nil | refine Agree.cons (.refl _) ?_) (by repeat first | exact List.Sublist.refl _ | apply List.Sublist.cons_cons | apply List.Sublist.cons | exact List.nil_sublist _) ?_
    intro i hi t1
    refine ACode.seq ?_
    refine ACode.region ?_
    refine AOps.v rfl rfl rfl (AVal.lss rfl rfl) ?_
    refine AOps.nil ?_
    refine ACode.seq ?_
    refine ACode.condS rfl (fun h24 => ?_) (fun h24 => ?_)
    ·
      try simp only [decide_eq_true_eq, decide_eq_false_iff_not, Bool.not_eq_true', Bool.not_eq_false', Bool.and_eq_true, Bool.or_eq_true, beq_iff_eq, beq_eq_false_iff_ne] at h24
      have hlt : i < t.kids.length := by omega
      have hmem : t.kids.getD i default ∈ t.kids := getD_mem hlt
      refine ACode.skip ?_
      refine ACode.seq ?_
      refine ACode.block ?_
      refine ACode.seq ?_
      refine ACode.region ?_
      refine AOps.v rfl rfl rfl (AVal.moveN (by constructor)) ?_
      refine AOps.v rfl rfl rfl (AVal.indexTN rfl rfl rfl rfl rfl ⟨by omega, by omega⟩) ?_
      refine AOps.v rfl rfl rfl (AVal.loadE (d := encT _) rfl rfl rfl) ?_
      refine AOps.e rfl rfl rfl (AOp.allocN rfl rfl (fun b9 => ?_))
      refine AOps.v rfl rfl rfl (AVal.assignN (by constructor)) ?_
      refine AOps.e0 rfl rfl (AOp.storeN 0 rfl rfl rfl (by constructor) rfl rfl rfl (by repeat constructor) (by repeat constructor) ?_)
      refine AOps.nil ?_
      refine ACode.seq ?_
      refine ACode.region ?_
      refine AOps.v rfl rfl rfl (AVal.fieldP rfl rfl) ?_
      refine AOps.v rfl rfl rfl (AVal.loadPN 1 rfl rfl rfl rfl (by constructor)) ?_
      refine AOps.v rfl rfl rfl (AVal.moveN (by constructor)) ?_
      refine AOps.e rfl rfl rfl (AOp.callP (binds_c t.kind i) (by first | exact LeL.eq rfl | (repeat constructor)) ?_)
      refine AOps.nil ?_
      refine ACode.condS rfl (fun h31 => ?_) (fun h31 => ?_)
      ·
        try simp only [decide_eq_true_eq, decide_eq_false_iff_not, Bool.not_eq_true', Bool.not_eq_false', Bool.and_eq_true, Bool.or_eq_true, beq_iff_eq, beq_eq_false_iff_ne] at h31
        refine ACode.region ?_
        refine AOps.v rfl rfl rfl (AVal.moveN (by constructor)) ?_
        refine AOps.v rfl rfl rfl (AVal.loadP (d := encT _) 0 rfl rfl rfl rfl) ?_
        refine AOps.v rfl rfl rfl (AVal.moveN (by constructor)) ?_
        refine AOps.v rfl rfl rfl (AVal.moveN (by constructor)) ?_
        refine AOps.v rfl rfl rfl (AVal.addn rfl rfl (by omega)) ?_
        refine AOps.e rfl rfl rfl (AOp.callP (ih (t.kids.getD i default).sz (by rw [← hm]; exact Term.sz_lt hmem) _ rfl (hf.kid hmem) many (below + 1) hmr (by omega) (by have := Term.sz_lt hmem; omega)) (by first | exact LeL.eq rfl | (repeat constructor)) ?_)
        refine AOps.v rfl rfl rfl (AVal.add rfl rfl) ?_
        refine AOps.v rfl rfl rfl (AVal.assignN (by constructor)) ?_
        refine AOps.nil ?_
        refine ACode.region ?_
        refine AOps.v rfl rfl rfl (AVal.addn rfl rfl (by omega)) ?_
        refine AOps.v rfl rfl rfl (AVal.moveN (by constructor)) ?_
        refine AOps.nil ?_
        refine ⟨i + 1, by omega, by omega, rfl, (by refine Agree.cons (.refl _) (Agree.cons (.refl _) (Agree.cons (.refl _) (Agree.cons (.refl _) (Agree.cons (.refl _) (Agree.cons (.refl _) (Agree.cons (D.Le.eq (congrArg (D.int .i64) ((w64_add _ _).trans (congrArg w64 ?_)))) Agree.nil)))))); rw [sizedsM_take_succ _ _ _ hlt, h31]; simp only [cond_true, cond_false]; omega), (by repeat first | exact List.Sublist.refl _ | apply List.Sublist.cons_cons | apply List.Sublist.cons | exact List.nil_sublist _)⟩
      ·
        try simp only [decide_eq_true_eq, decide_eq_false_iff_not, Bool.not_eq_true', Bool.not_eq_false', Bool.and_eq_true, Bool.or_eq_true, beq_iff_eq, beq_eq_false_iff_ne] at h31
        refine ACode.region ?_
        refine AOps.v rfl rfl rfl (AVal.moveN (by constructor)) ?_
        refine AOps.v rfl rfl rfl (AVal.loadP (d := encT _) 0 rfl rfl rfl rfl) ?_
        refine AOps.v rfl rfl rfl (AVal.moveN (by constructor)) ?_
        refine AOps.v rfl rfl rfl (AVal.moveN (by constructor)) ?_
        refine AOps.e rfl rfl rfl (AOp.callP (ih (t.kids.getD i default).sz (by rw [← hm]; exact Term.sz_lt hmem) _ rfl (hf.kid hmem) many below hmr (by omega) (by have := Term.sz_lt hmem; omega)) (by first | exact LeL.eq rfl | (repeat constructor)) ?_)
        refine AOps.v rfl rfl rfl (AVal.add rfl rfl) ?_
        refine AOps.v rfl rfl rfl (AVal.assignN (by constructor)) ?_
        refine AOps.nil ?_
        refine ACode.region ?_
        refine AOps.v rfl rfl rfl (AVal.addn rfl rfl (by omega)) ?_
        refine AOps.v rfl rfl rfl (AVal.moveN (by constructor)) ?_
        refine AOps.nil ?_
        refine ⟨i + 1, by omega, by omega, rfl, (by refine Agree.cons (.refl _) (Agree.cons (.refl _) (Agree.cons (.refl _) (Agree.cons (.refl _) (Agree.cons (.refl _) (Agree.cons (.refl _) (Agree.cons (D.Le.eq (congrArg (D.int .i64) ((w64_add _ _).trans (congrArg w64 ?_)))) Agree.nil)))))); rw [sizedsM_take_succ _ _ _ hlt, h31]; simp only [cond_true, cond_false]; omega), (by repeat first | exact List.Sublist.refl _ | apply List.Sublist.cons_cons | apply List.Sublist.cons | exact List.nil_sublist _)⟩
    ·
      try simp only [decide_eq_true_eq, decide_eq_false_iff_not, Bool.not_eq_true', Bool.not_eq_false', Bool.and_eq_true, Bool.or_eq_true, beq_iff_eq, beq_eq_false_iff_ne] at h24
      refine ACode.exit ?_
      refine ACode.seq ?_
      refine ACode.region ?_
      refine AOps.v rfl rfl rfl (AVal.moveN (by constructor)) ?_
      refine AOps.v rfl rfl rfl (AVal.assignN (by constructor)) ?_
      refine AOps.nil ?_
      refine ACode.ret ?_
      refine AFin.pureRet rfl (.cons rfl .nil) ?_
      exact D.Le.eq (congrArg (D.int .i64) (by rw [sizedM_eq, if_neg (fun e => h13 e.1), List.take_of_length_le (by omega)]))

theorem hsize_c (t a : Term) (ht : t.fit 9223372036854775807) (ha : a.fit 9223372036854775807) (h1 : t.sz ≤ 4611686018427387904) (h2 : a.sz ≤ 4611686018427387904) (h3 : sizeM t a ≤ 9223372036854775807) : AFn X 72 [encT t, encT a] (.int .i64 (sizeM t a)) := by
  refine ACalls.of_code Tryz.func72 rfl (by rfl) (Nat.le_of_ble_eq_true rfl) ?_
  refine ACode.seq ?_
  refine ACode.region ?_
  refine AOps.e rfl rfl rfl (AOp.boxA rfl (fun b2 => ?_))
  refine AOps.e rfl rfl rfl (AOp.boxA rfl (fun b3 => ?_))
  refine AOps.v rfl rfl rfl (AVal.assignN (by constructor)) ?_
  refine AOps.nil ?_
  refine ACode.seq ?_
  refine ACode.draws [.l 0, .l 1, .p 2, .p 3, .p 4] mixed (by kernel_rfl) ?_
  refine ASeq.lv rfl rfl rfl rfl (HasCell.mk (d := encT _) 1 rfl rfl (.refl _)) ?_
  refine ASeq.lv rfl rfl rfl rfl (HasCell.mk (d := encT _) 0 rfl rfl (.refl _)) ?_
  refine ASeq.pe rfl rfl rfl rfl (fun L0 => (AOp.callP (size_c _ a rfl ha) (by first | exact LeL.eq rfl | (repeat constructor)) ⟨rfl, rfl⟩)) ?_
  refine ASeq.pe rfl rfl rfl rfl (fun L0 => (AOp.callP (sized_c _ t rfl ht (w64 a.sz) 0 (w64_range _) (by omega) (by omega)) (by first | exact LeL.eq rfl | (repeat constructor)) ⟨rfl, rfl⟩)) ?_
  refine ASeq.pv rfl rfl rfl rfl (fun L0 => (AVal.assignN (by constructor))) ?_
  refine ASeq.nil ?_
  refine ACode.ret ?_
  refine AFin.pureRet rfl (.cons rfl .nil) ?_
  exact D.Le.eq (congrArg (D.int .i64) (by rw [w64_id (a := (a.sz : Int)) (by omega) (by omega)]; exact w64_id (by have := sizeM_nonneg t a; unfold sizeM at this; omega) h3))

theorem burn_c (b mb : Nat) (left : Int) (cs : List Core) (once dn : Bool) (hl : 0 ≤ left ∧ left ≤ 9223372036854775807) (n : Int) (h0 : 0 ≤ n ∧ n ≤ 9223372036854775807) : AMay X 70 [.ptr b 0, .int .i64 n] [(b, .cells 71 (workC (left) cs once dn mb))] (n ≤ left) (.tup []) [(b, .cells 71 (workC (left - n) cs once dn mb))] (.iface 76 (.agg [])) [(b, .cells 71 (workC (left) cs once dn mb))] := by
  refine ACalls.of_code Tryz.func70 rfl (by rfl) (Nat.le_of_ble_eq_true rfl) ?_
  refine ACode.seq ?_
  refine ACode.seq ?_
  refine ACode.region ?_
  refine AOps.v rfl rfl rfl (AVal.moveN (by constructor)) ?_
  refine AOps.v rfl rfl rfl (AVal.moveN (by constructor)) ?_
  refine AOps.v rfl rfl rfl (AVal.nilCheckP rfl) ?_
  refine AOps.v rfl rfl rfl (AVal.fieldP rfl rfl) ?_
  refine AOps.v rfl rfl rfl (AVal.loadPN 0 rfl rfl rfl rfl (by constructor)) ?_
  refine AOps.v rfl rfl rfl (AVal.gtr rfl rfl) ?_
  refine AOps.nil ?_
  refine ACode.condS rfl (fun h9 => ?_) (fun h9 => ?_)
  ·
    try simp only [decide_eq_true_eq, decide_eq_false_iff_not, Bool.not_eq_true', Bool.not_eq_false', Bool.and_eq_true, Bool.or_eq_true, beq_iff_eq, beq_eq_false_iff_ne] at h9
    refine ACode.region ?_
    refine AOps.v rfl rfl rfl (AVal.build0 (by kernel_rfl)) ?_
    refine AOps.v rfl rfl rfl (AVal.makeInterface rfl (by kernel_rfl)) ?_
    refine AOps.e0 rfl rfl (AOp.panic rfl ?_)
    exact AFin.mayPan (X := X) (fn := Tryz.f70) rfl (by repeat first | exact List.Sublist.refl _ | apply List.Sublist.cons_cons | apply List.Sublist.cons | exact List.nil_sublist _) (by omega)
  ·
    try simp only [decide_eq_true_eq, decide_eq_false_iff_not, Bool.not_eq_true', Bool.not_eq_false', Bool.and_eq_true, Bool.or_eq_true, beq_iff_eq, beq_eq_false_iff_ne] at h9
    refine ACode.skip ?_
    refine ACode.region ?_
    refine AOps.v rfl rfl rfl (AVal.moveN (by constructor)) ?_
    refine AOps.v rfl rfl rfl (AVal.nilCheckP rfl) ?_
    refine AOps.v rfl rfl rfl (AVal.fieldP rfl rfl) ?_
    refine AOps.v rfl rfl rfl (AVal.loadPN 0 rfl rfl rfl rfl (by constructor)) ?_
    refine AOps.v rfl rfl rfl (AVal.moveN (by constructor)) ?_
    refine AOps.v rfl rfl rfl (AVal.subn rfl rfl (by omega)) ?_
    refine AOps.v rfl rfl rfl (AVal.nilCheckP rfl) ?_
    refine AOps.v rfl rfl rfl (AVal.fieldP rfl rfl) ?_
    refine AOps.e0 rfl rfl (AOp.storeN 0 rfl rfl rfl (by constructor) rfl rfl rfl (by repeat constructor) (by repeat constructor) ?_)
    refine AOps.nil ?_
    refine AFin.mayEnd rfl .nil (by repeat first | exact List.Sublist.refl _ | apply List.Sublist.cons_cons | apply List.Sublist.cons) ?_ (by omega)
    exact .refl _

theorem size_c1 (t : Term) (ht : t.fit 9223372036854775807) (h1 : t.sz ≤ 4611686018427387904) : AFn X 81 [encT t] (.int .i64 t.sz) := by
  have := size_c _ t rfl ht
  rwa [w64_id (by omega) (by omega)] at this

theorem take_c (b mb : Nat) (left : Int) (cs : List Core) (once dn : Bool) (hl : 0 ≤ left ∧ left ≤ 9223372036854775807) (t : Term) (ht : t.fit 9223372036854775807) (h1 : t.sz ≤ 4611686018427387904) : AMay X 68 [.ptr b 0, encT t] [(b, .cells 71 (workC (left) cs once dn mb))] ((t.sz : Int) ≤ left) (encT t) [(b, .cells 71 (workC (left - t.sz) cs once dn mb))] (.iface 76 (.agg [])) [(b, .cells 71 (workC (left) cs once dn mb))] := by
  refine ACalls.of_code Tryz.func68 rfl (by rfl) (Nat.le_of_ble_eq_true rfl) ?_
  refine ACode.seq ?_
  refine ACode.region ?_
  refine AOps.e rfl rfl rfl (AOp.boxA rfl (fun b3 => ?_))
  refine AOps.e rfl rfl rfl (AOp.allocN rfl rfl (fun b4 => ?_))
  refine AOps.nil ?_
  refine ACode.seq ?_
  refine ACode.draws [.p 0, .p 1, .p 2, .l 3, .p 4, .e 5 []] mixed (by kernel_rfl) ?_
  refine ASeq.pv rfl rfl rfl rfl (fun L0 => (AVal.moveN (by constructor))) ?_
  refine ASeq.pv rfl rfl rfl rfl (fun L0 => (AVal.nilCheckP rfl)) ?_
  refine ASeq.pv rfl rfl rfl rfl (fun L0 => (AVal.fieldP rfl rfl)) ?_
  refine ASeq.lv rfl rfl rfl rfl (HasCell.mk (d := encT _) 1 rfl rfl (.refl _)) ?_
  refine ASeq.pe rfl rfl rfl rfl (fun L0 => (AOp.callP (size_c1 t ht h1) (by first | exact LeL.eq rfl | (repeat constructor)) ⟨rfl, rfl⟩)) ?_
  refine ASeq.ee rfl rfl rfl rfl rfl (AOp.callM [_, _] (burn_c b mb left cs once dn hl t.sz (by omega)) (by first | exact LeL.eq rfl | (repeat constructor)) rfl (fun hok => ⟨(by first | exact Keeps.nil | (repeat first | exact Keeps.nil | refine Keeps.cons (by first | exact HasCell.mk 0 rfl rfl (.refl _) | exact HasCell.mk 1 rfl rfl (.refl _) | exact HasCell.mk 2 rfl rfl (.refl _) | exact HasCell.mk 3 rfl rfl (.refl _) | exact HasCell.mk 4 rfl rfl (.refl _) | exact HasCell.mk 5 rfl rfl (.refl _) | exact HasCell.mk 6 rfl rfl (.refl _) | exact HasCell.mk 7 rfl rfl (.refl _)) ?_)), ?_⟩) (fun hno => ?_))
  ·
    refine ASeq.nil ?_
    refine ACode.seq ?_
    refine ACode.region ?_
    refine AOps.v rfl rfl rfl (AVal.loadP (d := encT _) 1 rfl rfl rfl rfl) ?_
    refine AOps.e0 rfl rfl (AOp.storeN 0 rfl rfl rfl (by constructor) rfl rfl rfl (by repeat constructor) (by repeat constructor) ?_)
    refine AOps.nil ?_
    refine ACode.ret ?_
    refine AFin.mayRet rfl (.cons (by first | exact ARead.box (d := encT _) 0 rfl rfl rfl rfl | exact ARead.box (d := encT _) 1 rfl rfl rfl rfl | exact ARead.box (d := encT _) 2 rfl rfl rfl rfl | exact ARead.box (d := encT _) 3 rfl rfl rfl rfl | exact ARead.box (d := encT _) 4 rfl rfl rfl rfl | exact ARead.box (d := encT _) 5 rfl rfl rfl rfl | exact ARead.box (d := encT _) 6 rfl rfl rfl rfl | exact ARead.box (d := encT _) 7 rfl rfl rfl rfl | exact ARead.box 0 rfl rfl rfl rfl | exact ARead.box 1 rfl rfl rfl rfl | exact ARead.box 2 rfl rfl rfl rfl | exact ARead.box 3 rfl rfl rfl rfl | exact ARead.box 4 rfl rfl rfl rfl | exact ARead.box 5 rfl rfl rfl rfl | exact ARead.box 6 rfl rfl rfl rfl | exact ARead.box 7 rfl rfl rfl rfl) .nil) (by repeat first | exact List.Sublist.refl _ | apply List.Sublist.cons_cons | apply List.Sublist.cons) ?_ (hok)
    exact .refl _
  ·
    exact AFin.mayPan (X := X) (fn := Tryz.f68) rfl (by repeat first | exact List.Sublist.refl _ | apply List.Sublist.cons_cons | apply List.Sublist.cons | exact List.nil_sublist _) (hno)

theorem fit_mono {A B : Nat} (h : A ≤ B) : ∀ (m : Nat) (t : Term), t.sz = m → t.fit A → t.fit B := by
  intro m
  induction m using Nat.strongRecOn with
  | _ m ih =>
    intro t hm hf
    rw [Term.fit_iff] at hf ⊢
    exact ⟨Nat.le_trans hf.1 h, fun l hl => Nat.le_trans (hf.2.1 l hl) h, Nat.le_trans hf.2.2.1 h, fun k hk => ih k.sz (by rw [← hm]; exact Term.sz_lt hk) k rfl (hf.2.2.2.1 k hk), hf.2.2.2.2⟩
theorem fitX {t : Term} (h : t.fit 1099511627776) : t.fit 9223372036854775807 := fit_mono (by omega) _ t rfl h

theorem wput_c (b mb : Nat) (left : Int) (cs : List Core) (once dn : Bool) (hl : 0 ≤ left ∧ left ≤ 9223372036854775807) (t a : Term) (ht : t.fit 1099511627776) (ha : a.fit 1099511627776) (h1 : t.sz ≤ 4611686018427387904) (h2 : a.sz ≤ 4611686018427387904) (h3 : sizeM t a ≤ 9223372036854775807) : AMay X 67 [.ptr b 0, encT t, encT a] [(b, .cells 71 (workC (left) cs once dn mb))] (sizeM t a ≤ left) (encT (put t [a])) [(b, .cells 71 (workC (left - sizeM t a) cs once dn mb))] (.iface 76 (.agg [])) [(b, .cells 71 (workC (left) cs once dn mb))] := by
  refine ACalls.of_code Tryz.func67 rfl (by rfl) (Nat.le_of_ble_eq_true rfl) ?_
  refine ACode.seq ?_
  refine ACode.region ?_
  refine AOps.e rfl rfl rfl (AOp.boxA rfl (fun b4 => ?_))
  refine AOps.e rfl rfl rfl (AOp.boxA rfl (fun b5 => ?_))
  refine AOps.e rfl rfl rfl (AOp.allocN rfl rfl (fun b6 => ?_))
  refine AOps.nil ?_
  refine ACode.seq ?_
  refine ACode.draws [.p 0, .p 1, .p 2, .l 3, .l 4, .p 5, .e 6 []] mixed (by kernel_rfl) ?_
  refine ASeq.pv rfl rfl rfl rfl (fun L0 => (AVal.moveN (by constructor))) ?_
  refine ASeq.pv rfl rfl rfl rfl (fun L0 => (AVal.nilCheckP rfl)) ?_
  refine ASeq.pv rfl rfl rfl rfl (fun L0 => (AVal.fieldP rfl rfl)) ?_
  refine ASeq.lv rfl rfl rfl rfl (HasCell.mk (d := encT _) 2 rfl rfl (.refl _)) ?_
  refine ASeq.lv rfl rfl rfl rfl (HasCell.mk (d := encT _) 1 rfl rfl (.refl _)) ?_
  refine ASeq.pe rfl rfl rfl rfl (fun L0 => (AOp.callP (hsize_c t a (fitX ht) (fitX ha) h1 h2 h3) (by first | exact LeL.eq rfl | (repeat constructor)) ⟨rfl, rfl⟩)) ?_
  refine ASeq.ee rfl rfl rfl rfl rfl (AOp.callM [_, _, _] (burn_c b mb left cs once dn hl (sizeM t a) ⟨sizeM_nonneg t a, h3⟩) (by first | exact LeL.eq rfl | (repeat constructor)) rfl (fun hok => ⟨(by first | exact Keeps.nil | (repeat first | exact Keeps.nil | refine Keeps.cons (by first | exact HasCell.mk 0 rfl rfl (.refl _) | exact HasCell.mk 1 rfl rfl (.refl _) | exact HasCell.mk 2 rfl rfl (.refl _) | exact HasCell.mk 3 rfl rfl (.refl _) | exact HasCell.mk 4 rfl rfl (.refl _) | exact HasCell.mk 5 rfl rfl (.refl _) | exact HasCell.mk 6 rfl rfl (.refl _) | exact HasCell.mk 7 rfl rfl (.refl _)) ?_)), ?_⟩) (fun hno => ?_))
  ·
    refine ASeq.nil ?_
    refine ACode.seq ?_
    refine ACode.region ?_
    refine AOps.v rfl rfl rfl (AVal.loadP (d := encT _) 2 rfl rfl rfl rfl) ?_
    refine AOps.v rfl rfl rfl (AVal.loadP (d := encT _) 1 rfl rfl rfl rfl) ?_
    refine AOps.e rfl rfl rfl (AOp.buildSliceT (ts := [_]) rfl rfl rfl rfl rfl ?_)
    refine AOps.e rfl rfl rfl (AOp.callP (put_c t [a] ht h1 (by simp) (fun u hu => by rw [List.mem_singleton.1 hu]; exact ⟨ha, h2⟩)) (by first | exact LeL.eq rfl | (repeat constructor)) ?_)
    refine AOps.e0 rfl rfl (AOp.storeN 0 rfl rfl rfl (by constructor) rfl rfl rfl (by repeat constructor) (by repeat constructor) ?_)
    refine AOps.nil ?_
    refine ACode.ret ?_
    refine AFin.mayRet rfl (.cons (by first | exact ARead.box (d := encT _) 0 rfl rfl rfl rfl | exact ARead.box (d := encT _) 1 rfl rfl rfl rfl | exact ARead.box (d := encT _) 2 rfl rfl rfl rfl | exact ARead.box (d := encT _) 3 rfl rfl rfl rfl | exact ARead.box (d := encT _) 4 rfl rfl rfl rfl | exact ARead.box (d := encT _) 5 rfl rfl rfl rfl | exact ARead.box (d := encT _) 6 rfl rfl rfl rfl | exact ARead.box (d := encT _) 7 rfl rfl rfl rfl | exact ARead.box 0 rfl rfl rfl rfl | exact ARead.box 1 rfl rfl rfl rfl | exact ARead.box 2 rfl rfl rfl rfl | exact ARead.box 3 rfl rfl rfl rfl | exact ARead.box 4 rfl rfl rfl rfl | exact ARead.box 5 rfl rfl rfl rfl | exact ARead.box 6 rfl rfl rfl rfl | exact ARead.box 7 rfl rfl rfl rfl) .nil) (by repeat first | exact List.Sublist.refl _ | apply List.Sublist.cons_cons | apply List.Sublist.cons) ?_ (hok)
    exact .refl _
  ·
    exact AFin.mayPan (X := X) (fn := Tryz.f67) rfl (by repeat first | exact List.Sublist.refl _ | apply List.Sublist.cons_cons | apply List.Sublist.cons | exact List.nil_sublist _) (hno)

theorem app_c0 (b mb : Nat) (left : Int) (cs : List Core) (once dn : Bool) (hl : 0 ≤ left ∧ left ≤ 9223372036854775807) (t x : Term) (hk : ¬ x.kind = 5) : AKeep X 47 [.ptr b 0, encT t, encT x] [(b, .cells 71 (workC (left) cs once dn mb))] (.tup [encT t, .bool false]) := by
  refine ACalls.of_code Tryz.func47 rfl (by rfl) (Nat.le_of_ble_eq_true rfl) ?_
  refine ACode.seq ?_
  refine ACode.region ?_
  refine AOps.e rfl rfl rfl (AOp.boxA rfl (fun b4 => ?_))
  refine AOps.e rfl rfl rfl (AOp.boxA rfl (fun b5 => ?_))
  refine AOps.e rfl rfl rfl (AOp.allocN rfl rfl (fun b6 => ?_))
  refine AOps.v rfl rfl rfl (AVal.assignN (by constructor)) ?_
  refine AOps.nil ?_
  refine ACode.seq ?_
  refine ACode.seq ?_
  refine ACode.region ?_
  refine AOps.v rfl rfl rfl (AVal.fieldP rfl rfl) ?_
  refine AOps.v rfl rfl rfl (AVal.loadPN 1 rfl rfl rfl rfl (by constructor)) ?_
  refine AOps.v rfl rfl rfl (AVal.neq rfl rfl) ?_
  refine AOps.nil ?_
  refine ACode.condS rfl (fun h10 => ?_) (fun h10 => ?_)
  ·
    try simp only [decide_eq_true_eq, decide_eq_false_iff_not, Bool.not_eq_true', Bool.not_eq_false', Bool.and_eq_true, Bool.or_eq_true, beq_iff_eq, beq_eq_false_iff_ne] at h10
    refine ACode.seq ?_
    refine ACode.region ?_
    refine AOps.v rfl rfl rfl (AVal.loadP (d := encT _) 2 rfl rfl rfl rfl) ?_
    refine AOps.e0 rfl rfl (AOp.storeN 0 rfl rfl rfl (by constructor) rfl rfl rfl (by repeat constructor) (by repeat constructor) ?_)
    refine AOps.v rfl rfl rfl (AVal.assignN (by constructor)) ?_
    refine AOps.nil ?_
    refine ACode.ret ?_
    refine AFin.keepRet rfl (.cons (by first | exact ARead.box (d := encT _) 0 rfl rfl rfl rfl | exact ARead.box (d := encT _) 1 rfl rfl rfl rfl | exact ARead.box (d := encT _) 2 rfl rfl rfl rfl | exact ARead.box (d := encT _) 3 rfl rfl rfl rfl | exact ARead.box (d := encT _) 4 rfl rfl rfl rfl | exact ARead.box (d := encT _) 5 rfl rfl rfl rfl | exact ARead.box (d := encT _) 6 rfl rfl rfl rfl | exact ARead.box (d := encT _) 7 rfl rfl rfl rfl | exact ARead.box 0 rfl rfl rfl rfl | exact ARead.box 1 rfl rfl rfl rfl | exact ARead.box 2 rfl rfl rfl rfl | exact ARead.box 3 rfl rfl rfl rfl | exact ARead.box 4 rfl rfl rfl rfl | exact ARead.box 5 rfl rfl rfl rfl | exact ARead.box 6 rfl rfl rfl rfl | exact ARead.box 7 rfl rfl rfl rfl) (.cons rfl .nil)) (by repeat first | exact List.Sublist.refl _ | apply List.Sublist.cons_cons | apply List.Sublist.cons) ?_
    exact .refl _
  ·
    try simp only [decide_eq_true_eq, decide_eq_false_iff_not, Bool.not_eq_true', Bool.not_eq_false', Bool.and_eq_true, Bool.or_eq_true, beq_iff_eq, beq_eq_false_iff_ne] at h10
    exact absurd (by simpa using h10) hk --END

theorem app_c1 (b mb : Nat) (left : Int) (cs : List Core) (once dn : Bool) (hl : 0 ≤ left ∧ left ≤ 9223372036854775807) (t x : Term) (hk : x.kind = 5) (ht : t.fit 1099511627776) (hx : x.fit 1099511627776) (h1 : t.sz ≤ 268435456) (h2 : x.sz ≤ 268435456) : AMay X 47 [.ptr b 0, encT t, encT x] [(b, .cells 71 (workC (left) cs once dn mb))] (sizeM (kid x 1) (kid t 1) ≤ left) (.tup [encT (put (kid x 1) [kid t 1]), .bool true]) [(b, .cells 71 (workC (left - sizeM (kid x 1) (kid t 1)) cs once dn mb))] (.iface 76 (.agg [])) [(b, .cells 71 (workC (left) cs once dn mb))] := by
  refine ACalls.of_code Tryz.func47 rfl (by rfl) (Nat.le_of_ble_eq_true rfl) ?_
  refine ACode.seq ?_
  refine ACode.region ?_
  refine AOps.e rfl rfl rfl (AOp.boxA rfl (fun b4 => ?_))
  refine AOps.e rfl rfl rfl (AOp.boxA rfl (fun b5 => ?_))
  refine AOps.e rfl rfl rfl (AOp.allocN rfl rfl (fun b6 => ?_))
  refine AOps.v rfl rfl rfl (AVal.assignN (by constructor)) ?_
  refine AOps.nil ?_
  refine ACode.seq ?_
  refine ACode.seq ?_
  refine ACode.region ?_
  refine AOps.v rfl rfl rfl (AVal.fieldP rfl rfl) ?_
  refine AOps.v rfl rfl rfl (AVal.loadPN 1 rfl rfl rfl rfl (by constructor)) ?_
  refine AOps.v rfl rfl rfl (AVal.neq rfl rfl) ?_
  refine AOps.nil ?_
  refine ACode.condS rfl (fun h10 => ?_) (fun h10 => ?_)
  ·
    try simp only [decide_eq_true_eq, decide_eq_false_iff_not, Bool.not_eq_true', Bool.not_eq_false', Bool.and_eq_true, Bool.or_eq_true, beq_iff_eq, beq_eq_false_iff_ne] at h10
    exact absurd hk (by simpa using h10) --END
  ·
    try simp only [decide_eq_true_eq, decide_eq_false_iff_not, Bool.not_eq_true', Bool.not_eq_false', Bool.and_eq_true, Bool.or_eq_true, beq_iff_eq, beq_eq_false_iff_ne] at h10
    refine ACode.skip ?_
    refine ACode.seq ?_
    refine ACode.draws [.p 0, .l 1, .p 2, .l 3, .p 4, .e 5 [], .e 6 [], .p 7] mixed (by kernel_rfl) ?_
    refine ASeq.pv rfl rfl rfl rfl (fun L0 => (AVal.moveN (by constructor))) ?_
    refine ASeq.lv rfl rfl rfl rfl (HasCell.mk (d := encT _) 1 rfl rfl (.refl _)) ?_
    refine ASeq.pe rfl rfl rfl rfl (fun L0 => (AOp.callP (kid_c x 1) (by first | exact LeL.eq rfl | (repeat constructor)) ⟨rfl, rfl⟩)) ?_
    refine ASeq.lv rfl rfl rfl rfl (HasCell.mk (d := encT _) 2 rfl rfl (.refl _)) ?_
    refine ASeq.pe rfl rfl rfl rfl (fun L0 => (AOp.callP (kid_c t 1) (by first | exact LeL.eq rfl | (repeat constructor)) ⟨rfl, rfl⟩)) ?_
    refine ASeq.ee rfl rfl rfl rfl rfl (AOp.callM [_, _, _] (wput_c b mb left cs once dn hl (kid x 1) (kid t 1) (kid_fit hx _) (kid_fit ht _) (Nat.le_trans (kid_sz _ _) (by omega)) (Nat.le_trans (kid_sz _ _) (by omega)) (by have := sizeM_small (t := kid x 1) (a := kid t 1) (Nat.le_trans (kid_sz _ _) (by omega)) (Nat.le_trans (kid_sz _ _) (by omega)); omega)) (by first | exact LeL.eq rfl | (repeat constructor)) rfl (fun hok => ⟨(by first | exact Keeps.nil | (repeat first | exact Keeps.nil | refine Keeps.cons (by first | exact HasCell.mk 0 rfl rfl (.refl _) | exact HasCell.mk 1 rfl rfl (.refl _) | exact HasCell.mk 2 rfl rfl (.refl _) | exact HasCell.mk 3 rfl rfl (.refl _) | exact HasCell.mk 4 rfl rfl (.refl _) | exact HasCell.mk 5 rfl rfl (.refl _) | exact HasCell.mk 6 rfl rfl (.refl _) | exact HasCell.mk 7 rfl rfl (.refl _)) ?_)), ?_⟩) (fun hno => ?_))
    ·
      refine ASeq.ee0 rfl rfl rfl rfl (AOp.storeN 0 rfl rfl rfl (by constructor) rfl rfl rfl (by repeat constructor) (by repeat constructor) ⟨(by first | exact Keeps.nil | (repeat first | exact Keeps.nil | refine Keeps.cons (by first | exact HasCell.mk 0 rfl rfl (.refl _) | exact HasCell.mk 1 rfl rfl (.refl _) | exact HasCell.mk 2 rfl rfl (.refl _) | exact HasCell.mk 3 rfl rfl (.refl _) | exact HasCell.mk 4 rfl rfl (.refl _) | exact HasCell.mk 5 rfl rfl (.refl _) | exact HasCell.mk 6 rfl rfl (.refl _) | exact HasCell.mk 7 rfl rfl (.refl _)) ?_)), ?_⟩)
      refine ASeq.pv rfl rfl rfl rfl (fun L0 => (AVal.assignN (by constructor))) ?_
      refine ASeq.nil ?_
      refine ACode.ret ?_
      refine AFin.mayRet rfl (.cons (by first | exact ARead.box (d := encT _) 0 rfl rfl rfl rfl | exact ARead.box (d := encT _) 1 rfl rfl rfl rfl | exact ARead.box (d := encT _) 2 rfl rfl rfl rfl | exact ARead.box (d := encT _) 3 rfl rfl rfl rfl | exact ARead.box (d := encT _) 4 rfl rfl rfl rfl | exact ARead.box (d := encT _) 5 rfl rfl rfl rfl | exact ARead.box (d := encT _) 6 rfl rfl rfl rfl | exact ARead.box (d := encT _) 7 rfl rfl rfl rfl | exact ARead.box 0 rfl rfl rfl rfl | exact ARead.box 1 rfl rfl rfl rfl | exact ARead.box 2 rfl rfl rfl rfl | exact ARead.box 3 rfl rfl rfl rfl | exact ARead.box 4 rfl rfl rfl rfl | exact ARead.box 5 rfl rfl rfl rfl | exact ARead.box 6 rfl rfl rfl rfl | exact ARead.box 7 rfl rfl rfl rfl) (.cons rfl .nil)) (by repeat first | exact List.Sublist.refl _ | apply List.Sublist.cons_cons | apply List.Sublist.cons) ?_ (hok)
      exact .refl _
    ·
      exact AFin.mayPan (X := X) (fn := Tryz.f47) rfl (by repeat first | exact List.Sublist.refl _ | apply List.Sublist.cons_cons | apply List.Sublist.cons | exact List.nil_sublist _) (hno)

theorem half_c0 (b mb : Nat) (left : Int) (cs : List Core) (once dn : Bool) (hl : 0 ≤ left ∧ left ≤ 9223372036854775807) (t x : Term) (hk : ¬ x.kind = 13) : AKeep X 48 [.ptr b 0, encT t, encT x] [(b, .cells 71 (workC (left) cs once dn mb))] (.tup [encT t, .bool false]) := by
  refine ACalls.of_code Tryz.func48 rfl (by rfl) (Nat.le_of_ble_eq_true rfl) ?_
  refine ACode.seq ?_
  refine ACode.region ?_
  refine AOps.e rfl rfl rfl (AOp.boxA rfl (fun b4 => ?_))
  refine AOps.e rfl rfl rfl (AOp.boxA rfl (fun b5 => ?_))
  refine AOps.e rfl rfl rfl (AOp.allocN rfl rfl (fun b6 => ?_))
  refine AOps.v rfl rfl rfl (AVal.assignN (by constructor)) ?_
  refine AOps.nil ?_
  refine ACode.seq ?_
  refine ACode.seq ?_
  refine ACode.region ?_
  refine AOps.v rfl rfl rfl (AVal.fieldP rfl rfl) ?_
  refine AOps.v rfl rfl rfl (AVal.loadPN 1 rfl rfl rfl rfl (by constructor)) ?_
  refine AOps.v rfl rfl rfl (AVal.neq rfl rfl) ?_
  refine AOps.nil ?_
  refine ACode.condS rfl (fun h11 => ?_) (fun h11 => ?_)
  ·
    try simp only [decide_eq_true_eq, decide_eq_false_iff_not, Bool.not_eq_true', Bool.not_eq_false', Bool.and_eq_true, Bool.or_eq_true, beq_iff_eq, beq_eq_false_iff_ne] at h11
    refine ACode.seq ?_
    refine ACode.region ?_
    refine AOps.v rfl rfl rfl (AVal.loadP (d := encT _) 2 rfl rfl rfl rfl) ?_
    refine AOps.e0 rfl rfl (AOp.storeN 0 rfl rfl rfl (by constructor) rfl rfl rfl (by repeat constructor) (by repeat constructor) ?_)
    refine AOps.v rfl rfl rfl (AVal.assignN (by constructor)) ?_
    refine AOps.nil ?_
    refine ACode.ret ?_
    refine AFin.keepRet rfl (.cons (by first | exact ARead.box (d := encT _) 0 rfl rfl rfl rfl | exact ARead.box (d := encT _) 1 rfl rfl rfl rfl | exact ARead.box (d := encT _) 2 rfl rfl rfl rfl | exact ARead.box (d := encT _) 3 rfl rfl rfl rfl | exact ARead.box (d := encT _) 4 rfl rfl rfl rfl | exact ARead.box (d := encT _) 5 rfl rfl rfl rfl | exact ARead.box (d := encT _) 6 rfl rfl rfl rfl | exact ARead.box (d := encT _) 7 rfl rfl rfl rfl | exact ARead.box 0 rfl rfl rfl rfl | exact ARead.box 1 rfl rfl rfl rfl | exact ARead.box 2 rfl rfl rfl rfl | exact ARead.box 3 rfl rfl rfl rfl | exact ARead.box 4 rfl rfl rfl rfl | exact ARead.box 5 rfl rfl rfl rfl | exact ARead.box 6 rfl rfl rfl rfl | exact ARead.box 7 rfl rfl rfl rfl) (.cons rfl .nil)) (by repeat first | exact List.Sublist.refl _ | apply List.Sublist.cons_cons | apply List.Sublist.cons) ?_
    exact .refl _
  ·
    try simp only [decide_eq_true_eq, decide_eq_false_iff_not, Bool.not_eq_true', Bool.not_eq_false', Bool.and_eq_true, Bool.or_eq_true, beq_iff_eq, beq_eq_false_iff_ne] at h11
    exact absurd (by simpa using h11) hk --END

theorem half_c1 (b mb : Nat) (left : Int) (cs : List Core) (once dn : Bool) (hl : 0 ≤ left ∧ left ≤ 9223372036854775807) (t x : Term) (hk : x.kind = 13) (ht : t.fit 1099511627776) (hx : x.fit 1099511627776) (h1 : t.sz ≤ 268435456) (h2 : x.sz ≤ 268435456) : AMay X 48 [.ptr b 0, encT t, encT x] [(b, .cells 71 (workC (left) cs once dn mb))] (((kid x (if t.kind = 15 then 1 else 0)).sz : Int) ≤ left) (.tup [encT (kid x (if t.kind = 15 then 1 else 0)), .bool true]) [(b, .cells 71 (workC (left - (kid x (if t.kind = 15 then 1 else 0)).sz) cs once dn mb))] (.iface 76 (.agg [])) [(b, .cells 71 (workC (left) cs once dn mb))] := by
  refine ACalls.of_code Tryz.func48 rfl (by rfl) (Nat.le_of_ble_eq_true rfl) ?_
  refine ACode.seq ?_
  refine ACode.region ?_
  refine AOps.e rfl rfl rfl (AOp.boxA rfl (fun b4 => ?_))
  refine AOps.e rfl rfl rfl (AOp.boxA rfl (fun b5 => ?_))
  refine AOps.e rfl rfl rfl (AOp.allocN rfl rfl (fun b6 => ?_))
  refine AOps.v rfl rfl rfl (AVal.assignN (by constructor)) ?_
  refine AOps.nil ?_
  refine ACode.seq ?_
  refine ACode.seq ?_
  refine ACode.region ?_
  refine AOps.v rfl rfl rfl (AVal.fieldP rfl rfl) ?_
  refine AOps.v rfl rfl rfl (AVal.loadPN 1 rfl rfl rfl rfl (by constructor)) ?_
  refine AOps.v rfl rfl rfl (AVal.neq rfl rfl) ?_
  refine AOps.nil ?_
  refine ACode.condS rfl (fun h11 => ?_) (fun h11 => ?_)
  ·
    try simp only [decide_eq_true_eq, decide_eq_false_iff_not, Bool.not_eq_true', Bool.not_eq_false', Bool.and_eq_true, Bool.or_eq_true, beq_iff_eq, beq_eq_false_iff_ne] at h11
    exact absurd hk (by simpa using h11) --END
  ·
    try simp only [decide_eq_true_eq, decide_eq_false_iff_not, Bool.not_eq_true', Bool.not_eq_false', Bool.and_eq_true, Bool.or_eq_true, beq_iff_eq, beq_eq_false_iff_ne] at h11
    refine ACode.skip ?_
    refine ACode.seq ?_
    refine ACode.region ?_
    refine AOps.v rfl rfl rfl (AVal.assignN (by constructor)) ?_
    refine AOps.nil ?_
    refine ACode.seq ?_
    refine ACode.seq ?_
    refine ACode.region ?_
    refine AOps.v rfl rfl rfl (AVal.fieldP rfl rfl) ?_
    refine AOps.v rfl rfl rfl (AVal.loadPN 2 rfl rfl rfl rfl (by constructor)) ?_
    refine AOps.v rfl rfl rfl (AVal.eql rfl rfl) ?_
    refine AOps.nil ?_
    refine ACode.condS rfl (fun h15 => ?_) (fun h15 => ?_)
    ·
      try simp only [decide_eq_true_eq, decide_eq_false_iff_not, Bool.not_eq_true', Bool.not_eq_false', Bool.and_eq_true, Bool.or_eq_true, beq_iff_eq, beq_eq_false_iff_ne] at h15
      rw [if_pos h15]
      refine ACode.region ?_
      refine AOps.v rfl rfl rfl (AVal.assignN (by constructor)) ?_
      refine AOps.nil ?_
      refine ACode.seq ?_
      refine ACode.region ?_
      refine AOps.v rfl rfl rfl (AVal.moveN (by constructor)) ?_
      refine AOps.v rfl rfl rfl (AVal.loadP (d := encT _) 1 rfl rfl rfl rfl) ?_
      refine AOps.v rfl rfl rfl (AVal.moveN (by constructor)) ?_
      refine AOps.e rfl rfl rfl (AOp.callP (kid_c x 1) (by first | exact LeL.eq rfl | (repeat constructor)) ?_)
      refine AOps.e rfl rfl rfl (AOp.callM [_, _, _] (take_c b mb left cs once dn hl (kid x 1) (fitX (kid_fit hx _)) (Nat.le_trans (kid_sz _ _) (by omega))) (by first | exact LeL.eq rfl | (repeat constructor)) rfl (fun hok => ?_) (fun hno => ?_))
      ·
        refine AOps.e0 rfl rfl (AOp.storeN 0 rfl rfl rfl (by constructor) rfl rfl rfl (by repeat constructor) (by repeat constructor) ?_)
        refine AOps.v rfl rfl rfl (AVal.assignN (by constructor)) ?_
        refine AOps.nil ?_
        refine ACode.ret ?_
        refine AFin.mayRet rfl (.cons (by first | exact ARead.box (d := encT _) 0 rfl rfl rfl rfl | exact ARead.box (d := encT _) 1 rfl rfl rfl rfl | exact ARead.box (d := encT _) 2 rfl rfl rfl rfl | exact ARead.box (d := encT _) 3 rfl rfl rfl rfl | exact ARead.box (d := encT _) 4 rfl rfl rfl rfl | exact ARead.box (d := encT _) 5 rfl rfl rfl rfl | exact ARead.box (d := encT _) 6 rfl rfl rfl rfl | exact ARead.box (d := encT _) 7 rfl rfl rfl rfl | exact ARead.box 0 rfl rfl rfl rfl | exact ARead.box 1 rfl rfl rfl rfl | exact ARead.box 2 rfl rfl rfl rfl | exact ARead.box 3 rfl rfl rfl rfl | exact ARead.box 4 rfl rfl rfl rfl | exact ARead.box 5 rfl rfl rfl rfl | exact ARead.box 6 rfl rfl rfl rfl | exact ARead.box 7 rfl rfl rfl rfl) (.cons rfl .nil)) (by repeat first | exact List.Sublist.refl _ | apply List.Sublist.cons_cons | apply List.Sublist.cons) ?_ (hok)
        exact .refl _
      ·
        exact AFin.mayPan (X := X) (fn := Tryz.f48) rfl (by repeat first | exact List.Sublist.refl _ | apply List.Sublist.cons_cons | apply List.Sublist.cons | exact List.nil_sublist _) (hno)
    ·
      try simp only [decide_eq_true_eq, decide_eq_false_iff_not, Bool.not_eq_true', Bool.not_eq_false', Bool.and_eq_true, Bool.or_eq_true, beq_iff_eq, beq_eq_false_iff_ne] at h15
      rw [if_neg h15]
      refine ACode.skip ?_
      refine ACode.seq ?_
      refine ACode.region ?_
      refine AOps.v rfl rfl rfl (AVal.moveN (by constructor)) ?_
      refine AOps.v rfl rfl rfl (AVal.loadP (d := encT _) 1 rfl rfl rfl rfl) ?_
      refine AOps.v rfl rfl rfl (AVal.moveN (by constructor)) ?_
      refine AOps.e rfl rfl rfl (AOp.callP (kid_c x 0) (by first | exact LeL.eq rfl | (repeat constructor)) ?_)
      refine AOps.e rfl rfl rfl (AOp.callM [_, _, _] (take_c b mb left cs once dn hl (kid x 0) (fitX (kid_fit hx _)) (Nat.le_trans (kid_sz _ _) (by omega))) (by first | exact LeL.eq rfl | (repeat constructor)) rfl (fun hok => ?_) (fun hno => ?_))
      ·
        refine AOps.e0 rfl rfl (AOp.storeN 0 rfl rfl rfl (by constructor) rfl rfl rfl (by repeat constructor) (by repeat constructor) ?_)
        refine AOps.v rfl rfl rfl (AVal.assignN (by constructor)) ?_
        refine AOps.nil ?_
        refine ACode.ret ?_
        refine AFin.mayRet rfl (.cons (by first | exact ARead.box (d := encT _) 0 rfl rfl rfl rfl | exact ARead.box (d := encT _) 1 rfl rfl rfl rfl | exact ARead.box (d := encT _) 2 rfl rfl rfl rfl | exact ARead.box (d := encT _) 3 rfl rfl rfl rfl | exact ARead.box (d := encT _) 4 rfl rfl rfl rfl | exact ARead.box (d := encT _) 5 rfl rfl rfl rfl | exact ARead.box (d := encT _) 6 rfl rfl rfl rfl | exact ARead.box (d := encT _) 7 rfl rfl rfl rfl | exact ARead.box 0 rfl rfl rfl rfl | exact ARead.box 1 rfl rfl rfl rfl | exact ARead.box 2 rfl rfl rfl rfl | exact ARead.box 3 rfl rfl rfl rfl | exact ARead.box 4 rfl rfl rfl rfl | exact ARead.box 5 rfl rfl rfl rfl | exact ARead.box 6 rfl rfl rfl rfl | exact ARead.box 7 rfl rfl rfl rfl) (.cons rfl .nil)) (by repeat first | exact List.Sublist.refl _ | apply List.Sublist.cons_cons | apply List.Sublist.cons) ?_ (hok)
        exact .refl _
      ·
        exact AFin.mayPan (X := X) (fn := Tryz.f48) rfl (by repeat first | exact List.Sublist.refl _ | apply List.Sublist.cons_cons | apply List.Sublist.cons | exact List.nil_sublist _) (hno)

theorem let_c1 (b mb : Nat) (left : Int) (cs : List Core) (once dn : Bool) (hl : 0 ≤ left ∧ left ≤ 9223372036854775807) (t x : Term) (ht : t.fit 1099511627776) (hx : x.fit 1099511627776) (h1 : t.sz ≤ 268435456) (h2 : x.sz ≤ 268435456) : AMay X 49 [.ptr b 0, encT t, encT x] [(b, .cells 71 (workC (left) cs once dn mb))] (sizeM (kid t 2) (kid t 1) ≤ left) (.tup [encT (put (kid t 2) [kid t 1]), .bool true]) [(b, .cells 71 (workC (left - sizeM (kid t 2) (kid t 1)) cs once dn mb))] (.iface 76 (.agg [])) [(b, .cells 71 (workC (left) cs once dn mb))] := by
  refine ACalls.of_code Tryz.func49 rfl (by rfl) (Nat.le_of_ble_eq_true rfl) ?_
  refine ACode.seq ?_
  refine ACode.region ?_
  refine AOps.e rfl rfl rfl (AOp.boxA rfl (fun b4 => ?_))
  refine AOps.e rfl rfl rfl (AOp.boxA rfl (fun b5 => ?_))
  refine AOps.e rfl rfl rfl (AOp.allocN rfl rfl (fun b6 => ?_))
  refine AOps.v rfl rfl rfl (AVal.assignN (by constructor)) ?_
  refine AOps.nil ?_
  refine ACode.seq ?_
  refine ACode.draws [.p 0, .l 1, .p 2, .l 3, .p 4, .e 5 [], .e 6 [], .p 7] mixed (by kernel_rfl) ?_
  refine ASeq.pv rfl rfl rfl rfl (fun L0 => (AVal.moveN (by constructor))) ?_
  refine ASeq.lv rfl rfl rfl rfl (HasCell.mk (d := encT _) 2 rfl rfl (.refl _)) ?_
  refine ASeq.pe rfl rfl rfl rfl (fun L0 => (AOp.callP (kid_c t 2) (by first | exact LeL.eq rfl | (repeat constructor)) ⟨rfl, rfl⟩)) ?_
  refine ASeq.lv rfl rfl rfl rfl (HasCell.mk (d := encT _) 2 rfl rfl (.refl _)) ?_
  refine ASeq.pe rfl rfl rfl rfl (fun L0 => (AOp.callP (kid_c t 1) (by first | exact LeL.eq rfl | (repeat constructor)) ⟨rfl, rfl⟩)) ?_
  refine ASeq.ee rfl rfl rfl rfl rfl (AOp.callM [_, _, _] (wput_c b mb left cs once dn hl (kid t 2) (kid t 1) (kid_fit ht _) (kid_fit ht _) (Nat.le_trans (kid_sz _ _) (by omega)) (Nat.le_trans (kid_sz _ _) (by omega)) (by have := sizeM_small (t := kid t 2) (a := kid t 1) (Nat.le_trans (kid_sz _ _) (by omega)) (Nat.le_trans (kid_sz _ _) (by omega)); omega)) (by first | exact LeL.eq rfl | (repeat constructor)) rfl (fun hok => ⟨(by first | exact Keeps.nil | (repeat first | exact Keeps.nil | refine Keeps.cons (by first | exact HasCell.mk 0 rfl rfl (.refl _) | exact HasCell.mk 1 rfl rfl (.refl _) | exact HasCell.mk 2 rfl rfl (.refl _) | exact HasCell.mk 3 rfl rfl (.refl _) | exact HasCell.mk 4 rfl rfl (.refl _) | exact HasCell.mk 5 rfl rfl (.refl _) | exact HasCell.mk 6 rfl rfl (.refl _) | exact HasCell.mk 7 rfl rfl (.refl _)) ?_)), ?_⟩) (fun hno => ?_))
  ·
    refine ASeq.ee0 rfl rfl rfl rfl (AOp.storeN 0 rfl rfl rfl (by constructor) rfl rfl rfl (by repeat constructor) (by repeat constructor) ⟨(by first | exact Keeps.nil | (repeat first | exact Keeps.nil | refine Keeps.cons (by first | exact HasCell.mk 0 rfl rfl (.refl _) | exact HasCell.mk 1 rfl rfl (.refl _) | exact HasCell.mk 2 rfl rfl (.refl _) | exact HasCell.mk 3 rfl rfl (.refl _) | exact HasCell.mk 4 rfl rfl (.refl _) | exact HasCell.mk 5 rfl rfl (.refl _) | exact HasCell.mk 6 rfl rfl (.refl _) | exact HasCell.mk 7 rfl rfl (.refl _)) ?_)), ?_⟩)
    refine ASeq.pv rfl rfl rfl rfl (fun L0 => (AVal.assignN (by constructor))) ?_
    refine ASeq.nil ?_
    refine ACode.ret ?_
    refine AFin.mayRet rfl (.cons (by first | exact ARead.box (d := encT _) 0 rfl rfl rfl rfl | exact ARead.box (d := encT _) 1 rfl rfl rfl rfl | exact ARead.box (d := encT _) 2 rfl rfl rfl rfl | exact ARead.box (d := encT _) 3 rfl rfl rfl rfl | exact ARead.box (d := encT _) 4 rfl rfl rfl rfl | exact ARead.box (d := encT _) 5 rfl rfl rfl rfl | exact ARead.box (d := encT _) 6 rfl rfl rfl rfl | exact ARead.box (d := encT _) 7 rfl rfl rfl rfl | exact ARead.box 0 rfl rfl rfl rfl | exact ARead.box 1 rfl rfl rfl rfl | exact ARead.box 2 rfl rfl rfl rfl | exact ARead.box 3 rfl rfl rfl rfl | exact ARead.box 4 rfl rfl rfl rfl | exact ARead.box 5 rfl rfl rfl rfl | exact ARead.box 6 rfl rfl rfl rfl | exact ARead.box 7 rfl rfl rfl rfl) (.cons rfl .nil)) (by repeat first | exact List.Sublist.refl _ | apply List.Sublist.cons_cons | apply List.Sublist.cons) ?_ (hok)
    exact .refl _
  ·
    exact AFin.mayPan (X := X) (fn := Tryz.f49) rfl (by repeat first | exact List.Sublist.refl _ | apply List.Sublist.cons_cons | apply List.Sublist.cons | exact List.nil_sublist _) (hno)

theorem path_c0 (b mb : Nat) (left : Int) (cs : List Core) (once dn : Bool) (hl : 0 ≤ left ∧ left ≤ 9223372036854775807) (t x : Term) (hk : ¬ x.kind = 20) : AKeep X 52 [.ptr b 0, encT t, encT x] [(b, .cells 71 (workC (left) cs once dn mb))] (.tup [encT t, .bool false]) := by
  refine ACalls.of_code Tryz.func52 rfl (by rfl) (Nat.le_of_ble_eq_true rfl) ?_
  refine ACode.seq ?_
  refine ACode.region ?_
  refine AOps.e rfl rfl rfl (AOp.boxA rfl (fun b4 => ?_))
  refine AOps.e rfl rfl rfl (AOp.boxA rfl (fun b5 => ?_))
  refine AOps.e rfl rfl rfl (AOp.allocN rfl rfl (fun b6 => ?_))
  refine AOps.v rfl rfl rfl (AVal.assignN (by constructor)) ?_
  refine AOps.nil ?_
  refine ACode.seq ?_
  refine ACode.seq ?_
  refine ACode.region ?_
  refine AOps.v rfl rfl rfl (AVal.fieldP rfl rfl) ?_
  refine AOps.v rfl rfl rfl (AVal.loadPN 1 rfl rfl rfl rfl (by constructor)) ?_
  refine AOps.v rfl rfl rfl (AVal.neq rfl rfl) ?_
  refine AOps.nil ?_
  refine ACode.condS rfl (fun h10 => ?_) (fun h10 => ?_)
  ·
    try simp only [decide_eq_true_eq, decide_eq_false_iff_not, Bool.not_eq_true', Bool.not_eq_false', Bool.and_eq_true, Bool.or_eq_true, beq_iff_eq, beq_eq_false_iff_ne] at h10
    refine ACode.seq ?_
    refine ACode.region ?_
    refine AOps.v rfl rfl rfl (AVal.loadP (d := encT _) 2 rfl rfl rfl rfl) ?_
    refine AOps.e0 rfl rfl (AOp.storeN 0 rfl rfl rfl (by constructor) rfl rfl rfl (by repeat constructor) (by repeat constructor) ?_)
    refine AOps.v rfl rfl rfl (AVal.assignN (by constructor)) ?_
    refine AOps.nil ?_
    refine ACode.ret ?_
    refine AFin.keepRet rfl (.cons (by first | exact ARead.box (d := encT _) 0 rfl rfl rfl rfl | exact ARead.box (d := encT _) 1 rfl rfl rfl rfl | exact ARead.box (d := encT _) 2 rfl rfl rfl rfl | exact ARead.box (d := encT _) 3 rfl rfl rfl rfl | exact ARead.box (d := encT _) 4 rfl rfl rfl rfl | exact ARead.box (d := encT _) 5 rfl rfl rfl rfl | exact ARead.box (d := encT _) 6 rfl rfl rfl rfl | exact ARead.box (d := encT _) 7 rfl rfl rfl rfl | exact ARead.box 0 rfl rfl rfl rfl | exact ARead.box 1 rfl rfl rfl rfl | exact ARead.box 2 rfl rfl rfl rfl | exact ARead.box 3 rfl rfl rfl rfl | exact ARead.box 4 rfl rfl rfl rfl | exact ARead.box 5 rfl rfl rfl rfl | exact ARead.box 6 rfl rfl rfl rfl | exact ARead.box 7 rfl rfl rfl rfl) (.cons rfl .nil)) (by repeat first | exact List.Sublist.refl _ | apply List.Sublist.cons_cons | apply List.Sublist.cons) ?_
    exact .refl _
  ·
    try simp only [decide_eq_true_eq, decide_eq_false_iff_not, Bool.not_eq_true', Bool.not_eq_false', Bool.and_eq_true, Bool.or_eq_true, beq_iff_eq, beq_eq_false_iff_ne] at h10
    exact absurd (by simpa using h10) hk --END

theorem path_c1 (b mb : Nat) (left : Int) (cs : List Core) (once dn : Bool) (hl : 0 ≤ left ∧ left ≤ 9223372036854775807) (t x : Term) (hk : x.kind = 20) (ht : t.fit 1099511627776) (hx : x.fit 1099511627776) (h1 : t.sz ≤ 268435456) (h2 : x.sz ≤ 268435456) : AMay X 52 [.ptr b 0, encT t, encT x] [(b, .cells 71 (workC (left) cs once dn mb))] (((kid t 3).sz : Int) ≤ left) (.tup [encT (kid t 3), .bool true]) [(b, .cells 71 (workC (left - (kid t 3).sz) cs once dn mb))] (.iface 76 (.agg [])) [(b, .cells 71 (workC (left) cs once dn mb))] := by
  refine ACalls.of_code Tryz.func52 rfl (by rfl) (Nat.le_of_ble_eq_true rfl) ?_
  refine ACode.seq ?_
  refine ACode.region ?_
  refine AOps.e rfl rfl rfl (AOp.boxA rfl (fun b4 => ?_))
  refine AOps.e rfl rfl rfl (AOp.boxA rfl (fun b5 => ?_))
  refine AOps.e rfl rfl rfl (AOp.allocN rfl rfl (fun b6 => ?_))
  refine AOps.v rfl rfl rfl (AVal.assignN (by constructor)) ?_
  refine AOps.nil ?_
  refine ACode.seq ?_
  refine ACode.seq ?_
  refine ACode.region ?_
  refine AOps.v rfl rfl rfl (AVal.fieldP rfl rfl) ?_
  refine AOps.v rfl rfl rfl (AVal.loadPN 1 rfl rfl rfl rfl (by constructor)) ?_
  refine AOps.v rfl rfl rfl (AVal.neq rfl rfl) ?_
  refine AOps.nil ?_
  refine ACode.condS rfl (fun h10 => ?_) (fun h10 => ?_)
  ·
    try simp only [decide_eq_true_eq, decide_eq_false_iff_not, Bool.not_eq_true', Bool.not_eq_false', Bool.and_eq_true, Bool.or_eq_true, beq_iff_eq, beq_eq_false_iff_ne] at h10
    exact absurd hk (by simpa using h10) --END
  ·
    try simp only [decide_eq_true_eq, decide_eq_false_iff_not, Bool.not_eq_true', Bool.not_eq_false', Bool.and_eq_true, Bool.or_eq_true, beq_iff_eq, beq_eq_false_iff_ne] at h10
    refine ACode.skip ?_
    refine ACode.seq ?_
    refine ACode.region ?_
    refine AOps.v rfl rfl rfl (AVal.moveN (by constructor)) ?_
    refine AOps.v rfl rfl rfl (AVal.loadP (d := encT _) 2 rfl rfl rfl rfl) ?_
    refine AOps.e rfl rfl rfl (AOp.callP (kid_c t 3) (by first | exact LeL.eq rfl | (repeat constructor)) ?_)
    refine AOps.e rfl rfl rfl (AOp.callM [_, _, _] (take_c b mb left cs once dn hl (kid t 3) (fitX (kid_fit ht _)) (Nat.le_trans (kid_sz _ _) (by omega))) (by first | exact LeL.eq rfl | (repeat constructor)) rfl (fun hok => ?_) (fun hno => ?_))
    ·
      refine AOps.e0 rfl rfl (AOp.storeN 0 rfl rfl rfl (by constructor) rfl rfl rfl (by repeat constructor) (by repeat constructor) ?_)
      refine AOps.v rfl rfl rfl (AVal.assignN (by constructor)) ?_
      refine AOps.nil ?_
      refine ACode.ret ?_
      refine AFin.mayRet rfl (.cons (by first | exact ARead.box (d := encT _) 0 rfl rfl rfl rfl | exact ARead.box (d := encT _) 1 rfl rfl rfl rfl | exact ARead.box (d := encT _) 2 rfl rfl rfl rfl | exact ARead.box (d := encT _) 3 rfl rfl rfl rfl | exact ARead.box (d := encT _) 4 rfl rfl rfl rfl | exact ARead.box (d := encT _) 5 rfl rfl rfl rfl | exact ARead.box (d := encT _) 6 rfl rfl rfl rfl | exact ARead.box (d := encT _) 7 rfl rfl rfl rfl | exact ARead.box 0 rfl rfl rfl rfl | exact ARead.box 1 rfl rfl rfl rfl | exact ARead.box 2 rfl rfl rfl rfl | exact ARead.box 3 rfl rfl rfl rfl | exact ARead.box 4 rfl rfl rfl rfl | exact ARead.box 5 rfl rfl rfl rfl | exact ARead.box 6 rfl rfl rfl rfl | exact ARead.box 7 rfl rfl rfl rfl) (.cons rfl .nil)) (by repeat first | exact List.Sublist.refl _ | apply List.Sublist.cons_cons | apply List.Sublist.cons) ?_ (hok)
      exact .refl _
    ·
      exact AFin.mayPan (X := X) (fn := Tryz.f52) rfl (by repeat first | exact List.Sublist.refl _ | apply List.Sublist.cons_cons | apply List.Sublist.cons | exact List.nil_sublist _) (hno)

theorem branch_c0 (b mb : Nat) (left : Int) (cs : List Core) (once dn : Bool) (hl : 0 ≤ left ∧ left ≤ 9223372036854775807) (t x : Term) (hk : ¬ (x.kind = 23 ∧ 0 ≤ x.num ∧ x.num < t.at_)) : AKeep X 53 [.ptr b 0, encT t, encT x] [(b, .cells 71 (workC (left) cs once dn mb))] (.tup [encT t, .bool false]) := by
  refine ACalls.of_code Tryz.func53 rfl (by rfl) (Nat.le_of_ble_eq_true rfl) ?_
  refine ACode.seq ?_
  refine ACode.region ?_
  refine AOps.e rfl rfl rfl (AOp.boxA rfl (fun b4 => ?_))
  refine AOps.e rfl rfl rfl (AOp.boxA rfl (fun b5 => ?_))
  refine AOps.e rfl rfl rfl (AOp.allocN rfl rfl (fun b6 => ?_))
  refine AOps.v rfl rfl rfl (AVal.assignN (by constructor)) ?_
  refine AOps.nil ?_
  refine ACode.seq ?_
  refine ACode.seq ?_
  refine ACode.region ?_
  refine AOps.v rfl rfl rfl (AVal.fieldP rfl rfl) ?_
  refine AOps.v rfl rfl rfl (AVal.loadPN 1 rfl rfl rfl rfl (by constructor)) ?_
  refine AOps.v rfl rfl rfl (AVal.neq rfl rfl) ?_
  refine AOps.v rfl rfl rfl (AVal.moveN (by constructor)) ?_
  refine AOps.split 11 rfl (fun h11 => ?_) (fun h11 => ?_)
  ·
    try simp only [decide_eq_true_eq, decide_eq_false_iff_not, Bool.not_eq_true', Bool.not_eq_false', Bool.and_eq_true, Bool.or_eq_true, beq_iff_eq, beq_eq_false_iff_ne] at h11
    refine AOps.vF rfl rfl rfl rfl rfl rfl rfl ?_
    refine AOps.vF rfl rfl rfl rfl rfl rfl rfl ?_
    refine AOps.vF rfl rfl rfl rfl rfl rfl rfl ?_
    refine AOps.v rfl rfl rfl (AVal.pickT rfl (by constructor)) ?_
    refine AOps.v rfl rfl rfl (AVal.moveN (by constructor)) ?_
    refine AOps.vF rfl rfl rfl rfl rfl rfl rfl ?_
    refine AOps.vF rfl rfl rfl rfl rfl rfl rfl ?_
    refine AOps.vF rfl rfl rfl rfl rfl rfl rfl ?_
    refine AOps.vF rfl rfl rfl rfl rfl rfl rfl ?_
    refine AOps.vF rfl rfl rfl rfl rfl rfl rfl ?_
    refine AOps.v rfl rfl rfl (AVal.pickT rfl (by constructor)) ?_
    refine AOps.nil ?_
    refine ACode.condT rfl ?_
    refine ACode.seq ?_
    refine ACode.region ?_
    refine AOps.v rfl rfl rfl (AVal.loadP (d := encT _) 2 rfl rfl rfl rfl) ?_
    refine AOps.e0 rfl rfl (AOp.storeN 0 rfl rfl rfl (by constructor) rfl rfl rfl (by repeat constructor) (by repeat constructor) ?_)
    refine AOps.v rfl rfl rfl (AVal.assignN (by constructor)) ?_
    refine AOps.nil ?_
    refine ACode.ret ?_
    refine AFin.keepRet rfl (.cons (by first | exact ARead.box (d := encT _) 0 rfl rfl rfl rfl | exact ARead.box (d := encT _) 1 rfl rfl rfl rfl | exact ARead.box (d := encT _) 2 rfl rfl rfl rfl | exact ARead.box (d := encT _) 3 rfl rfl rfl rfl | exact ARead.box (d := encT _) 4 rfl rfl rfl rfl | exact ARead.box (d := encT _) 5 rfl rfl rfl rfl | exact ARead.box (d := encT _) 6 rfl rfl rfl rfl | exact ARead.box (d := encT _) 7 rfl rfl rfl rfl | exact ARead.box 0 rfl rfl rfl rfl | exact ARead.box 1 rfl rfl rfl rfl | exact ARead.box 2 rfl rfl rfl rfl | exact ARead.box 3 rfl rfl rfl rfl | exact ARead.box 4 rfl rfl rfl rfl | exact ARead.box 5 rfl rfl rfl rfl | exact ARead.box 6 rfl rfl rfl rfl | exact ARead.box 7 rfl rfl rfl rfl) (.cons rfl .nil)) (by repeat first | exact List.Sublist.refl _ | apply List.Sublist.cons_cons | apply List.Sublist.cons) ?_
    exact .refl _
  ·
    try simp only [decide_eq_true_eq, decide_eq_false_iff_not, Bool.not_eq_true', Bool.not_eq_false', Bool.and_eq_true, Bool.or_eq_true, beq_iff_eq, beq_eq_false_iff_ne] at h11
    refine AOps.vT rfl rfl rfl rfl rfl rfl (AVal.fieldP rfl rfl) ?_
    refine AOps.vT rfl rfl rfl rfl rfl rfl (AVal.loadPN 1 rfl rfl rfl rfl (by constructor)) ?_
    refine AOps.vT rfl rfl rfl rfl rfl rfl (AVal.lss rfl rfl) ?_
    refine AOps.v rfl rfl rfl (AVal.pickF rfl (by constructor)) ?_
    refine AOps.v rfl rfl rfl (AVal.moveN (by constructor)) ?_
    refine AOps.split 16 rfl (fun h16 => ?_) (fun h16 => ?_)
    ·
      try simp only [decide_eq_true_eq, decide_eq_false_iff_not, Bool.not_eq_true', Bool.not_eq_false', Bool.and_eq_true, Bool.or_eq_true, beq_iff_eq, beq_eq_false_iff_ne] at h16
      refine AOps.vF rfl rfl rfl rfl rfl rfl rfl ?_
      refine AOps.vF rfl rfl rfl rfl rfl rfl rfl ?_
      refine AOps.vF rfl rfl rfl rfl rfl rfl rfl ?_
      refine AOps.vF rfl rfl rfl rfl rfl rfl rfl ?_
      refine AOps.vF rfl rfl rfl rfl rfl rfl rfl ?_
      refine AOps.v rfl rfl rfl (AVal.pickT rfl (by constructor)) ?_
      refine AOps.nil ?_
      refine ACode.condT rfl ?_
      refine ACode.seq ?_
      refine ACode.region ?_
      refine AOps.v rfl rfl rfl (AVal.loadP (d := encT _) 2 rfl rfl rfl rfl) ?_
      refine AOps.e0 rfl rfl (AOp.storeN 0 rfl rfl rfl (by constructor) rfl rfl rfl (by repeat constructor) (by repeat constructor) ?_)
      refine AOps.v rfl rfl rfl (AVal.assignN (by constructor)) ?_
      refine AOps.nil ?_
      refine ACode.ret ?_
      refine AFin.keepRet rfl (.cons (by first | exact ARead.box (d := encT _) 0 rfl rfl rfl rfl | exact ARead.box (d := encT _) 1 rfl rfl rfl rfl | exact ARead.box (d := encT _) 2 rfl rfl rfl rfl | exact ARead.box (d := encT _) 3 rfl rfl rfl rfl | exact ARead.box (d := encT _) 4 rfl rfl rfl rfl | exact ARead.box (d := encT _) 5 rfl rfl rfl rfl | exact ARead.box (d := encT _) 6 rfl rfl rfl rfl | exact ARead.box (d := encT _) 7 rfl rfl rfl rfl | exact ARead.box 0 rfl rfl rfl rfl | exact ARead.box 1 rfl rfl rfl rfl | exact ARead.box 2 rfl rfl rfl rfl | exact ARead.box 3 rfl rfl rfl rfl | exact ARead.box 4 rfl rfl rfl rfl | exact ARead.box 5 rfl rfl rfl rfl | exact ARead.box 6 rfl rfl rfl rfl | exact ARead.box 7 rfl rfl rfl rfl) (.cons rfl .nil)) (by repeat first | exact List.Sublist.refl _ | apply List.Sublist.cons_cons | apply List.Sublist.cons) ?_
      exact .refl _
    ·
      try simp only [decide_eq_true_eq, decide_eq_false_iff_not, Bool.not_eq_true', Bool.not_eq_false', Bool.and_eq_true, Bool.or_eq_true, beq_iff_eq, beq_eq_false_iff_ne] at h16
      refine AOps.vT rfl rfl rfl rfl rfl rfl (AVal.fieldP rfl rfl) ?_
      refine AOps.vT rfl rfl rfl rfl rfl rfl (AVal.loadPN 1 rfl rfl rfl rfl (by constructor)) ?_
      refine AOps.vT rfl rfl rfl rfl rfl rfl (AVal.fieldP rfl rfl) ?_
      refine AOps.vT rfl rfl rfl rfl rfl rfl (AVal.loadPN 2 rfl rfl rfl rfl (by constructor)) ?_
      refine AOps.vT rfl rfl rfl rfl rfl rfl (AVal.geq rfl rfl) ?_
      refine AOps.v rfl rfl rfl (AVal.pickF rfl (by constructor)) ?_
      refine AOps.nil ?_
      refine ACode.condS rfl (fun h22 => ?_) (fun h22 => ?_)
      ·
        try simp only [decide_eq_true_eq, decide_eq_false_iff_not, Bool.not_eq_true', Bool.not_eq_false', Bool.and_eq_true, Bool.or_eq_true, beq_iff_eq, beq_eq_false_iff_ne] at h22
        refine ACode.seq ?_
        refine ACode.region ?_
        refine AOps.v rfl rfl rfl (AVal.loadP (d := encT _) 2 rfl rfl rfl rfl) ?_
        refine AOps.e0 rfl rfl (AOp.storeN 0 rfl rfl rfl (by constructor) rfl rfl rfl (by repeat constructor) (by repeat constructor) ?_)
        refine AOps.v rfl rfl rfl (AVal.assignN (by constructor)) ?_
        refine AOps.nil ?_
        refine ACode.ret ?_
        refine AFin.keepRet rfl (.cons (by first | exact ARead.box (d := encT _) 0 rfl rfl rfl rfl | exact ARead.box (d := encT _) 1 rfl rfl rfl rfl | exact ARead.box (d := encT _) 2 rfl rfl rfl rfl | exact ARead.box (d := encT _) 3 rfl rfl rfl rfl | exact ARead.box (d := encT _) 4 rfl rfl rfl rfl | exact ARead.box (d := encT _) 5 rfl rfl rfl rfl | exact ARead.box (d := encT _) 6 rfl rfl rfl rfl | exact ARead.box (d := encT _) 7 rfl rfl rfl rfl | exact ARead.box 0 rfl rfl rfl rfl | exact ARead.box 1 rfl rfl rfl rfl | exact ARead.box 2 rfl rfl rfl rfl | exact ARead.box 3 rfl rfl rfl rfl | exact ARead.box 4 rfl rfl rfl rfl | exact ARead.box 5 rfl rfl rfl rfl | exact ARead.box 6 rfl rfl rfl rfl | exact ARead.box 7 rfl rfl rfl rfl) (.cons rfl .nil)) (by repeat first | exact List.Sublist.refl _ | apply List.Sublist.cons_cons | apply List.Sublist.cons) ?_
        exact .refl _
      ·
        try simp only [decide_eq_true_eq, decide_eq_false_iff_not, Bool.not_eq_true', Bool.not_eq_false', Bool.and_eq_true, Bool.or_eq_true, beq_iff_eq, beq_eq_false_iff_ne] at h22
        exact absurd ⟨by omega, by omega, by omega⟩ hk --END

theorem branch_c1 (b mb : Nat) (left : Int) (cs : List Core) (once dn : Bool) (hl : 0 ≤ left ∧ left ≤ 9223372036854775807) (t x : Term) (hk : (x.kind = 23 ∧ 0 ≤ x.num ∧ x.num < t.at_)) (hat : t.at_ ≤ 1099511627776) (ht : t.fit 1099511627776) (hx : x.fit 1099511627776) (h1 : t.sz ≤ 268435456) (h2 : x.sz ≤ 268435456) : AMay X 53 [.ptr b 0, encT t, encT x] [(b, .cells 71 (workC (left) cs once dn mb))] (((kid t (x.num + 1)).sz : Int) ≤ left) (.tup [encT (kid t (x.num + 1)), .bool true]) [(b, .cells 71 (workC (left - (kid t (x.num + 1)).sz) cs once dn mb))] (.iface 76 (.agg [])) [(b, .cells 71 (workC (left) cs once dn mb))] := by
  refine ACalls.of_code Tryz.func53 rfl (by rfl) (Nat.le_of_ble_eq_true rfl) ?_
  refine ACode.seq ?_
  refine ACode.region ?_
  refine AOps.e rfl rfl rfl (AOp.boxA rfl (fun b4 => ?_))
  refine AOps.e rfl rfl rfl (AOp.boxA rfl (fun b5 => ?_))
  refine AOps.e rfl rfl rfl (AOp.allocN rfl rfl (fun b6 => ?_))
  refine AOps.v rfl rfl rfl (AVal.assignN (by constructor)) ?_
  refine AOps.nil ?_
  refine ACode.seq ?_
  refine ACode.seq ?_
  refine ACode.region ?_
  refine AOps.v rfl rfl rfl (AVal.fieldP rfl rfl) ?_
  refine AOps.v rfl rfl rfl (AVal.loadPN 1 rfl rfl rfl rfl (by constructor)) ?_
  refine AOps.v rfl rfl rfl (AVal.neq rfl rfl) ?_
  refine AOps.v rfl rfl rfl (AVal.moveN (by constructor)) ?_
  refine AOps.split 11 rfl (fun h11 => ?_) (fun h11 => ?_)
  ·
    try simp only [decide_eq_true_eq, decide_eq_false_iff_not, Bool.not_eq_true', Bool.not_eq_false', Bool.and_eq_true, Bool.or_eq_true, beq_iff_eq, beq_eq_false_iff_ne] at h11
    refine AOps.vF rfl rfl rfl rfl rfl rfl rfl ?_
    refine AOps.vF rfl rfl rfl rfl rfl rfl rfl ?_
    refine AOps.vF rfl rfl rfl rfl rfl rfl rfl ?_
    refine AOps.v rfl rfl rfl (AVal.pickT rfl (by constructor)) ?_
    refine AOps.v rfl rfl rfl (AVal.moveN (by constructor)) ?_
    refine AOps.vF rfl rfl rfl rfl rfl rfl rfl ?_
    refine AOps.vF rfl rfl rfl rfl rfl rfl rfl ?_
    refine AOps.vF rfl rfl rfl rfl rfl rfl rfl ?_
    refine AOps.vF rfl rfl rfl rfl rfl rfl rfl ?_
    refine AOps.vF rfl rfl rfl rfl rfl rfl rfl ?_
    refine AOps.v rfl rfl rfl (AVal.pickT rfl (by constructor)) ?_
    refine AOps.nil ?_
    refine ACode.condT rfl ?_
    exfalso; obtain ⟨a1, a2, a3⟩ := hk; omega --END
  ·
    try simp only [decide_eq_true_eq, decide_eq_false_iff_not, Bool.not_eq_true', Bool.not_eq_false', Bool.and_eq_true, Bool.or_eq_true, beq_iff_eq, beq_eq_false_iff_ne] at h11
    refine AOps.vT rfl rfl rfl rfl rfl rfl (AVal.fieldP rfl rfl) ?_
    refine AOps.vT rfl rfl rfl rfl rfl rfl (AVal.loadPN 1 rfl rfl rfl rfl (by constructor)) ?_
    refine AOps.vT rfl rfl rfl rfl rfl rfl (AVal.lss rfl rfl) ?_
    refine AOps.v rfl rfl rfl (AVal.pickF rfl (by constructor)) ?_
    refine AOps.v rfl rfl rfl (AVal.moveN (by constructor)) ?_
    refine AOps.split 16 rfl (fun h16 => ?_) (fun h16 => ?_)
    ·
      try simp only [decide_eq_true_eq, decide_eq_false_iff_not, Bool.not_eq_true', Bool.not_eq_false', Bool.and_eq_true, Bool.or_eq_true, beq_iff_eq, beq_eq_false_iff_ne] at h16
      refine AOps.vF rfl rfl rfl rfl rfl rfl rfl ?_
      refine AOps.vF rfl rfl rfl rfl rfl rfl rfl ?_
      refine AOps.vF rfl rfl rfl rfl rfl rfl rfl ?_
      refine AOps.vF rfl rfl rfl rfl rfl rfl rfl ?_
      refine AOps.vF rfl rfl rfl rfl rfl rfl rfl ?_
      refine AOps.v rfl rfl rfl (AVal.pickT rfl (by constructor)) ?_
      refine AOps.nil ?_
      refine ACode.condT rfl ?_
      exfalso; obtain ⟨a1, a2, a3⟩ := hk; omega --END
    ·
      try simp only [decide_eq_true_eq, decide_eq_false_iff_not, Bool.not_eq_true', Bool.not_eq_false', Bool.and_eq_true, Bool.or_eq_true, beq_iff_eq, beq_eq_false_iff_ne] at h16
      refine AOps.vT rfl rfl rfl rfl rfl rfl (AVal.fieldP rfl rfl) ?_
      refine AOps.vT rfl rfl rfl rfl rfl rfl (AVal.loadPN 1 rfl rfl rfl rfl (by constructor)) ?_
      refine AOps.vT rfl rfl rfl rfl rfl rfl (AVal.fieldP rfl rfl) ?_
      refine AOps.vT rfl rfl rfl rfl rfl rfl (AVal.loadPN 2 rfl rfl rfl rfl (by constructor)) ?_
      refine AOps.vT rfl rfl rfl rfl rfl rfl (AVal.geq rfl rfl) ?_
      refine AOps.v rfl rfl rfl (AVal.pickF rfl (by constructor)) ?_
      refine AOps.nil ?_
      refine ACode.condS rfl (fun h22 => ?_) (fun h22 => ?_)
      ·
        try simp only [decide_eq_true_eq, decide_eq_false_iff_not, Bool.not_eq_true', Bool.not_eq_false', Bool.and_eq_true, Bool.or_eq_true, beq_iff_eq, beq_eq_false_iff_ne] at h22
        exfalso; obtain ⟨a1, a2, a3⟩ := hk; omega --END
      ·
        try simp only [decide_eq_true_eq, decide_eq_false_iff_not, Bool.not_eq_true', Bool.not_eq_false', Bool.and_eq_true, Bool.or_eq_true, beq_iff_eq, beq_eq_false_iff_ne] at h22
        refine ACode.skip ?_
        refine ACode.seq ?_
        refine ACode.region ?_
        refine AOps.v rfl rfl rfl (AVal.moveN (by constructor)) ?_
        refine AOps.v rfl rfl rfl (AVal.loadP (d := encT _) 2 rfl rfl rfl rfl) ?_
        refine AOps.v rfl rfl rfl (AVal.fieldP rfl rfl) ?_
        refine AOps.v rfl rfl rfl (AVal.loadPN 1 rfl rfl rfl rfl (by constructor)) ?_
        refine AOps.v rfl rfl rfl (AVal.addn rfl rfl (by obtain ⟨a1, a2, a3⟩ := hk; omega)) ?_
        refine AOps.e rfl rfl rfl (AOp.callP (kid_c t (x.num + 1)) (by first | exact LeL.eq rfl | (repeat constructor)) ?_)
        refine AOps.e rfl rfl rfl (AOp.callM [_, _, _] (take_c b mb left cs once dn hl (kid t (x.num + 1)) (fitX (kid_fit ht _)) (Nat.le_trans (kid_sz _ _) (by omega))) (by first | exact LeL.eq rfl | (repeat constructor)) rfl (fun hok => ?_) (fun hno => ?_))
        ·
          refine AOps.e0 rfl rfl (AOp.storeN 0 rfl rfl rfl (by constructor) rfl rfl rfl (by repeat constructor) (by repeat constructor) ?_)
          refine AOps.v rfl rfl rfl (AVal.assignN (by constructor)) ?_
          refine AOps.nil ?_
          refine ACode.ret ?_
          refine AFin.mayRet rfl (.cons (by first | exact ARead.box (d := encT _) 0 rfl rfl rfl rfl | exact ARead.box (d := encT _) 1 rfl rfl rfl rfl | exact ARead.box (d := encT _) 2 rfl rfl rfl rfl | exact ARead.box (d := encT _) 3 rfl rfl rfl rfl | exact ARead.box (d := encT _) 4 rfl rfl rfl rfl | exact ARead.box (d := encT _) 5 rfl rfl rfl rfl | exact ARead.box (d := encT _) 6 rfl rfl rfl rfl | exact ARead.box (d := encT _) 7 rfl rfl rfl rfl | exact ARead.box 0 rfl rfl rfl rfl | exact ARead.box 1 rfl rfl rfl rfl | exact ARead.box 2 rfl rfl rfl rfl | exact ARead.box 3 rfl rfl rfl rfl | exact ARead.box 4 rfl rfl rfl rfl | exact ARead.box 5 rfl rfl rfl rfl | exact ARead.box 6 rfl rfl rfl rfl | exact ARead.box 7 rfl rfl rfl rfl) (.cons rfl .nil)) (by repeat first | exact List.Sublist.refl _ | apply List.Sublist.cons_cons | apply List.Sublist.cons) ?_ (hok)
          exact .refl _
        ·
          exact AFin.mayPan (X := X) (fn := Tryz.f53) rfl (by repeat first | exact List.Sublist.refl _ | apply List.Sublist.cons_cons | apply List.Sublist.cons | exact List.nil_sublist _) (hno)

theorem tree1_c (t : Term) (k from_ : Int) (b4 : Nat) (R : Loc) (ht : t.fit 1099511627776) (h1 : t.sz ≤ 4611686018427387904) : AKeep X 73 [.int .i64 k, .int .i64 from_, .ptr b4 0] ((b4, .cells 27 (cellsT t)) :: R) (encT (upM t k from_)) := by
  refine ACalls.of_code Tryz.func73 rfl (by rfl) (Nat.le_of_ble_eq_true rfl) ?_
  refine ACode.seq ?_
  refine ACode.region ?_
  refine AOps.e rfl rfl rfl (AOp.allocN rfl rfl (fun b5 => ?_))
  refine AOps.nil ?_
  refine ACode.seq ?_
  refine ACode.region ?_
  refine AOps.v rfl rfl rfl (AVal.loadP (d := encT _) 1 rfl rfl rfl rfl) ?_
  refine AOps.v rfl rfl rfl (AVal.moveN (by constructor)) ?_
  refine AOps.e rfl rfl rfl (AOp.callP (kid_c t k) (by first | exact LeL.eq rfl | (repeat constructor)) ?_)
  refine AOps.v rfl rfl rfl (AVal.moveN (by constructor)) ?_
  refine AOps.e rfl rfl rfl (AOp.callP (lift_c (kid t k) 1 from_ (kid_fit ht _) (Nat.le_trans (kid_sz _ _) h1)) (by first | exact LeL.eq rfl | (repeat constructor)) ?_)
  refine AOps.e0 rfl rfl (AOp.storeN 0 rfl rfl rfl (by constructor) rfl rfl rfl (by repeat constructor) (by repeat constructor) ?_)
  refine AOps.nil ?_
  refine ACode.ret ?_
  refine AFin.keepRet rfl (.cons (by first | exact ARead.box (d := encT _) 0 rfl rfl rfl rfl | exact ARead.box (d := encT _) 1 rfl rfl rfl rfl | exact ARead.box (d := encT _) 2 rfl rfl rfl rfl | exact ARead.box (d := encT _) 3 rfl rfl rfl rfl | exact ARead.box (d := encT _) 4 rfl rfl rfl rfl | exact ARead.box (d := encT _) 5 rfl rfl rfl rfl | exact ARead.box (d := encT _) 6 rfl rfl rfl rfl | exact ARead.box (d := encT _) 7 rfl rfl rfl rfl | exact ARead.box 0 rfl rfl rfl rfl | exact ARead.box 1 rfl rfl rfl rfl | exact ARead.box 2 rfl rfl rfl rfl | exact ARead.box 3 rfl rfl rfl rfl | exact ARead.box 4 rfl rfl rfl rfl | exact ARead.box 5 rfl rfl rfl rfl | exact ARead.box 6 rfl rfl rfl rfl | exact ARead.box 7 rfl rfl rfl rfl) .nil) (by repeat first | exact List.Sublist.refl _ | apply List.Sublist.cons_cons | apply List.Sublist.cons) ?_
  exact .refl _

theorem sizes_c1 (ts : List Term) (hl : ts.length ≤ 9223372036854775807) (h : ∀ k ∈ ts, k.fit 9223372036854775807) (hs : Term.szs ts ≤ 4611686018427387904) : AFn X 71 [.slT ts] (.int .i64 (Term.szs ts)) := by
  have := sizes_c ts hl h
  rwa [w64_id (by omega) (by omega)] at this

theorem tree_c0 (b mb : Nat) (left : Int) (cs : List Core) (once dn : Bool) (hl : 0 ≤ left ∧ left ≤ 9223372036854775807) (t x : Term) (hk : ¬ x.kind = 17) : AKeep X 51 [.ptr b 0, encT t, encT x] [(b, .cells 71 (workC (left) cs once dn mb))] (.tup [encT t, .bool false]) := by
  refine ACalls.of_code Tryz.func51 rfl (by rfl) (Nat.le_of_ble_eq_true rfl) ?_
  refine ACode.seq ?_
  refine ACode.region ?_
  refine AOps.e rfl rfl rfl (AOp.boxA rfl (fun b4 => ?_))
  refine AOps.e rfl rfl rfl (AOp.boxA rfl (fun b5 => ?_))
  refine AOps.e rfl rfl rfl (AOp.allocN rfl rfl (fun b6 => ?_))
  refine AOps.v rfl rfl rfl (AVal.assignN (by constructor)) ?_
  refine AOps.nil ?_
  refine ACode.seq ?_
  refine ACode.seq ?_
  refine ACode.region ?_
  refine AOps.v rfl rfl rfl (AVal.fieldP rfl rfl) ?_
  refine AOps.v rfl rfl rfl (AVal.loadPN 1 rfl rfl rfl rfl (by constructor)) ?_
  refine AOps.v rfl rfl rfl (AVal.neq rfl rfl) ?_
  refine AOps.nil ?_
  refine ACode.condS rfl (fun h16 => ?_) (fun h16 => ?_)
  ·
    try simp only [decide_eq_true_eq, decide_eq_false_iff_not, Bool.not_eq_true', Bool.not_eq_false', Bool.and_eq_true, Bool.or_eq_true, beq_iff_eq, beq_eq_false_iff_ne] at h16
    refine ACode.seq ?_
    refine ACode.region ?_
    refine AOps.v rfl rfl rfl (AVal.loadP (d := encT _) 2 rfl rfl rfl rfl) ?_
    refine AOps.e0 rfl rfl (AOp.storeN 0 rfl rfl rfl (by constructor) rfl rfl rfl (by repeat constructor) (by repeat constructor) ?_)
    refine AOps.v rfl rfl rfl (AVal.assignN (by constructor)) ?_
    refine AOps.nil ?_
    refine ACode.ret ?_
    refine AFin.keepRet rfl (.cons (by first | exact ARead.box (d := encT _) 0 rfl rfl rfl rfl | exact ARead.box (d := encT _) 1 rfl rfl rfl rfl | exact ARead.box (d := encT _) 2 rfl rfl rfl rfl | exact ARead.box (d := encT _) 3 rfl rfl rfl rfl | exact ARead.box (d := encT _) 4 rfl rfl rfl rfl | exact ARead.box (d := encT _) 5 rfl rfl rfl rfl | exact ARead.box (d := encT _) 6 rfl rfl rfl rfl | exact ARead.box (d := encT _) 7 rfl rfl rfl rfl | exact ARead.box 0 rfl rfl rfl rfl | exact ARead.box 1 rfl rfl rfl rfl | exact ARead.box 2 rfl rfl rfl rfl | exact ARead.box 3 rfl rfl rfl rfl | exact ARead.box 4 rfl rfl rfl rfl | exact ARead.box 5 rfl rfl rfl rfl | exact ARead.box 6 rfl rfl rfl rfl | exact ARead.box 7 rfl rfl rfl rfl) (.cons rfl .nil)) (by repeat first | exact List.Sublist.refl _ | apply List.Sublist.cons_cons | apply List.Sublist.cons) ?_
    exact .refl _
  ·
    try simp only [decide_eq_true_eq, decide_eq_false_iff_not, Bool.not_eq_true', Bool.not_eq_false', Bool.and_eq_true, Bool.or_eq_true, beq_iff_eq, beq_eq_false_iff_ne] at h16
    exact absurd (by simpa using h16) hk --END

theorem tree_c1 (b mb : Nat) (left : Int) (cs : List Core) (once dn : Bool) (hl : 0 ≤ left ∧ left ≤ 9223372036854775807) (t x : Term) (hk : x.kind = 17) (ht : t.fit 1099511627776) (hx : x.fit 1099511627776) (h1 : t.sz ≤ 268435456) (h2 : x.sz ≤ 268435456) : AMay X 51 [.ptr b 0, encT t, encT x] [(b, .cells 71 (workC (left) cs once dn mb))] (treeCost t x ≤ left) (.tup [encT (treeM t x), .bool true]) [(b, .cells 71 (workC (left - treeCost t x) cs once dn mb))] (.iface 76 (.agg [])) [(b, .cells 71 (workC (left) cs once dn mb))] := by
  have hsum := treeArgs_sz t x h1 h2
  have hsz := sizeM_small (t := kid t 1) (a := kid x 0) (Nat.le_trans (kid_sz _ _) (by omega)) (Nat.le_trans (kid_sz _ _) (by omega))
  have hsn := sizeM_nonneg (kid t 1) (kid x 0)
  refine ACalls.of_code Tryz.func51 rfl (by rfl) (Nat.le_of_ble_eq_true rfl) ?_
  refine ACode.seq ?_
  refine ACode.region ?_
  refine AOps.e rfl rfl rfl (AOp.boxA rfl (fun b4 => ?_))
  refine AOps.e rfl rfl rfl (AOp.boxA rfl (fun b5 => ?_))
  refine AOps.e rfl rfl rfl (AOp.allocN rfl rfl (fun b6 => ?_))
  refine AOps.v rfl rfl rfl (AVal.assignN (by constructor)) ?_
  refine AOps.nil ?_
  refine ACode.seq ?_
  refine ACode.seq ?_
  refine ACode.region ?_
  refine AOps.v rfl rfl rfl (AVal.fieldP rfl rfl) ?_
  refine AOps.v rfl rfl rfl (AVal.loadPN 1 rfl rfl rfl rfl (by constructor)) ?_
  refine AOps.v rfl rfl rfl (AVal.neq rfl rfl) ?_
  refine AOps.nil ?_
  refine ACode.condS rfl (fun h16 => ?_) (fun h16 => ?_)
  ·
    try simp only [decide_eq_true_eq, decide_eq_false_iff_not, Bool.not_eq_true', Bool.not_eq_false', Bool.and_eq_true, Bool.or_eq_true, beq_iff_eq, beq_eq_false_iff_ne] at h16
    exact absurd hk (by simpa using h16) --END
  ·
    try simp only [decide_eq_true_eq, decide_eq_false_iff_not, Bool.not_eq_true', Bool.not_eq_false', Bool.and_eq_true, Bool.or_eq_true, beq_iff_eq, beq_eq_false_iff_ne] at h16
    refine ACode.skip ?_
    refine ACode.seq ?_
    refine ACode.draws [.l 0, .p 1, .l 2, .p 3, .l 4, .p 5, .a 6, .a 7, .a 8, .e 9 [], .e 10 [], .e 11 []] mixed (by kernel_rfl) ?_
    refine ASeq.lv rfl rfl rfl rfl (HasCell.mk (d := encT _) 1 rfl rfl (.refl _)) ?_
    refine ASeq.pe rfl rfl rfl rfl (fun L0 => (AOp.callP (kid_c x 0) (by first | exact LeL.eq rfl | (repeat constructor)) ⟨rfl, rfl⟩)) ?_
    refine ASeq.lv rfl rfl rfl rfl (HasCell.mk (d := encT _) 1 rfl rfl (.refl _)) ?_
    refine ASeq.pe rfl rfl rfl rfl (fun L0 => (AOp.callP (kid_c x 1) (by first | exact LeL.eq rfl | (repeat constructor)) ⟨rfl, rfl⟩)) ?_
    refine ASeq.lv rfl rfl rfl rfl (HasCell.mk (d := encT _) 2 rfl rfl (.refl _)) ?_
    refine ASeq.pe rfl rfl rfl rfl (fun L0 => (AOp.callP (kid_c t 3) (by first | exact LeL.eq rfl | (repeat constructor)) ⟨rfl, rfl⟩)) ?_
    refine ASeq.ea rfl rfl rfl rfl rfl rfl rfl (fun b8 => ?_)
    refine ASeq.ea rfl rfl rfl rfl rfl rfl rfl (fun b9 => ?_)
    refine ASeq.ea rfl rfl rfl rfl rfl rfl rfl (fun b10 => ?_)
    refine ASeq.ee0 rfl rfl rfl rfl (AOp.storeN 2 rfl rfl rfl (by constructor) rfl rfl rfl (by repeat constructor) (by repeat constructor) ⟨(by first | exact Keeps.nil | (repeat first | exact Keeps.nil | refine Keeps.cons (by first | exact HasCell.mk 0 rfl rfl (.refl _) | exact HasCell.mk 1 rfl rfl (.refl _) | exact HasCell.mk 2 rfl rfl (.refl _) | exact HasCell.mk 3 rfl rfl (.refl _) | exact HasCell.mk 4 rfl rfl (.refl _) | exact HasCell.mk 5 rfl rfl (.refl _) | exact HasCell.mk 6 rfl rfl (.refl _) | exact HasCell.mk 7 rfl rfl (.refl _)) ?_)), ?_⟩)
    refine ASeq.ee0 rfl rfl rfl rfl (AOp.storeN 1 rfl rfl rfl (by constructor) rfl rfl rfl (by repeat constructor) (by repeat constructor) ⟨(by first | exact Keeps.nil | (repeat first | exact Keeps.nil | refine Keeps.cons (by first | exact HasCell.mk 0 rfl rfl (.refl _) | exact HasCell.mk 1 rfl rfl (.refl _) | exact HasCell.mk 2 rfl rfl (.refl _) | exact HasCell.mk 3 rfl rfl (.refl _) | exact HasCell.mk 4 rfl rfl (.refl _) | exact HasCell.mk 5 rfl rfl (.refl _) | exact HasCell.mk 6 rfl rfl (.refl _) | exact HasCell.mk 7 rfl rfl (.refl _)) ?_)), ?_⟩)
    refine ASeq.ee0 rfl rfl rfl rfl (AOp.storeN 0 rfl rfl rfl (by constructor) rfl rfl rfl (by repeat constructor) (by repeat constructor) ⟨(by first | exact Keeps.nil | (repeat first | exact Keeps.nil | refine Keeps.cons (by first | exact HasCell.mk 0 rfl rfl (.refl _) | exact HasCell.mk 1 rfl rfl (.refl _) | exact HasCell.mk 2 rfl rfl (.refl _) | exact HasCell.mk 3 rfl rfl (.refl _) | exact HasCell.mk 4 rfl rfl (.refl _) | exact HasCell.mk 5 rfl rfl (.refl _) | exact HasCell.mk 6 rfl rfl (.refl _) | exact HasCell.mk 7 rfl rfl (.refl _)) ?_)), ?_⟩)
    refine ASeq.nil ?_
    refine ACode.seq ?_
    refine ACode.draws [.p 0, .p 1, .p 2, .l 3, .l 4, .l 5, .l 6, .l 7, .l 8, .p 9, .l 10, .p 11, .l 12, .p 13, .p 14, .p 15, .p 16, .l 17, .p 18, .l 19, .p 20, .p 21, .e 22 []] mixed (by kernel_rfl) ?_
    refine ASeq.pv rfl rfl rfl rfl (fun L0 => (AVal.moveN (by constructor))) ?_
    refine ASeq.pv rfl rfl rfl rfl (fun L0 => (AVal.nilCheckP rfl)) ?_
    refine ASeq.pv rfl rfl rfl rfl (fun L0 => (AVal.fieldP rfl rfl)) ?_
    refine ASeq.lv rfl rfl rfl rfl (HasCell.mk (d := encT _) 2 rfl rfl (.refl _)) ?_
    refine ASeq.lv rfl rfl rfl rfl (HasCell.mk (d := encT _) 1 rfl rfl (.refl _)) ?_
    refine ASeq.lv rfl rfl rfl rfl (HasCell.mk (d := encT _) 1 rfl rfl (.refl _)) ?_
    refine ASeq.lv rfl rfl rfl rfl (HasCell.mk (d := encT _) 0 rfl rfl (.refl _)) ?_
    refine ASeq.lv rfl rfl rfl rfl (HasCell.mk (d := encT _) 0 rfl rfl (.refl _)) ?_
    refine ASeq.lv rfl rfl rfl rfl (HasCell.mk (d := encT _) 5 rfl rfl (.refl _)) ?_
    refine ASeq.pe rfl rfl rfl rfl (fun L0 => (AOp.callP (kid_c t 0) (by first | exact LeL.eq rfl | (repeat constructor)) ⟨rfl, rfl⟩)) ?_
    refine ASeq.lv rfl rfl rfl rfl (HasCell.mk (d := encT _) 5 rfl rfl (.refl _)) ?_
    refine ASeq.pe rfl rfl rfl rfl (fun L0 => (AOp.callP (kid_c t 1) (by first | exact LeL.eq rfl | (repeat constructor)) ⟨rfl, rfl⟩)) ?_
    refine ASeq.lv rfl rfl rfl rfl (HasCell.mk (d := encT _) 5 rfl rfl (.refl _)) ?_
    refine ASeq.pe rfl rfl rfl rfl (fun L0 => (AOp.callP (kid_c t 2) (by first | exact LeL.eq rfl | (repeat constructor)) ⟨rfl, rfl⟩)) ?_
    refine ASeq.pe rfl rfl rfl rfl (fun L0 => (AOp.buildSliceT (ts := treeArgs t x) rfl rfl rfl (by kernel_rfl) rfl ⟨rfl, rfl⟩)) ?_
    refine ASeq.pe rfl rfl rfl rfl (fun L0 => (AOp.callP (sizes_c1 (treeArgs t x) (by simp [treeArgs]) (fun k hk => by simp only [treeArgs, List.mem_cons, List.not_mem_nil, or_false] at hk; rcases hk with rfl | rfl | rfl | rfl | rfl | rfl | rfl | rfl <;> exact fitX (kid_fit (by assumption) _)) (by omega)) (by first | exact LeL.eq rfl | (repeat constructor)) ⟨rfl, rfl⟩)) ?_
    refine ASeq.pv rfl rfl rfl rfl (fun L0 => (AVal.addn rfl rfl (by omega))) ?_
    refine ASeq.lv rfl rfl rfl rfl (HasCell.mk (d := encT _) 5 rfl rfl (.refl _)) ?_
    refine ASeq.pe rfl rfl rfl rfl (fun L0 => (AOp.callP (kid_c t 1) (by first | exact LeL.eq rfl | (repeat constructor)) ⟨rfl, rfl⟩)) ?_
    refine ASeq.lv rfl rfl rfl rfl (HasCell.mk (d := encT _) 2 rfl rfl (.refl _)) ?_
    refine ASeq.pe rfl rfl rfl rfl (fun L0 => (AOp.callP (hsize_c (kid t 1) (kid x 0) (fitX (kid_fit ht _)) (fitX (kid_fit hx _)) (Nat.le_trans (kid_sz _ _) (by omega)) (Nat.le_trans (kid_sz _ _) (by omega)) (by omega)) (by first | exact LeL.eq rfl | (repeat constructor)) ⟨rfl, rfl⟩)) ?_
    refine ASeq.pv rfl rfl rfl rfl (fun L0 => (AVal.addn rfl rfl (by omega))) ?_
    refine ASeq.ee rfl rfl rfl rfl rfl (AOp.callM [_, _, _, _, _, _] (burn_c b mb left cs once dn hl (treeCost t x) (by unfold treeCost; omega)) (by first | exact LeL.eq rfl | (repeat constructor)) rfl (fun hok => ⟨(by first | exact Keeps.nil | (repeat first | exact Keeps.nil | refine Keeps.cons (by first | exact HasCell.mk 0 rfl rfl (.refl _) | exact HasCell.mk 1 rfl rfl (.refl _) | exact HasCell.mk 2 rfl rfl (.refl _) | exact HasCell.mk 3 rfl rfl (.refl _) | exact HasCell.mk 4 rfl rfl (.refl _) | exact HasCell.mk 5 rfl rfl (.refl _) | exact HasCell.mk 6 rfl rfl (.refl _) | exact HasCell.mk 7 rfl rfl (.refl _)) ?_)), ?_⟩) (fun hno => ?_))
    ·
      refine ASeq.nil ?_
      refine ACode.seq ?_
      refine ACode.region ?_
      refine AOps.v rfl rfl rfl (AVal.makeFunc) ?_
      refine AOps.v rfl rfl rfl (AVal.assignN (by constructor)) ?_
      refine AOps.nil ?_
      refine ACode.seq ?_
      refine ACode.draws [.p 0, .p 2, .p 4, .p 6, .l 8, .e 1 [8], .e 3 [8], .e 5 [8], .e 7 [8], .p 9, .p 10, .p 11, .p 12, .p 13, .p 14, .a 15, .e 16 []] mixed (by kernel_rfl) ?_
      refine ASeq.pv rfl rfl rfl rfl (fun L0 => (AVal.moveN (by constructor))) ?_
      refine ASeq.pv rfl rfl rfl rfl (fun L0 => (AVal.moveN (by constructor))) ?_
      refine ASeq.pv rfl rfl rfl rfl (fun L0 => (AVal.moveN (by constructor))) ?_
      refine ASeq.pv rfl rfl rfl rfl (fun L0 => (AVal.moveN (by constructor))) ?_
      refine ASeq.lv rfl rfl rfl rfl (HasCell.mk (d := encT _) 1 rfl rfl (.refl _)) ?_
      refine ASeq.ee rfl rfl rfl rfl rfl (AOp.callVK [_, _, _, _, _] rfl (tree1_c t 0 0 b4 _ ht (by omega)) (LeL.eq rfl) rfl ⟨(by first | exact Keeps.nil | (repeat first | exact Keeps.nil | refine Keeps.cons (by first | exact HasCell.mk 0 rfl rfl (.refl _) | exact HasCell.mk 1 rfl rfl (.refl _) | exact HasCell.mk 2 rfl rfl (.refl _) | exact HasCell.mk 3 rfl rfl (.refl _) | exact HasCell.mk 4 rfl rfl (.refl _) | exact HasCell.mk 5 rfl rfl (.refl _) | exact HasCell.mk 6 rfl rfl (.refl _) | exact HasCell.mk 7 rfl rfl (.refl _)) ?_)), ?_⟩)
      refine ASeq.ee rfl rfl rfl rfl rfl (AOp.callVK [_, _, _, _, _] rfl (tree1_c t 1 1 b4 _ ht (by omega)) (LeL.eq rfl) rfl ⟨(by first | exact Keeps.nil | (repeat first | exact Keeps.nil | refine Keeps.cons (by first | exact HasCell.mk 0 rfl rfl (.refl _) | exact HasCell.mk 1 rfl rfl (.refl _) | exact HasCell.mk 2 rfl rfl (.refl _) | exact HasCell.mk 3 rfl rfl (.refl _) | exact HasCell.mk 4 rfl rfl (.refl _) | exact HasCell.mk 5 rfl rfl (.refl _) | exact HasCell.mk 6 rfl rfl (.refl _) | exact HasCell.mk 7 rfl rfl (.refl _)) ?_)), ?_⟩)
      refine ASeq.ee rfl rfl rfl rfl rfl (AOp.callVK [_, _, _, _, _] rfl (tree1_c t 2 0 b4 _ ht (by omega)) (LeL.eq rfl) rfl ⟨(by first | exact Keeps.nil | (repeat first | exact Keeps.nil | refine Keeps.cons (by first | exact HasCell.mk 0 rfl rfl (.refl _) | exact HasCell.mk 1 rfl rfl (.refl _) | exact HasCell.mk 2 rfl rfl (.refl _) | exact HasCell.mk 3 rfl rfl (.refl _) | exact HasCell.mk 4 rfl rfl (.refl _) | exact HasCell.mk 5 rfl rfl (.refl _) | exact HasCell.mk 6 rfl rfl (.refl _) | exact HasCell.mk 7 rfl rfl (.refl _)) ?_)), ?_⟩)
      refine ASeq.ee rfl rfl rfl rfl rfl (AOp.callVK [_, _, _, _, _] rfl (tree1_c t 3 0 b4 _ ht (by omega)) (LeL.eq rfl) rfl ⟨(by first | exact Keeps.nil | (repeat first | exact Keeps.nil | refine Keeps.cons (by first | exact HasCell.mk 0 rfl rfl (.refl _) | exact HasCell.mk 1 rfl rfl (.refl _) | exact HasCell.mk 2 rfl rfl (.refl _) | exact HasCell.mk 3 rfl rfl (.refl _) | exact HasCell.mk 4 rfl rfl (.refl _) | exact HasCell.mk 5 rfl rfl (.refl _) | exact HasCell.mk 6 rfl rfl (.refl _) | exact HasCell.mk 7 rfl rfl (.refl _)) ?_)), ?_⟩)
      refine ASeq.pe rfl rfl rfl rfl (fun L0 => (AOp.callP (lift_c (kid x 1) 1 0 (kid_fit hx _) (Nat.le_trans (kid_sz _ _) (by omega))) (by first | exact LeL.eq rfl | (repeat constructor)) ⟨rfl, rfl⟩)) ?_
      refine ASeq.pe rfl rfl rfl rfl (fun L0 => (AOp.callP (of_c 1 []) (LeL.cons (.refl _) (LeL.cons (.emp _ rfl) .nil)) ⟨rfl, rfl⟩)) ?_
      refine ASeq.pe rfl rfl rfl rfl (fun L0 => (AOp.buildSliceT (ts := [_, _]) rfl rfl rfl rfl rfl ⟨rfl, rfl⟩)) ?_
      refine ASeq.pe rfl rfl rfl rfl (fun L0 => (AOp.callP (of_c _ _) (LeL.eq rfl) ⟨rfl, rfl⟩)) ?_
      refine ASeq.pe rfl rfl rfl rfl (fun L0 => (AOp.buildSliceT (ts := [_, _, _, _, _]) rfl rfl rfl rfl rfl ⟨rfl, rfl⟩)) ?_
      refine ASeq.pe rfl rfl rfl rfl (fun L0 => (AOp.callP (of_c _ _) (LeL.eq rfl) ⟨rfl, rfl⟩)) ?_
      refine ASeq.ea rfl rfl rfl rfl rfl rfl rfl (fun b12 => ?_)
      refine ASeq.ee0 rfl rfl rfl rfl (AOp.storeN 0 rfl rfl rfl (by constructor) rfl rfl rfl (by repeat constructor) (by repeat constructor) ⟨(by first | exact Keeps.nil | (repeat first | exact Keeps.nil | refine Keeps.cons (by first | exact HasCell.mk 0 rfl rfl (.refl _) | exact HasCell.mk 1 rfl rfl (.refl _) | exact HasCell.mk 2 rfl rfl (.refl _) | exact HasCell.mk 3 rfl rfl (.refl _) | exact HasCell.mk 4 rfl rfl (.refl _) | exact HasCell.mk 5 rfl rfl (.refl _) | exact HasCell.mk 6 rfl rfl (.refl _) | exact HasCell.mk 7 rfl rfl (.refl _)) ?_)), ?_⟩)
      refine ASeq.nil ?_
      refine ACode.seq ?_
      refine ACode.draws [.l 0, .p 1, .l 2, .p 3, .p 4, .l 5, .p 6, .p 7, .a 8, .e 9 []] mixed (by kernel_rfl) ?_
      refine ASeq.lv rfl rfl rfl rfl (HasCell.mk (d := encT _) 6 rfl rfl (.refl _)) ?_
      refine ASeq.pe rfl rfl rfl rfl (fun L0 => (AOp.callP (kid_c t 1) (by first | exact LeL.eq rfl | (repeat constructor)) ⟨rfl, rfl⟩)) ?_
      refine ASeq.lv rfl rfl rfl rfl (HasCell.mk (d := encT _) 3 rfl rfl (.refl _)) ?_
      refine ASeq.pe rfl rfl rfl rfl (fun L0 => (AOp.buildSliceT (ts := [_]) rfl rfl rfl rfl rfl ⟨rfl, rfl⟩)) ?_
      refine ASeq.pe rfl rfl rfl rfl (fun L0 => (AOp.callP (put_c (kid t 1) [kid x 0] (kid_fit ht _) (Nat.le_trans (kid_sz _ _) (by omega)) (by simp) (fun u hu => by rw [List.mem_singleton.1 hu]; exact ⟨kid_fit hx _, (Nat.le_trans (kid_sz _ _) (by omega))⟩)) (by first | exact LeL.eq rfl | (repeat constructor)) ⟨rfl, rfl⟩)) ?_
      refine ASeq.lv rfl rfl rfl rfl (HasCell.mk (d := encT _) 0 rfl rfl (.refl _)) ?_
      refine ASeq.pe rfl rfl rfl rfl (fun L0 => (AOp.buildSliceT (ts := [_, _]) rfl rfl rfl rfl rfl ⟨rfl, rfl⟩)) ?_
      refine ASeq.pe rfl rfl rfl rfl (fun L0 => (AOp.callP (of_c _ _) (LeL.eq rfl) ⟨rfl, rfl⟩)) ?_
      refine ASeq.ea rfl rfl rfl rfl rfl rfl rfl (fun b13 => ?_)
      refine ASeq.ee0 rfl rfl rfl rfl (AOp.storeN 0 rfl rfl rfl (by constructor) rfl rfl rfl (by repeat constructor) (by repeat constructor) ⟨(by first | exact Keeps.nil | (repeat first | exact Keeps.nil | refine Keeps.cons (by first | exact HasCell.mk 0 rfl rfl (.refl _) | exact HasCell.mk 1 rfl rfl (.refl _) | exact HasCell.mk 2 rfl rfl (.refl _) | exact HasCell.mk 3 rfl rfl (.refl _) | exact HasCell.mk 4 rfl rfl (.refl _) | exact HasCell.mk 5 rfl rfl (.refl _) | exact HasCell.mk 6 rfl rfl (.refl _) | exact HasCell.mk 7 rfl rfl (.refl _)) ?_)), ?_⟩)
      refine ASeq.nil ?_
      refine ACode.seq ?_
      refine ACode.draws [.l 0, .l 1, .p 2, .p 3, .l 4, .p 5, .p 6, .l 7, .p 8, .p 9, .e 10 [], .p 11] mixed (by kernel_rfl) ?_
      refine ASeq.lv rfl rfl rfl rfl (HasCell.mk (d := encT _) 2 rfl rfl (.refl _)) ?_
      refine ASeq.lv rfl rfl rfl rfl (HasCell.mk (d := encT _) 4 rfl rfl (.refl _)) ?_
      refine ASeq.pe rfl rfl rfl rfl (fun L0 => (AOp.buildSliceT (ts := [_, _]) rfl rfl rfl rfl rfl ⟨rfl, rfl⟩)) ?_
      refine ASeq.pe rfl rfl rfl rfl (fun L0 => (AOp.callP (of_c _ _) (LeL.eq rfl) ⟨rfl, rfl⟩)) ?_
      refine ASeq.lv rfl rfl rfl rfl (HasCell.mk (d := encT _) 3 rfl rfl (.refl _)) ?_
      refine ASeq.pe rfl rfl rfl rfl (fun L0 => (AOp.buildSliceT (ts := [_, _]) rfl rfl rfl rfl rfl ⟨rfl, rfl⟩)) ?_
      refine ASeq.pe rfl rfl rfl rfl (fun L0 => (AOp.callP (of_c _ _) (LeL.eq rfl) ⟨rfl, rfl⟩)) ?_
      refine ASeq.lv rfl rfl rfl rfl (HasCell.mk (d := encT _) 0 rfl rfl (.refl _)) ?_
      refine ASeq.pe rfl rfl rfl rfl (fun L0 => (AOp.buildSliceT (ts := [_, _]) rfl rfl rfl rfl rfl ⟨rfl, rfl⟩)) ?_
      refine ASeq.pe rfl rfl rfl rfl (fun L0 => (AOp.callP (of_c _ _) (LeL.eq rfl) ⟨rfl, rfl⟩)) ?_
      refine ASeq.ee0 rfl rfl rfl rfl (AOp.storeN 5 rfl rfl rfl (by constructor) rfl rfl rfl (by repeat constructor) (by repeat constructor) ⟨(by first | exact Keeps.nil | (repeat first | exact Keeps.nil | refine Keeps.cons (by first | exact HasCell.mk 0 rfl rfl (.refl _) | exact HasCell.mk 1 rfl rfl (.refl _) | exact HasCell.mk 2 rfl rfl (.refl _) | exact HasCell.mk 3 rfl rfl (.refl _) | exact HasCell.mk 4 rfl rfl (.refl _) | exact HasCell.mk 5 rfl rfl (.refl _) | exact HasCell.mk 6 rfl rfl (.refl _) | exact HasCell.mk 7 rfl rfl (.refl _)) ?_)), ?_⟩)
      refine ASeq.pv rfl rfl rfl rfl (fun L0 => (AVal.assignN (by constructor))) ?_
      refine ASeq.nil ?_
      refine ACode.ret ?_
      refine AFin.mayRet rfl (.cons (by first | exact ARead.box (d := encT _) 0 rfl rfl rfl rfl | exact ARead.box (d := encT _) 1 rfl rfl rfl rfl | exact ARead.box (d := encT _) 2 rfl rfl rfl rfl | exact ARead.box (d := encT _) 3 rfl rfl rfl rfl | exact ARead.box (d := encT _) 4 rfl rfl rfl rfl | exact ARead.box (d := encT _) 5 rfl rfl rfl rfl | exact ARead.box (d := encT _) 6 rfl rfl rfl rfl | exact ARead.box (d := encT _) 7 rfl rfl rfl rfl | exact ARead.box 0 rfl rfl rfl rfl | exact ARead.box 1 rfl rfl rfl rfl | exact ARead.box 2 rfl rfl rfl rfl | exact ARead.box 3 rfl rfl rfl rfl | exact ARead.box 4 rfl rfl rfl rfl | exact ARead.box 5 rfl rfl rfl rfl | exact ARead.box 6 rfl rfl rfl rfl | exact ARead.box 7 rfl rfl rfl rfl) (.cons rfl .nil)) (by repeat first | exact List.Sublist.refl _ | apply List.Sublist.cons_cons | apply List.Sublist.cons) ?_ (hok)
      exact .refl _
    ·
      exact AFin.mayPan (X := X) (fn := Tryz.f51) rfl (by repeat first | exact List.Sublist.refl _ | apply List.Sublist.cons_cons | apply List.Sublist.cons | exact List.nil_sublist _) (hno)

end Sp
