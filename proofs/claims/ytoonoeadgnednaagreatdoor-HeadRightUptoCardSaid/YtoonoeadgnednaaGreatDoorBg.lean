/- Walks of the program's functions and what they compute: contracts of calls; no condition beyond those that each theorem names. -/
import Derived.Test.YtoonoeadgnednaaGreatDoorBe
import Derived.Test.YtoonoeadgnednaaGreatDoorBf
import Derived.Test.YtoonoeadgnednaaGreatDoorKc
/- The walk of the law of what stays right. Written by a program of mine. -/
set_option linter.unusedVariables false
set_option linter.unusedSimpArgs false
set_option maxRecDepth 20000
namespace Sp
open Go Go.Proofs

theorem consts_c (cs : List Core) (hl : cs.length ≤ 1099511627775) : AFn X 6 [.slC cs] (.slc ((cs.map (·.levels)).map (D.int .i64))) := by
  refine ACalls.of_code Tryz.func6 rfl (by rfl) (Nat.le_of_ble_eq_true rfl) ?_
  refine ACode.seq ?_
  refine ACode.region ?_
  refine AOps.v rfl rfl rfl (AVal.assignN (by constructor)) ?_
  refine AOps.nil ?_
  refine ACode.seq ?_
  refine ACode.region ?_
  refine AOps.v rfl rfl rfl (AVal.assignN (by constructor)) ?_
  refine AOps.nil ?_
  refine ACode.seq ?_
  refine ACode.seq ?_
  refine ACode.region ?_
  refine AOps.v rfl rfl rfl (AVal.moveN (by constructor)) ?_
  refine AOps.v rfl rfl rfl (AVal.len rfl rfl rfl) ?_
  refine AOps.v rfl rfl rfl (AVal.moveN (by constructor)) ?_
  refine AOps.nil ?_
  refine ACode.block ?_
  refine ACode.loop (γ := Nat × Nat × Nat) (fun g => [(6, .slC cs), (7, .int .i64 cs.length), (8, .int .i64 g.1), (3, growD g.1 g.2.1 g.2.2 (((cs.take g.1).map (·.levels)).map (D.int .i64)))]) (fun g => growL 3 1 g.1 g.2.1 g.2.2 (((cs.take g.1).map (·.levels)).map (D.int .i64))) (fun g => g.1 ≤ cs.length) (fun g => cs.length - g.1) (0, 0, 0) (Nat.zero_le _) (by repeat first | exact Agree.nil | refine Agree.cons (.refl _) ?_) (by repeat first | exact List.Sublist.refl _ | apply List.Sublist.cons_cons | apply List.Sublist.cons | exact List.nil_sublist _) ?_
  rintro ⟨i, bb, cap⟩ hi t1
  simp only at hi ⊢
  rcases i with _ | i
  ·
    simp only [growL, growD]
    refine ACode.seq ?_
    refine ACode.region ?_
    refine AOps.v rfl rfl rfl (AVal.lss rfl rfl) ?_
    refine AOps.nil ?_
    refine ACode.seq ?_
    refine ACode.condS rfl (fun h9 => ?_) (fun h9 => ?_)
    ·
      try simp only [decide_eq_true_eq, decide_eq_false_iff_not, Bool.not_eq_true', Bool.not_eq_false', Bool.and_eq_true, Bool.or_eq_true, beq_iff_eq, beq_eq_false_iff_ne] at h9
      have hlt : (0 : Nat) < cs.length := by omega
      refine ACode.skip ?_
      refine ACode.seq ?_
      refine ACode.block ?_
      refine ACode.seq ?_
      refine ACode.region ?_
      refine AOps.v rfl rfl rfl (AVal.indexCN rfl rfl rfl rfl rfl ⟨by omega, by omega⟩) ?_
      refine AOps.v rfl rfl rfl (AVal.loadE (d := encC _) rfl rfl rfl) ?_
      refine AOps.e rfl rfl rfl (AOp.allocN rfl rfl (fun b5 => ?_))
      refine AOps.e0 rfl rfl (AOp.storeN 0 rfl rfl rfl (by constructor) rfl rfl rfl (by repeat constructor) (by repeat constructor) ?_)
      refine AOps.nil ?_
      refine ACode.region ?_
      refine AOps.v rfl rfl rfl (AVal.moveN (by constructor)) ?_
      refine AOps.v rfl rfl rfl (AVal.fieldP rfl rfl) ?_
      refine AOps.v rfl rfl rfl (AVal.loadPN 0 rfl rfl rfl rfl (by constructor)) ?_
      refine AOps.e rfl rfl rfl (AOp.buildSlice (es := [.int .i64 _]) rfl rfl rfl rfl rfl ?_)
      refine AOps.e rfl rfl rfl (AOp.app1New rfl rfl rfl rfl rfl rfl rfl rfl (fun bq cap' => ?_))
      refine AOps.v rfl rfl rfl (AVal.assignN (by constructor)) ?_
      refine AOps.nil ?_
      refine ACode.region ?_
      refine AOps.v rfl rfl rfl (AVal.addn rfl rfl (by omega)) ?_
      refine AOps.v rfl rfl rfl (AVal.moveN (by constructor)) ?_
      refine AOps.nil ?_
      refine ⟨(0 + 1, bq, cap'), by simp only; omega, by simp only; omega, rfl, ?_, ?_⟩
      · refine Agree.cons (.refl _) (Agree.cons (.refl _) (Agree.cons (.refl _) (Agree.cons (D.Le.eq ?_) Agree.nil)))
        simp only [growD, take_succ_getD hlt, List.map_append, List.map_cons, List.map_nil]
        rfl
      · simp only [growL, take_succ_getD hlt, List.map_append, List.map_cons, List.map_nil]
        exact (by repeat first | exact List.Sublist.refl _ | apply List.Sublist.cons_cons | apply List.Sublist.cons | exact List.nil_sublist _)
    ·
      try simp only [decide_eq_true_eq, decide_eq_false_iff_not, Bool.not_eq_true', Bool.not_eq_false', Bool.and_eq_true, Bool.or_eq_true, beq_iff_eq, beq_eq_false_iff_ne] at h9
      refine ACode.exit ?_
      refine ACode.seq ?_
      refine ACode.region ?_
      refine AOps.v rfl rfl rfl (AVal.moveN (by constructor)) ?_
      refine AOps.v rfl rfl rfl (AVal.assignN (by constructor)) ?_
      refine AOps.nil ?_
      refine ACode.ret ?_
      refine AFin.pureRet rfl (.cons rfl .nil) ?_
      exact .emp _ (by rw [List.eq_nil_of_length_eq_zero (by omega : cs.length = 0)]; rfl)
  ·
    simp only [growL, growD]
    refine ACode.seq ?_
    refine ACode.region ?_
    refine AOps.v rfl rfl rfl (AVal.lss rfl rfl) ?_
    refine AOps.nil ?_
    refine ACode.seq ?_
    refine ACode.condS rfl (fun h9 => ?_) (fun h9 => ?_)
    ·
      try simp only [decide_eq_true_eq, decide_eq_false_iff_not, Bool.not_eq_true', Bool.not_eq_false', Bool.and_eq_true, Bool.or_eq_true, beq_iff_eq, beq_eq_false_iff_ne] at h9
      have hlt : (i + 1 : Nat) < cs.length := by omega
      refine ACode.skip ?_
      refine ACode.seq ?_
      refine ACode.block ?_
      refine ACode.seq ?_
      refine ACode.region ?_
      refine AOps.v rfl rfl rfl (AVal.indexCN rfl rfl rfl rfl rfl ⟨by omega, by omega⟩) ?_
      refine AOps.v rfl rfl rfl (AVal.loadE (d := encC _) rfl rfl rfl) ?_
      refine AOps.e rfl rfl rfl (AOp.allocN rfl rfl (fun b5 => ?_))
      refine AOps.e0 rfl rfl (AOp.storeN 0 rfl rfl rfl (by constructor) rfl rfl rfl (by repeat constructor) (by repeat constructor) ?_)
      refine AOps.nil ?_
      refine ACode.region ?_
      refine AOps.v rfl rfl rfl (AVal.moveN (by constructor)) ?_
      refine AOps.v rfl rfl rfl (AVal.fieldP rfl rfl) ?_
      refine AOps.v rfl rfl rfl (AVal.loadPN 0 rfl rfl rfl rfl (by constructor)) ?_
      refine AOps.e rfl rfl rfl (AOp.buildSlice (es := [.int .i64 _]) rfl rfl rfl rfl rfl ?_)
      refine AOps.e rfl rfl rfl (AOp.app1Own 1 rfl rfl rfl rfl rfl rfl rfl rfl rfl (by simp only [List.length_map, List.length_take]; omega) rfl (by repeat constructor) (fun bq cap' => ?_))
      refine AOps.v rfl rfl rfl (AVal.assignN (by constructor)) ?_
      refine AOps.nil ?_
      refine ACode.region ?_
      refine AOps.v rfl rfl rfl (AVal.addn rfl rfl (by omega)) ?_
      refine AOps.v rfl rfl rfl (AVal.moveN (by constructor)) ?_
      refine AOps.nil ?_
      refine ⟨(i + 1 + 1, bq, cap'), by simp only; omega, by simp only; omega, rfl, ?_, ?_⟩
      · refine Agree.cons (.refl _) (Agree.cons (.refl _) (Agree.cons (.refl _) (Agree.cons (D.Le.eq ?_) Agree.nil)))
        simp only [growD, take_succ_getD hlt, List.map_append, List.map_cons, List.map_nil]
        rfl
      · simp only [growL, take_succ_getD hlt, List.map_append, List.map_cons, List.map_nil]
        exact (by repeat first | exact List.Sublist.refl _ | apply List.Sublist.cons_cons | apply List.Sublist.cons | exact List.nil_sublist _)
    ·
      try simp only [decide_eq_true_eq, decide_eq_false_iff_not, Bool.not_eq_true', Bool.not_eq_false', Bool.and_eq_true, Bool.or_eq_true, beq_iff_eq, beq_eq_false_iff_ne] at h9
      refine ACode.exit ?_
      refine ACode.seq ?_
      refine ACode.region ?_
      refine AOps.v rfl rfl rfl (AVal.moveN (by constructor)) ?_
      refine AOps.v rfl rfl rfl (AVal.assignN (by constructor)) ?_
      refine AOps.nil ?_
      refine ACode.ret ?_
      refine AFin.pureRet rfl (.cons rfl .nil) ?_
      exact .own _ _ _ _ (by rw [List.take_of_length_le (by omega)]; rfl)

theorem low_c  : ∀ (m : Nat) (t : Term), t.sz = m → t.fit 9223372036854775807 → AFn X 8 [encT t] (.bool (lowT t)) := by
  intro m
  induction m using Nat.strongRecOn with
  | _ m ih =>
  intro t hm hf
  have hlen := hf.len
  have hllen := hf.llen
  refine ACalls.of_code Tryz.func8 rfl (by rfl) (Nat.le_of_ble_eq_true rfl) ?_
  refine ACode.seq ?_
  refine ACode.region ?_
  refine AOps.e rfl rfl rfl (AOp.boxA rfl (fun b1 => ?_))
  refine AOps.v rfl rfl rfl (AVal.assignN (by constructor)) ?_
  refine AOps.nil ?_
  refine ACode.seq ?_
  refine ACode.seq ?_
  refine ACode.region ?_
  refine AOps.v rfl rfl rfl (AVal.assignN (by constructor)) ?_
  refine AOps.nil ?_
  refine ACode.block ?_
  refine ACode.loop (γ := Nat) (fun g => [(1, .ptr b1 0), (3, .int .i64 g)]) (fun g => [(b1, .cells 27 (cellsT t))]) (fun g => g ≤ t.levels.length ∧ (t.levels.take g).all lowL = true) (fun g => t.levels.length - g) 0 ⟨Nat.zero_le _, by simp⟩ (by repeat first | exact Agree.nil | refine Agree.cons (.refl _) ?_) (by repeat first | exact List.Sublist.refl _ | apply List.Sublist.cons_cons | apply List.Sublist.cons | exact List.nil_sublist _) ?_
  rintro i ⟨hi, hg⟩ t1
  simp only at hi hg ⊢
  refine ACode.seq ?_
  refine ACode.seq ?_
  refine ACode.region ?_
  refine AOps.v rfl rfl rfl (AVal.moveN (by constructor)) ?_
  refine AOps.v rfl rfl rfl (AVal.fieldP rfl rfl) ?_
  refine AOps.v rfl rfl rfl (AVal.loadPN 0 rfl rfl rfl rfl (by constructor)) ?_
  refine AOps.v rfl rfl rfl (AVal.len rfl rfl rfl) ?_
  refine AOps.v rfl rfl rfl (AVal.lss rfl rfl) ?_
  refine AOps.nil ?_
  refine ACode.condS rfl (fun h10 => ?_) (fun h10 => ?_)
  ·
    try simp only [decide_eq_true_eq, decide_eq_false_iff_not, Bool.not_eq_true', Bool.not_eq_false', Bool.and_eq_true, Bool.or_eq_true, beq_iff_eq, beq_eq_false_iff_ne] at h10
    have hlt : i < t.levels.length := by omega
    refine ACode.skip ?_
    refine ACode.seq ?_
    refine ACode.block ?_
    refine ACode.seq ?_
    refine ACode.region ?_
    refine AOps.v rfl rfl rfl (AVal.assignN (by constructor)) ?_
    refine AOps.nil ?_
    refine ACode.block ?_
    refine ACode.loop (γ := Nat) (fun g => [(1, .ptr b1 0), (3, .int .i64 i), (4, .int .i64 g)]) (fun g => [(b1, .cells 27 (cellsT t))]) (fun g => g ≤ (t.levels.getD i default).length ∧ ((t.levels.getD i default).take g).all (fun p => decide (p.p ≤ 400)) = true) (fun g => (t.levels.getD i default).length - g) 0 ⟨Nat.zero_le _, by simp⟩ (by repeat first | exact Agree.nil | refine Agree.cons (.refl _) ?_) (by repeat first | exact List.Sublist.refl _ | apply List.Sublist.cons_cons | apply List.Sublist.cons | exact List.nil_sublist _) ?_
    have hpl := hf.plen (getD_mem hlt)
    rintro k ⟨hk, hq⟩ t2
    simp only at hk hq ⊢
    refine ACode.seq ?_
    refine ACode.seq ?_
    refine ACode.region ?_
    refine AOps.v rfl rfl rfl (AVal.moveN (by constructor)) ?_
    refine AOps.v rfl rfl rfl (AVal.fieldP rfl rfl) ?_
    refine AOps.v rfl rfl rfl (AVal.loadPN 0 rfl rfl rfl rfl (by constructor)) ?_
    refine AOps.v rfl rfl rfl (AVal.moveN (by constructor)) ?_
    refine AOps.v rfl rfl rfl (AVal.indexLK rfl rfl rfl rfl rfl (by omega)) ?_
    refine AOps.v rfl rfl rfl (AVal.fieldE rfl rfl) ?_
    refine AOps.v rfl rfl rfl (AVal.loadEN rfl rfl rfl (by constructor)) ?_
    refine AOps.v rfl rfl rfl (AVal.len rfl rfl rfl) ?_
    refine AOps.v rfl rfl rfl (AVal.lss rfl rfl) ?_
    refine AOps.nil ?_
    refine ACode.condS rfl (fun h21 => ?_) (fun h21 => ?_)
    ·
      try simp only [decide_eq_true_eq, decide_eq_false_iff_not, Bool.not_eq_true', Bool.not_eq_false', Bool.and_eq_true, Bool.or_eq_true, beq_iff_eq, beq_eq_false_iff_ne] at h21
      have hlt2 : k < (t.levels.getD i default).length := by omega
      refine ACode.skip ?_
      refine ACode.seq ?_
      refine ACode.block ?_
      refine ACode.seq ?_
      refine ACode.region ?_
      refine AOps.v rfl rfl rfl (AVal.fieldP rfl rfl) ?_
      refine AOps.v rfl rfl rfl (AVal.loadPN 0 rfl rfl rfl rfl (by constructor)) ?_
      refine AOps.v rfl rfl rfl (AVal.moveN (by constructor)) ?_
      refine AOps.v rfl rfl rfl (AVal.indexLK rfl rfl rfl rfl rfl (by omega)) ?_
      refine AOps.v rfl rfl rfl (AVal.fieldE rfl rfl) ?_
      refine AOps.v rfl rfl rfl (AVal.loadEN rfl rfl rfl (by constructor)) ?_
      refine AOps.v rfl rfl rfl (AVal.moveN (by constructor)) ?_
      refine AOps.v rfl rfl rfl (AVal.indexPK rfl rfl rfl rfl rfl (by omega)) ?_
      refine AOps.v rfl rfl rfl (AVal.fieldE rfl rfl) ?_
      refine AOps.v rfl rfl rfl (AVal.loadEN rfl rfl rfl (by constructor)) ?_
      refine AOps.v rfl rfl rfl (AVal.gtr rfl rfl) ?_
      refine AOps.nil ?_
      refine ACode.condS rfl (fun h34 => ?_) (fun h34 => ?_)
      ·
        try simp only [decide_eq_true_eq, decide_eq_false_iff_not, Bool.not_eq_true', Bool.not_eq_false', Bool.and_eq_true, Bool.or_eq_true, beq_iff_eq, beq_eq_false_iff_ne] at h34
        have hn : lowT t = false := by
          cases e : lowT t with
          | false => rfl
          | true =>
            exfalso
            rw [lowT_eq, Bool.and_eq_true] at e
            have e1 := List.all_eq_true.1 e.1 _ (getD_mem hlt)
            have e2 := List.all_eq_true.1 e1 _ (getD_mem hlt2)
            simp only [decide_eq_true_eq] at e2
            omega
        refine ACode.seq ?_
        refine ACode.region ?_
        refine AOps.v rfl rfl rfl (AVal.assignN (by constructor)) ?_
        refine AOps.nil ?_
        refine ACode.ret ?_
        refine AFin.pureRet rfl (.cons rfl .nil) ?_
        exact D.Le.eq (congrArg D.bool (by rw [hn]))
      ·
        try simp only [decide_eq_true_eq, decide_eq_false_iff_not, Bool.not_eq_true', Bool.not_eq_false', Bool.and_eq_true, Bool.or_eq_true, beq_iff_eq, beq_eq_false_iff_ne] at h34
        refine ACode.skip ?_
        refine ACode.region ?_
        refine AOps.v rfl rfl rfl (AVal.moveN (by constructor)) ?_
        refine AOps.v rfl rfl rfl (AVal.addn rfl rfl (by omega)) ?_
        refine AOps.v rfl rfl rfl (AVal.assignN (by constructor)) ?_
        refine AOps.nil ?_
        refine ⟨k + 1, ⟨by omega, by rw [take_succ_getD hlt2, List.all_append, hq, Bool.true_and, List.all_cons, List.all_nil, Bool.and_true]; exact decide_eq_true (by omega)⟩, by omega, rfl, (by repeat first | exact Agree.nil | refine Agree.cons (.refl _) ?_), (by repeat first | exact List.Sublist.refl _ | apply List.Sublist.cons_cons | apply List.Sublist.cons | exact List.nil_sublist _)⟩
    ·
      try simp only [decide_eq_true_eq, decide_eq_false_iff_not, Bool.not_eq_true', Bool.not_eq_false', Bool.and_eq_true, Bool.or_eq_true, beq_iff_eq, beq_eq_false_iff_ne] at h21
      refine ACode.exit ?_
      refine ACode.region ?_
      refine AOps.v rfl rfl rfl (AVal.moveN (by constructor)) ?_
      refine AOps.v rfl rfl rfl (AVal.addn rfl rfl (by omega)) ?_
      refine AOps.v rfl rfl rfl (AVal.assignN (by constructor)) ?_
      refine AOps.nil ?_
      refine ⟨i + 1, ⟨by omega, by rw [take_succ_getD hlt, List.all_append, hg, Bool.true_and, List.all_cons, List.all_nil, Bool.and_true, lowL]; rw [List.take_of_length_le (by omega)] at hq; exact hq⟩, by omega, rfl, (by repeat first | exact Agree.nil | refine Agree.cons (.refl _) ?_), (by repeat first | exact List.Sublist.refl _ | apply List.Sublist.cons_cons | apply List.Sublist.cons | exact List.nil_sublist _)⟩
  ·
    try simp only [decide_eq_true_eq, decide_eq_false_iff_not, Bool.not_eq_true', Bool.not_eq_false', Bool.and_eq_true, Bool.or_eq_true, beq_iff_eq, beq_eq_false_iff_ne] at h10
    refine ACode.exit ?_
    refine ACode.seq ?_
    refine ACode.seq ?_
    refine ACode.region ?_
    refine AOps.v rfl rfl rfl (AVal.assignN (by constructor)) ?_
    refine AOps.nil ?_
    refine ACode.block ?_
    refine ACode.loop (γ := Nat) (fun g => [(1, .ptr b1 0), (5, .int .i64 g)]) (fun g => [(b1, .cells 27 (cellsT t))]) (fun g => g ≤ t.kids.length ∧ (t.kids.take g).all lowT = true) (fun g => t.kids.length - g) 0 ⟨Nat.zero_le _, by simp⟩ (by repeat first | exact Agree.nil | refine Agree.cons (.refl _) ?_) (by repeat first | exact List.Sublist.refl _ | apply List.Sublist.cons_cons | apply List.Sublist.cons | exact List.nil_sublist _) ?_
    rintro n ⟨hn0, hr⟩ t3
    simp only at hn0 hr ⊢
    refine ACode.seq ?_
    refine ACode.seq ?_
    refine ACode.region ?_
    refine AOps.v rfl rfl rfl (AVal.moveN (by constructor)) ?_
    refine AOps.v rfl rfl rfl (AVal.fieldP rfl rfl) ?_
    refine AOps.v rfl rfl rfl (AVal.loadPN 0 rfl rfl rfl rfl (by constructor)) ?_
    refine AOps.v rfl rfl rfl (AVal.len rfl rfl rfl) ?_
    refine AOps.v rfl rfl rfl (AVal.lss rfl rfl) ?_
    refine AOps.nil ?_
    refine ACode.condS rfl (fun h39 => ?_) (fun h39 => ?_)
    ·
      try simp only [decide_eq_true_eq, decide_eq_false_iff_not, Bool.not_eq_true', Bool.not_eq_false', Bool.and_eq_true, Bool.or_eq_true, beq_iff_eq, beq_eq_false_iff_ne] at h39
      have hlt3 : n < t.kids.length := by omega
      refine ACode.skip ?_
      refine ACode.seq ?_
      refine ACode.block ?_
      refine ACode.seq ?_
      refine ACode.region ?_
      refine AOps.v rfl rfl rfl (AVal.fieldP rfl rfl) ?_
      refine AOps.v rfl rfl rfl (AVal.loadPN 0 rfl rfl rfl rfl (by constructor)) ?_
      refine AOps.v rfl rfl rfl (AVal.moveN (by constructor)) ?_
      refine AOps.v rfl rfl rfl (AVal.indexTK rfl rfl rfl rfl rfl (by omega)) ?_
      refine AOps.v rfl rfl rfl (AVal.loadE (d := encT _) rfl rfl rfl) ?_
      refine AOps.e rfl rfl rfl (AOp.callP (ih (t.kids.getD n default).sz (by rw [← hm]; exact Term.sz_lt (getD_mem hlt3)) _ rfl (hf.kid (getD_mem hlt3))) (by first | exact LeL.eq rfl | (repeat constructor)) ?_)
      refine AOps.v rfl rfl rfl (AVal.not rfl) ?_
      refine AOps.nil ?_
      refine ACode.condS rfl (fun h48 => ?_) (fun h48 => ?_)
      ·
        try simp only [decide_eq_true_eq, decide_eq_false_iff_not, Bool.not_eq_true', Bool.not_eq_false', Bool.and_eq_true, Bool.or_eq_true, beq_iff_eq, beq_eq_false_iff_ne] at h48
        have hn : lowT t = false := by
          cases e : lowT t with
          | false => rfl
          | true =>
            exfalso
            rw [lowT_eq, Bool.and_eq_true] at e
            have e1 := lowTs_iff.1 e.2 _ (getD_mem hlt3)
            rw [e1] at h48; simp at h48
        refine ACode.seq ?_
        refine ACode.region ?_
        refine AOps.v rfl rfl rfl (AVal.assignN (by constructor)) ?_
        refine AOps.nil ?_
        refine ACode.ret ?_
        refine AFin.pureRet rfl (.cons rfl .nil) ?_
        exact D.Le.eq (congrArg D.bool (by rw [hn]))
      ·
        try simp only [decide_eq_true_eq, decide_eq_false_iff_not, Bool.not_eq_true', Bool.not_eq_false', Bool.and_eq_true, Bool.or_eq_true, beq_iff_eq, beq_eq_false_iff_ne] at h48
        refine ACode.skip ?_
        refine ACode.region ?_
        refine AOps.v rfl rfl rfl (AVal.moveN (by constructor)) ?_
        refine AOps.v rfl rfl rfl (AVal.addn rfl rfl (by omega)) ?_
        refine AOps.v rfl rfl rfl (AVal.assignN (by constructor)) ?_
        refine AOps.nil ?_
        refine ⟨n + 1, ⟨by omega, by rw [take_succ_getD hlt3, List.all_append, hr, Bool.true_and, List.all_cons, List.all_nil, Bool.and_true]; simpa using h48⟩, by omega, rfl, (by repeat first | exact Agree.nil | refine Agree.cons (.refl _) ?_), (by repeat first | exact List.Sublist.refl _ | apply List.Sublist.cons_cons | apply List.Sublist.cons | exact List.nil_sublist _)⟩
    ·
      try simp only [decide_eq_true_eq, decide_eq_false_iff_not, Bool.not_eq_true', Bool.not_eq_false', Bool.and_eq_true, Bool.or_eq_true, beq_iff_eq, beq_eq_false_iff_ne] at h39
      have hn : lowT t = true := by
        rw [List.take_of_length_le (by omega)] at hg hr
        rw [lowT_eq, hg, Bool.true_and]
        exact lowTs_iff.2 (fun x hx => List.all_eq_true.1 hr x hx)
      refine ACode.exit ?_
      refine ACode.seq ?_
      refine ACode.region ?_
      refine AOps.v rfl rfl rfl (AVal.assignN (by constructor)) ?_
      refine AOps.nil ?_
      refine ACode.ret ?_
      refine AFin.pureRet rfl (.cons rfl .nil) ?_
      exact D.Le.eq (congrArg D.bool (by rw [hn]))

theorem headRight_c (hS : SortedOk) (cs : List Core) (nl nt : Int) (t : Term) (hC : CoresOk cs) (htf : t.fit 1099511627776) (hsz : t.sz ≤ 1048576) (hl : cs.length ≤ 1099511627775) (hfc : ∀ c ∈ cs, c.typ.fit 1099511627776 ∧ c.body.fit 1099511627776) : AFn X 3 [.slC cs, .int .i64 nl, .int .i64 nt, encT t] (.bool true) := by
  refine ACalls.of_code Tryz.func3 rfl (by rfl) (Nat.le_of_ble_eq_true rfl) ?_
  refine ACode.seq ?_
  refine ACode.region ?_
  refine AOps.e rfl rfl rfl (AOp.boxA rfl (fun b7 => ?_))
  refine AOps.v rfl rfl rfl (AVal.assignN (by constructor)) ?_
  refine AOps.nil ?_
  refine ACode.seq ?_
  refine ACode.seq ?_
  refine ACode.region ?_
  refine AOps.e rfl rfl rfl (AOp.callP (awake_c hS) (by first | exact LeL.eq rfl | (repeat constructor)) ?_)
  refine AOps.v rfl rfl rfl (AVal.not rfl) ?_
  refine AOps.nil ?_
  refine ACode.condF rfl ?_
  refine ACode.skip ?_
  refine ACode.seq ?_
  refine ACode.seq ?_
  refine ACode.region ?_
  refine AOps.v rfl rfl rfl (AVal.moveN (by constructor)) ?_
  refine AOps.v rfl rfl rfl (AVal.loadP (d := encT _) 0 rfl rfl rfl rfl) ?_
  refine AOps.e rfl rfl rfl (callGreat htf (by omega) hfc rfl (fun g18 => ?_))
  refine AOps.v rfl rfl rfl (AVal.moveN (by constructor)) ?_
  refine AOps.split 19 rfl (fun h19 => ?_) (fun h19 => ?_)
  ·
    try simp only [decide_eq_true_eq, decide_eq_false_iff_not, Bool.not_eq_true', Bool.not_eq_false', Bool.and_eq_true, Bool.or_eq_true, beq_iff_eq, beq_eq_false_iff_ne] at h19
    refine AOps.vF rfl rfl rfl rfl rfl rfl rfl ?_
    refine AOps.vF rfl rfl rfl rfl rfl rfl rfl ?_
    refine AOps.v rfl rfl rfl (AVal.pickT rfl (by constructor)) ?_
    refine AOps.nil ?_
    refine ACode.condT rfl ?_
    refine ACode.seq ?_
    refine ACode.region ?_
    refine AOps.v rfl rfl rfl (AVal.assignN (by constructor)) ?_
    refine AOps.nil ?_
    refine ACode.ret ?_
    refine AFin.pureRet rfl (.cons rfl .nil) ?_
    exact .refl _
  ·
    try simp only [decide_eq_true_eq, decide_eq_false_iff_not, Bool.not_eq_true', Bool.not_eq_false', Bool.and_eq_true, Bool.or_eq_true, beq_iff_eq, beq_eq_false_iff_ne] at h19
    refine AOps.vT rfl rfl rfl rfl rfl rfl (AVal.moveN (by constructor)) ?_
    refine AOps.vT rfl rfl rfl rfl rfl rfl (AVal.gtr rfl rfl) ?_
    refine AOps.v rfl rfl rfl (AVal.pickF rfl (by constructor)) ?_
    refine AOps.nil ?_
    refine ACode.condS rfl (fun h22 => ?_) (fun h22 => ?_)
    ·
      try simp only [decide_eq_true_eq, decide_eq_false_iff_not, Bool.not_eq_true', Bool.not_eq_false', Bool.and_eq_true, Bool.or_eq_true, beq_iff_eq, beq_eq_false_iff_ne] at h22
      refine ACode.seq ?_
      refine ACode.region ?_
      refine AOps.v rfl rfl rfl (AVal.assignN (by constructor)) ?_
      refine AOps.nil ?_
      refine ACode.ret ?_
      refine AFin.pureRet rfl (.cons rfl .nil) ?_
      exact .refl _
    ·
      try simp only [decide_eq_true_eq, decide_eq_false_iff_not, Bool.not_eq_true', Bool.not_eq_false', Bool.and_eq_true, Bool.or_eq_true, beq_iff_eq, beq_eq_false_iff_ne] at h22
      refine ACode.skip ?_
      refine ACode.seq ?_
      refine ACode.region ?_
      refine AOps.v rfl rfl rfl (AVal.moveN (by constructor)) ?_
      refine AOps.e rfl rfl rfl (AOp.callP (consts_c cs hl) (by first | exact LeL.eq rfl | (repeat constructor)) ?_)
      refine AOps.v rfl rfl rfl (AVal.assignN (by constructor)) ?_
      refine AOps.nil ?_
      refine ACode.seq ?_
      refine ACode.seq ?_
      refine ACode.region ?_
      refine AOps.v rfl rfl rfl (AVal.assignN (by constructor)) ?_
      refine AOps.nil ?_
      refine ACode.block ?_
      refine ACode.loop (γ := Nat) (fun g => [(0, .slC cs), (1, .int .i64 nl), (2, .int .i64 nt), (7, .ptr b7 0), (9, .slc ((cs.map (·.levels)).map (D.int .i64))), (10, .int .i64 g)]) (fun g => [(b7, .cells 27 (cellsT t))]) (fun g => g ≤ cs.length ∧ ∀ c ∈ cs.take g, 0 ≤ c.levels ∧ c.levels ≤ 8 ∧ (c.has = true → rightM c.levels (cs.map (·.levels)) 0 c.body = true) ∧ lowT c.body = true) (fun g => cs.length - g) 0 ⟨Nat.zero_le _, fun c hc => by simp at hc⟩ (by repeat first | exact Agree.nil | refine Agree.cons (.refl _) ?_) (by repeat first | exact List.Sublist.refl _ | apply List.Sublist.cons_cons | apply List.Sublist.cons | exact List.nil_sublist _) ?_
      rintro i ⟨hi, hg⟩ t1
      simp only at hi hg ⊢
      refine ACode.seq ?_
      refine ACode.seq ?_
      refine ACode.region ?_
      refine AOps.v rfl rfl rfl (AVal.moveN (by constructor)) ?_
      refine AOps.v rfl rfl rfl (AVal.moveN (by constructor)) ?_
      refine AOps.v rfl rfl rfl (AVal.len rfl rfl rfl) ?_
      refine AOps.v rfl rfl rfl (AVal.lss rfl rfl) ?_
      refine AOps.nil ?_
      refine ACode.condS rfl (fun h28 => ?_) (fun h28 => ?_)
      ·
        try simp only [decide_eq_true_eq, decide_eq_false_iff_not, Bool.not_eq_true', Bool.not_eq_false', Bool.and_eq_true, Bool.or_eq_true, beq_iff_eq, beq_eq_false_iff_ne] at h28
        have hlt : i < cs.length := by omega
        refine ACode.skip ?_
        refine ACode.seq ?_
        refine ACode.block ?_
        refine ACode.seq ?_
        refine ACode.draws [.p 0, .p 1, .p 2, .p 3, .p 4, .p 5, .p 6, .p 7, .p 8, .p 9, .p 10, .p 11, .p 12, .p 13, .p 14, .p 15, .p 16, .p 17, .p 18, .p 19, .p 20, .p 21, .p 22, .p 23, .p 24, .p 25, .p 26, .p 27, .p 28, .p 29, .p 30, .p 31, .p 32, .p 33, .p 34, .p 35, .p 36, .p 37, .p 38, .p 39, .p 40, .p 41, .p 42, .p 43, .p 44] mixed (by kernel_rfl) ?_
        refine ASeq.pv rfl rfl rfl rfl (fun L0 => (AVal.moveN (by constructor))) ?_
        refine ASeq.pv rfl rfl rfl rfl (fun L0 => (AVal.moveN (by constructor))) ?_
        refine ASeq.pv rfl rfl rfl rfl (fun L0 => (AVal.indexCK rfl rfl rfl rfl rfl (by omega))) ?_
        refine ASeq.pv rfl rfl rfl rfl (fun L0 => (AVal.fieldE rfl rfl)) ?_
        refine ASeq.pv rfl rfl rfl rfl (fun L0 => (AVal.loadEN rfl rfl rfl (by constructor))) ?_
        refine ASeq.pv rfl rfl rfl rfl (fun L0 => (AVal.lss rfl rfl)) ?_
        refine ASeq.pv rfl rfl rfl rfl (fun L0 => (AVal.moveN (by constructor))) ?_
        refine ASeq.split 37 rfl (fun h37 => ?_) (fun h37 => ?_)
        ·
          try simp only [decide_eq_true_eq, decide_eq_false_iff_not, Bool.not_eq_true', Bool.not_eq_false', Bool.and_eq_true, Bool.or_eq_true, beq_iff_eq, beq_eq_false_iff_ne] at h37
          refine ASeq.pvF rfl rfl rfl rfl rfl rfl rfl rfl ?_
          refine ASeq.pvF rfl rfl rfl rfl rfl rfl rfl rfl ?_
          refine ASeq.pvF rfl rfl rfl rfl rfl rfl rfl rfl ?_
          refine ASeq.pvF rfl rfl rfl rfl rfl rfl rfl rfl ?_
          refine ASeq.pvF rfl rfl rfl rfl rfl rfl rfl rfl ?_
          refine ASeq.pvF rfl rfl rfl rfl rfl rfl rfl rfl ?_
          refine ASeq.pv rfl rfl rfl rfl (fun L0 => (AVal.pickT rfl (by constructor))) ?_
          refine ASeq.pv rfl rfl rfl rfl (fun L0 => (AVal.moveN (by constructor))) ?_
          refine ASeq.pvF rfl rfl rfl rfl rfl rfl rfl rfl ?_
          refine ASeq.pvF rfl rfl rfl rfl rfl rfl rfl rfl ?_
          refine ASeq.pvF rfl rfl rfl rfl rfl rfl rfl rfl ?_
          refine ASeq.pvF rfl rfl rfl rfl rfl rfl rfl rfl ?_
          refine ASeq.pvF rfl rfl rfl rfl rfl rfl rfl rfl ?_
          refine ASeq.pvF rfl rfl rfl rfl rfl rfl rfl rfl ?_
          refine ASeq.pvU rfl rfl rfl rfl rfl rfl ?_
          refine ASeq.pvU rfl rfl rfl rfl rfl rfl ?_
          refine ASeq.pvU rfl rfl rfl rfl rfl rfl ?_
          refine ASeq.pvU rfl rfl rfl rfl rfl rfl ?_
          refine ASeq.pvU rfl rfl rfl rfl rfl rfl ?_
          refine ASeq.pvU rfl rfl rfl rfl rfl rfl ?_
          refine ASeq.pvU rfl rfl rfl rfl rfl rfl ?_
          refine ASeq.pvU rfl rfl rfl rfl rfl rfl ?_
          refine ASeq.pvU rfl rfl rfl rfl rfl rfl ?_
          refine ASeq.pvU rfl rfl rfl rfl rfl rfl ?_
          refine ASeq.pvU rfl rfl rfl rfl rfl rfl ?_
          refine ASeq.pvU rfl rfl rfl rfl rfl rfl ?_
          refine ASeq.pvU rfl rfl rfl rfl rfl rfl ?_
          refine ASeq.pvF rfl rfl rfl rfl rfl rfl rfl rfl ?_
          refine ASeq.pv rfl rfl rfl rfl (fun L0 => (AVal.pickT rfl (by constructor))) ?_
          refine ASeq.pv rfl rfl rfl rfl (fun L0 => (AVal.moveN (by constructor))) ?_
          refine ASeq.pvF rfl rfl rfl rfl rfl rfl rfl rfl ?_
          refine ASeq.pvF rfl rfl rfl rfl rfl rfl rfl rfl ?_
          refine ASeq.pvF rfl rfl rfl rfl rfl rfl rfl rfl ?_
          refine ASeq.pvF rfl rfl rfl rfl rfl rfl rfl rfl ?_
          refine ASeq.pvF rfl rfl rfl rfl rfl rfl rfl rfl ?_
          refine ASeq.pvF rfl rfl rfl rfl rfl rfl rfl rfl ?_
          refine ASeq.pvF rfl rfl rfl rfl rfl rfl rfl rfl ?_
          refine ASeq.pv rfl rfl rfl rfl (fun L0 => (AVal.pickT rfl (by constructor))) ?_
          refine ASeq.nil ?_
          refine ACode.condT rfl ?_
          refine ACode.seq ?_
          refine ACode.region ?_
          refine AOps.v rfl rfl rfl (AVal.assignN (by constructor)) ?_
          refine AOps.nil ?_
          refine ACode.ret ?_
          refine AFin.pureRet rfl (.cons rfl .nil) ?_
          exact .refl _
        ·
          try simp only [decide_eq_true_eq, decide_eq_false_iff_not, Bool.not_eq_true', Bool.not_eq_false', Bool.and_eq_true, Bool.or_eq_true, beq_iff_eq, beq_eq_false_iff_ne] at h37
          refine ASeq.pvT rfl rfl rfl rfl rfl rfl rfl (fun L0 => (AVal.moveN (by constructor))) ?_
          refine ASeq.pvT rfl rfl rfl rfl rfl rfl rfl (fun L0 => (AVal.moveN (by constructor))) ?_
          refine ASeq.pvT rfl rfl rfl rfl rfl rfl rfl (fun L0 => (AVal.indexCK rfl rfl rfl rfl rfl (by omega))) ?_
          refine ASeq.pvT rfl rfl rfl rfl rfl rfl rfl (fun L0 => (AVal.fieldE rfl rfl)) ?_
          refine ASeq.pvT rfl rfl rfl rfl rfl rfl rfl (fun L0 => (AVal.loadEN rfl rfl rfl (by constructor))) ?_
          refine ASeq.pvT rfl rfl rfl rfl rfl rfl rfl (fun L0 => (AVal.gtr rfl rfl)) ?_
          refine ASeq.pv rfl rfl rfl rfl (fun L0 => (AVal.pickF rfl (by constructor))) ?_
          refine ASeq.pv rfl rfl rfl rfl (fun L0 => (AVal.moveN (by constructor))) ?_
          refine ASeq.split 45 rfl (fun h45 => ?_) (fun h45 => ?_)
          ·
            try simp only [decide_eq_true_eq, decide_eq_false_iff_not, Bool.not_eq_true', Bool.not_eq_false', Bool.and_eq_true, Bool.or_eq_true, beq_iff_eq, beq_eq_false_iff_ne] at h45
            refine ASeq.pvF rfl rfl rfl rfl rfl rfl rfl rfl ?_
            refine ASeq.pvF rfl rfl rfl rfl rfl rfl rfl rfl ?_
            refine ASeq.pvF rfl rfl rfl rfl rfl rfl rfl rfl ?_
            refine ASeq.pvF rfl rfl rfl rfl rfl rfl rfl rfl ?_
            refine ASeq.pvF rfl rfl rfl rfl rfl rfl rfl rfl ?_
            refine ASeq.pvF rfl rfl rfl rfl rfl rfl rfl rfl ?_
            refine ASeq.pvU rfl rfl rfl rfl rfl rfl ?_
            refine ASeq.pvU rfl rfl rfl rfl rfl rfl ?_
            refine ASeq.pvU rfl rfl rfl rfl rfl rfl ?_
            refine ASeq.pvU rfl rfl rfl rfl rfl rfl ?_
            refine ASeq.pvU rfl rfl rfl rfl rfl rfl ?_
            refine ASeq.pvU rfl rfl rfl rfl rfl rfl ?_
            refine ASeq.pvU rfl rfl rfl rfl rfl rfl ?_
            refine ASeq.pvU rfl rfl rfl rfl rfl rfl ?_
            refine ASeq.pvU rfl rfl rfl rfl rfl rfl ?_
            refine ASeq.pvU rfl rfl rfl rfl rfl rfl ?_
            refine ASeq.pvU rfl rfl rfl rfl rfl rfl ?_
            refine ASeq.pvU rfl rfl rfl rfl rfl rfl ?_
            refine ASeq.pvU rfl rfl rfl rfl rfl rfl ?_
            refine ASeq.pvF rfl rfl rfl rfl rfl rfl rfl rfl ?_
            refine ASeq.pv rfl rfl rfl rfl (fun L0 => (AVal.pickT rfl (by constructor))) ?_
            refine ASeq.pv rfl rfl rfl rfl (fun L0 => (AVal.moveN (by constructor))) ?_
            refine ASeq.pvF rfl rfl rfl rfl rfl rfl rfl rfl ?_
            refine ASeq.pvF rfl rfl rfl rfl rfl rfl rfl rfl ?_
            refine ASeq.pvF rfl rfl rfl rfl rfl rfl rfl rfl ?_
            refine ASeq.pvF rfl rfl rfl rfl rfl rfl rfl rfl ?_
            refine ASeq.pvF rfl rfl rfl rfl rfl rfl rfl rfl ?_
            refine ASeq.pvF rfl rfl rfl rfl rfl rfl rfl rfl ?_
            refine ASeq.pvF rfl rfl rfl rfl rfl rfl rfl rfl ?_
            refine ASeq.pv rfl rfl rfl rfl (fun L0 => (AVal.pickT rfl (by constructor))) ?_
            refine ASeq.nil ?_
            refine ACode.condT rfl ?_
            refine ACode.seq ?_
            refine ACode.region ?_
            refine AOps.v rfl rfl rfl (AVal.assignN (by constructor)) ?_
            refine AOps.nil ?_
            refine ACode.ret ?_
            refine AFin.pureRet rfl (.cons rfl .nil) ?_
            exact .refl _
          ·
            try simp only [decide_eq_true_eq, decide_eq_false_iff_not, Bool.not_eq_true', Bool.not_eq_false', Bool.and_eq_true, Bool.or_eq_true, beq_iff_eq, beq_eq_false_iff_ne] at h45
            refine ASeq.pvT rfl rfl rfl rfl rfl rfl rfl (fun L0 => (AVal.moveN (by constructor))) ?_
            refine ASeq.pvT rfl rfl rfl rfl rfl rfl rfl (fun L0 => (AVal.moveN (by constructor))) ?_
            refine ASeq.pvT rfl rfl rfl rfl rfl rfl rfl (fun L0 => (AVal.indexCK rfl rfl rfl rfl rfl (by omega))) ?_
            refine ASeq.pvT rfl rfl rfl rfl rfl rfl rfl (fun L0 => (AVal.fieldE rfl rfl)) ?_
            refine ASeq.pvT rfl rfl rfl rfl rfl rfl rfl (fun L0 => (AVal.loadEN rfl rfl rfl (by constructor))) ?_
            refine ASeq.pvT rfl rfl rfl rfl rfl rfl rfl (fun L0 => (AVal.moveN (by constructor))) ?_
            refine ASeq.split 51 rfl (fun h51 => ?_) (fun h51 => ?_)
            ·
              try simp only [decide_eq_true_eq, decide_eq_false_iff_not, Bool.not_eq_true', Bool.not_eq_false', Bool.and_eq_true, Bool.or_eq_true, beq_iff_eq, beq_eq_false_iff_ne] at h51
              refine ASeq.pvT rfl rfl rfl rfl rfl rfl rfl (fun L0 => (AVal.moveN (by constructor))) ?_
              refine ASeq.pvT rfl rfl rfl rfl rfl rfl rfl (fun L0 => (AVal.moveN (by constructor))) ?_
              refine ASeq.pvT rfl rfl rfl rfl rfl rfl rfl (fun L0 => (AVal.indexCK rfl rfl rfl rfl rfl (by omega))) ?_
              refine ASeq.pvT rfl rfl rfl rfl rfl rfl rfl (fun L0 => (AVal.fieldE rfl rfl)) ?_
              refine ASeq.pvT rfl rfl rfl rfl rfl rfl rfl (fun L0 => (AVal.loadEN rfl rfl rfl (by constructor))) ?_
              refine ASeq.pvT rfl rfl rfl rfl rfl rfl rfl (fun L0 => (AVal.moveN (by constructor))) ?_
              refine ASeq.pvT rfl rfl rfl rfl rfl rfl rfl (fun L0 => (AVal.moveN (by constructor))) ?_
              refine ASeq.pvT rfl rfl rfl rfl rfl rfl rfl (fun L0 => (AVal.moveN (by constructor))) ?_
              refine ASeq.pvT rfl rfl rfl rfl rfl rfl rfl (fun L0 => (AVal.indexCK rfl rfl rfl rfl rfl (by omega))) ?_
              refine ASeq.pvT rfl rfl rfl rfl rfl rfl rfl (fun L0 => (AVal.fieldE rfl rfl)) ?_
              refine ASeq.pvT rfl rfl rfl rfl rfl rfl rfl (fun L0 => (AVal.loadE (d := encT _) rfl rfl rfl)) ?_
              refine ASeq.peT rfl rfl rfl rfl rfl rfl rfl (fun L0 => (AOp.callP (coreRight_c (cs.getD i default).levels 0 (cs.map (·.levels)) (cs.getD i default).body (fit_mono (by omega) _ _ rfl (hfc _ (getD_mem hlt)).2) (by rw [List.length_map]; omega) (by omega) (by have := (hC _ (getD_mem hlt)).2; omega)) (by first | exact LeL.eq rfl | (repeat constructor)) ⟨rfl, rfl⟩)) ?_
              refine ASeq.pvT rfl rfl rfl rfl rfl rfl rfl (fun L0 => (AVal.not rfl)) ?_
              refine ASeq.pvT rfl rfl rfl rfl rfl rfl rfl (fun L0 => (AVal.pickT rfl (by constructor))) ?_
              refine ASeq.pv rfl rfl rfl rfl (fun L0 => (AVal.pickF rfl (by constructor))) ?_
              refine ASeq.pv rfl rfl rfl rfl (fun L0 => (AVal.moveN (by constructor))) ?_
              refine ASeq.split 67 rfl (fun h67 => ?_) (fun h67 => ?_)
              ·
                try simp only [decide_eq_true_eq, decide_eq_false_iff_not, Bool.not_eq_true', Bool.not_eq_false', Bool.and_eq_true, Bool.or_eq_true, beq_iff_eq, beq_eq_false_iff_ne] at h67
                refine ASeq.pvF rfl rfl rfl rfl rfl rfl rfl rfl ?_
                refine ASeq.pvF rfl rfl rfl rfl rfl rfl rfl rfl ?_
                refine ASeq.pvF rfl rfl rfl rfl rfl rfl rfl rfl ?_
                refine ASeq.pvF rfl rfl rfl rfl rfl rfl rfl rfl ?_
                refine ASeq.pvF rfl rfl rfl rfl rfl rfl rfl rfl ?_
                refine ASeq.pvF rfl rfl rfl rfl rfl rfl rfl rfl ?_
                refine ASeq.pvF rfl rfl rfl rfl rfl rfl rfl rfl ?_
                refine ASeq.pv rfl rfl rfl rfl (fun L0 => (AVal.pickT rfl (by constructor))) ?_
                refine ASeq.nil ?_
                refine ACode.condT rfl ?_
                refine ACode.seq ?_
                refine ACode.region ?_
                refine AOps.v rfl rfl rfl (AVal.assignN (by constructor)) ?_
                refine AOps.nil ?_
                refine ACode.ret ?_
                refine AFin.pureRet rfl (.cons rfl .nil) ?_
                exact .refl _
              ·
                try simp only [decide_eq_true_eq, decide_eq_false_iff_not, Bool.not_eq_true', Bool.not_eq_false', Bool.and_eq_true, Bool.or_eq_true, beq_iff_eq, beq_eq_false_iff_ne] at h67
                refine ASeq.pvT rfl rfl rfl rfl rfl rfl rfl (fun L0 => (AVal.moveN (by constructor))) ?_
                refine ASeq.pvT rfl rfl rfl rfl rfl rfl rfl (fun L0 => (AVal.moveN (by constructor))) ?_
                refine ASeq.pvT rfl rfl rfl rfl rfl rfl rfl (fun L0 => (AVal.indexCK rfl rfl rfl rfl rfl (by omega))) ?_
                refine ASeq.pvT rfl rfl rfl rfl rfl rfl rfl (fun L0 => (AVal.fieldE rfl rfl)) ?_
                refine ASeq.pvT rfl rfl rfl rfl rfl rfl rfl (fun L0 => (AVal.loadE (d := encT _) rfl rfl rfl)) ?_
                refine ASeq.peT rfl rfl rfl rfl rfl rfl rfl (fun L0 => (AOp.callP (low_c _ (cs.getD i default).body rfl (fit_mono (by omega) _ _ rfl (hfc _ (getD_mem hlt)).2)) (by first | exact LeL.eq rfl | (repeat constructor)) ⟨rfl, rfl⟩)) ?_
                refine ASeq.pvT rfl rfl rfl rfl rfl rfl rfl (fun L0 => (AVal.not rfl)) ?_
                refine ASeq.pv rfl rfl rfl rfl (fun L0 => (AVal.pickF rfl (by constructor))) ?_
                refine ASeq.nil ?_
                refine ACode.condS rfl (fun h75 => ?_) (fun h75 => ?_)
                ·
                  try simp only [decide_eq_true_eq, decide_eq_false_iff_not, Bool.not_eq_true', Bool.not_eq_false', Bool.and_eq_true, Bool.or_eq_true, beq_iff_eq, beq_eq_false_iff_ne] at h75
                  refine ACode.seq ?_
                  refine ACode.region ?_
                  refine AOps.v rfl rfl rfl (AVal.assignN (by constructor)) ?_
                  refine AOps.nil ?_
                  refine ACode.ret ?_
                  refine AFin.pureRet rfl (.cons rfl .nil) ?_
                  exact .refl _
                ·
                  try simp only [decide_eq_true_eq, decide_eq_false_iff_not, Bool.not_eq_true', Bool.not_eq_false', Bool.and_eq_true, Bool.or_eq_true, beq_iff_eq, beq_eq_false_iff_ne] at h75
                  refine ACode.skip ?_
                  refine ACode.region ?_
                  refine AOps.v rfl rfl rfl (AVal.moveN (by constructor)) ?_
                  refine AOps.v rfl rfl rfl (AVal.addn rfl rfl (by omega)) ?_
                  refine AOps.v rfl rfl rfl (AVal.assignN (by constructor)) ?_
                  refine AOps.nil ?_
                  have hgn : ∀ c ∈ cs.take (i + 1), 0 ≤ c.levels ∧ c.levels ≤ 8 ∧ (c.has = true → rightM c.levels (cs.map (·.levels)) 0 c.body = true) ∧ lowT c.body = true := by
                    intro c hc
                    rw [take_succ_getD hlt, List.mem_append, List.mem_singleton] at hc
                    rcases hc with hc | rfl
                    · exact hg c hc
                    · refine ⟨by omega, by omega, fun e => ?_, by simpa using h75⟩
                      first | (simp only [rightTop, Bool.and_eq_true] at h67; exact h67.2) | (rw [h51] at e; cases e)
                  refine ⟨i + 1, ⟨by omega, hgn⟩, by omega, rfl, (by repeat first | exact Agree.nil | refine Agree.cons (.refl _) ?_), (by repeat first | exact List.Sublist.refl _ | apply List.Sublist.cons_cons | apply List.Sublist.cons | exact List.nil_sublist _)⟩
            ·
              try simp only [decide_eq_true_eq, decide_eq_false_iff_not, Bool.not_eq_true', Bool.not_eq_false', Bool.and_eq_true, Bool.or_eq_true, beq_iff_eq, beq_eq_false_iff_ne] at h51
              refine ASeq.pvF rfl rfl rfl rfl rfl rfl rfl rfl ?_
              refine ASeq.pvF rfl rfl rfl rfl rfl rfl rfl rfl ?_
              refine ASeq.pvF rfl rfl rfl rfl rfl rfl rfl rfl ?_
              refine ASeq.pvF rfl rfl rfl rfl rfl rfl rfl rfl ?_
              refine ASeq.pvF rfl rfl rfl rfl rfl rfl rfl rfl ?_
              refine ASeq.pvF rfl rfl rfl rfl rfl rfl rfl rfl ?_
              refine ASeq.pvF rfl rfl rfl rfl rfl rfl rfl rfl ?_
              refine ASeq.pvF rfl rfl rfl rfl rfl rfl rfl rfl ?_
              refine ASeq.pvF rfl rfl rfl rfl rfl rfl rfl rfl ?_
              refine ASeq.pvF rfl rfl rfl rfl rfl rfl rfl rfl ?_
              refine ASeq.pvF rfl rfl rfl rfl rfl rfl rfl rfl ?_
              refine ASeq.pvF rfl rfl rfl rfl rfl rfl rfl rfl ?_
              refine ASeq.pvF rfl rfl rfl rfl rfl rfl rfl rfl ?_
              refine ASeq.pvT rfl rfl rfl rfl rfl rfl rfl (fun L0 => (AVal.pickF rfl (by constructor))) ?_
              refine ASeq.pv rfl rfl rfl rfl (fun L0 => (AVal.pickF rfl (by constructor))) ?_
              refine ASeq.pv rfl rfl rfl rfl (fun L0 => (AVal.moveN (by constructor))) ?_
              refine ASeq.pvT rfl rfl rfl rfl rfl rfl rfl (fun L0 => (AVal.moveN (by constructor))) ?_
              refine ASeq.pvT rfl rfl rfl rfl rfl rfl rfl (fun L0 => (AVal.moveN (by constructor))) ?_
              refine ASeq.pvT rfl rfl rfl rfl rfl rfl rfl (fun L0 => (AVal.indexCK rfl rfl rfl rfl rfl (by omega))) ?_
              refine ASeq.pvT rfl rfl rfl rfl rfl rfl rfl (fun L0 => (AVal.fieldE rfl rfl)) ?_
              refine ASeq.pvT rfl rfl rfl rfl rfl rfl rfl (fun L0 => (AVal.loadE (d := encT _) rfl rfl rfl)) ?_
              refine ASeq.peT rfl rfl rfl rfl rfl rfl rfl (fun L0 => (AOp.callP (low_c _ (cs.getD i default).body rfl (fit_mono (by omega) _ _ rfl (hfc _ (getD_mem hlt)).2)) (by first | exact LeL.eq rfl | (repeat constructor)) ⟨rfl, rfl⟩)) ?_
              refine ASeq.pvT rfl rfl rfl rfl rfl rfl rfl (fun L0 => (AVal.not rfl)) ?_
              refine ASeq.pv rfl rfl rfl rfl (fun L0 => (AVal.pickF rfl (by constructor))) ?_
              refine ASeq.nil ?_
              refine ACode.condS rfl (fun h75 => ?_) (fun h75 => ?_)
              ·
                try simp only [decide_eq_true_eq, decide_eq_false_iff_not, Bool.not_eq_true', Bool.not_eq_false', Bool.and_eq_true, Bool.or_eq_true, beq_iff_eq, beq_eq_false_iff_ne] at h75
                refine ACode.seq ?_
                refine ACode.region ?_
                refine AOps.v rfl rfl rfl (AVal.assignN (by constructor)) ?_
                refine AOps.nil ?_
                refine ACode.ret ?_
                refine AFin.pureRet rfl (.cons rfl .nil) ?_
                exact .refl _
              ·
                try simp only [decide_eq_true_eq, decide_eq_false_iff_not, Bool.not_eq_true', Bool.not_eq_false', Bool.and_eq_true, Bool.or_eq_true, beq_iff_eq, beq_eq_false_iff_ne] at h75
                refine ACode.skip ?_
                refine ACode.region ?_
                refine AOps.v rfl rfl rfl (AVal.moveN (by constructor)) ?_
                refine AOps.v rfl rfl rfl (AVal.addn rfl rfl (by omega)) ?_
                refine AOps.v rfl rfl rfl (AVal.assignN (by constructor)) ?_
                refine AOps.nil ?_
                have hgn : ∀ c ∈ cs.take (i + 1), 0 ≤ c.levels ∧ c.levels ≤ 8 ∧ (c.has = true → rightM c.levels (cs.map (·.levels)) 0 c.body = true) ∧ lowT c.body = true := by
                  intro c hc
                  rw [take_succ_getD hlt, List.mem_append, List.mem_singleton] at hc
                  rcases hc with hc | rfl
                  · exact hg c hc
                  · refine ⟨by omega, by omega, fun e => ?_, by simpa using h75⟩
                    first | (simp only [rightTop, Bool.and_eq_true] at h67; exact h67.2) | (rw [h51] at e; cases e)
                refine ⟨i + 1, ⟨by omega, hgn⟩, by omega, rfl, (by repeat first | exact Agree.nil | refine Agree.cons (.refl _) ?_), (by repeat first | exact List.Sublist.refl _ | apply List.Sublist.cons_cons | apply List.Sublist.cons | exact List.nil_sublist _)⟩
      ·
        try simp only [decide_eq_true_eq, decide_eq_false_iff_not, Bool.not_eq_true', Bool.not_eq_false', Bool.and_eq_true, Bool.or_eq_true, beq_iff_eq, beq_eq_false_iff_ne] at h28
        have hg' : ∀ c ∈ cs, 0 ≤ c.levels ∧ c.levels ≤ 8 ∧ (c.has = true → rightM c.levels (cs.map (·.levels)) 0 c.body = true) ∧ lowT c.body = true := by rw [List.take_of_length_le (by omega)] at hg; exact hg
        refine ACode.exit ?_
        refine ACode.seq ?_
        refine ACode.seq ?_
        refine ACode.region ?_
        refine AOps.v rfl rfl rfl (AVal.moveN (by constructor)) ?_
        refine AOps.v rfl rfl rfl (AVal.lss rfl rfl) ?_
        refine AOps.v rfl rfl rfl (AVal.moveN (by constructor)) ?_
        refine AOps.split 78 rfl (fun h78 => ?_) (fun h78 => ?_)
        ·
          try simp only [decide_eq_true_eq, decide_eq_false_iff_not, Bool.not_eq_true', Bool.not_eq_false', Bool.and_eq_true, Bool.or_eq_true, beq_iff_eq, beq_eq_false_iff_ne] at h78
          refine AOps.vF rfl rfl rfl rfl rfl rfl rfl ?_
          refine AOps.vF rfl rfl rfl rfl rfl rfl rfl ?_
          refine AOps.v rfl rfl rfl (AVal.pickT rfl (by constructor)) ?_
          refine AOps.v rfl rfl rfl (AVal.moveN (by constructor)) ?_
          refine AOps.vF rfl rfl rfl rfl rfl rfl rfl ?_
          refine AOps.vF rfl rfl rfl rfl rfl rfl rfl ?_
          refine AOps.vF rfl rfl rfl rfl rfl rfl rfl ?_
          refine AOps.v rfl rfl rfl (AVal.pickT rfl (by constructor)) ?_
          refine AOps.v rfl rfl rfl (AVal.moveN (by constructor)) ?_
          refine AOps.vF rfl rfl rfl rfl rfl rfl rfl ?_
          refine AOps.vF rfl rfl rfl rfl rfl rfl rfl ?_
          refine AOps.vF rfl rfl rfl rfl rfl rfl rfl ?_
          refine AOps.vF rfl rfl rfl rfl rfl rfl rfl ?_
          refine AOps.vF rfl rfl rfl rfl rfl rfl rfl ?_
          refine AOps.vF rfl rfl rfl rfl rfl rfl rfl ?_
          refine AOps.v rfl rfl rfl (AVal.pickT rfl (by constructor)) ?_
          refine AOps.nil ?_
          refine ACode.condT rfl ?_
          refine ACode.seq ?_
          refine ACode.region ?_
          refine AOps.v rfl rfl rfl (AVal.assignN (by constructor)) ?_
          refine AOps.nil ?_
          refine ACode.ret ?_
          refine AFin.pureRet rfl (.cons rfl .nil) ?_
          exact .refl _
        ·
          try simp only [decide_eq_true_eq, decide_eq_false_iff_not, Bool.not_eq_true', Bool.not_eq_false', Bool.and_eq_true, Bool.or_eq_true, beq_iff_eq, beq_eq_false_iff_ne] at h78
          refine AOps.vT rfl rfl rfl rfl rfl rfl (AVal.moveN (by constructor)) ?_
          refine AOps.vT rfl rfl rfl rfl rfl rfl (AVal.gtr rfl rfl) ?_
          refine AOps.v rfl rfl rfl (AVal.pickF rfl (by constructor)) ?_
          refine AOps.v rfl rfl rfl (AVal.moveN (by constructor)) ?_
          refine AOps.split 82 rfl (fun h82 => ?_) (fun h82 => ?_)
          ·
            try simp only [decide_eq_true_eq, decide_eq_false_iff_not, Bool.not_eq_true', Bool.not_eq_false', Bool.and_eq_true, Bool.or_eq_true, beq_iff_eq, beq_eq_false_iff_ne] at h82
            refine AOps.vF rfl rfl rfl rfl rfl rfl rfl ?_
            refine AOps.vF rfl rfl rfl rfl rfl rfl rfl ?_
            refine AOps.vF rfl rfl rfl rfl rfl rfl rfl ?_
            refine AOps.v rfl rfl rfl (AVal.pickT rfl (by constructor)) ?_
            refine AOps.v rfl rfl rfl (AVal.moveN (by constructor)) ?_
            refine AOps.vF rfl rfl rfl rfl rfl rfl rfl ?_
            refine AOps.vF rfl rfl rfl rfl rfl rfl rfl ?_
            refine AOps.vF rfl rfl rfl rfl rfl rfl rfl ?_
            refine AOps.vF rfl rfl rfl rfl rfl rfl rfl ?_
            refine AOps.vF rfl rfl rfl rfl rfl rfl rfl ?_
            refine AOps.vF rfl rfl rfl rfl rfl rfl rfl ?_
            refine AOps.v rfl rfl rfl (AVal.pickT rfl (by constructor)) ?_
            refine AOps.nil ?_
            refine ACode.condT rfl ?_
            refine ACode.seq ?_
            refine ACode.region ?_
            refine AOps.v rfl rfl rfl (AVal.assignN (by constructor)) ?_
            refine AOps.nil ?_
            refine ACode.ret ?_
            refine AFin.pureRet rfl (.cons rfl .nil) ?_
            exact .refl _
          ·
            try simp only [decide_eq_true_eq, decide_eq_false_iff_not, Bool.not_eq_true', Bool.not_eq_false', Bool.and_eq_true, Bool.or_eq_true, beq_iff_eq, beq_eq_false_iff_ne] at h82
            refine AOps.vT rfl rfl rfl rfl rfl rfl (AVal.loadP (d := encT _) 0 rfl rfl rfl rfl) ?_
            refine AOps.eT rfl rfl rfl rfl rfl rfl (AOp.callP (low_c _ t rfl (fit_mono (by omega) _ _ rfl htf)) (by first | exact LeL.eq rfl | (repeat constructor)) ?_)
            refine AOps.vT rfl rfl rfl rfl rfl rfl (AVal.not rfl) ?_
            refine AOps.v rfl rfl rfl (AVal.pickF rfl (by constructor)) ?_
            refine AOps.v rfl rfl rfl (AVal.moveN (by constructor)) ?_
            refine AOps.split 87 rfl (fun h87 => ?_) (fun h87 => ?_)
            ·
              try simp only [decide_eq_true_eq, decide_eq_false_iff_not, Bool.not_eq_true', Bool.not_eq_false', Bool.and_eq_true, Bool.or_eq_true, beq_iff_eq, beq_eq_false_iff_ne] at h87
              refine AOps.vF rfl rfl rfl rfl rfl rfl rfl ?_
              refine AOps.vF rfl rfl rfl rfl rfl rfl rfl ?_
              refine AOps.vF rfl rfl rfl rfl rfl rfl rfl ?_
              refine AOps.vF rfl rfl rfl rfl rfl rfl rfl ?_
              refine AOps.vF rfl rfl rfl rfl rfl rfl rfl ?_
              refine AOps.vF rfl rfl rfl rfl rfl rfl rfl ?_
              refine AOps.v rfl rfl rfl (AVal.pickT rfl (by constructor)) ?_
              refine AOps.nil ?_
              refine ACode.condT rfl ?_
              refine ACode.seq ?_
              refine ACode.region ?_
              refine AOps.v rfl rfl rfl (AVal.assignN (by constructor)) ?_
              refine AOps.nil ?_
              refine ACode.ret ?_
              refine AFin.pureRet rfl (.cons rfl .nil) ?_
              exact .refl _
            ·
              try simp only [decide_eq_true_eq, decide_eq_false_iff_not, Bool.not_eq_true', Bool.not_eq_false', Bool.and_eq_true, Bool.or_eq_true, beq_iff_eq, beq_eq_false_iff_ne] at h87
              refine AOps.vT rfl rfl rfl rfl rfl rfl (AVal.moveN (by constructor)) ?_
              refine AOps.vT rfl rfl rfl rfl rfl rfl (AVal.moveN (by constructor)) ?_
              refine AOps.vT rfl rfl rfl rfl rfl rfl (AVal.moveN (by constructor)) ?_
              refine AOps.vT rfl rfl rfl rfl rfl rfl (AVal.loadP (d := encT _) 0 rfl rfl rfl rfl) ?_
              refine AOps.eT rfl rfl rfl rfl rfl rfl (AOp.callP (coreRight_c nl nt (cs.map (·.levels)) t (fit_mono (by omega) _ _ rfl htf) (by rw [List.length_map]; omega) (by omega) (by omega)) (by first | exact LeL.eq rfl | (repeat constructor)) ?_)
              refine AOps.vT rfl rfl rfl rfl rfl rfl (AVal.not rfl) ?_
              refine AOps.v rfl rfl rfl (AVal.pickF rfl (by constructor)) ?_
              refine AOps.nil ?_
              refine ACode.condS rfl (fun h94 => ?_) (fun h94 => ?_)
              ·
                try simp only [decide_eq_true_eq, decide_eq_false_iff_not, Bool.not_eq_true', Bool.not_eq_false', Bool.and_eq_true, Bool.or_eq_true, beq_iff_eq, beq_eq_false_iff_ne] at h94
                refine ACode.seq ?_
                refine ACode.region ?_
                refine AOps.v rfl rfl rfl (AVal.assignN (by constructor)) ?_
                refine AOps.nil ?_
                refine ACode.ret ?_
                refine AFin.pureRet rfl (.cons rfl .nil) ?_
                exact .refl _
              ·
                try simp only [decide_eq_true_eq, decide_eq_false_iff_not, Bool.not_eq_true', Bool.not_eq_false', Bool.and_eq_true, Bool.or_eq_true, beq_iff_eq, beq_eq_false_iff_ne] at h94
                simp only [rightTop, Bool.and_eq_true, decide_eq_true_eq] at h94
                have hCR : CoresR cs (cs.map (·.levels)) := ⟨rfl, hg'⟩
                have hpt := psz_le _ t rfl htf
                have hu : (stepM cs t).1.fit 1099511627776 ∧ ((stepM cs t).1.sz : Int) ≤ 2305843009213693952 ∧ rightTop nl nt (cs.map (·.levels)) (stepM cs t).1 = true ∧ ((stepM cs t).2.2 = false → (stepM cs t).1 = t ∧ (stepM cs t).2.1 = 0) := by
                  cases hs : (stepOnce cs t).isSome with
                  | false => rw [stepM_no hs]; exact ⟨htf, by simp only; omega, by simp only [rightTop, Bool.and_eq_true, decide_eq_true_eq]; exact h94, fun _ => ⟨rfl, rfl⟩⟩
                  | true =>
                    rw [stepM_yes hs]
                    have hb := onceC_bound hC htf (by omega)
                    have ho := once_ok hC _ t rfl htf (by omega) _ _ (once_yes hs)
                    have hz := once_sz hC _ t rfl htf (by omega) _ _ (once_yes hs)
                    refine ⟨ho.2.2.1, by simp only; omega, ?_, fun e => by cases e⟩
                    simp only [rightTop, Bool.and_eq_true, decide_eq_true_eq]
                    exact ⟨h94.1, step_right hCR h94.1.1 (by omega) h94.1.2 (by omega) _ t rfl htf (by omega) h94.2 h87 _ _ (once_yes hs)⟩
                have C1 : AFn X 7 [.int .i64 nl, .int .i64 nt, .slc ((cs.map (·.levels)).map (D.int .i64)), encT (stepM cs t).1] (.bool true) := by
                  have := coreRight_c nl nt (cs.map (·.levels)) (stepM cs t).1 (fit_mono (by omega) _ _ rfl hu.1) (by rw [List.length_map]; omega) (by omega) (by have := hu.2.1; omega)
                  rwa [hu.2.2.1] at this
                refine ACode.skip ?_
                refine ACode.seq ?_
                refine ACode.region ?_
                refine AOps.v rfl rfl rfl (AVal.moveN (by constructor)) ?_
                refine AOps.v rfl rfl rfl (AVal.loadP (d := encT _) 0 rfl rfl rfl rfl) ?_
                refine AOps.e rfl rfl rfl (AOp.callP (stepTop_c hS cs hC t htf (by omega) (by omega)) (by first | exact LeL.eq rfl | (repeat constructor)) ?_)
                refine AOps.v rfl rfl rfl (AVal.moveN (by constructor)) ?_
                refine AOps.v rfl rfl rfl (AVal.extractN rfl rfl (by constructor)) ?_
                refine AOps.v rfl rfl rfl (AVal.extractN rfl rfl (by constructor)) ?_
                refine AOps.v rfl rfl rfl (AVal.extractN rfl rfl (by constructor)) ?_
                refine AOps.e rfl rfl rfl (AOp.allocN rfl rfl (fun b11 => ?_))
                refine AOps.e0 rfl rfl (AOp.storeN 0 rfl rfl rfl (by constructor) rfl rfl rfl (by repeat constructor) (by repeat constructor) ?_)
                refine AOps.v rfl rfl rfl (AVal.assignN (by constructor)) ?_
                refine AOps.v rfl rfl rfl (AVal.assignN (by constructor)) ?_
                refine AOps.nil ?_
                refine ACode.seq ?_
                refine ACode.region ?_
                refine AOps.v rfl rfl rfl (AVal.moveN (by constructor)) ?_
                refine AOps.v rfl rfl rfl (AVal.moveN (by constructor)) ?_
                refine AOps.v rfl rfl rfl (AVal.moveN (by constructor)) ?_
                refine AOps.v rfl rfl rfl (AVal.loadP (d := encT _) 0 rfl rfl rfl rfl) ?_
                refine AOps.e rfl rfl rfl (AOp.callP (C1) (by first | exact LeL.eq rfl | (repeat constructor)) ?_)
                refine AOps.v rfl rfl rfl (AVal.moveN (by constructor)) ?_
                refine AOps.vT rfl rfl rfl rfl rfl rfl (AVal.moveN (by constructor)) ?_
                refine AOps.vT rfl rfl rfl rfl rfl rfl (AVal.moveN (by constructor)) ?_
                refine AOps.split 109 rfl (fun h109 => ?_) (fun h109 => ?_)
                ·
                  try simp only [decide_eq_true_eq, decide_eq_false_iff_not, Bool.not_eq_true', Bool.not_eq_false', Bool.and_eq_true, Bool.or_eq_true, beq_iff_eq, beq_eq_false_iff_ne] at h109
                  refine AOps.vF rfl rfl rfl rfl rfl rfl rfl ?_
                  refine AOps.vF rfl rfl rfl rfl rfl rfl rfl ?_
                  refine AOps.vF rfl rfl rfl rfl rfl rfl rfl ?_
                  refine AOps.vU rfl rfl rfl rfl rfl ?_
                  refine AOps.vU rfl rfl rfl rfl rfl ?_
                  refine AOps.vU rfl rfl rfl rfl rfl ?_
                  refine AOps.vF rfl rfl rfl rfl rfl rfl rfl ?_
                  refine AOps.vT rfl rfl rfl rfl rfl rfl (AVal.pickT rfl (by constructor)) ?_
                  refine AOps.v rfl rfl rfl (AVal.pickT rfl (by constructor)) ?_
                  refine AOps.v rfl rfl rfl (AVal.assignN (by constructor)) ?_
                  refine AOps.nil ?_
                  refine ACode.ret ?_
                  refine AFin.pureRet rfl (.cons rfl .nil) ?_
                  exact .refl _
                ·
                  try simp only [decide_eq_true_eq, decide_eq_false_iff_not, Bool.not_eq_true', Bool.not_eq_false', Bool.and_eq_true, Bool.or_eq_true, beq_iff_eq, beq_eq_false_iff_ne] at h109
                  have hno := hu.2.2.2 h109
                  refine AOps.vT rfl rfl rfl rfl rfl rfl (AVal.moveN (by constructor)) ?_
                  refine AOps.vT rfl rfl rfl rfl rfl rfl (AVal.eqlS rfl rfl hno.2) ?_
                  refine AOps.vT rfl rfl rfl rfl rfl rfl (AVal.moveN (by constructor)) ?_
                  refine AOps.vT rfl rfl rfl rfl rfl rfl (AVal.loadP (d := encT _) 0 rfl rfl rfl rfl) ?_
                  refine AOps.vT rfl rfl rfl rfl rfl rfl (AVal.loadP (d := encT _) 1 rfl rfl rfl rfl) ?_
                  refine AOps.eT rfl rfl rfl rfl rfl rfl (AOp.callP (sameC _ _ hu.1 hno.1) (by first | exact LeL.eq rfl | (repeat constructor)) ?_)
                  refine AOps.vT rfl rfl rfl rfl rfl rfl (AVal.pickT rfl (by constructor)) ?_
                  refine AOps.vT rfl rfl rfl rfl rfl rfl (AVal.pickF rfl (by constructor)) ?_
                  refine AOps.v rfl rfl rfl (AVal.pickT rfl (by constructor)) ?_
                  refine AOps.v rfl rfl rfl (AVal.assignN (by constructor)) ?_
                  refine AOps.nil ?_
                  refine ACode.ret ?_
                  refine AFin.pureRet rfl (.cons rfl .nil) ?_
                  exact .refl _

end Sp
