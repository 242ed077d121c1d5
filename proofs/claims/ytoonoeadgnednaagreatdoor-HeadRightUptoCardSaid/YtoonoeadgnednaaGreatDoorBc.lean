/- Walks of the program's functions and what they compute: contracts of calls; no condition beyond those that each theorem names. -/
import Derived.Test.YtoonoeadgnednaaGreatDoorBb
import Derived.Test.YtoonoeadgnednaaGreatDoorKc
import Derived.Test.YtoonoeadgnednaaGreatDoorKb
/- The walks of levels. Written by a program of mine. -/
set_option linter.unusedVariables false
set_option linter.unusedSimpArgs false
set_option maxRecDepth 20000
namespace Sp
open Go Go.Proofs

theorem rowput_c (mb : Nat) (rows : Rows) (ps : List Part) (hl : ps.length ≤ 9223372036854775807) : ACalls X 99 [.agg [.map mb], .slP ps] [(mb, .map (encRow rows))] (fun r L' => (∃ rows', rowPut rows ps = some rows' ∧ r = .ret (.tup []) ∧ L' = [(mb, .map (encRow rows'))]) ∨ (rowPut rows ps = none ∧ ∃ es', r = .pan (.iface 143 (.agg [])) ∧ L' = [(mb, .map es')])) := by
  refine ACalls.of_code Tryz.func99 rfl (by rfl) (Nat.le_of_ble_eq_true rfl) ?_
  refine ACode.seq ?_
  refine ACode.region ?_
  refine AOps.e rfl rfl rfl (AOp.boxA rfl (fun b2 => ?_))
  refine AOps.nil ?_
  refine ACode.seq ?_
  refine ACode.region ?_
  refine AOps.v rfl rfl rfl (AVal.moveN (by constructor)) ?_
  refine AOps.v rfl rfl rfl (AVal.len rfl rfl rfl) ?_
  refine AOps.v rfl rfl rfl (AVal.moveN (by constructor)) ?_
  refine AOps.nil ?_
  refine ACode.block ?_
  refine ACode.loop (γ := Nat × Rows) (fun g => [(2, .ptr b2 0), (6, .slP ps), (7, .int .i64 ps.length), (8, .int .i64 g.1)]) (fun g => [(b2, .cells 137 [.map mb]), (mb, .map (encRow g.2))]) (fun g => g.1 ≤ ps.length ∧ rowPut g.2 (ps.drop g.1) = rowPut rows ps) (fun g => ps.length - g.1) (0, rows) ⟨Nat.zero_le _, by simp⟩ (by repeat first | exact Agree.nil | refine Agree.cons (.refl _) ?_) (by repeat first | exact List.Sublist.refl _ | apply List.Sublist.cons_cons | apply List.Sublist.cons | exact List.nil_sublist _) ?_
  rintro ⟨i, r⟩ ⟨hi, hg⟩ t1
  simp only at hi hg ⊢
  refine ACode.seq ?_
  refine ACode.region ?_
  refine AOps.v rfl rfl rfl (AVal.lss rfl rfl) ?_
  refine AOps.nil ?_
  refine ACode.seq ?_
  refine ACode.condS rfl (fun h9 => ?_) (fun h9 => ?_)
  ·
    try simp only [decide_eq_true_eq, decide_eq_false_iff_not, Bool.not_eq_true', Bool.not_eq_false', Bool.and_eq_true, Bool.or_eq_true, beq_iff_eq, beq_eq_false_iff_ne] at h9
    have hlt : i < ps.length := by omega
    refine ACode.skip ?_
    refine ACode.seq ?_
    refine ACode.block ?_
    refine ACode.seq ?_
    refine ACode.region ?_
    refine AOps.v rfl rfl rfl (AVal.indexPK rfl rfl rfl rfl rfl (by omega)) ?_
    refine AOps.v rfl rfl rfl (AVal.loadE (d := encP _) rfl rfl rfl) ?_
    refine AOps.e rfl rfl rfl (AOp.allocN rfl rfl (fun b5 => ?_))
    refine AOps.e0 rfl rfl (AOp.storeN 0 rfl rfl rfl (by constructor) rfl rfl rfl (by repeat constructor) (by repeat constructor) ?_)
    refine AOps.nil ?_
    refine ACode.seq ?_
    refine ACode.seq ?_
    refine ACode.region ?_
    refine AOps.v rfl rfl rfl (AVal.fieldP rfl rfl) ?_
    refine AOps.v rfl rfl rfl (AVal.loadPN 0 rfl rfl rfl rfl (by constructor)) ?_
    refine AOps.v rfl rfl rfl (AVal.lss rfl rfl) ?_
    refine AOps.v rfl rfl rfl (AVal.moveN (by constructor)) ?_
    refine AOps.split 15 rfl (fun h15 => ?_) (fun h15 => ?_)
    ·
      try simp only [decide_eq_true_eq, decide_eq_false_iff_not, Bool.not_eq_true', Bool.not_eq_false', Bool.and_eq_true, Bool.or_eq_true, beq_iff_eq, beq_eq_false_iff_ne] at h15
      refine AOps.vF rfl rfl rfl rfl rfl rfl rfl ?_
      refine AOps.vF rfl rfl rfl rfl rfl rfl rfl ?_
      refine AOps.vF rfl rfl rfl rfl rfl rfl rfl ?_
      refine AOps.v rfl rfl rfl (AVal.pickT rfl (by constructor)) ?_
      refine AOps.v rfl rfl rfl (AVal.moveN (by constructor)) ?_
      refine AOps.vF rfl rfl rfl rfl rfl rfl rfl ?_
      refine AOps.vF rfl rfl rfl rfl rfl rfl rfl ?_
      refine AOps.vF rfl rfl rfl rfl rfl rfl rfl ?_
      refine AOps.v rfl rfl rfl (AVal.pickT rfl (by constructor)) ?_
      refine AOps.v rfl rfl rfl (AVal.moveN (by constructor)) ?_
      refine AOps.vF rfl rfl rfl rfl rfl rfl rfl ?_
      refine AOps.vF rfl rfl rfl rfl rfl rfl rfl ?_
      refine AOps.vF rfl rfl rfl rfl rfl rfl rfl ?_
      refine AOps.v rfl rfl rfl (AVal.pickT rfl (by constructor)) ?_
      refine AOps.nil ?_
      refine ACode.condT rfl ?_
      refine ACode.region ?_
      refine AOps.v rfl rfl rfl (AVal.build0 (by kernel_rfl)) ?_
      refine AOps.v rfl rfl rfl (AVal.makeInterface rfl (by kernel_rfl)) ?_
      refine AOps.e0 rfl rfl (AOp.panic rfl ?_)
      refine AFin.pan (X := X) (fn := Tryz.f99) (R := (fun r L' => (∃ rows', rowPut rows ps = some rows' ∧ r = .ret (.tup []) ∧ L' = [(mb, .map (encRow rows'))]) ∨ (rowPut rows ps = none ∧ ∃ es', r = .pan (.iface 143 (.agg [])) ∧ L' = [(mb, .map es')]))) (L' := [(mb, .map (encRow r))]) rfl (by repeat first | exact List.Sublist.refl _ | apply List.Sublist.cons_cons | apply List.Sublist.cons | exact List.nil_sublist _) ?_
      refine .inr ⟨?_, _, rfl, rfl⟩
      rw [← hg, drop_getD hlt, rowPut, if_pos (by unfold badPart; omega)]
    ·
      try simp only [decide_eq_true_eq, decide_eq_false_iff_not, Bool.not_eq_true', Bool.not_eq_false', Bool.and_eq_true, Bool.or_eq_true, beq_iff_eq, beq_eq_false_iff_ne] at h15
      refine AOps.vT rfl rfl rfl rfl rfl rfl (AVal.fieldP rfl rfl) ?_
      refine AOps.vT rfl rfl rfl rfl rfl rfl (AVal.loadPN 0 rfl rfl rfl rfl (by constructor)) ?_
      refine AOps.vT rfl rfl rfl rfl rfl rfl (AVal.lss rfl rfl) ?_
      refine AOps.v rfl rfl rfl (AVal.pickF rfl (by constructor)) ?_
      refine AOps.v rfl rfl rfl (AVal.moveN (by constructor)) ?_
      refine AOps.split 20 rfl (fun h20 => ?_) (fun h20 => ?_)
      ·
        try simp only [decide_eq_true_eq, decide_eq_false_iff_not, Bool.not_eq_true', Bool.not_eq_false', Bool.and_eq_true, Bool.or_eq_true, beq_iff_eq, beq_eq_false_iff_ne] at h20
        refine AOps.vF rfl rfl rfl rfl rfl rfl rfl ?_
        refine AOps.vF rfl rfl rfl rfl rfl rfl rfl ?_
        refine AOps.vF rfl rfl rfl rfl rfl rfl rfl ?_
        refine AOps.v rfl rfl rfl (AVal.pickT rfl (by constructor)) ?_
        refine AOps.v rfl rfl rfl (AVal.moveN (by constructor)) ?_
        refine AOps.vF rfl rfl rfl rfl rfl rfl rfl ?_
        refine AOps.vF rfl rfl rfl rfl rfl rfl rfl ?_
        refine AOps.vF rfl rfl rfl rfl rfl rfl rfl ?_
        refine AOps.v rfl rfl rfl (AVal.pickT rfl (by constructor)) ?_
        refine AOps.nil ?_
        refine ACode.condT rfl ?_
        refine ACode.region ?_
        refine AOps.v rfl rfl rfl (AVal.build0 (by kernel_rfl)) ?_
        refine AOps.v rfl rfl rfl (AVal.makeInterface rfl (by kernel_rfl)) ?_
        refine AOps.e0 rfl rfl (AOp.panic rfl ?_)
        refine AFin.pan (X := X) (fn := Tryz.f99) (R := (fun r L' => (∃ rows', rowPut rows ps = some rows' ∧ r = .ret (.tup []) ∧ L' = [(mb, .map (encRow rows'))]) ∨ (rowPut rows ps = none ∧ ∃ es', r = .pan (.iface 143 (.agg [])) ∧ L' = [(mb, .map es')]))) (L' := [(mb, .map (encRow r))]) rfl (by repeat first | exact List.Sublist.refl _ | apply List.Sublist.cons_cons | apply List.Sublist.cons | exact List.nil_sublist _) ?_
        refine .inr ⟨?_, _, rfl, rfl⟩
        rw [← hg, drop_getD hlt, rowPut, if_pos (by unfold badPart; omega)]
      ·
        try simp only [decide_eq_true_eq, decide_eq_false_iff_not, Bool.not_eq_true', Bool.not_eq_false', Bool.and_eq_true, Bool.or_eq_true, beq_iff_eq, beq_eq_false_iff_ne] at h20
        refine AOps.vT rfl rfl rfl rfl rfl rfl (AVal.fieldP rfl rfl) ?_
        refine AOps.vT rfl rfl rfl rfl rfl rfl (AVal.loadPN 0 rfl rfl rfl rfl (by constructor)) ?_
        refine AOps.vT rfl rfl rfl rfl rfl rfl (AVal.gtr rfl rfl) ?_
        refine AOps.v rfl rfl rfl (AVal.pickF rfl (by constructor)) ?_
        refine AOps.v rfl rfl rfl (AVal.moveN (by constructor)) ?_
        refine AOps.split 25 rfl (fun h25 => ?_) (fun h25 => ?_)
        ·
          try simp only [decide_eq_true_eq, decide_eq_false_iff_not, Bool.not_eq_true', Bool.not_eq_false', Bool.and_eq_true, Bool.or_eq_true, beq_iff_eq, beq_eq_false_iff_ne] at h25
          refine AOps.vF rfl rfl rfl rfl rfl rfl rfl ?_
          refine AOps.vF rfl rfl rfl rfl rfl rfl rfl ?_
          refine AOps.vF rfl rfl rfl rfl rfl rfl rfl ?_
          refine AOps.v rfl rfl rfl (AVal.pickT rfl (by constructor)) ?_
          refine AOps.nil ?_
          refine ACode.condT rfl ?_
          refine ACode.region ?_
          refine AOps.v rfl rfl rfl (AVal.build0 (by kernel_rfl)) ?_
          refine AOps.v rfl rfl rfl (AVal.makeInterface rfl (by kernel_rfl)) ?_
          refine AOps.e0 rfl rfl (AOp.panic rfl ?_)
          refine AFin.pan (X := X) (fn := Tryz.f99) (R := (fun r L' => (∃ rows', rowPut rows ps = some rows' ∧ r = .ret (.tup []) ∧ L' = [(mb, .map (encRow rows'))]) ∨ (rowPut rows ps = none ∧ ∃ es', r = .pan (.iface 143 (.agg [])) ∧ L' = [(mb, .map es')]))) (L' := [(mb, .map (encRow r))]) rfl (by repeat first | exact List.Sublist.refl _ | apply List.Sublist.cons_cons | apply List.Sublist.cons | exact List.nil_sublist _) ?_
          refine .inr ⟨?_, _, rfl, rfl⟩
          rw [← hg, drop_getD hlt, rowPut, if_pos (by unfold badPart; omega)]
        ·
          try simp only [decide_eq_true_eq, decide_eq_false_iff_not, Bool.not_eq_true', Bool.not_eq_false', Bool.and_eq_true, Bool.or_eq_true, beq_iff_eq, beq_eq_false_iff_ne] at h25
          refine AOps.vT rfl rfl rfl rfl rfl rfl (AVal.fieldP rfl rfl) ?_
          refine AOps.vT rfl rfl rfl rfl rfl rfl (AVal.loadPN 0 rfl rfl rfl rfl (by constructor)) ?_
          refine AOps.vT rfl rfl rfl rfl rfl rfl (AVal.gtr rfl rfl) ?_
          refine AOps.v rfl rfl rfl (AVal.pickF rfl (by constructor)) ?_
          refine AOps.nil ?_
          refine ACode.condS rfl (fun h29 => ?_) (fun h29 => ?_)
          ·
            try simp only [decide_eq_true_eq, decide_eq_false_iff_not, Bool.not_eq_true', Bool.not_eq_false', Bool.and_eq_true, Bool.or_eq_true, beq_iff_eq, beq_eq_false_iff_ne] at h29
            refine ACode.region ?_
            refine AOps.v rfl rfl rfl (AVal.build0 (by kernel_rfl)) ?_
            refine AOps.v rfl rfl rfl (AVal.makeInterface rfl (by kernel_rfl)) ?_
            refine AOps.e0 rfl rfl (AOp.panic rfl ?_)
            refine AFin.pan (X := X) (fn := Tryz.f99) (R := (fun r L' => (∃ rows', rowPut rows ps = some rows' ∧ r = .ret (.tup []) ∧ L' = [(mb, .map (encRow rows'))]) ∨ (rowPut rows ps = none ∧ ∃ es', r = .pan (.iface 143 (.agg [])) ∧ L' = [(mb, .map es')]))) (L' := [(mb, .map (encRow r))]) rfl (by repeat first | exact List.Sublist.refl _ | apply List.Sublist.cons_cons | apply List.Sublist.cons | exact List.nil_sublist _) ?_
            refine .inr ⟨?_, _, rfl, rfl⟩
            rw [← hg, drop_getD hlt, rowPut, if_pos (by unfold badPart; omega)]
          ·
            try simp only [decide_eq_true_eq, decide_eq_false_iff_not, Bool.not_eq_true', Bool.not_eq_false', Bool.and_eq_true, Bool.or_eq_true, beq_iff_eq, beq_eq_false_iff_ne] at h29
            refine ACode.skip ?_
            refine ACode.region ?_
            refine AOps.v rfl rfl rfl (AVal.fieldP rfl rfl) ?_
            refine AOps.v rfl rfl rfl (AVal.loadPN 1 rfl rfl rfl rfl (by constructor)) ?_
            refine AOps.v rfl rfl rfl (AVal.fieldP rfl rfl) ?_
            refine AOps.v rfl rfl rfl (AVal.loadPN 0 rfl rfl rfl rfl (by constructor)) ?_
            refine AOps.v rfl rfl rfl (AVal.fieldP rfl rfl) ?_
            refine AOps.v rfl rfl rfl (AVal.loadPN 1 rfl rfl rfl rfl (by constructor)) ?_
            refine AOps.v rfl rfl rfl (AVal.fieldP rfl rfl) ?_
            refine AOps.v rfl rfl rfl (AVal.loadPN 0 rfl rfl rfl rfl (by constructor)) ?_
            refine AOps.v rfl rfl rfl (AVal.lookupRow (e := 3) 2 rfl rfl rfl (by kernel_rfl) (by kernel_rfl)) ?_
            refine AOps.v rfl rfl rfl (AVal.fieldP rfl rfl) ?_
            refine AOps.v rfl rfl rfl (AVal.loadPN 0 rfl rfl rfl rfl (by constructor)) ?_
            refine AOps.v rfl rfl rfl (AVal.max rfl rfl) ?_
            refine AOps.e0 rfl rfl (AOp.updateRow (e := 3) 2 rfl rfl rfl (by kernel_rfl) rfl (by repeat constructor) ?_)
            refine AOps.nil ?_
            refine ACode.region ?_
            refine AOps.v rfl rfl rfl (AVal.addn rfl rfl (by omega)) ?_
            refine AOps.v rfl rfl rfl (AVal.moveN (by constructor)) ?_
            refine AOps.nil ?_
            refine ⟨(i + 1, rset r (ps.getD i default).v (max (rget r (ps.getD i default).v) (ps.getD i default).p)), ⟨by simp only; omega, by simp only; rw [← hg, drop_getD hlt, rowPut, if_neg (by unfold badPart; omega)]⟩, by simp only; omega, rfl, (by repeat first | exact Agree.nil | refine Agree.cons (.refl _) ?_), (by repeat first | exact List.Sublist.refl _ | apply List.Sublist.cons_cons | apply List.Sublist.cons | exact List.nil_sublist _)⟩
  ·
    try simp only [decide_eq_true_eq, decide_eq_false_iff_not, Bool.not_eq_true', Bool.not_eq_false', Bool.and_eq_true, Bool.or_eq_true, beq_iff_eq, beq_eq_false_iff_ne] at h9
    refine ACode.exit ?_
    refine AFin.end (X := X) (fn := Tryz.f99) (R := (fun r L' => (∃ rows', rowPut rows ps = some rows' ∧ r = .ret (.tup []) ∧ L' = [(mb, .map (encRow rows'))]) ∨ (rowPut rows ps = none ∧ ∃ es', r = .pan (.iface 143 (.agg [])) ∧ L' = [(mb, .map es')]))) (L' := [(mb, .map (encRow r))]) rfl .nil (by repeat first | exact List.Sublist.refl _ | apply List.Sublist.cons_cons | apply List.Sublist.cons | exact List.nil_sublist _) (.refl _) ?_
    refine .inl ⟨r, ?_, rfl, rfl⟩
    rw [← hg, List.drop_of_length_le (by omega), rowPut]

theorem hidden_c (mb : Nat) (rows : Rows) (n : Int) : AKeep X 105 [.agg [.map mb], .int .i64 n] [(mb, .map (encRow rows))] (.bool (hiddenM rows n)) := by
  refine ACalls.of_code Tryz.func105 rfl (by rfl) (Nat.le_of_ble_eq_true rfl) ?_
  refine ACode.seq ?_
  refine ACode.region ?_
  refine AOps.e rfl rfl rfl (AOp.boxA rfl (fun b2 => ?_))
  refine AOps.v rfl rfl rfl (AVal.assignN (by constructor)) ?_
  refine AOps.nil ?_
  refine ACode.seq ?_
  refine ACode.seq ?_
  refine ACode.region ?_
  refine AOps.v rfl rfl rfl (AVal.fieldP rfl rfl) ?_
  refine AOps.v rfl rfl rfl (AVal.fieldP rfl rfl) ?_
  refine AOps.v rfl rfl rfl (AVal.loadPN 0 rfl rfl rfl rfl (by constructor)) ?_
  refine AOps.e rfl rfl rfl (AOp.rangeM 1 rfl rfl (by kernel_rfl) (fun b10 => ?_))
  refine AOps.nil ?_
  refine ACode.block ?_
  refine ACode.loop (γ := List Nat) (fun g => [(1, .int .i64 n), (2, .ptr b2 0), (10, .ptr b10 0)]) (fun g => [(b10, .iter mb (encRow rows).length g), (b2, .cells 139 [.map mb]), (mb, .map (encRow rows))]) (fun g => g.Nodup ∧ (∀ i ∈ g, i < rows.length) ∧ ∀ i ∈ g, ∀ r, rows[i]? = some r → ¬ (0 < r.1 ∧ n ≤ r.2)) (fun g => rows.length - g.length) [] ⟨List.nodup_nil, (fun i h => by cases h), (fun i h => by cases h)⟩ (by repeat first | exact Agree.nil | refine Agree.cons (.refl _) ?_) (by repeat first | exact List.Sublist.refl _ | apply List.Sublist.cons_cons | apply List.Sublist.cons | exact List.nil_sublist _) ?_
  rintro seen ⟨hnd, hsl, hsn⟩ t1
  simp only at hnd hsl hsn ⊢
  refine ACode.seq ?_
  refine ACode.region ?_
  refine AOps.e rfl rfl rfl (AOp.nextM 0 2 rfl rfl rfl rfl (fun hall => ?_) (fun j e hj hns => ?_))
  ·
    refine AOps.v rfl rfl rfl (AVal.extractN rfl rfl (by constructor)) ?_
    refine AOps.nil ?_
    refine ACode.seq ?_
    refine ACode.condF rfl ?_
    refine ACode.exit ?_
    refine ACode.seq ?_
    refine ACode.region ?_
    refine AOps.v rfl rfl rfl (AVal.assignN (by constructor)) ?_
    refine AOps.nil ?_
    refine ACode.ret ?_
    refine AFin.keepRet rfl (.cons rfl .nil) (by repeat first | exact List.Sublist.refl _ | apply List.Sublist.cons_cons | apply List.Sublist.cons) ?_
    exact D.Le.eq (congrArg D.bool (by rw [not_hidden (fun j r hr => hsn j (hall j (by rw [encRow_len]; exact (List.getElem?_eq_some_iff.1 hr).1)) r hr)]))
  ·
    obtain ⟨r, hr, rfl⟩ := encRow_get hj
    have hjl : j < rows.length := (List.getElem?_eq_some_iff.1 hr).1
    refine AOps.v rfl rfl rfl (AVal.extractN rfl rfl (by constructor)) ?_
    refine AOps.nil ?_
    refine ACode.seq ?_
    refine ACode.condT rfl ?_
    refine ACode.skip ?_
    refine ACode.block ?_
    refine ACode.seq ?_
    refine ACode.region ?_
    refine AOps.v rfl rfl rfl (AVal.entryM 0 2 rfl rfl rfl rfl hj) ?_
    refine AOps.v rfl rfl rfl (AVal.extractN rfl rfl (by constructor)) ?_
    refine AOps.v rfl rfl rfl (AVal.extractN rfl rfl (by constructor)) ?_
    refine AOps.v rfl rfl rfl (AVal.assignN (by constructor)) ?_
    refine AOps.v rfl rfl rfl (AVal.assignN (by constructor)) ?_
    refine AOps.nil ?_
    refine ACode.seq ?_
    refine ACode.region ?_
    refine AOps.v rfl rfl rfl (AVal.moveN (by constructor)) ?_
    refine AOps.v rfl rfl rfl (AVal.gtr rfl rfl) ?_
    refine AOps.v rfl rfl rfl (AVal.moveN (by constructor)) ?_
    refine AOps.split 18 rfl (fun h18 => ?_) (fun h18 => ?_)
    ·
      try simp only [decide_eq_true_eq, decide_eq_false_iff_not, Bool.not_eq_true', Bool.not_eq_false', Bool.and_eq_true, Bool.or_eq_true, beq_iff_eq, beq_eq_false_iff_ne] at h18
      refine AOps.vT rfl rfl rfl rfl rfl rfl (AVal.moveN (by constructor)) ?_
      refine AOps.vT rfl rfl rfl rfl rfl rfl (AVal.moveN (by constructor)) ?_
      refine AOps.vT rfl rfl rfl rfl rfl rfl (AVal.geq rfl rfl) ?_
      refine AOps.v rfl rfl rfl (AVal.pickT rfl (by constructor)) ?_
      refine AOps.nil ?_
      refine ACode.condS rfl (fun h22 => ?_) (fun h22 => ?_)
      ·
        try simp only [decide_eq_true_eq, decide_eq_false_iff_not, Bool.not_eq_true', Bool.not_eq_false', Bool.and_eq_true, Bool.or_eq_true, beq_iff_eq, beq_eq_false_iff_ne] at h22
        refine ACode.seq ?_
        refine ACode.region ?_
        refine AOps.v rfl rfl rfl (AVal.assignN (by constructor)) ?_
        refine AOps.nil ?_
        refine ACode.ret ?_
        refine AFin.keepRet rfl (.cons rfl .nil) (by repeat first | exact List.Sublist.refl _ | apply List.Sublist.cons_cons | apply List.Sublist.cons) ?_
        exact D.Le.eq (congrArg D.bool (by rw [hidden_of hr (by omega) (by omega)]))
      ·
        try simp only [decide_eq_true_eq, decide_eq_false_iff_not, Bool.not_eq_true', Bool.not_eq_false', Bool.and_eq_true, Bool.or_eq_true, beq_iff_eq, beq_eq_false_iff_ne] at h22
        refine ACode.skip ?_
        refine ⟨seen ++ [j], ⟨List.nodup_append.2 ⟨hnd, by simp, fun a ha c hc => by rw [List.mem_singleton.1 hc]; exact fun e => hns (e ▸ ha)⟩, fun i hi => (List.mem_append.1 hi).elim (hsl i) (fun h => by rw [List.mem_singleton.1 h]; exact hjl), fun i hi r2 hr2 => (List.mem_append.1 hi).elim (fun h => hsn i h r2 hr2) (fun h => by rw [List.mem_singleton.1 h, hr] at hr2; cases hr2; omega)⟩, by have := nodup_lt_length (l := seen ++ [j]) (n := rows.length) (List.nodup_append.2 ⟨hnd, by simp, fun a ha c hc => by rw [List.mem_singleton.1 hc]; exact fun e => hns (e ▸ ha)⟩) (fun i hi => (List.mem_append.1 hi).elim (hsl i) (fun h => by rw [List.mem_singleton.1 h]; exact hjl)); simp at this ⊢; omega, rfl, (by repeat first | exact Agree.nil | refine Agree.cons (.refl _) ?_), (by repeat first | exact List.Sublist.refl _ | apply List.Sublist.cons_cons | apply List.Sublist.cons | exact List.nil_sublist _)⟩
    ·
      try simp only [decide_eq_true_eq, decide_eq_false_iff_not, Bool.not_eq_true', Bool.not_eq_false', Bool.and_eq_true, Bool.or_eq_true, beq_iff_eq, beq_eq_false_iff_ne] at h18
      refine AOps.vF rfl rfl rfl rfl rfl rfl rfl ?_
      refine AOps.vF rfl rfl rfl rfl rfl rfl rfl ?_
      refine AOps.vF rfl rfl rfl rfl rfl rfl rfl ?_
      refine AOps.v rfl rfl rfl (AVal.pickF rfl (by constructor)) ?_
      refine AOps.nil ?_
      refine ACode.condF rfl ?_
      refine ACode.skip ?_
      refine ⟨seen ++ [j], ⟨List.nodup_append.2 ⟨hnd, by simp, fun a ha c hc => by rw [List.mem_singleton.1 hc]; exact fun e => hns (e ▸ ha)⟩, fun i hi => (List.mem_append.1 hi).elim (hsl i) (fun h => by rw [List.mem_singleton.1 h]; exact hjl), fun i hi r2 hr2 => (List.mem_append.1 hi).elim (fun h => hsn i h r2 hr2) (fun h => by rw [List.mem_singleton.1 h, hr] at hr2; cases hr2; omega)⟩, by have := nodup_lt_length (l := seen ++ [j]) (n := rows.length) (List.nodup_append.2 ⟨hnd, by simp, fun a ha c hc => by rw [List.mem_singleton.1 hc]; exact fun e => hns (e ▸ ha)⟩) (fun i hi => (List.mem_append.1 hi).elim (hsl i) (fun h => by rw [List.mem_singleton.1 h]; exact hjl)); simp at this ⊢; omega, rfl, (by repeat first | exact Agree.nil | refine Agree.cons (.refl _) ?_), (by repeat first | exact List.Sublist.refl _ | apply List.Sublist.cons_cons | apply List.Sublist.cons | exact List.nil_sublist _)⟩

theorem keys_c (mb : Nat) : ACalls X 104 [.map mb] [] (fun r L' => ∃ bk, r = .ret (.func (.func 109) [] [.ptr bk 0]) ∧ L' = [(bk, .cells 135 [.map mb])]) := by
  refine ACalls.of_code Tryz.func104 rfl (by rfl) (Nat.le_of_ble_eq_true rfl) ?_
  refine ACode.seq ?_
  refine ACode.region ?_
  refine AOps.e rfl rfl rfl (AOp.box1 (by constructor) rfl rfl (fun b1 => ?_))
  refine AOps.v rfl rfl rfl (AVal.assignN (by constructor)) ?_
  refine AOps.nil ?_
  refine ACode.seq ?_
  refine ACode.region ?_
  refine AOps.v rfl rfl rfl (AVal.makeFunc) ?_
  refine AOps.v rfl rfl rfl (AVal.assignN (by constructor)) ?_
  refine AOps.nil ?_
  refine ACode.ret ?_
  refine AFin.ret (X := X) (fn := Tryz.f104) (R := fun r L' => ∃ bk, r = .ret (.func (.func 109) [] [.ptr bk 0]) ∧ L' = [(bk, .cells 135 [.map mb])]) rfl (.cons rfl .nil) (List.Sublist.refl _) (.refl _) ?_
  exact ⟨b1, rfl, rfl⟩

def SortedOk : Prop := ∀ (mb bk : Nat) (rows : Rows), RowsOk rows → AKeep X 103 [(.func (.func 109) [] [.ptr bk 0])] [(bk, .cells 135 [.map mb]), (mb, .map (encRow rows))] (.slc ((keysM rows).map (D.int .i64)))

theorem callKeys {ρ : Operand → D} {L : Loc} {dst : Option Tmp} {ty : TypeId} {pos : String} {after : Array Edge} {guard : Option (Nat × Bool)} {K Kp : D → Loc → Prop} {x : Operand} {tys : Array TypeId} {mb : Nat} (hx : ρ x = .map mb)
    (h : ∀ bk, K (.func (.func 109) [] [.ptr bk 0]) ((bk, .cells 135 [.map mb]) :: L)) : AOp X ⟨dst, .call ⟨.value (.func 104), #[x], tys⟩, ty, pos, after, guard⟩ ρ L K Kp :=
  AOp.call (L0 := []) (L1 := L) (keys_c mb) (LeL.eq (by simp [hx])) (List.Perm.refl _) (fun d L' h' => by
    obtain ⟨bk, e, rfl⟩ := h'
    cases e; exact h bk) (fun d L' h' => by obtain ⟨bk, e, _⟩ := h'; cases e)

theorem callRow {ρ : Operand → D} {L : Loc} {dst : Option Tmp} {ty : TypeId} {pos : String} {after : Array Edge} {guard : Option (Nat × Bool)} {K Kp : D → Loc → Prop} {xs : Array Operand} {tys : Array TypeId} {mb : Nat} {rows : Rows} {ps : List Part} (L1 R : Loc)
    (hl : ps.length ≤ 9223372036854775807) (ha : xs.toList.map ρ = [.agg [.map mb], .slP ps]) (hp : L = L1 ++ (mb, .map (encRow rows)) :: R)
    (h1 : ∀ rows', rowPut rows ps = some rows' → K (.tup []) (L1 ++ (mb, .map (encRow rows')) :: R)) (h2 : rowPut rows ps = none → ∀ es', Kp (.iface 143 (.agg [])) (L1 ++ (mb, .map es') :: R)) : AOp X ⟨dst, .call ⟨.value (.func 99), xs, tys⟩, ty, pos, after, guard⟩ ρ L K Kp :=
  AOp.callMid L1 R (rowput_c mb rows ps hl) (fun r L' h => by rcases h with ⟨r', _, _, rfl⟩ | ⟨_, es, _, rfl⟩ <;> exact ⟨_, rfl⟩) (LeL.eq ha) hp (fun d o' h' => by
    rcases h' with ⟨r, e1, e2, e3⟩ | ⟨e1, es, e2, e3⟩
    · cases e2; cases e3; exact h1 r e1
    · cases e2) (fun d o' h' => by
    rcases h' with ⟨r, e1, e2, e3⟩ | ⟨e1, es, e2, e3⟩
    · cases e2
    · cases e2; cases e3; exact h2 e1 es)

theorem level_c (hS : SortedOk) (mb : Nat) (rows : Rows) (hr : RowsOk rows) : AKeep X 101 [.agg [.map mb]] [(mb, .map (encRow rows))] (encL (levelM rows)) := by
  have hl : rows.length ≤ 1099511627776 := by have := hr.len; omega
  have hkl := keysM_len rows
  refine ACalls.of_code Tryz.func101 rfl (by rfl) (Nat.le_of_ble_eq_true rfl) ?_
  refine ACode.seq ?_
  refine ACode.region ?_
  refine AOps.e rfl rfl rfl (AOp.boxA rfl (fun b1 => ?_))
  refine AOps.e rfl rfl rfl (AOp.allocN rfl rfl (fun b2 => ?_))
  refine AOps.nil ?_
  refine ACode.seq ?_
  refine ACode.seq ?_
  refine ACode.region ?_
  refine AOps.v rfl rfl rfl (AVal.fieldP rfl rfl) ?_
  refine AOps.v rfl rfl rfl (AVal.fieldP rfl rfl) ?_
  refine AOps.v rfl rfl rfl (AVal.loadPN 1 rfl rfl rfl rfl (by constructor)) ?_
  refine AOps.e rfl rfl rfl (callKeys rfl (fun bk => ?_))
  refine AOps.e rfl rfl rfl (AOp.callKP (hS mb bk rows hr) (LeL.eq rfl) (List.Perm.cons _ (List.perm_middle (l₁ := [_, _]) (l₂ := []))) ?_)
  refine AOps.v rfl rfl rfl (AVal.lenZ rfl rfl) ?_
  refine AOps.v rfl rfl rfl (AVal.moveN (by constructor)) ?_
  refine AOps.nil ?_
  refine ACode.block ?_
  refine ACode.loop (γ := Nat × Nat × Nat) (fun g => [(1, .ptr b1 0), (2, .ptr b2 0), (10, .slc ((keysM rows).map (D.int .i64))), (11, .int .i64 (keysM rows).length), (12, .int .i64 g.1)]) (fun g => growL 64 2 (((keysM rows).take g.1).filterMap (partOf rows)).length g.2.1 g.2.2 ((((keysM rows).take g.1).filterMap (partOf rows)).map encP) ++ [(b2, .cells 62 [growD (((keysM rows).take g.1).filterMap (partOf rows)).length g.2.1 g.2.2 ((((keysM rows).take g.1).filterMap (partOf rows)).map encP)]), (b1, .cells 139 [.map mb]), (mb, .map (encRow rows))]) (fun g => g.1 ≤ (keysM rows).length) (fun g => (keysM rows).length - g.1) (0, 0, 0) (Nat.zero_le _) (by repeat first | exact Agree.nil | refine Agree.cons (.refl _) ?_) (by repeat first | exact List.Sublist.refl _ | apply List.Sublist.cons_cons | apply List.Sublist.cons | exact List.nil_sublist _) ?_
  rintro ⟨i, bb, cap⟩ hi t1
  simp only at hi ⊢
  rcases ho : ((keysM rows).take i).filterMap (partOf rows) with _ | ⟨p0, out⟩
  ·
    simp only [List.length_nil, growL, growD, List.nil_append]
    refine ACode.seq ?_
    refine ACode.region ?_
    refine AOps.v rfl rfl rfl (AVal.lss rfl rfl) ?_
    refine AOps.nil ?_
    refine ACode.seq ?_
    refine ACode.condS rfl (fun h13 => ?_) (fun h13 => ?_)
    ·
      try simp only [decide_eq_true_eq, decide_eq_false_iff_not, Bool.not_eq_true', Bool.not_eq_false', Bool.and_eq_true, Bool.or_eq_true, beq_iff_eq, beq_eq_false_iff_ne] at h13
      have hlt : i < (keysM rows).length := by omega
      refine ACode.skip ?_
      refine ACode.seq ?_
      refine ACode.block ?_
      refine ACode.seq ?_
      refine ACode.region ?_
      refine AOps.v rfl rfl rfl (AVal.indexZ rfl rfl rfl rfl rfl hlt) ?_
      refine AOps.v rfl rfl rfl (AVal.loadEN rfl rfl rfl (by constructor)) ?_
      refine AOps.v rfl rfl rfl (AVal.assignN (by constructor)) ?_
      refine AOps.nil ?_
      refine ACode.seq ?_
      refine ACode.region ?_
      refine AOps.v rfl rfl rfl (AVal.fieldP rfl rfl) ?_
      refine AOps.v rfl rfl rfl (AVal.fieldP rfl rfl) ?_
      refine AOps.v rfl rfl rfl (AVal.loadPN 1 rfl rfl rfl rfl (by constructor)) ?_
      refine AOps.v rfl rfl rfl (AVal.moveN (by constructor)) ?_
      refine AOps.v rfl rfl rfl (AVal.lookupRow (e := 3) 2 rfl rfl rfl (by kernel_rfl) (by kernel_rfl)) ?_
      refine AOps.v rfl rfl rfl (AVal.assignN (by constructor)) ?_
      refine AOps.nil ?_
      refine ACode.seq ?_
      refine ACode.region ?_
      refine AOps.v rfl rfl rfl (AVal.moveN (by constructor)) ?_
      refine AOps.v rfl rfl rfl (AVal.gtr rfl rfl) ?_
      refine AOps.v rfl rfl rfl (AVal.moveN (by constructor)) ?_
      refine AOps.split 23 rfl (fun h23 => ?_) (fun h23 => ?_)
      ·
        try simp only [decide_eq_true_eq, decide_eq_false_iff_not, Bool.not_eq_true', Bool.not_eq_false', Bool.and_eq_true, Bool.or_eq_true, beq_iff_eq, beq_eq_false_iff_ne] at h23
        refine AOps.vF rfl rfl rfl rfl rfl rfl rfl ?_
        refine AOps.vF rfl rfl rfl rfl rfl rfl rfl ?_
        refine AOps.vF rfl rfl rfl rfl rfl rfl rfl ?_
        refine AOps.vU rfl rfl rfl rfl rfl ?_
        refine AOps.vU rfl rfl rfl rfl rfl ?_
        refine AOps.vU rfl rfl rfl rfl rfl ?_
        refine AOps.vU rfl rfl rfl rfl rfl ?_
        refine AOps.vF rfl rfl rfl rfl rfl rfl rfl ?_
        refine AOps.v rfl rfl rfl (AVal.pickT rfl (by constructor)) ?_
        refine AOps.nil ?_
        refine ACode.condT rfl ?_
        have hkeep : (0 < (keysM rows).getD i default ∨ (0 < rget rows ((keysM rows).getD i default) ∧ hiddenM rows (rget rows ((keysM rows).getD i default)) = false)) := .inl (by omega)
        refine ACode.region ?_
        refine AOps.v rfl rfl rfl (AVal.fieldP rfl rfl) ?_
        refine AOps.v rfl rfl rfl (AVal.loadPN 0 rfl rfl rfl rfl (by constructor)) ?_
        refine AOps.v rfl rfl rfl (AVal.moveN (by constructor)) ?_
        refine AOps.v rfl rfl rfl (AVal.moveN (by constructor)) ?_
        refine AOps.v rfl rfl rfl (AVal.buildP rfl rfl rfl) ?_
        refine AOps.e rfl rfl rfl (AOp.buildSliceP (ts := [_]) rfl rfl rfl rfl rfl ?_)
        refine AOps.e rfl rfl rfl (AOp.app1New rfl rfl rfl rfl rfl rfl rfl rfl (fun bq cap' => ?_))
        refine AOps.v rfl rfl rfl (AVal.fieldP rfl rfl) ?_
        refine AOps.e0 rfl rfl (AOp.storeN 1 rfl rfl rfl (by constructor) rfl rfl rfl (by repeat constructor) (by repeat constructor) ?_)
        refine AOps.nil ?_
        refine ACode.region ?_
        refine AOps.v rfl rfl rfl (AVal.addn rfl rfl (by omega)) ?_
        refine AOps.v rfl rfl rfl (AVal.moveN (by constructor)) ?_
        refine AOps.nil ?_
        refine ⟨(i + 1, bq, cap'), by simp only; omega, by simp only; omega, rfl, (by repeat first | exact Agree.nil | refine Agree.cons (.refl _) ?_), ?_⟩
        simp only [parts_take_succ hlt, ho, partOf, if_pos hkeep, Option.toList_some, List.nil_append, List.cons_append, List.length_append, List.length_cons, List.length_nil, List.map_append, List.map_cons, List.map_nil, growL, growD]
        exact (by repeat first | exact List.Sublist.refl _ | apply List.Sublist.cons_cons | apply List.Sublist.cons | exact List.nil_sublist _)
      ·
        try simp only [decide_eq_true_eq, decide_eq_false_iff_not, Bool.not_eq_true', Bool.not_eq_false', Bool.and_eq_true, Bool.or_eq_true, beq_iff_eq, beq_eq_false_iff_ne] at h23
        refine AOps.vT rfl rfl rfl rfl rfl rfl (AVal.moveN (by constructor)) ?_
        refine AOps.vT rfl rfl rfl rfl rfl rfl (AVal.gtr rfl rfl) ?_
        refine AOps.vT rfl rfl rfl rfl rfl rfl (AVal.moveN (by constructor)) ?_
        refine AOps.split 26 rfl (fun h26 => ?_) (fun h26 => ?_)
        ·
          try simp only [decide_eq_true_eq, decide_eq_false_iff_not, Bool.not_eq_true', Bool.not_eq_false', Bool.and_eq_true, Bool.or_eq_true, beq_iff_eq, beq_eq_false_iff_ne] at h26
          refine AOps.vT rfl rfl rfl rfl rfl rfl (AVal.loadPN 1 rfl rfl rfl rfl (by constructor)) ?_
          refine AOps.vT rfl rfl rfl rfl rfl rfl (AVal.moveN (by constructor)) ?_
          refine AOps.eT rfl rfl rfl rfl rfl rfl (AOp.callK [_, _] (hidden_c mb rows _) (LeL.eq rfl) rfl ?_)
          refine AOps.vT rfl rfl rfl rfl rfl rfl (AVal.not rfl) ?_
          refine AOps.vT rfl rfl rfl rfl rfl rfl (AVal.pickT rfl (by constructor)) ?_
          refine AOps.v rfl rfl rfl (AVal.pickF rfl (by constructor)) ?_
          refine AOps.nil ?_
          refine ACode.condS rfl (fun h32 => ?_) (fun h32 => ?_)
          ·
            try simp only [decide_eq_true_eq, decide_eq_false_iff_not, Bool.not_eq_true', Bool.not_eq_false', Bool.and_eq_true, Bool.or_eq_true, beq_iff_eq, beq_eq_false_iff_ne] at h32
            have hkeep : (0 < (keysM rows).getD i default ∨ (0 < rget rows ((keysM rows).getD i default) ∧ hiddenM rows (rget rows ((keysM rows).getD i default)) = false)) := by first | exact .inl (by omega) | exact .inr ⟨by omega, by simpa using h32⟩ | (simp_all)
            refine ACode.region ?_
            refine AOps.v rfl rfl rfl (AVal.fieldP rfl rfl) ?_
            refine AOps.v rfl rfl rfl (AVal.loadPN 0 rfl rfl rfl rfl (by constructor)) ?_
            refine AOps.v rfl rfl rfl (AVal.moveN (by constructor)) ?_
            refine AOps.v rfl rfl rfl (AVal.moveN (by constructor)) ?_
            refine AOps.v rfl rfl rfl (AVal.buildP rfl rfl rfl) ?_
            refine AOps.e rfl rfl rfl (AOp.buildSliceP (ts := [_]) rfl rfl rfl rfl rfl ?_)
            refine AOps.e rfl rfl rfl (AOp.app1New rfl rfl rfl rfl rfl rfl rfl rfl (fun bq cap' => ?_))
            refine AOps.v rfl rfl rfl (AVal.fieldP rfl rfl) ?_
            refine AOps.e0 rfl rfl (AOp.storeN 1 rfl rfl rfl (by constructor) rfl rfl rfl (by repeat constructor) (by repeat constructor) ?_)
            refine AOps.nil ?_
            refine ACode.region ?_
            refine AOps.v rfl rfl rfl (AVal.addn rfl rfl (by omega)) ?_
            refine AOps.v rfl rfl rfl (AVal.moveN (by constructor)) ?_
            refine AOps.nil ?_
            refine ⟨(i + 1, bq, cap'), by simp only; omega, by simp only; omega, rfl, (by repeat first | exact Agree.nil | refine Agree.cons (.refl _) ?_), ?_⟩
            simp only [parts_take_succ hlt, ho, partOf, if_pos hkeep, Option.toList_some, List.nil_append, List.cons_append, List.length_append, List.length_cons, List.length_nil, List.map_append, List.map_cons, List.map_nil, growL, growD]
            exact (by repeat first | exact List.Sublist.refl _ | apply List.Sublist.cons_cons | apply List.Sublist.cons | exact List.nil_sublist _)
          ·
            try simp only [decide_eq_true_eq, decide_eq_false_iff_not, Bool.not_eq_true', Bool.not_eq_false', Bool.and_eq_true, Bool.or_eq_true, beq_iff_eq, beq_eq_false_iff_ne] at h32
            have hdrop : ¬ (0 < (keysM rows).getD i default ∨ (0 < rget rows ((keysM rows).getD i default) ∧ hiddenM rows (rget rows ((keysM rows).getD i default)) = false)) := by simp_all
            refine ACode.skip ?_
            refine ACode.region ?_
            refine AOps.v rfl rfl rfl (AVal.addn rfl rfl (by omega)) ?_
            refine AOps.v rfl rfl rfl (AVal.moveN (by constructor)) ?_
            refine AOps.nil ?_
            refine ⟨(i + 1, bb, cap), by simp only; omega, by simp only; omega, rfl, (by repeat first | exact Agree.nil | refine Agree.cons (.refl _) ?_), ?_⟩
            simp only [parts_take_succ hlt, ho, partOf, if_neg hdrop, Option.toList_none, List.append_nil, List.length_cons, List.length_nil, List.map_cons, List.map_nil, growL, growD, List.nil_append, List.cons_append]
            exact (by repeat first | exact List.Sublist.refl _ | apply List.Sublist.cons_cons | apply List.Sublist.cons | exact List.nil_sublist _)
        ·
          try simp only [decide_eq_true_eq, decide_eq_false_iff_not, Bool.not_eq_true', Bool.not_eq_false', Bool.and_eq_true, Bool.or_eq_true, beq_iff_eq, beq_eq_false_iff_ne] at h26
          refine AOps.vF rfl rfl rfl rfl rfl rfl rfl ?_
          refine AOps.vF rfl rfl rfl rfl rfl rfl rfl ?_
          refine AOps.vF rfl rfl rfl rfl rfl rfl rfl ?_
          refine AOps.vF rfl rfl rfl rfl rfl rfl rfl ?_
          refine AOps.vT rfl rfl rfl rfl rfl rfl (AVal.pickF rfl (by constructor)) ?_
          refine AOps.v rfl rfl rfl (AVal.pickF rfl (by constructor)) ?_
          refine AOps.nil ?_
          refine ACode.condF rfl ?_
          have hdrop : ¬ (0 < (keysM rows).getD i default ∨ (0 < rget rows ((keysM rows).getD i default) ∧ hiddenM rows (rget rows ((keysM rows).getD i default)) = false)) := by rintro (e | ⟨e, _⟩) <;> omega
          refine ACode.skip ?_
          refine ACode.region ?_
          refine AOps.v rfl rfl rfl (AVal.addn rfl rfl (by omega)) ?_
          refine AOps.v rfl rfl rfl (AVal.moveN (by constructor)) ?_
          refine AOps.nil ?_
          refine ⟨(i + 1, bb, cap), by simp only; omega, by simp only; omega, rfl, (by repeat first | exact Agree.nil | refine Agree.cons (.refl _) ?_), ?_⟩
          simp only [parts_take_succ hlt, ho, partOf, if_neg hdrop, Option.toList_none, List.append_nil, List.length_cons, List.length_nil, List.map_cons, List.map_nil, growL, growD, List.nil_append, List.cons_append]
          exact (by repeat first | exact List.Sublist.refl _ | apply List.Sublist.cons_cons | apply List.Sublist.cons | exact List.nil_sublist _)
    ·
      try simp only [decide_eq_true_eq, decide_eq_false_iff_not, Bool.not_eq_true', Bool.not_eq_false', Bool.and_eq_true, Bool.or_eq_true, beq_iff_eq, beq_eq_false_iff_ne] at h13
      refine ACode.exit ?_
      refine ACode.seq ?_
      refine ACode.region ?_
      refine AOps.v rfl rfl rfl (AVal.loadPN 0 rfl rfl rfl rfl (by constructor)) ?_
      refine AOps.e0 rfl rfl (AOp.storeN 0 rfl rfl rfl (by constructor) rfl rfl rfl (by repeat constructor) (by repeat constructor) ?_)
      refine AOps.nil ?_
      refine ACode.ret ?_
      refine AFin.keepRet rfl (.cons (by first | exact ARead.box (d := encL _) 0 rfl rfl rfl rfl | exact ARead.box (d := encL _) 1 rfl rfl rfl rfl | exact ARead.box (d := encL _) 2 rfl rfl rfl rfl | exact ARead.box (d := encL _) 3 rfl rfl rfl rfl | exact ARead.box (d := encL _) 4 rfl rfl rfl rfl | exact ARead.box (d := encL _) 5 rfl rfl rfl rfl | exact ARead.box (d := encL _) 6 rfl rfl rfl rfl | exact ARead.box (d := encL _) 7 rfl rfl rfl rfl | exact ARead.box 0 rfl rfl rfl rfl | exact ARead.box 1 rfl rfl rfl rfl | exact ARead.box 2 rfl rfl rfl rfl | exact ARead.box 3 rfl rfl rfl rfl | exact ARead.box 4 rfl rfl rfl rfl | exact ARead.box 5 rfl rfl rfl rfl | exact ARead.box 6 rfl rfl rfl rfl | exact ARead.box 7 rfl rfl rfl rfl) .nil) (by repeat first | exact List.Sublist.refl _ | apply List.Sublist.cons_cons | apply List.Sublist.cons) ?_
      exact leP0 (by rw [levelM, ← ho, List.take_of_length_le (by omega)])
  ·
    simp only [List.length_cons, growL, growD, List.cons_append, List.nil_append]
    refine ACode.seq ?_
    refine ACode.region ?_
    refine AOps.v rfl rfl rfl (AVal.lss rfl rfl) ?_
    refine AOps.nil ?_
    refine ACode.seq ?_
    refine ACode.condS rfl (fun h13 => ?_) (fun h13 => ?_)
    ·
      try simp only [decide_eq_true_eq, decide_eq_false_iff_not, Bool.not_eq_true', Bool.not_eq_false', Bool.and_eq_true, Bool.or_eq_true, beq_iff_eq, beq_eq_false_iff_ne] at h13
      have hlt : i < (keysM rows).length := by omega
      refine ACode.skip ?_
      refine ACode.seq ?_
      refine ACode.block ?_
      refine ACode.seq ?_
      refine ACode.region ?_
      refine AOps.v rfl rfl rfl (AVal.indexZ rfl rfl rfl rfl rfl hlt) ?_
      refine AOps.v rfl rfl rfl (AVal.loadEN rfl rfl rfl (by constructor)) ?_
      refine AOps.v rfl rfl rfl (AVal.assignN (by constructor)) ?_
      refine AOps.nil ?_
      refine ACode.seq ?_
      refine ACode.region ?_
      refine AOps.v rfl rfl rfl (AVal.fieldP rfl rfl) ?_
      refine AOps.v rfl rfl rfl (AVal.fieldP rfl rfl) ?_
      refine AOps.v rfl rfl rfl (AVal.loadPN 2 rfl rfl rfl rfl (by constructor)) ?_
      refine AOps.v rfl rfl rfl (AVal.moveN (by constructor)) ?_
      refine AOps.v rfl rfl rfl (AVal.lookupRow (e := 3) 3 rfl rfl rfl (by kernel_rfl) (by kernel_rfl)) ?_
      refine AOps.v rfl rfl rfl (AVal.assignN (by constructor)) ?_
      refine AOps.nil ?_
      refine ACode.seq ?_
      refine ACode.region ?_
      refine AOps.v rfl rfl rfl (AVal.moveN (by constructor)) ?_
      refine AOps.v rfl rfl rfl (AVal.gtr rfl rfl) ?_
      refine AOps.v rfl rfl rfl (AVal.moveN (by constructor)) ?_
      refine AOps.split 23 rfl (fun h23 => ?_) (fun h23 => ?_)
      ·
        try simp only [decide_eq_true_eq, decide_eq_false_iff_not, Bool.not_eq_true', Bool.not_eq_false', Bool.and_eq_true, Bool.or_eq_true, beq_iff_eq, beq_eq_false_iff_ne] at h23
        refine AOps.vF rfl rfl rfl rfl rfl rfl rfl ?_
        refine AOps.vF rfl rfl rfl rfl rfl rfl rfl ?_
        refine AOps.vF rfl rfl rfl rfl rfl rfl rfl ?_
        refine AOps.vU rfl rfl rfl rfl rfl ?_
        refine AOps.vU rfl rfl rfl rfl rfl ?_
        refine AOps.vU rfl rfl rfl rfl rfl ?_
        refine AOps.vU rfl rfl rfl rfl rfl ?_
        refine AOps.vF rfl rfl rfl rfl rfl rfl rfl ?_
        refine AOps.v rfl rfl rfl (AVal.pickT rfl (by constructor)) ?_
        refine AOps.nil ?_
        refine ACode.condT rfl ?_
        have hkeep : (0 < (keysM rows).getD i default ∨ (0 < rget rows ((keysM rows).getD i default) ∧ hiddenM rows (rget rows ((keysM rows).getD i default)) = false)) := .inl (by omega)
        refine ACode.region ?_
        refine AOps.v rfl rfl rfl (AVal.fieldP rfl rfl) ?_
        refine AOps.v rfl rfl rfl (AVal.loadPN 1 rfl rfl rfl rfl (by constructor)) ?_
        refine AOps.v rfl rfl rfl (AVal.moveN (by constructor)) ?_
        refine AOps.v rfl rfl rfl (AVal.moveN (by constructor)) ?_
        refine AOps.v rfl rfl rfl (AVal.buildP rfl rfl rfl) ?_
        refine AOps.e rfl rfl rfl (AOp.buildSliceP (ts := [_]) rfl rfl rfl rfl rfl ?_)
        refine AOps.e rfl rfl rfl (AOp.app1Own 0 rfl rfl rfl rfl rfl rfl rfl rfl rfl (by rw [List.length_map]; have := parts_len rows i; rw [ho] at this; simp only [List.length_cons] at this ⊢; omega) rfl (by repeat constructor) (fun bq cap' => ?_))
        refine AOps.v rfl rfl rfl (AVal.fieldP rfl rfl) ?_
        refine AOps.e0 rfl rfl (AOp.storeN 1 rfl rfl rfl (by constructor) rfl rfl rfl (by repeat constructor) (by repeat constructor) ?_)
        refine AOps.nil ?_
        refine ACode.region ?_
        refine AOps.v rfl rfl rfl (AVal.addn rfl rfl (by omega)) ?_
        refine AOps.v rfl rfl rfl (AVal.moveN (by constructor)) ?_
        refine AOps.nil ?_
        refine ⟨(i + 1, bq, cap'), by simp only; omega, by simp only; omega, rfl, (by repeat first | exact Agree.nil | refine Agree.cons (.refl _) ?_), ?_⟩
        simp only [parts_take_succ hlt, ho, partOf, if_pos hkeep, Option.toList_some, List.nil_append, List.cons_append, List.length_append, List.length_cons, List.length_nil, List.map_append, List.map_cons, List.map_nil, growL, growD]
        exact (by repeat first | exact List.Sublist.refl _ | apply List.Sublist.cons_cons | apply List.Sublist.cons | exact List.nil_sublist _)
      ·
        try simp only [decide_eq_true_eq, decide_eq_false_iff_not, Bool.not_eq_true', Bool.not_eq_false', Bool.and_eq_true, Bool.or_eq_true, beq_iff_eq, beq_eq_false_iff_ne] at h23
        refine AOps.vT rfl rfl rfl rfl rfl rfl (AVal.moveN (by constructor)) ?_
        refine AOps.vT rfl rfl rfl rfl rfl rfl (AVal.gtr rfl rfl) ?_
        refine AOps.vT rfl rfl rfl rfl rfl rfl (AVal.moveN (by constructor)) ?_
        refine AOps.split 26 rfl (fun h26 => ?_) (fun h26 => ?_)
        ·
          try simp only [decide_eq_true_eq, decide_eq_false_iff_not, Bool.not_eq_true', Bool.not_eq_false', Bool.and_eq_true, Bool.or_eq_true, beq_iff_eq, beq_eq_false_iff_ne] at h26
          refine AOps.vT rfl rfl rfl rfl rfl rfl (AVal.loadPN 2 rfl rfl rfl rfl (by constructor)) ?_
          refine AOps.vT rfl rfl rfl rfl rfl rfl (AVal.moveN (by constructor)) ?_
          refine AOps.eT rfl rfl rfl rfl rfl rfl (AOp.callK [_, _, _] (hidden_c mb rows _) (LeL.eq rfl) rfl ?_)
          refine AOps.vT rfl rfl rfl rfl rfl rfl (AVal.not rfl) ?_
          refine AOps.vT rfl rfl rfl rfl rfl rfl (AVal.pickT rfl (by constructor)) ?_
          refine AOps.v rfl rfl rfl (AVal.pickF rfl (by constructor)) ?_
          refine AOps.nil ?_
          refine ACode.condS rfl (fun h32 => ?_) (fun h32 => ?_)
          ·
            try simp only [decide_eq_true_eq, decide_eq_false_iff_not, Bool.not_eq_true', Bool.not_eq_false', Bool.and_eq_true, Bool.or_eq_true, beq_iff_eq, beq_eq_false_iff_ne] at h32
            have hkeep : (0 < (keysM rows).getD i default ∨ (0 < rget rows ((keysM rows).getD i default) ∧ hiddenM rows (rget rows ((keysM rows).getD i default)) = false)) := by first | exact .inl (by omega) | exact .inr ⟨by omega, by simpa using h32⟩ | (simp_all)
            refine ACode.region ?_
            refine AOps.v rfl rfl rfl (AVal.fieldP rfl rfl) ?_
            refine AOps.v rfl rfl rfl (AVal.loadPN 1 rfl rfl rfl rfl (by constructor)) ?_
            refine AOps.v rfl rfl rfl (AVal.moveN (by constructor)) ?_
            refine AOps.v rfl rfl rfl (AVal.moveN (by constructor)) ?_
            refine AOps.v rfl rfl rfl (AVal.buildP rfl rfl rfl) ?_
            refine AOps.e rfl rfl rfl (AOp.buildSliceP (ts := [_]) rfl rfl rfl rfl rfl ?_)
            refine AOps.e rfl rfl rfl (AOp.app1Own 0 rfl rfl rfl rfl rfl rfl rfl rfl rfl (by rw [List.length_map]; have := parts_len rows i; rw [ho] at this; simp only [List.length_cons] at this ⊢; omega) rfl (by repeat constructor) (fun bq cap' => ?_))
            refine AOps.v rfl rfl rfl (AVal.fieldP rfl rfl) ?_
            refine AOps.e0 rfl rfl (AOp.storeN 1 rfl rfl rfl (by constructor) rfl rfl rfl (by repeat constructor) (by repeat constructor) ?_)
            refine AOps.nil ?_
            refine ACode.region ?_
            refine AOps.v rfl rfl rfl (AVal.addn rfl rfl (by omega)) ?_
            refine AOps.v rfl rfl rfl (AVal.moveN (by constructor)) ?_
            refine AOps.nil ?_
            refine ⟨(i + 1, bq, cap'), by simp only; omega, by simp only; omega, rfl, (by repeat first | exact Agree.nil | refine Agree.cons (.refl _) ?_), ?_⟩
            simp only [parts_take_succ hlt, ho, partOf, if_pos hkeep, Option.toList_some, List.nil_append, List.cons_append, List.length_append, List.length_cons, List.length_nil, List.map_append, List.map_cons, List.map_nil, growL, growD]
            exact (by repeat first | exact List.Sublist.refl _ | apply List.Sublist.cons_cons | apply List.Sublist.cons | exact List.nil_sublist _)
          ·
            try simp only [decide_eq_true_eq, decide_eq_false_iff_not, Bool.not_eq_true', Bool.not_eq_false', Bool.and_eq_true, Bool.or_eq_true, beq_iff_eq, beq_eq_false_iff_ne] at h32
            have hdrop : ¬ (0 < (keysM rows).getD i default ∨ (0 < rget rows ((keysM rows).getD i default) ∧ hiddenM rows (rget rows ((keysM rows).getD i default)) = false)) := by simp_all
            refine ACode.skip ?_
            refine ACode.region ?_
            refine AOps.v rfl rfl rfl (AVal.addn rfl rfl (by omega)) ?_
            refine AOps.v rfl rfl rfl (AVal.moveN (by constructor)) ?_
            refine AOps.nil ?_
            refine ⟨(i + 1, bb, cap), by simp only; omega, by simp only; omega, rfl, (by repeat first | exact Agree.nil | refine Agree.cons (.refl _) ?_), ?_⟩
            simp only [parts_take_succ hlt, ho, partOf, if_neg hdrop, Option.toList_none, List.append_nil, List.length_cons, List.length_nil, List.map_cons, List.map_nil, growL, growD, List.nil_append, List.cons_append]
            exact (by repeat first | exact List.Sublist.refl _ | apply List.Sublist.cons_cons | apply List.Sublist.cons | exact List.nil_sublist _)
        ·
          try simp only [decide_eq_true_eq, decide_eq_false_iff_not, Bool.not_eq_true', Bool.not_eq_false', Bool.and_eq_true, Bool.or_eq_true, beq_iff_eq, beq_eq_false_iff_ne] at h26
          refine AOps.vF rfl rfl rfl rfl rfl rfl rfl ?_
          refine AOps.vF rfl rfl rfl rfl rfl rfl rfl ?_
          refine AOps.vF rfl rfl rfl rfl rfl rfl rfl ?_
          refine AOps.vF rfl rfl rfl rfl rfl rfl rfl ?_
          refine AOps.vT rfl rfl rfl rfl rfl rfl (AVal.pickF rfl (by constructor)) ?_
          refine AOps.v rfl rfl rfl (AVal.pickF rfl (by constructor)) ?_
          refine AOps.nil ?_
          refine ACode.condF rfl ?_
          have hdrop : ¬ (0 < (keysM rows).getD i default ∨ (0 < rget rows ((keysM rows).getD i default) ∧ hiddenM rows (rget rows ((keysM rows).getD i default)) = false)) := by rintro (e | ⟨e, _⟩) <;> omega
          refine ACode.skip ?_
          refine ACode.region ?_
          refine AOps.v rfl rfl rfl (AVal.addn rfl rfl (by omega)) ?_
          refine AOps.v rfl rfl rfl (AVal.moveN (by constructor)) ?_
          refine AOps.nil ?_
          refine ⟨(i + 1, bb, cap), by simp only; omega, by simp only; omega, rfl, (by repeat first | exact Agree.nil | refine Agree.cons (.refl _) ?_), ?_⟩
          simp only [parts_take_succ hlt, ho, partOf, if_neg hdrop, Option.toList_none, List.append_nil, List.length_cons, List.length_nil, List.map_cons, List.map_nil, growL, growD, List.nil_append, List.cons_append]
          exact (by repeat first | exact List.Sublist.refl _ | apply List.Sublist.cons_cons | apply List.Sublist.cons | exact List.nil_sublist _)
    ·
      try simp only [decide_eq_true_eq, decide_eq_false_iff_not, Bool.not_eq_true', Bool.not_eq_false', Bool.and_eq_true, Bool.or_eq_true, beq_iff_eq, beq_eq_false_iff_ne] at h13
      refine ACode.exit ?_
      refine ACode.seq ?_
      refine ACode.region ?_
      refine AOps.v rfl rfl rfl (AVal.loadPN 1 rfl rfl rfl rfl (by constructor)) ?_
      refine AOps.e0 rfl rfl (AOp.storeN 1 rfl rfl rfl (by constructor) rfl rfl rfl (by repeat constructor) (by repeat constructor) ?_)
      refine AOps.nil ?_
      refine ACode.ret ?_
      refine AFin.keepRet rfl (.cons (by first | exact ARead.box (d := encL _) 0 rfl rfl rfl rfl | exact ARead.box (d := encL _) 1 rfl rfl rfl rfl | exact ARead.box (d := encL _) 2 rfl rfl rfl rfl | exact ARead.box (d := encL _) 3 rfl rfl rfl rfl | exact ARead.box (d := encL _) 4 rfl rfl rfl rfl | exact ARead.box (d := encL _) 5 rfl rfl rfl rfl | exact ARead.box (d := encL _) 6 rfl rfl rfl rfl | exact ARead.box (d := encL _) 7 rfl rfl rfl rfl | exact ARead.box 0 rfl rfl rfl rfl | exact ARead.box 1 rfl rfl rfl rfl | exact ARead.box 2 rfl rfl rfl rfl | exact ARead.box 3 rfl rfl rfl rfl | exact ARead.box 4 rfl rfl rfl rfl | exact ARead.box 5 rfl rfl rfl rfl | exact ARead.box 6 rfl rfl rfl rfl | exact ARead.box 7 rfl rfl rfl rfl) .nil) (by repeat first | exact List.Sublist.refl _ | apply List.Sublist.cons_cons | apply List.Sublist.cons) ?_
      exact leP1 (by rw [levelM, ← List.take_of_length_le (l := keysM rows) (i := i) (by omega), ho])

theorem of1_c (mb b1 : Nat) (rows : Rows) (ls : List Level) (R : Loc) (hl : ls.length ≤ 9223372036854775807) (hp : ∀ l ∈ ls, l.length ≤ 9223372036854775807) : ACalls X 106 [.agg [.map mb], .ptr b1 0] ((mb, .map (encRow rows)) :: ((b1, .cells 24 [.slL ls]) :: R)) (fun r L' => (∃ rows', rowPut rows ls.flatten = some rows' ∧ r = .ret (.tup []) ∧ L' = (mb, .map (encRow rows')) :: ((b1, .cells 24 [.slL ls]) :: R)) ∨ (rowPut rows ls.flatten = none ∧ ∃ es', r = .pan (.iface 143 (.agg [])) ∧ L' = (mb, .map es') :: ((b1, .cells 24 [.slL ls]) :: R))) := by
  refine ACalls.of_code Tryz.func106 rfl (by rfl) (Nat.le_of_ble_eq_true rfl) ?_
  refine ACode.seq ?_
  refine ACode.region ?_
  refine AOps.e rfl rfl rfl (AOp.boxA rfl (fun b2 => ?_))
  refine AOps.nil ?_
  refine ACode.seq ?_
  refine ACode.region ?_
  refine AOps.v rfl rfl rfl (AVal.loadPN 2 rfl rfl rfl rfl (by constructor)) ?_
  refine AOps.v rfl rfl rfl (AVal.len rfl rfl rfl) ?_
  refine AOps.v rfl rfl rfl (AVal.moveN (by constructor)) ?_
  refine AOps.nil ?_
  refine ACode.block ?_
  refine ACode.loop (γ := Nat × Rows) (fun g => [(2, .ptr b2 0), (5, .slL ls), (6, .int .i64 ls.length), (7, .int .i64 g.1)]) (fun g => (b2, .cells 139 [.map mb]) :: (mb, .map (encRow g.2)) :: ((b1, .cells 24 [.slL ls]) :: R)) (fun g => g.1 ≤ ls.length ∧ rowPut g.2 (ls.drop g.1).flatten = rowPut rows ls.flatten) (fun g => ls.length - g.1) (0, rows) ⟨Nat.zero_le _, by simp⟩ (by repeat first | exact Agree.nil | refine Agree.cons (.refl _) ?_) (by repeat first | exact List.Sublist.refl _ | apply List.Sublist.cons_cons | apply List.Sublist.cons | exact List.nil_sublist _) ?_
  rintro ⟨i, r⟩ ⟨hi, hg⟩ t1
  simp only at hi hg ⊢
  refine ACode.seq ?_
  refine ACode.region ?_
  refine AOps.v rfl rfl rfl (AVal.lss rfl rfl) ?_
  refine AOps.nil ?_
  refine ACode.seq ?_
  refine ACode.condS rfl (fun h8 => ?_) (fun h8 => ?_)
  ·
    try simp only [decide_eq_true_eq, decide_eq_false_iff_not, Bool.not_eq_true', Bool.not_eq_false', Bool.and_eq_true, Bool.or_eq_true, beq_iff_eq, beq_eq_false_iff_ne] at h8
    have hlt : i < ls.length := by omega
    refine ACode.skip ?_
    refine ACode.seq ?_
    refine ACode.block ?_
    refine ACode.seq ?_
    refine ACode.region ?_
    refine AOps.v rfl rfl rfl (AVal.indexLK rfl rfl rfl rfl rfl (by omega)) ?_
    refine AOps.v rfl rfl rfl (AVal.loadE (d := encL _) rfl rfl rfl) ?_
    refine AOps.e rfl rfl rfl (AOp.allocN rfl rfl (fun b4 => ?_))
    refine AOps.e0 rfl rfl (AOp.storeN 0 rfl rfl rfl (by constructor) rfl rfl rfl (by repeat constructor) (by repeat constructor) ?_)
    refine AOps.nil ?_
    refine ACode.region ?_
    refine AOps.v rfl rfl rfl (AVal.fieldP rfl rfl) ?_
    refine AOps.v rfl rfl rfl (AVal.loadPN 1 rfl rfl rfl rfl (by constructor)) ?_
    refine AOps.v rfl rfl rfl (AVal.fieldP rfl rfl) ?_
    refine AOps.v rfl rfl rfl (AVal.loadPN 0 rfl rfl rfl rfl (by constructor)) ?_
    refine AOps.e rfl rfl rfl (callRow [_, _] _ (hp _ (getD_mem hlt)) rfl rfl (fun rows2 hrow => ?_) (fun hnone es2 => ?_))
    ·
      refine AOps.nil ?_
      refine ACode.region ?_
      refine AOps.v rfl rfl rfl (AVal.addn rfl rfl (by omega)) ?_
      refine AOps.v rfl rfl rfl (AVal.moveN (by constructor)) ?_
      refine AOps.nil ?_
      refine ⟨(i + 1, rows2), ⟨by simp only; omega, by simp only; rw [← hg, drop_getD hlt, List.flatten_cons, rowPut_append, hrow]; rfl⟩, by simp only; omega, rfl, (by repeat first | exact Agree.nil | refine Agree.cons (.refl _) ?_), (by repeat first | exact List.Sublist.refl _ | apply List.Sublist.cons_cons | apply List.Sublist.cons | exact List.nil_sublist _)⟩
    ·
      refine AFin.pan (X := X) (fn := Tryz.f106) (R := (fun r L' => (∃ rows', rowPut rows ls.flatten = some rows' ∧ r = .ret (.tup []) ∧ L' = (mb, .map (encRow rows')) :: ((b1, .cells 24 [.slL ls]) :: R)) ∨ (rowPut rows ls.flatten = none ∧ ∃ es', r = .pan (.iface 143 (.agg [])) ∧ L' = (mb, .map es') :: ((b1, .cells 24 [.slL ls]) :: R)))) (L' := (mb, .map es2) :: ((b1, .cells 24 [.slL ls]) :: R)) rfl (by repeat first | exact List.Sublist.refl _ | apply List.Sublist.cons_cons | apply List.Sublist.cons | exact List.nil_sublist _) ?_
      refine .inr ⟨?_, _, rfl, rfl⟩
      rw [← hg, drop_getD hlt, List.flatten_cons, rowPut_append, hnone]; rfl
  ·
    try simp only [decide_eq_true_eq, decide_eq_false_iff_not, Bool.not_eq_true', Bool.not_eq_false', Bool.and_eq_true, Bool.or_eq_true, beq_iff_eq, beq_eq_false_iff_ne] at h8
    refine ACode.exit ?_
    refine AFin.end (X := X) (fn := Tryz.f106) (R := (fun r L' => (∃ rows', rowPut rows ls.flatten = some rows' ∧ r = .ret (.tup []) ∧ L' = (mb, .map (encRow rows')) :: ((b1, .cells 24 [.slL ls]) :: R)) ∨ (rowPut rows ls.flatten = none ∧ ∃ es', r = .pan (.iface 143 (.agg [])) ∧ L' = (mb, .map es') :: ((b1, .cells 24 [.slL ls]) :: R)))) (L' := (mb, .map (encRow r)) :: ((b1, .cells 24 [.slL ls]) :: R)) rfl .nil (by repeat first | exact List.Sublist.refl _ | apply List.Sublist.cons_cons | apply List.Sublist.cons | exact List.nil_sublist _) (.refl _) ?_
    refine .inl ⟨r, ?_, rfl, rfl⟩
    rw [← hg, List.drop_of_length_le (by omega), List.flatten_nil, rowPut]

theorem made1_ret (b2 : Nat) (d : D) (o1 o2 : Nat × MObj) (R : Loc) : ADef X 100 [.ptr b2 0] (o1 :: o2 :: (b2, .cells 62 [d]) :: R) none (o1 :: o2 :: (b2, .cells 62 [d]) :: R) := by
  refine ADef.of_code Tryz.func100 rfl (by rfl) (Nat.le_of_ble_eq_true rfl) rfl rfl rfl ?_
  refine ACode.seq ?_
  refine ACode.region ?_
  refine AOps.v rfl rfl rfl (AVal.moveN (by constructor)) ?_
  refine AOps.v rfl rfl rfl (AVal.neqNilF rfl rfl (by kernel_rfl)) ?_
  refine AOps.nil ?_
  refine ACode.condF rfl ?_
  refine ACode.skip ?_
  exact ⟨.inl rfl, rfl, (by repeat first | exact List.Sublist.refl _ | apply List.Sublist.cons_cons | apply List.Sublist.cons | exact List.nil_sublist _)⟩

theorem made1_pan (b2 : Nat) (d : D) (o1 o2 : Nat × MObj) (R : Loc) : ADef X 100 [.ptr b2 0] (o1 :: o2 :: (b2, .cells 62 [d]) :: R) (some (.iface 143 (.agg []))) (o1 :: o2 :: (b2, .cells 62 [.emp]) :: R) := by
  refine ADef.of_code Tryz.func100 rfl (by rfl) (Nat.le_of_ble_eq_true rfl) rfl rfl rfl ?_
  refine ACode.seq ?_
  refine ACode.region ?_
  refine AOps.v rfl rfl rfl (AVal.moveN (by constructor)) ?_
  refine AOps.v rfl rfl rfl (AVal.neqNilT rfl rfl (by kernel_rfl)) ?_
  refine AOps.nil ?_
  refine ACode.condT rfl ?_
  refine ACode.seq ?_
  refine ACode.seq ?_
  refine ACode.region ?_
  refine AOps.v rfl rfl rfl (AVal.moveN (by constructor)) ?_
  refine AOps.v rfl rfl rfl (AVal.assertOk rfl Tryz.underlying143 rfl) ?_
  refine AOps.v rfl rfl rfl (AVal.moveN (by constructor)) ?_
  refine AOps.v rfl rfl rfl (AVal.extractN rfl rfl (by constructor)) ?_
  refine AOps.v rfl rfl rfl (AVal.extractN rfl rfl (by constructor)) ?_
  refine AOps.e rfl rfl rfl (AOp.allocN rfl rfl (fun b2 => ?_))
  refine AOps.e0 rfl rfl (AOp.storeN 0 rfl rfl rfl (by constructor) rfl rfl rfl (by repeat constructor) (by repeat constructor) ?_)
  refine AOps.v rfl rfl rfl (AVal.assignN (by constructor)) ?_
  refine AOps.nil ?_
  refine ACode.seq ?_
  refine ACode.region ?_
  refine AOps.v rfl rfl rfl (AVal.moveN (by constructor)) ?_
  refine AOps.v rfl rfl rfl (AVal.not rfl) ?_
  refine AOps.nil ?_
  refine ACode.condF rfl ?_
  refine ACode.skip ?_
  refine ACode.region ?_
  refine AOps.v rfl rfl rfl (AVal.build rfl rfl rfl) ?_
  refine AOps.e0 rfl rfl (AOp.storeN 3 rfl rfl rfl (by constructor) rfl rfl rfl (by repeat constructor) (by repeat constructor) ?_)
  refine AOps.nil ?_
  exact ⟨.inl rfl, rfl, (by repeat first | exact List.Sublist.refl _ | apply List.Sublist.cons_cons | apply List.Sublist.cons | exact List.nil_sublist _)⟩

theorem callPuts {ρ : Operand → D} {L : Loc} {dst : Option Tmp} {ty : TypeId} {pos : String} {after : Array Edge} {guard : Option (Nat × Bool)} {K Kp : D → Loc → Prop} {xs : Array Operand} {tys : Array TypeId} {g : Operand} {f : FuncId} {caps : List D} {L0 : Loc} {res : Option Rows} {mb b3 b2 : Nat} {m3 m2 : MObj}
    (H : ∀ mb, ACalls X f ([.agg [.map mb]] ++ caps) ((mb, .map []) :: L0) (fun r L' => (∃ rows', res = some rows' ∧ r = .ret (.tup []) ∧ L' = (mb, .map (encRow rows')) :: L0) ∨ (res = none ∧ ∃ es', r = .pan (.iface 143 (.agg [])) ∧ L' = (mb, .map es') :: L0))) (hg : ρ g = .func (.func f) [] caps) (ha : [] ++ xs.toList.map ρ ++ caps = [.agg [.map mb]] ++ caps)
    (hL : L = (b3, m3) :: (mb, .map []) :: (b2, m2) :: L0) (h1 : ∀ rows', res = some rows' → K (.tup []) ((b3, m3) :: (mb, .map (encRow rows')) :: (b2, m2) :: L0)) (h2 : res = none → ∀ es', Kp (.iface 143 (.agg [])) ((b3, m3) :: (mb, .map es') :: (b2, m2) :: L0)) :
    AOp X ⟨dst, .call ⟨.value g, xs, tys⟩, ty, pos, after, guard⟩ ρ L K Kp := by
  subst hL
  have perm : ∀ m : MObj, (((mb, m) :: L0) ++ [(b3, m3), (b2, m2)]).Perm ((b3, m3) :: (mb, m) :: (b2, m2) :: L0) := fun m =>
    List.perm_append_comm.trans (.cons _ (.swap _ _ _))
  refine AOp.callVQ (L0 := (mb, .map []) :: L0) (L1 := [(b3, m3), (b2, m2)]) hg (H mb) (LeL.eq ha) (perm _).symm (fun d L' h => ?_) (fun d L' h => ?_)
  · rcases h with ⟨r, e1, e2, rfl⟩ | ⟨e1, es, e2, rfl⟩
    · cases e2; exact ⟨_, perm _, h1 r e1⟩
    · cases e2
  · rcases h with ⟨r, e1, e2, rfl⟩ | ⟨e1, es, e2, rfl⟩
    · cases e2
    · cases e2; exact ⟨_, perm _, h2 e1 es⟩

theorem made_c {f : FuncId} {caps : List D} {L0 : Loc} {res : Option Rows} (hS : SortedOk) (H : ∀ mb, ACalls X f ([.agg [.map mb]] ++ caps) ((mb, .map []) :: L0) (fun r L' => (∃ rows', res = some rows' ∧ r = .ret (.tup []) ∧ L' = (mb, .map (encRow rows')) :: L0) ∨ (res = none ∧ ∃ es', r = .pan (.iface 143 (.agg [])) ∧ L' = (mb, .map es') :: L0))) (hok : ∀ r, res = some r → RowsOk r) : AKeep X 96 [.func (.func f) [] caps] L0 (encL (ofRows res)) := by
  refine ACalls.of_codeD Tryz.func96 rfl (by rfl) (Nat.le_of_ble_eq_true rfl) ?_
  refine ACode.seq ?_
  refine ACode.region ?_
  refine AOps.e rfl rfl rfl (AOp.allocN rfl rfl (fun b2 => ?_))
  refine AOps.nil ?_
  refine ACode.seq ?_
  refine ACode.region ?_
  refine AOps.v rfl rfl rfl (AVal.makeFunc) ?_
  refine AOps.deferP (ps := [b2]) rfl ?_
  refine AOps.nil ?_
  refine ACode.seq ?_
  refine ACode.region ?_
  refine AOps.e rfl rfl rfl (AOp.makeMapN (fun mb => ?_))
  refine AOps.v rfl rfl rfl (AVal.build rfl rfl rfl) ?_
  refine AOps.v rfl rfl rfl (AVal.build rfl rfl rfl) ?_
  refine AOps.e rfl rfl rfl (AOp.allocN rfl rfl (fun b3 => ?_))
  refine AOps.e0 rfl rfl (AOp.storeN 0 rfl rfl rfl (by constructor) rfl rfl rfl (by repeat constructor) (by repeat constructor) ?_)
  refine AOps.nil ?_
  refine ACode.seq ?_
  refine ACode.region ?_
  refine AOps.v rfl rfl rfl (AVal.moveN (by constructor)) ?_
  refine AOps.v rfl rfl rfl (AVal.loadPN 0 rfl rfl rfl rfl (by constructor)) ?_
  refine AOps.e rfl rfl rfl (callPuts H rfl rfl rfl (fun rows2 hrow => ?_) (fun hnone es2 => ?_))
  ·
    refine AOps.nil ?_
    refine ACode.seq ?_
    refine ACode.region ?_
    refine AOps.v rfl rfl rfl (AVal.loadPN 0 rfl rfl rfl rfl (by constructor)) ?_
    refine AOps.e rfl rfl rfl (AOp.callKP (level_c hS mb rows2 (hok _ hrow)) (LeL.eq rfl) (List.Perm.swap _ _ _) ?_)
    refine AOps.e0 rfl rfl (AOp.storeN 2 rfl rfl rfl (by constructor) rfl rfl rfl (by repeat constructor) (by repeat constructor) ?_)
    refine AOps.nil ?_
    refine ACode.ret ?_
    refine AFinD.retD (X := X) (fn := Tryz.f96) (R := fun r L' => r = .ret (encL (ofRows res)) ∧ L' = L0) (g := 100) (ps := [b2]) (made1_ret b2 _ _ _ _) (.cons (by first | exact ARead.box (d := encL _) 2 rfl rfl rfl rfl | exact ARead.box 2 rfl rfl rfl rfl) .nil) (by repeat first | exact List.Sublist.refl _ | apply List.Sublist.cons_cons | apply List.Sublist.cons | exact List.nil_sublist _) (D.Le.eq ?_) ⟨rfl, rfl⟩
    rw [hrow]; rfl
  ·
    refine AFinD.panD (X := X) (fn := Tryz.f96) (R := fun r L' => r = .ret (encL (ofRows res)) ∧ L' = L0) (g := 100) (ps := [b2]) (made1_pan b2 _ _ _ _) (.cons (by first | exact ARead.box (d := encL _) 2 rfl rfl rfl rfl | exact ARead.box 2 rfl rfl rfl rfl) .nil) (by repeat first | exact List.Sublist.refl _ | apply List.Sublist.cons_cons | apply List.Sublist.cons | exact List.nil_sublist _) ?_ ⟨rfl, rfl⟩
    rw [hnone]; exact leP0 rfl

theorem lof_c (hS : SortedOk) (ls : List Level) (hl : ls.length ≤ 9223372036854775807) (hp : ∀ l ∈ ls, l.length ≤ 9223372036854775807) : AFn X 102 [.slL ls] (encL (ofRows (rowPut [] ls.flatten))) := by
  refine ACalls.of_code Tryz.func102 rfl (by rfl) (Nat.le_of_ble_eq_true rfl) ?_
  refine ACode.seq ?_
  refine ACode.region ?_
  refine AOps.e rfl rfl rfl (AOp.box1 (by constructor) rfl rfl (fun b1 => ?_))
  refine AOps.e rfl rfl rfl (AOp.allocN rfl rfl (fun b2 => ?_))
  refine AOps.nil ?_
  refine ACode.seq ?_
  refine ACode.region ?_
  refine AOps.v rfl rfl rfl (AVal.makeFunc) ?_
  refine AOps.e rfl rfl rfl (AOp.callK [_] (made_c hS (fun mb => of1_c mb b1 [] ls _ hl hp) (fun r h => RowsOk.nil.put h)) (LeL.eq rfl) rfl ?_)
  refine AOps.e0 rfl rfl (AOp.storeN 0 rfl rfl rfl (by constructor) rfl rfl rfl (by repeat constructor) (by repeat constructor) ?_)
  refine AOps.nil ?_
  refine ACode.ret ?_
  refine AFin.pureRet rfl (.cons (by first | exact ARead.box (d := encL _) 0 rfl rfl rfl rfl | exact ARead.box (d := encL _) 1 rfl rfl rfl rfl | exact ARead.box (d := encL _) 2 rfl rfl rfl rfl | exact ARead.box (d := encL _) 3 rfl rfl rfl rfl | exact ARead.box (d := encL _) 4 rfl rfl rfl rfl | exact ARead.box (d := encL _) 5 rfl rfl rfl rfl | exact ARead.box (d := encL _) 6 rfl rfl rfl rfl | exact ARead.box (d := encL _) 7 rfl rfl rfl rfl | exact ARead.box 0 rfl rfl rfl rfl | exact ARead.box 1 rfl rfl rfl rfl | exact ARead.box 2 rfl rfl rfl rfl | exact ARead.box 3 rfl rfl rfl rfl | exact ARead.box 4 rfl rfl rfl rfl | exact ARead.box 5 rfl rfl rfl rfl | exact ARead.box 6 rfl rfl rfl rfl | exact ARead.box 7 rfl rfl rfl rfl) .nil) ?_
  exact .refl _

theorem norm_c (hS : SortedOk) (l : Level) (hl : l.length ≤ 9223372036854775807) : AFn X 98 [encL l] (encL (normM l)) := by
  refine ACalls.of_code Tryz.func98 rfl (by rfl) (Nat.le_of_ble_eq_true rfl) ?_
  refine ACode.seq ?_
  refine ACode.region ?_
  refine AOps.e rfl rfl rfl (AOp.boxA rfl (fun b1 => ?_))
  refine AOps.e rfl rfl rfl (AOp.allocN rfl rfl (fun b2 => ?_))
  refine AOps.nil ?_
  refine ACode.seq ?_
  refine ACode.region ?_
  refine AOps.v rfl rfl rfl (AVal.loadP (d := encL _) 1 rfl rfl rfl rfl) ?_
  refine AOps.e rfl rfl rfl (AOp.buildSliceL (ts := [_]) rfl rfl rfl rfl rfl ?_)
  refine AOps.e rfl rfl rfl (AOp.callP (lof_c hS [l] (by simp) (fun k hk => by rw [List.mem_singleton.1 hk]; exact hl)) (by first | exact LeL.eq rfl | (repeat constructor)) ?_)
  refine AOps.e0 rfl rfl (AOp.storeN 0 rfl rfl rfl (by constructor) rfl rfl rfl (by repeat constructor) (by repeat constructor) ?_)
  refine AOps.nil ?_
  refine ACode.ret ?_
  refine AFin.pureRet rfl (.cons (by first | exact ARead.box (d := encL _) 0 rfl rfl rfl rfl | exact ARead.box (d := encL _) 1 rfl rfl rfl rfl | exact ARead.box (d := encL _) 2 rfl rfl rfl rfl | exact ARead.box (d := encL _) 3 rfl rfl rfl rfl | exact ARead.box (d := encL _) 4 rfl rfl rfl rfl | exact ARead.box (d := encL _) 5 rfl rfl rfl rfl | exact ARead.box (d := encL _) 6 rfl rfl rfl rfl | exact ARead.box (d := encL _) 7 rfl rfl rfl rfl | exact ARead.box 0 rfl rfl rfl rfl | exact ARead.box 1 rfl rfl rfl rfl | exact ARead.box 2 rfl rfl rfl rfl | exact ARead.box 3 rfl rfl rfl rfl | exact ARead.box 4 rfl rfl rfl rfl | exact ARead.box 5 rfl rfl rfl rfl | exact ARead.box 6 rfl rfl rfl rfl | exact ARead.box 7 rfl rfl rfl rfl) .nil) ?_
  exact D.Le.eq (by unfold normM; simp only [List.flatten_cons, List.flatten_nil, List.append_nil]; rfl)

theorem put1L_c (hS : SortedOk) (mb pL pB : Nat) (rows : Rows) (l : Level) (by_ : List Level) (R : Loc) (hl : l.length ≤ 9223372036854775807) (hb : by_.length ≤ 9223372036854775807) (hp : ∀ x ∈ by_, x.length ≤ 9223372036854775807) : ACalls X 97 [.agg [.map mb], .ptr pL 0, .ptr pB 0] ((mb, .map (encRow rows)) :: ((pB, .cells 24 [.slL by_]) :: (pL, .cells 62 [.slP l]) :: R)) (fun r L' => (∃ rows', rowPut rows (putParts l by_) = some rows' ∧ r = .ret (.tup []) ∧ L' = (mb, .map (encRow rows')) :: ((pB, .cells 24 [.slL by_]) :: (pL, .cells 62 [.slP l]) :: R)) ∨ (rowPut rows (putParts l by_) = none ∧ ∃ es', r = .pan (.iface 143 (.agg [])) ∧ L' = (mb, .map es') :: ((pB, .cells 24 [.slL by_]) :: (pL, .cells 62 [.slP l]) :: R))) := by
  have hnl := normM_len l
  refine ACalls.of_code Tryz.func97 rfl (by rfl) (Nat.le_of_ble_eq_true rfl) ?_
  refine ACode.seq ?_
  refine ACode.region ?_
  refine AOps.e rfl rfl rfl (AOp.boxA rfl (fun b3 => ?_))
  refine AOps.nil ?_
  refine ACode.seq ?_
  refine ACode.region ?_
  refine AOps.v rfl rfl rfl (AVal.loadP (d := encL _) 3 rfl rfl rfl rfl) ?_
  refine AOps.e rfl rfl rfl (AOp.callP (norm_c hS l hl) (by first | exact LeL.eq rfl | (repeat constructor)) ?_)
  refine AOps.v rfl rfl rfl (AVal.fieldN rfl rfl (by kernel_rfl) rfl (by constructor)) ?_
  refine AOps.v rfl rfl rfl (AVal.len rfl rfl rfl) ?_
  refine AOps.v rfl rfl rfl (AVal.moveN (by constructor)) ?_
  refine AOps.nil ?_
  refine ACode.block ?_
  refine ACode.loop (γ := Nat × Rows) (fun g => [(1, .ptr pL 0), (2, .ptr pB 0), (3, .ptr b3 0), (11, .slP (normM l)), (12, .int .i64 (normM l).length), (13, .int .i64 g.1)]) (fun g => (b3, .cells 139 [.map mb]) :: (mb, .map (encRow g.2)) :: ((pB, .cells 24 [.slL by_]) :: (pL, .cells 62 [.slP l]) :: R)) (fun g => g.1 ≤ (normM l).length ∧ rowPut g.2 (((normM l).drop g.1).flatMap (fun p => (xOf1 by_ p).map (shiftP p))) = rowPut rows (putParts l by_)) (fun g => (normM l).length - g.1) (0, rows) ⟨Nat.zero_le _, rfl⟩ (by repeat first | exact Agree.nil | refine Agree.cons (.refl _) ?_) (by repeat first | exact List.Sublist.refl _ | apply List.Sublist.cons_cons | apply List.Sublist.cons | exact List.nil_sublist _) ?_
  rintro ⟨i, r⟩ ⟨hi, hg⟩ t1
  simp only at hi hg ⊢
  refine ACode.seq ?_
  refine ACode.region ?_
  refine AOps.v rfl rfl rfl (AVal.lss rfl rfl) ?_
  refine AOps.nil ?_
  refine ACode.seq ?_
  refine ACode.condS rfl (fun h14 => ?_) (fun h14 => ?_)
  ·
    try simp only [decide_eq_true_eq, decide_eq_false_iff_not, Bool.not_eq_true', Bool.not_eq_false', Bool.and_eq_true, Bool.or_eq_true, beq_iff_eq, beq_eq_false_iff_ne] at h14
    have hlt : i < (normM l).length := by omega
    refine ACode.skip ?_
    refine ACode.seq ?_
    refine ACode.block ?_
    refine ACode.seq ?_
    refine ACode.region ?_
    refine AOps.v rfl rfl rfl (AVal.indexPK rfl rfl rfl rfl rfl (by omega)) ?_
    refine AOps.v rfl rfl rfl (AVal.loadE (d := encP _) rfl rfl rfl) ?_
    refine AOps.e rfl rfl rfl (AOp.allocN rfl rfl (fun b5 => ?_))
    refine AOps.e0 rfl rfl (AOp.storeN 0 rfl rfl rfl (by constructor) rfl rfl rfl (by repeat constructor) (by repeat constructor) ?_)
    refine AOps.nil ?_
    refine ACode.seq ?_
    refine ACode.region ?_
    refine AOps.v rfl rfl rfl (AVal.build rfl rfl rfl) ?_
    refine AOps.e rfl rfl rfl (AOp.allocN rfl rfl (fun b6 => ?_))
    refine AOps.e0 rfl rfl (AOp.storeN 0 rfl rfl rfl (by constructor) rfl rfl rfl (by repeat constructor) (by repeat constructor) ?_)
    refine AOps.nil ?_
    refine ACode.seq ?_
    refine ACode.seq ?_
    refine ACode.region ?_
    refine AOps.v rfl rfl rfl (AVal.fieldP rfl rfl) ?_
    refine AOps.v rfl rfl rfl (AVal.loadPN 1 rfl rfl rfl rfl (by constructor)) ?_
    refine AOps.v rfl rfl rfl (AVal.gtr rfl rfl) ?_
    refine AOps.v rfl rfl rfl (AVal.moveN (by constructor)) ?_
    refine AOps.split 21 rfl (fun h21 => ?_) (fun h21 => ?_)
    ·
      try simp only [decide_eq_true_eq, decide_eq_false_iff_not, Bool.not_eq_true', Bool.not_eq_false', Bool.and_eq_true, Bool.or_eq_true, beq_iff_eq, beq_eq_false_iff_ne] at h21
      refine AOps.vT rfl rfl rfl rfl rfl rfl (AVal.fieldP rfl rfl) ?_
      refine AOps.vT rfl rfl rfl rfl rfl rfl (AVal.loadPN 1 rfl rfl rfl rfl (by constructor)) ?_
      refine AOps.vT rfl rfl rfl rfl rfl rfl (AVal.loadPN 4 rfl rfl rfl rfl (by constructor)) ?_
      refine AOps.vT rfl rfl rfl rfl rfl rfl (AVal.len rfl rfl rfl) ?_
      refine AOps.vT rfl rfl rfl rfl rfl rfl (AVal.leq rfl rfl) ?_
      refine AOps.v rfl rfl rfl (AVal.pickT rfl (by constructor)) ?_
      refine AOps.nil ?_
      refine ACode.condS rfl (fun h27 => ?_) (fun h27 => ?_)
      ·
        try simp only [decide_eq_true_eq, decide_eq_false_iff_not, Bool.not_eq_true', Bool.not_eq_false', Bool.and_eq_true, Bool.or_eq_true, beq_iff_eq, beq_eq_false_iff_ne] at h27
        refine ACode.region ?_
        refine AOps.v rfl rfl rfl (AVal.loadPN 4 rfl rfl rfl rfl (by constructor)) ?_
        refine AOps.v rfl rfl rfl (AVal.fieldP rfl rfl) ?_
        refine AOps.v rfl rfl rfl (AVal.loadPN 1 rfl rfl rfl rfl (by constructor)) ?_
        refine AOps.v rfl rfl rfl (AVal.subn rfl rfl (by omega)) ?_
        refine AOps.v rfl rfl rfl (AVal.indexLN rfl rfl rfl rfl rfl ⟨by omega, by omega⟩) ?_
        refine AOps.v rfl rfl rfl (AVal.loadE (d := encL _) rfl rfl rfl) ?_
        refine AOps.e rfl rfl rfl (AOp.callP (norm_c hS (by_.getD (((normM l).getD i default).v - 1).toNat default) (hp _ (getD_mem (by omega)))) (by first | exact LeL.eq rfl | (repeat constructor)) ?_)
        refine AOps.e0 rfl rfl (AOp.storeN 0 rfl rfl rfl (by constructor) rfl rfl rfl (by repeat constructor) (by repeat constructor) ?_)
        refine AOps.nil ?_
        refine ACode.seq ?_
        refine ACode.seq ?_
        refine ACode.region ?_
        refine AOps.v rfl rfl rfl (AVal.fieldP rfl rfl) ?_
        refine AOps.v rfl rfl rfl (AVal.loadPN 0 rfl rfl rfl rfl (by constructor)) ?_
        refine AOps.v rfl rfl rfl (AVal.len rfl rfl rfl) ?_
        refine AOps.v rfl rfl rfl (AVal.eql rfl rfl) ?_
        refine AOps.nil ?_
        refine ACode.condS rfl (fun h38 => ?_) (fun h38 => ?_)
        ·
          try simp only [decide_eq_true_eq, decide_eq_false_iff_not, Bool.not_eq_true', Bool.not_eq_false', Bool.and_eq_true, Bool.or_eq_true, beq_iff_eq, beq_eq_false_iff_ne] at h38
          refine ACode.region ?_
          refine AOps.v rfl rfl rfl (AVal.buildP rfl rfl rfl) ?_
          refine AOps.e rfl rfl rfl (AOp.buildSliceP (ts := [_]) rfl rfl rfl rfl rfl ?_)
          refine AOps.v rfl rfl rfl (AVal.build rfl rfl rfl) ?_
          refine AOps.e0 rfl rfl (AOp.storeN 0 rfl rfl rfl (by constructor) rfl rfl rfl (by repeat constructor) (by repeat constructor) ?_)
          refine AOps.nil ?_
          refine ACode.seq ?_
          refine ACode.region ?_
          refine AOps.v rfl rfl rfl (AVal.fieldP rfl rfl) ?_
          refine AOps.v rfl rfl rfl (AVal.loadPN 0 rfl rfl rfl rfl (by constructor)) ?_
          refine AOps.v rfl rfl rfl (AVal.len rfl rfl rfl) ?_
          refine AOps.v rfl rfl rfl (AVal.moveN (by constructor)) ?_
          refine AOps.nil ?_
          refine ACode.block ?_
          have hxo : xOf by_ ((normM l).getD i default) = normM (by_.getD (((normM l).getD i default).v - 1).toNat default) := if_pos ⟨by omega, by omega⟩
          have hx : xOf1 by_ ((normM l).getD i default) = [(⟨0, 0⟩ : Part)] := if_pos (by rw [hxo]; exact List.eq_nil_of_length_eq_zero (by omega))
          have hxl : ([(⟨0, 0⟩ : Part)] : List Part).length ≤ 1048577 := (by simp)
          refine ACode.loop (γ := Nat × Rows) (fun g => [(1, .ptr pL 0), (2, .ptr pB 0), (3, .ptr b3 0), (5, .ptr b5 0), (6, .ptr b6 0), (11, .slP (normM l)), (12, .int .i64 (normM l).length), (13, .int .i64 i), (43, .slP [(⟨0, 0⟩ : Part)]), (44, .int .i64 ([(⟨0, 0⟩ : Part)] : List Part).length), (45, .int .i64 g.1)]) (fun g => (b6, .cells 62 [.slP [(⟨0, 0⟩ : Part)]]) :: (b5, .cells 64 (cellsP ((normM l).getD i default))) :: (b3, .cells 139 [.map mb]) :: (mb, .map (encRow g.2)) :: ((pB, .cells 24 [.slL by_]) :: (pL, .cells 62 [.slP l]) :: R)) (fun g => g.1 ≤ ([(⟨0, 0⟩ : Part)] : List Part).length ∧ rowPut g.2 ((([(⟨0, 0⟩ : Part)] : List Part).drop g.1).map (shiftP ((normM l).getD i default)) ++ ((normM l).drop (i + 1)).flatMap (fun p => (xOf1 by_ p).map (shiftP p))) = rowPut rows (putParts l by_)) (fun g => ([(⟨0, 0⟩ : Part)] : List Part).length - g.1) (0, r) ⟨Nat.zero_le _, by rw [← hg, drop_getD hlt, List.flatMap_cons, hx]; rfl⟩ (by repeat first | exact Agree.nil | refine Agree.cons (.refl _) ?_) (by repeat first | exact List.Sublist.refl _ | apply List.Sublist.cons_cons | apply List.Sublist.cons | exact List.nil_sublist _) ?_
          rintro ⟨j, r2⟩ ⟨hj, hg2⟩ t2
          simp only at hj hg2 ⊢
          refine ACode.seq ?_
          refine ACode.region ?_
          refine AOps.v rfl rfl rfl (AVal.lss rfl rfl) ?_
          refine AOps.nil ?_
          refine ACode.seq ?_
          refine ACode.condS rfl (fun h46 => ?_) (fun h46 => ?_)
          ·
            try simp only [decide_eq_true_eq, decide_eq_false_iff_not, Bool.not_eq_true', Bool.not_eq_false', Bool.and_eq_true, Bool.or_eq_true, beq_iff_eq, beq_eq_false_iff_ne] at h46
            have hltj := Int.ofNat_lt.1 h46
            refine ACode.skip ?_
            refine ACode.seq ?_
            refine ACode.block ?_
            refine ACode.seq ?_
            refine ACode.region ?_
            refine AOps.v rfl rfl rfl (AVal.indexPK rfl rfl rfl rfl rfl (by omega)) ?_
            refine AOps.v rfl rfl rfl (AVal.loadE (d := encP _) rfl rfl rfl) ?_
            refine AOps.e rfl rfl rfl (AOp.allocN rfl rfl (fun b8 => ?_))
            refine AOps.e0 rfl rfl (AOp.storeN 0 rfl rfl rfl (by constructor) rfl rfl rfl (by repeat constructor) (by repeat constructor) ?_)
            refine AOps.nil ?_
            refine ACode.region ?_
            refine AOps.v rfl rfl rfl (AVal.fieldP rfl rfl) ?_
            refine AOps.v rfl rfl rfl (AVal.loadPN 3 rfl rfl rfl rfl (by constructor)) ?_
            refine AOps.v rfl rfl rfl (AVal.fieldP rfl rfl) ?_
            refine AOps.v rfl rfl rfl (AVal.loadPN 0 rfl rfl rfl rfl (by constructor)) ?_
            refine AOps.v rfl rfl rfl (AVal.fieldP rfl rfl) ?_
            refine AOps.v rfl rfl rfl (AVal.loadPN 0 rfl rfl rfl rfl (by constructor)) ?_
            refine AOps.v rfl rfl rfl (AVal.fieldP rfl rfl) ?_
            refine AOps.v rfl rfl rfl (AVal.loadPN 2 rfl rfl rfl rfl (by constructor)) ?_
            refine AOps.v rfl rfl rfl (AVal.add rfl rfl) ?_
            refine AOps.v rfl rfl rfl (AVal.buildP rfl rfl rfl) ?_
            refine AOps.e rfl rfl rfl (AOp.buildSliceP (ts := [_]) rfl rfl rfl rfl rfl ?_)
            refine AOps.e rfl rfl rfl (callRow [_, _, _, _] _ (by simp) rfl rfl (fun rows2 hrow => ?_) (fun hnone es2 => ?_))
            ·
              refine AOps.nil ?_
              refine ACode.region ?_
              refine AOps.v rfl rfl rfl (AVal.addn rfl rfl (by omega)) ?_
              refine AOps.v rfl rfl rfl (AVal.moveN (by constructor)) ?_
              refine AOps.nil ?_
              refine ⟨(j + 1, rows2), ⟨by simp only; omega, by simp only; rw [← hg2, drop_getD hltj, List.map_cons, List.cons_append]; exact (rowPut_step (show rowPut r2 [shiftP ((normM l).getD i default) (([(⟨0, 0⟩ : Part)] : List Part).getD j default)] = some rows2 from hrow)).symm⟩, by simp only; omega, rfl, (by repeat first | exact Agree.nil | refine Agree.cons (.refl _) ?_), (by repeat first | exact List.Sublist.refl _ | apply List.Sublist.cons_cons | apply List.Sublist.cons | exact List.nil_sublist _)⟩
            ·
              refine AFin.pan (X := X) (fn := Tryz.f97) (R := (fun r L' => (∃ rows', rowPut rows (putParts l by_) = some rows' ∧ r = .ret (.tup []) ∧ L' = (mb, .map (encRow rows')) :: ((pB, .cells 24 [.slL by_]) :: (pL, .cells 62 [.slP l]) :: R)) ∨ (rowPut rows (putParts l by_) = none ∧ ∃ es', r = .pan (.iface 143 (.agg [])) ∧ L' = (mb, .map es') :: ((pB, .cells 24 [.slL by_]) :: (pL, .cells 62 [.slP l]) :: R)))) (L' := (mb, .map es2) :: ((pB, .cells 24 [.slL by_]) :: (pL, .cells 62 [.slP l]) :: R)) rfl (by repeat first | exact List.Sublist.refl _ | apply List.Sublist.cons_cons | apply List.Sublist.cons | exact List.nil_sublist _) ?_
              refine .inr ⟨?_, _, rfl, rfl⟩
              rw [← hg2, drop_getD hltj, List.map_cons, List.cons_append]
              exact rowPut_stop (show rowPut r2 [shiftP ((normM l).getD i default) _] = none from hnone)
          ·
            try simp only [decide_eq_true_eq, decide_eq_false_iff_not, Bool.not_eq_true', Bool.not_eq_false', Bool.and_eq_true, Bool.or_eq_true, beq_iff_eq, beq_eq_false_iff_ne] at h46
            refine ACode.exit ?_
            refine ACode.region ?_
            refine AOps.v rfl rfl rfl (AVal.addn rfl rfl (by omega)) ?_
            refine AOps.v rfl rfl rfl (AVal.moveN (by constructor)) ?_
            refine AOps.nil ?_
            refine ⟨(i + 1, r2), ⟨by simp only; omega, by simp only; rw [← hg2, List.drop_of_length_le (i := j) (by omega)]; rfl⟩, by simp only; omega, rfl, (by repeat first | exact Agree.nil | refine Agree.cons (.refl _) ?_), (by repeat first | exact List.Sublist.refl _ | apply List.Sublist.cons_cons | apply List.Sublist.cons | exact List.nil_sublist _)⟩
        ·
          try simp only [decide_eq_true_eq, decide_eq_false_iff_not, Bool.not_eq_true', Bool.not_eq_false', Bool.and_eq_true, Bool.or_eq_true, beq_iff_eq, beq_eq_false_iff_ne] at h38
          have h38 := h38
          refine ACode.skip ?_
          refine ACode.seq ?_
          refine ACode.region ?_
          refine AOps.v rfl rfl rfl (AVal.fieldP rfl rfl) ?_
          refine AOps.v rfl rfl rfl (AVal.loadPN 0 rfl rfl rfl rfl (by constructor)) ?_
          refine AOps.v rfl rfl rfl (AVal.len rfl rfl rfl) ?_
          refine AOps.v rfl rfl rfl (AVal.moveN (by constructor)) ?_
          refine AOps.nil ?_
          refine ACode.block ?_
          have hxo : xOf by_ ((normM l).getD i default) = normM (by_.getD (((normM l).getD i default).v - 1).toNat default) := if_pos ⟨by omega, by omega⟩
          have hx : xOf1 by_ ((normM l).getD i default) = (normM (by_.getD (((normM l).getD i default).v - 1).toNat default)) := by { unfold xOf1; rw [hxo, if_neg (fun e => h38 (by rw [e]; rfl))] }
          have hxl : ((normM (by_.getD (((normM l).getD i default).v - 1).toNat default)) : List Part).length ≤ 1048577 := normM_len _
          refine ACode.loop (γ := Nat × Rows) (fun g => [(1, .ptr pL 0), (2, .ptr pB 0), (3, .ptr b3 0), (5, .ptr b5 0), (6, .ptr b6 0), (11, .slP (normM l)), (12, .int .i64 (normM l).length), (13, .int .i64 i), (43, .slP (normM (by_.getD (((normM l).getD i default).v - 1).toNat default))), (44, .int .i64 ((normM (by_.getD (((normM l).getD i default).v - 1).toNat default)) : List Part).length), (45, .int .i64 g.1)]) (fun g => (b6, .cells 62 [.slP (normM (by_.getD (((normM l).getD i default).v - 1).toNat default))]) :: (b5, .cells 64 (cellsP ((normM l).getD i default))) :: (b3, .cells 139 [.map mb]) :: (mb, .map (encRow g.2)) :: ((pB, .cells 24 [.slL by_]) :: (pL, .cells 62 [.slP l]) :: R)) (fun g => g.1 ≤ ((normM (by_.getD (((normM l).getD i default).v - 1).toNat default)) : List Part).length ∧ rowPut g.2 ((((normM (by_.getD (((normM l).getD i default).v - 1).toNat default)) : List Part).drop g.1).map (shiftP ((normM l).getD i default)) ++ ((normM l).drop (i + 1)).flatMap (fun p => (xOf1 by_ p).map (shiftP p))) = rowPut rows (putParts l by_)) (fun g => ((normM (by_.getD (((normM l).getD i default).v - 1).toNat default)) : List Part).length - g.1) (0, r) ⟨Nat.zero_le _, by rw [← hg, drop_getD hlt, List.flatMap_cons, hx]; rfl⟩ (by repeat first | exact Agree.nil | refine Agree.cons (.refl _) ?_) (by repeat first | exact List.Sublist.refl _ | apply List.Sublist.cons_cons | apply List.Sublist.cons | exact List.nil_sublist _) ?_
          rintro ⟨j, r2⟩ ⟨hj, hg2⟩ t2
          simp only at hj hg2 ⊢
          refine ACode.seq ?_
          refine ACode.region ?_
          refine AOps.v rfl rfl rfl (AVal.lss rfl rfl) ?_
          refine AOps.nil ?_
          refine ACode.seq ?_
          refine ACode.condS rfl (fun h46 => ?_) (fun h46 => ?_)
          ·
            try simp only [decide_eq_true_eq, decide_eq_false_iff_not, Bool.not_eq_true', Bool.not_eq_false', Bool.and_eq_true, Bool.or_eq_true, beq_iff_eq, beq_eq_false_iff_ne] at h46
            have hltj := Int.ofNat_lt.1 h46
            refine ACode.skip ?_
            refine ACode.seq ?_
            refine ACode.block ?_
            refine ACode.seq ?_
            refine ACode.region ?_
            refine AOps.v rfl rfl rfl (AVal.indexPK rfl rfl rfl rfl rfl (by omega)) ?_
            refine AOps.v rfl rfl rfl (AVal.loadE (d := encP _) rfl rfl rfl) ?_
            refine AOps.e rfl rfl rfl (AOp.allocN rfl rfl (fun b8 => ?_))
            refine AOps.e0 rfl rfl (AOp.storeN 0 rfl rfl rfl (by constructor) rfl rfl rfl (by repeat constructor) (by repeat constructor) ?_)
            refine AOps.nil ?_
            refine ACode.region ?_
            refine AOps.v rfl rfl rfl (AVal.fieldP rfl rfl) ?_
            refine AOps.v rfl rfl rfl (AVal.loadPN 3 rfl rfl rfl rfl (by constructor)) ?_
            refine AOps.v rfl rfl rfl (AVal.fieldP rfl rfl) ?_
            refine AOps.v rfl rfl rfl (AVal.loadPN 0 rfl rfl rfl rfl (by constructor)) ?_
            refine AOps.v rfl rfl rfl (AVal.fieldP rfl rfl) ?_
            refine AOps.v rfl rfl rfl (AVal.loadPN 0 rfl rfl rfl rfl (by constructor)) ?_
            refine AOps.v rfl rfl rfl (AVal.fieldP rfl rfl) ?_
            refine AOps.v rfl rfl rfl (AVal.loadPN 2 rfl rfl rfl rfl (by constructor)) ?_
            refine AOps.v rfl rfl rfl (AVal.add rfl rfl) ?_
            refine AOps.v rfl rfl rfl (AVal.buildP rfl rfl rfl) ?_
            refine AOps.e rfl rfl rfl (AOp.buildSliceP (ts := [_]) rfl rfl rfl rfl rfl ?_)
            refine AOps.e rfl rfl rfl (callRow [_, _, _, _] _ (by simp) rfl rfl (fun rows2 hrow => ?_) (fun hnone es2 => ?_))
            ·
              refine AOps.nil ?_
              refine ACode.region ?_
              refine AOps.v rfl rfl rfl (AVal.addn rfl rfl (by omega)) ?_
              refine AOps.v rfl rfl rfl (AVal.moveN (by constructor)) ?_
              refine AOps.nil ?_
              refine ⟨(j + 1, rows2), ⟨by simp only; omega, by simp only; rw [← hg2, drop_getD hltj, List.map_cons, List.cons_append]; exact (rowPut_step (show rowPut r2 [shiftP ((normM l).getD i default) (((normM (by_.getD (((normM l).getD i default).v - 1).toNat default)) : List Part).getD j default)] = some rows2 from hrow)).symm⟩, by simp only; omega, rfl, (by repeat first | exact Agree.nil | refine Agree.cons (.refl _) ?_), (by repeat first | exact List.Sublist.refl _ | apply List.Sublist.cons_cons | apply List.Sublist.cons | exact List.nil_sublist _)⟩
            ·
              refine AFin.pan (X := X) (fn := Tryz.f97) (R := (fun r L' => (∃ rows', rowPut rows (putParts l by_) = some rows' ∧ r = .ret (.tup []) ∧ L' = (mb, .map (encRow rows')) :: ((pB, .cells 24 [.slL by_]) :: (pL, .cells 62 [.slP l]) :: R)) ∨ (rowPut rows (putParts l by_) = none ∧ ∃ es', r = .pan (.iface 143 (.agg [])) ∧ L' = (mb, .map es') :: ((pB, .cells 24 [.slL by_]) :: (pL, .cells 62 [.slP l]) :: R)))) (L' := (mb, .map es2) :: ((pB, .cells 24 [.slL by_]) :: (pL, .cells 62 [.slP l]) :: R)) rfl (by repeat first | exact List.Sublist.refl _ | apply List.Sublist.cons_cons | apply List.Sublist.cons | exact List.nil_sublist _) ?_
              refine .inr ⟨?_, _, rfl, rfl⟩
              rw [← hg2, drop_getD hltj, List.map_cons, List.cons_append]
              exact rowPut_stop (show rowPut r2 [shiftP ((normM l).getD i default) _] = none from hnone)
          ·
            try simp only [decide_eq_true_eq, decide_eq_false_iff_not, Bool.not_eq_true', Bool.not_eq_false', Bool.and_eq_true, Bool.or_eq_true, beq_iff_eq, beq_eq_false_iff_ne] at h46
            refine ACode.exit ?_
            refine ACode.region ?_
            refine AOps.v rfl rfl rfl (AVal.addn rfl rfl (by omega)) ?_
            refine AOps.v rfl rfl rfl (AVal.moveN (by constructor)) ?_
            refine AOps.nil ?_
            refine ⟨(i + 1, r2), ⟨by simp only; omega, by simp only; rw [← hg2, List.drop_of_length_le (i := j) (by omega)]; rfl⟩, by simp only; omega, rfl, (by repeat first | exact Agree.nil | refine Agree.cons (.refl _) ?_), (by repeat first | exact List.Sublist.refl _ | apply List.Sublist.cons_cons | apply List.Sublist.cons | exact List.nil_sublist _)⟩
      ·
        try simp only [decide_eq_true_eq, decide_eq_false_iff_not, Bool.not_eq_true', Bool.not_eq_false', Bool.and_eq_true, Bool.or_eq_true, beq_iff_eq, beq_eq_false_iff_ne] at h27
        refine ACode.skip ?_
        refine ACode.seq ?_
        refine ACode.seq ?_
        refine ACode.region ?_
        refine AOps.v rfl rfl rfl (AVal.fieldP rfl rfl) ?_
        refine AOps.v rfl rfl rfl (AVal.loadPN 0 rfl rfl rfl rfl (by constructor)) ?_
        refine AOps.v rfl rfl rfl (AVal.len rfl rfl rfl) ?_
        refine AOps.v rfl rfl rfl (AVal.eql rfl rfl) ?_
        refine AOps.nil ?_
        refine ACode.condS rfl (fun h38 => ?_) (fun h38 => ?_)
        ·
          try simp only [decide_eq_true_eq, decide_eq_false_iff_not, Bool.not_eq_true', Bool.not_eq_false', Bool.and_eq_true, Bool.or_eq_true, beq_iff_eq, beq_eq_false_iff_ne] at h38
          refine ACode.region ?_
          refine AOps.v rfl rfl rfl (AVal.buildP rfl rfl rfl) ?_
          refine AOps.e rfl rfl rfl (AOp.buildSliceP (ts := [_]) rfl rfl rfl rfl rfl ?_)
          refine AOps.v rfl rfl rfl (AVal.build rfl rfl rfl) ?_
          refine AOps.e0 rfl rfl (AOp.storeN 0 rfl rfl rfl (by constructor) rfl rfl rfl (by repeat constructor) (by repeat constructor) ?_)
          refine AOps.nil ?_
          refine ACode.seq ?_
          refine ACode.region ?_
          refine AOps.v rfl rfl rfl (AVal.fieldP rfl rfl) ?_
          refine AOps.v rfl rfl rfl (AVal.loadPN 0 rfl rfl rfl rfl (by constructor)) ?_
          refine AOps.v rfl rfl rfl (AVal.len rfl rfl rfl) ?_
          refine AOps.v rfl rfl rfl (AVal.moveN (by constructor)) ?_
          refine AOps.nil ?_
          refine ACode.block ?_
          have hxo : xOf by_ ((normM l).getD i default) = [] := if_neg (by omega)
          have hx : xOf1 by_ ((normM l).getD i default) = [(⟨0, 0⟩ : Part)] := if_pos hxo
          have hxl : ([(⟨0, 0⟩ : Part)] : List Part).length ≤ 1048577 := (by simp)
          refine ACode.loop (γ := Nat × Rows) (fun g => [(1, .ptr pL 0), (2, .ptr pB 0), (3, .ptr b3 0), (5, .ptr b5 0), (6, .ptr b6 0), (11, .slP (normM l)), (12, .int .i64 (normM l).length), (13, .int .i64 i), (43, .slP [(⟨0, 0⟩ : Part)]), (44, .int .i64 ([(⟨0, 0⟩ : Part)] : List Part).length), (45, .int .i64 g.1)]) (fun g => (b6, .cells 62 [.slP [(⟨0, 0⟩ : Part)]]) :: (b5, .cells 64 (cellsP ((normM l).getD i default))) :: (b3, .cells 139 [.map mb]) :: (mb, .map (encRow g.2)) :: ((pB, .cells 24 [.slL by_]) :: (pL, .cells 62 [.slP l]) :: R)) (fun g => g.1 ≤ ([(⟨0, 0⟩ : Part)] : List Part).length ∧ rowPut g.2 ((([(⟨0, 0⟩ : Part)] : List Part).drop g.1).map (shiftP ((normM l).getD i default)) ++ ((normM l).drop (i + 1)).flatMap (fun p => (xOf1 by_ p).map (shiftP p))) = rowPut rows (putParts l by_)) (fun g => ([(⟨0, 0⟩ : Part)] : List Part).length - g.1) (0, r) ⟨Nat.zero_le _, by rw [← hg, drop_getD hlt, List.flatMap_cons, hx]; rfl⟩ (by repeat first | exact Agree.nil | refine Agree.cons (.refl _) ?_) (by repeat first | exact List.Sublist.refl _ | apply List.Sublist.cons_cons | apply List.Sublist.cons | exact List.nil_sublist _) ?_
          rintro ⟨j, r2⟩ ⟨hj, hg2⟩ t2
          simp only at hj hg2 ⊢
          refine ACode.seq ?_
          refine ACode.region ?_
          refine AOps.v rfl rfl rfl (AVal.lss rfl rfl) ?_
          refine AOps.nil ?_
          refine ACode.seq ?_
          refine ACode.condS rfl (fun h46 => ?_) (fun h46 => ?_)
          ·
            try simp only [decide_eq_true_eq, decide_eq_false_iff_not, Bool.not_eq_true', Bool.not_eq_false', Bool.and_eq_true, Bool.or_eq_true, beq_iff_eq, beq_eq_false_iff_ne] at h46
            have hltj := Int.ofNat_lt.1 h46
            refine ACode.skip ?_
            refine ACode.seq ?_
            refine ACode.block ?_
            refine ACode.seq ?_
            refine ACode.region ?_
            refine AOps.v rfl rfl rfl (AVal.indexPK rfl rfl rfl rfl rfl (by omega)) ?_
            refine AOps.v rfl rfl rfl (AVal.loadE (d := encP _) rfl rfl rfl) ?_
            refine AOps.e rfl rfl rfl (AOp.allocN rfl rfl (fun b8 => ?_))
            refine AOps.e0 rfl rfl (AOp.storeN 0 rfl rfl rfl (by constructor) rfl rfl rfl (by repeat constructor) (by repeat constructor) ?_)
            refine AOps.nil ?_
            refine ACode.region ?_
            refine AOps.v rfl rfl rfl (AVal.fieldP rfl rfl) ?_
            refine AOps.v rfl rfl rfl (AVal.loadPN 3 rfl rfl rfl rfl (by constructor)) ?_
            refine AOps.v rfl rfl rfl (AVal.fieldP rfl rfl) ?_
            refine AOps.v rfl rfl rfl (AVal.loadPN 0 rfl rfl rfl rfl (by constructor)) ?_
            refine AOps.v rfl rfl rfl (AVal.fieldP rfl rfl) ?_
            refine AOps.v rfl rfl rfl (AVal.loadPN 0 rfl rfl rfl rfl (by constructor)) ?_
            refine AOps.v rfl rfl rfl (AVal.fieldP rfl rfl) ?_
            refine AOps.v rfl rfl rfl (AVal.loadPN 2 rfl rfl rfl rfl (by constructor)) ?_
            refine AOps.v rfl rfl rfl (AVal.add rfl rfl) ?_
            refine AOps.v rfl rfl rfl (AVal.buildP rfl rfl rfl) ?_
            refine AOps.e rfl rfl rfl (AOp.buildSliceP (ts := [_]) rfl rfl rfl rfl rfl ?_)
            refine AOps.e rfl rfl rfl (callRow [_, _, _, _] _ (by simp) rfl rfl (fun rows2 hrow => ?_) (fun hnone es2 => ?_))
            ·
              refine AOps.nil ?_
              refine ACode.region ?_
              refine AOps.v rfl rfl rfl (AVal.addn rfl rfl (by omega)) ?_
              refine AOps.v rfl rfl rfl (AVal.moveN (by constructor)) ?_
              refine AOps.nil ?_
              refine ⟨(j + 1, rows2), ⟨by simp only; omega, by simp only; rw [← hg2, drop_getD hltj, List.map_cons, List.cons_append]; exact (rowPut_step (show rowPut r2 [shiftP ((normM l).getD i default) (([(⟨0, 0⟩ : Part)] : List Part).getD j default)] = some rows2 from hrow)).symm⟩, by simp only; omega, rfl, (by repeat first | exact Agree.nil | refine Agree.cons (.refl _) ?_), (by repeat first | exact List.Sublist.refl _ | apply List.Sublist.cons_cons | apply List.Sublist.cons | exact List.nil_sublist _)⟩
            ·
              refine AFin.pan (X := X) (fn := Tryz.f97) (R := (fun r L' => (∃ rows', rowPut rows (putParts l by_) = some rows' ∧ r = .ret (.tup []) ∧ L' = (mb, .map (encRow rows')) :: ((pB, .cells 24 [.slL by_]) :: (pL, .cells 62 [.slP l]) :: R)) ∨ (rowPut rows (putParts l by_) = none ∧ ∃ es', r = .pan (.iface 143 (.agg [])) ∧ L' = (mb, .map es') :: ((pB, .cells 24 [.slL by_]) :: (pL, .cells 62 [.slP l]) :: R)))) (L' := (mb, .map es2) :: ((pB, .cells 24 [.slL by_]) :: (pL, .cells 62 [.slP l]) :: R)) rfl (by repeat first | exact List.Sublist.refl _ | apply List.Sublist.cons_cons | apply List.Sublist.cons | exact List.nil_sublist _) ?_
              refine .inr ⟨?_, _, rfl, rfl⟩
              rw [← hg2, drop_getD hltj, List.map_cons, List.cons_append]
              exact rowPut_stop (show rowPut r2 [shiftP ((normM l).getD i default) _] = none from hnone)
          ·
            try simp only [decide_eq_true_eq, decide_eq_false_iff_not, Bool.not_eq_true', Bool.not_eq_false', Bool.and_eq_true, Bool.or_eq_true, beq_iff_eq, beq_eq_false_iff_ne] at h46
            refine ACode.exit ?_
            refine ACode.region ?_
            refine AOps.v rfl rfl rfl (AVal.addn rfl rfl (by omega)) ?_
            refine AOps.v rfl rfl rfl (AVal.moveN (by constructor)) ?_
            refine AOps.nil ?_
            refine ⟨(i + 1, r2), ⟨by simp only; omega, by simp only; rw [← hg2, List.drop_of_length_le (i := j) (by omega)]; rfl⟩, by simp only; omega, rfl, (by repeat first | exact Agree.nil | refine Agree.cons (.refl _) ?_), (by repeat first | exact List.Sublist.refl _ | apply List.Sublist.cons_cons | apply List.Sublist.cons | exact List.nil_sublist _)⟩
        ·
          try simp only [decide_eq_true_eq, decide_eq_false_iff_not, Bool.not_eq_true', Bool.not_eq_false', Bool.and_eq_true, Bool.or_eq_true, beq_iff_eq, beq_eq_false_iff_ne] at h38
          exact absurd rfl h38 --END
    ·
      try simp only [decide_eq_true_eq, decide_eq_false_iff_not, Bool.not_eq_true', Bool.not_eq_false', Bool.and_eq_true, Bool.or_eq_true, beq_iff_eq, beq_eq_false_iff_ne] at h21
      refine AOps.vF rfl rfl rfl rfl rfl rfl rfl ?_
      refine AOps.vF rfl rfl rfl rfl rfl rfl rfl ?_
      refine AOps.vF rfl rfl rfl rfl rfl rfl rfl ?_
      refine AOps.vF rfl rfl rfl rfl rfl rfl rfl ?_
      refine AOps.vF rfl rfl rfl rfl rfl rfl rfl ?_
      refine AOps.v rfl rfl rfl (AVal.pickF rfl (by constructor)) ?_
      refine AOps.nil ?_
      refine ACode.condF rfl ?_
      refine ACode.skip ?_
      refine ACode.seq ?_
      refine ACode.seq ?_
      refine ACode.region ?_
      refine AOps.v rfl rfl rfl (AVal.fieldP rfl rfl) ?_
      refine AOps.v rfl rfl rfl (AVal.loadPN 0 rfl rfl rfl rfl (by constructor)) ?_
      refine AOps.v rfl rfl rfl (AVal.len rfl rfl rfl) ?_
      refine AOps.v rfl rfl rfl (AVal.eql rfl rfl) ?_
      refine AOps.nil ?_
      refine ACode.condS rfl (fun h38 => ?_) (fun h38 => ?_)
      ·
        try simp only [decide_eq_true_eq, decide_eq_false_iff_not, Bool.not_eq_true', Bool.not_eq_false', Bool.and_eq_true, Bool.or_eq_true, beq_iff_eq, beq_eq_false_iff_ne] at h38
        refine ACode.region ?_
        refine AOps.v rfl rfl rfl (AVal.buildP rfl rfl rfl) ?_
        refine AOps.e rfl rfl rfl (AOp.buildSliceP (ts := [_]) rfl rfl rfl rfl rfl ?_)
        refine AOps.v rfl rfl rfl (AVal.build rfl rfl rfl) ?_
        refine AOps.e0 rfl rfl (AOp.storeN 0 rfl rfl rfl (by constructor) rfl rfl rfl (by repeat constructor) (by repeat constructor) ?_)
        refine AOps.nil ?_
        refine ACode.seq ?_
        refine ACode.region ?_
        refine AOps.v rfl rfl rfl (AVal.fieldP rfl rfl) ?_
        refine AOps.v rfl rfl rfl (AVal.loadPN 0 rfl rfl rfl rfl (by constructor)) ?_
        refine AOps.v rfl rfl rfl (AVal.len rfl rfl rfl) ?_
        refine AOps.v rfl rfl rfl (AVal.moveN (by constructor)) ?_
        refine AOps.nil ?_
        refine ACode.block ?_
        have hxo : xOf by_ ((normM l).getD i default) = [] := if_neg (by omega)
        have hx : xOf1 by_ ((normM l).getD i default) = [(⟨0, 0⟩ : Part)] := if_pos hxo
        have hxl : ([(⟨0, 0⟩ : Part)] : List Part).length ≤ 1048577 := (by simp)
        refine ACode.loop (γ := Nat × Rows) (fun g => [(1, .ptr pL 0), (2, .ptr pB 0), (3, .ptr b3 0), (5, .ptr b5 0), (6, .ptr b6 0), (11, .slP (normM l)), (12, .int .i64 (normM l).length), (13, .int .i64 i), (43, .slP [(⟨0, 0⟩ : Part)]), (44, .int .i64 ([(⟨0, 0⟩ : Part)] : List Part).length), (45, .int .i64 g.1)]) (fun g => (b6, .cells 62 [.slP [(⟨0, 0⟩ : Part)]]) :: (b5, .cells 64 (cellsP ((normM l).getD i default))) :: (b3, .cells 139 [.map mb]) :: (mb, .map (encRow g.2)) :: ((pB, .cells 24 [.slL by_]) :: (pL, .cells 62 [.slP l]) :: R)) (fun g => g.1 ≤ ([(⟨0, 0⟩ : Part)] : List Part).length ∧ rowPut g.2 ((([(⟨0, 0⟩ : Part)] : List Part).drop g.1).map (shiftP ((normM l).getD i default)) ++ ((normM l).drop (i + 1)).flatMap (fun p => (xOf1 by_ p).map (shiftP p))) = rowPut rows (putParts l by_)) (fun g => ([(⟨0, 0⟩ : Part)] : List Part).length - g.1) (0, r) ⟨Nat.zero_le _, by rw [← hg, drop_getD hlt, List.flatMap_cons, hx]; rfl⟩ (by repeat first | exact Agree.nil | refine Agree.cons (.refl _) ?_) (by repeat first | exact List.Sublist.refl _ | apply List.Sublist.cons_cons | apply List.Sublist.cons | exact List.nil_sublist _) ?_
        rintro ⟨j, r2⟩ ⟨hj, hg2⟩ t2
        simp only at hj hg2 ⊢
        refine ACode.seq ?_
        refine ACode.region ?_
        refine AOps.v rfl rfl rfl (AVal.lss rfl rfl) ?_
        refine AOps.nil ?_
        refine ACode.seq ?_
        refine ACode.condS rfl (fun h46 => ?_) (fun h46 => ?_)
        ·
          try simp only [decide_eq_true_eq, decide_eq_false_iff_not, Bool.not_eq_true', Bool.not_eq_false', Bool.and_eq_true, Bool.or_eq_true, beq_iff_eq, beq_eq_false_iff_ne] at h46
          have hltj := Int.ofNat_lt.1 h46
          refine ACode.skip ?_
          refine ACode.seq ?_
          refine ACode.block ?_
          refine ACode.seq ?_
          refine ACode.region ?_
          refine AOps.v rfl rfl rfl (AVal.indexPK rfl rfl rfl rfl rfl (by omega)) ?_
          refine AOps.v rfl rfl rfl (AVal.loadE (d := encP _) rfl rfl rfl) ?_
          refine AOps.e rfl rfl rfl (AOp.allocN rfl rfl (fun b8 => ?_))
          refine AOps.e0 rfl rfl (AOp.storeN 0 rfl rfl rfl (by constructor) rfl rfl rfl (by repeat constructor) (by repeat constructor) ?_)
          refine AOps.nil ?_
          refine ACode.region ?_
          refine AOps.v rfl rfl rfl (AVal.fieldP rfl rfl) ?_
          refine AOps.v rfl rfl rfl (AVal.loadPN 3 rfl rfl rfl rfl (by constructor)) ?_
          refine AOps.v rfl rfl rfl (AVal.fieldP rfl rfl) ?_
          refine AOps.v rfl rfl rfl (AVal.loadPN 0 rfl rfl rfl rfl (by constructor)) ?_
          refine AOps.v rfl rfl rfl (AVal.fieldP rfl rfl) ?_
          refine AOps.v rfl rfl rfl (AVal.loadPN 0 rfl rfl rfl rfl (by constructor)) ?_
          refine AOps.v rfl rfl rfl (AVal.fieldP rfl rfl) ?_
          refine AOps.v rfl rfl rfl (AVal.loadPN 2 rfl rfl rfl rfl (by constructor)) ?_
          refine AOps.v rfl rfl rfl (AVal.add rfl rfl) ?_
          refine AOps.v rfl rfl rfl (AVal.buildP rfl rfl rfl) ?_
          refine AOps.e rfl rfl rfl (AOp.buildSliceP (ts := [_]) rfl rfl rfl rfl rfl ?_)
          refine AOps.e rfl rfl rfl (callRow [_, _, _, _] _ (by simp) rfl rfl (fun rows2 hrow => ?_) (fun hnone es2 => ?_))
          ·
            refine AOps.nil ?_
            refine ACode.region ?_
            refine AOps.v rfl rfl rfl (AVal.addn rfl rfl (by omega)) ?_
            refine AOps.v rfl rfl rfl (AVal.moveN (by constructor)) ?_
            refine AOps.nil ?_
            refine ⟨(j + 1, rows2), ⟨by simp only; omega, by simp only; rw [← hg2, drop_getD hltj, List.map_cons, List.cons_append]; exact (rowPut_step (show rowPut r2 [shiftP ((normM l).getD i default) (([(⟨0, 0⟩ : Part)] : List Part).getD j default)] = some rows2 from hrow)).symm⟩, by simp only; omega, rfl, (by repeat first | exact Agree.nil | refine Agree.cons (.refl _) ?_), (by repeat first | exact List.Sublist.refl _ | apply List.Sublist.cons_cons | apply List.Sublist.cons | exact List.nil_sublist _)⟩
          ·
            refine AFin.pan (X := X) (fn := Tryz.f97) (R := (fun r L' => (∃ rows', rowPut rows (putParts l by_) = some rows' ∧ r = .ret (.tup []) ∧ L' = (mb, .map (encRow rows')) :: ((pB, .cells 24 [.slL by_]) :: (pL, .cells 62 [.slP l]) :: R)) ∨ (rowPut rows (putParts l by_) = none ∧ ∃ es', r = .pan (.iface 143 (.agg [])) ∧ L' = (mb, .map es') :: ((pB, .cells 24 [.slL by_]) :: (pL, .cells 62 [.slP l]) :: R)))) (L' := (mb, .map es2) :: ((pB, .cells 24 [.slL by_]) :: (pL, .cells 62 [.slP l]) :: R)) rfl (by repeat first | exact List.Sublist.refl _ | apply List.Sublist.cons_cons | apply List.Sublist.cons | exact List.nil_sublist _) ?_
            refine .inr ⟨?_, _, rfl, rfl⟩
            rw [← hg2, drop_getD hltj, List.map_cons, List.cons_append]
            exact rowPut_stop (show rowPut r2 [shiftP ((normM l).getD i default) _] = none from hnone)
        ·
          try simp only [decide_eq_true_eq, decide_eq_false_iff_not, Bool.not_eq_true', Bool.not_eq_false', Bool.and_eq_true, Bool.or_eq_true, beq_iff_eq, beq_eq_false_iff_ne] at h46
          refine ACode.exit ?_
          refine ACode.region ?_
          refine AOps.v rfl rfl rfl (AVal.addn rfl rfl (by omega)) ?_
          refine AOps.v rfl rfl rfl (AVal.moveN (by constructor)) ?_
          refine AOps.nil ?_
          refine ⟨(i + 1, r2), ⟨by simp only; omega, by simp only; rw [← hg2, List.drop_of_length_le (i := j) (by omega)]; rfl⟩, by simp only; omega, rfl, (by repeat first | exact Agree.nil | refine Agree.cons (.refl _) ?_), (by repeat first | exact List.Sublist.refl _ | apply List.Sublist.cons_cons | apply List.Sublist.cons | exact List.nil_sublist _)⟩
      ·
        try simp only [decide_eq_true_eq, decide_eq_false_iff_not, Bool.not_eq_true', Bool.not_eq_false', Bool.and_eq_true, Bool.or_eq_true, beq_iff_eq, beq_eq_false_iff_ne] at h38
        exact absurd rfl h38 --END
  ·
    try simp only [decide_eq_true_eq, decide_eq_false_iff_not, Bool.not_eq_true', Bool.not_eq_false', Bool.and_eq_true, Bool.or_eq_true, beq_iff_eq, beq_eq_false_iff_ne] at h14
    refine ACode.exit ?_
    refine AFin.end (X := X) (fn := Tryz.f97) (R := (fun r L' => (∃ rows', rowPut rows (putParts l by_) = some rows' ∧ r = .ret (.tup []) ∧ L' = (mb, .map (encRow rows')) :: ((pB, .cells 24 [.slL by_]) :: (pL, .cells 62 [.slP l]) :: R)) ∨ (rowPut rows (putParts l by_) = none ∧ ∃ es', r = .pan (.iface 143 (.agg [])) ∧ L' = (mb, .map es') :: ((pB, .cells 24 [.slL by_]) :: (pL, .cells 62 [.slP l]) :: R)))) (L' := (mb, .map (encRow r)) :: ((pB, .cells 24 [.slL by_]) :: (pL, .cells 62 [.slP l]) :: R)) rfl .nil (by repeat first | exact List.Sublist.refl _ | apply List.Sublist.cons_cons | apply List.Sublist.cons | exact List.nil_sublist _) (.refl _) ?_
    refine .inl ⟨r, ?_, rfl, rfl⟩
    rw [← hg, List.drop_of_length_le (by omega), List.flatMap_nil, rowPut]

theorem levelPut_c (hS : SortedOk) (l : Level) (by_ : List Level) (hl : l.length ≤ 9223372036854775807) (hb : by_.length ≤ 9223372036854775807) (hp : ∀ x ∈ by_, x.length ≤ 9223372036854775807) : AFn X 93 [encL l, .slL by_] (encL (levelPutM l by_)) := by
  refine ACalls.of_code Tryz.func93 rfl (by rfl) (Nat.le_of_ble_eq_true rfl) ?_
  refine ACode.seq ?_
  refine ACode.region ?_
  refine AOps.e rfl rfl rfl (AOp.boxA rfl (fun b2 => ?_))
  refine AOps.e rfl rfl rfl (AOp.box1 (by constructor) rfl rfl (fun b3 => ?_))
  refine AOps.e rfl rfl rfl (AOp.allocN rfl rfl (fun b4 => ?_))
  refine AOps.nil ?_
  refine ACode.seq ?_
  refine ACode.region ?_
  refine AOps.v rfl rfl rfl (AVal.makeFunc) ?_
  refine AOps.e rfl rfl rfl (AOp.callK [_] (made_c hS (fun mb => put1L_c hS mb b2 b3 [] l by_ _ hl hb hp) (fun r h => RowsOk.nil.put h)) (LeL.eq rfl) rfl ?_)
  refine AOps.e0 rfl rfl (AOp.storeN 0 rfl rfl rfl (by constructor) rfl rfl rfl (by repeat constructor) (by repeat constructor) ?_)
  refine AOps.nil ?_
  refine ACode.ret ?_
  refine AFin.pureRet rfl (.cons (by first | exact ARead.box (d := encL _) 0 rfl rfl rfl rfl | exact ARead.box (d := encL _) 1 rfl rfl rfl rfl | exact ARead.box (d := encL _) 2 rfl rfl rfl rfl | exact ARead.box (d := encL _) 3 rfl rfl rfl rfl | exact ARead.box (d := encL _) 4 rfl rfl rfl rfl | exact ARead.box (d := encL _) 5 rfl rfl rfl rfl | exact ARead.box (d := encL _) 6 rfl rfl rfl rfl | exact ARead.box (d := encL _) 7 rfl rfl rfl rfl | exact ARead.box 0 rfl rfl rfl rfl | exact ARead.box 1 rfl rfl rfl rfl | exact ARead.box 2 rfl rfl rfl rfl | exact ARead.box 3 rfl rfl rfl rfl | exact ARead.box 4 rfl rfl rfl rfl | exact ARead.box 5 rfl rfl rfl rfl | exact ARead.box 6 rfl rfl rfl rfl | exact ARead.box 7 rfl rfl rfl rfl) .nil) ?_
  exact .refl _

end Sp

/- The walks of levels within terms; definitions. Written by a program of mine. -/
set_option linter.unusedVariables false
set_option linter.unusedSimpArgs false
set_option maxRecDepth 20000
namespace Sp
open Go Go.Proofs

theorem levels1_c (hS : SortedOk) (by_ : List Level) (b : Int) (t : Term) (F : D) (hF : F.one = true) (b3c : Nat) (R : Loc) (hf : t.fit 1099511627776) (hb : by_.length ≤ 9223372036854775807) (hp : ∀ x ∈ by_, x.length ≤ 9223372036854775807) : AKeep X 92 [.agg [.int .i64 b, F], encT t, .ptr b3c 0] ((b3c, .cells 24 [.slL by_]) :: R) (.tup [encT (levelsG by_ b t), .bool (no b t)]) := by
  refine ACalls.of_code Tryz.func92 rfl (by rfl) (Nat.le_of_ble_eq_true rfl) ?_
  refine ACode.seq ?_
  refine ACode.region ?_
  refine AOps.e rfl rfl rfl (AOp.boxA rfl (fun b3 => ?_))
  refine AOps.e rfl rfl rfl (AOp.boxA rfl (fun b4 => ?_))
  refine AOps.e rfl rfl rfl (AOp.allocN rfl rfl (fun b5 => ?_))
  refine AOps.v rfl rfl rfl (AVal.assignN (by constructor)) ?_
  refine AOps.nil ?_
  refine ACode.seq ?_
  refine ACode.region ?_
  refine AOps.v rfl rfl rfl (AVal.fieldP rfl rfl) ?_
  refine AOps.v rfl rfl rfl (AVal.loadPN 1 rfl rfl rfl rfl (by constructor)) ?_
  refine AOps.v rfl rfl rfl (AVal.assignN (by constructor)) ?_
  refine AOps.nil ?_
  refine ACode.seq ?_
  refine ACode.region ?_
  refine AOps.v rfl rfl rfl (AVal.fieldP rfl rfl) ?_
  refine AOps.e0 rfl rfl (AOp.storeN 1 rfl rfl rfl (by constructor) rfl rfl rfl (by repeat constructor) (by repeat constructor) ?_)
  refine AOps.nil ?_
  refine ACode.seq ?_
  refine ACode.seq ?_
  refine ACode.region ?_
  refine AOps.v rfl rfl rfl (AVal.moveN (by constructor)) ?_
  refine AOps.v rfl rfl rfl (AVal.len rfl rfl rfl) ?_
  refine AOps.v rfl rfl rfl (AVal.moveN (by constructor)) ?_
  refine AOps.nil ?_
  refine ACode.block ?_
  have hlen := hf.llen
  refine ACode.loop (γ := Nat × Nat × Nat) (fun g => [(2, .ptr b3c 0), (4, .ptr b4 0), (5, .ptr b5 0), (13, .slL t.levels), (14, .int .i64 t.levels.length), (15, .int .i64 g.1)]) (fun g => growL 62 1 g.1 g.2.1 g.2.2 (((t.levels.take g.1).map (fun l => levelPutM l by_)).map encL) ++ ((b5, .cells 27 [.int .i64 0, .int .i64 0, .int .i64 0, .emp, .emp]) :: (b4, .cells 27 [.int .i64 t.kind, .int .i64 t.num, .int .i64 t.at_, (growD g.1 g.2.1 g.2.2 (((t.levels.take g.1).map (fun l => levelPutM l by_)).map encL)), .slT t.kids]) :: (b3c, .cells 24 [.slL by_]) :: R)) (fun g => g.1 ≤ t.levels.length) (fun g => t.levels.length - g.1) (0, 0, 0) (Nat.zero_le _) (by repeat first | exact Agree.nil | refine Agree.cons (.refl _) ?_) (by repeat first | exact List.Sublist.refl _ | apply List.Sublist.cons_cons | apply List.Sublist.cons | exact List.nil_sublist _) ?_
  rintro ⟨i, bb, cap⟩ hi t1
  simp only at hi ⊢
  rcases i with _ | i
  ·
    simp only [growL, growD, List.nil_append]
    refine ACode.seq ?_
    refine ACode.region ?_
    refine AOps.v rfl rfl rfl (AVal.lss rfl rfl) ?_
    refine AOps.nil ?_
    refine ACode.seq ?_
    refine ACode.condS rfl (fun h16 => ?_) (fun h16 => ?_)
    ·
      try simp only [decide_eq_true_eq, decide_eq_false_iff_not, Bool.not_eq_true', Bool.not_eq_false', Bool.and_eq_true, Bool.or_eq_true, beq_iff_eq, beq_eq_false_iff_ne] at h16
      have hlt : (0 : Nat) < t.levels.length := by omega
      have hmem : t.levels.getD (0) default ∈ t.levels := getD_mem hlt
      refine ACode.skip ?_
      refine ACode.seq ?_
      refine ACode.block ?_
      refine ACode.seq ?_
      refine ACode.region ?_
      refine AOps.v rfl rfl rfl (AVal.indexLN rfl rfl rfl rfl rfl ⟨by omega, by omega⟩) ?_
      refine AOps.v rfl rfl rfl (AVal.loadE (d := encL _) rfl rfl rfl) ?_
      refine AOps.e rfl rfl rfl (AOp.allocN rfl rfl (fun b9 => ?_))
      refine AOps.e0 rfl rfl (AOp.storeN 0 rfl rfl rfl (by constructor) rfl rfl rfl (by repeat constructor) (by repeat constructor) ?_)
      refine AOps.nil ?_
      refine ACode.draws [.p 0, .l 1, .l 2, .l 3, .p 4, .p 5, .e 6 [], .p 7, .e 8 []] mixed (by kernel_rfl) ?_
      refine ASeq.pv rfl rfl rfl rfl (fun L0 => (AVal.fieldP rfl rfl)) ?_
      refine ASeq.lv rfl rfl rfl rfl (HasCell.mk 2 rfl rfl (by constructor)) ?_
      refine ASeq.lv rfl rfl rfl rfl (HasCell.mk (d := encL _) 0 rfl rfl (.refl _)) ?_
      refine ASeq.lv rfl rfl rfl rfl (HasCell.mk 3 rfl rfl (by constructor)) ?_
      refine ASeq.pe rfl rfl rfl rfl (fun L0 => (AOp.callP (levelPut_c hS (t.levels.getD (0) default) by_ (by have := hf.plen hmem; omega) hb hp) (by first | exact LeL.eq rfl | (repeat constructor)) ⟨rfl, rfl⟩)) ?_
      refine ASeq.pe rfl rfl rfl rfl (fun L0 => (AOp.buildSliceL (ts := [_]) rfl rfl rfl rfl rfl ⟨rfl, rfl⟩)) ?_
      refine ASeq.ee rfl rfl rfl rfl rfl (AOp.app1New rfl rfl rfl rfl rfl rfl rfl rfl (fun bq cap' => ⟨(by first | exact Keeps.nil | (repeat first | exact Keeps.nil | refine Keeps.cons (by first | exact HasCell.mk 0 rfl rfl (.refl _) | exact HasCell.mk 1 rfl rfl (.refl _) | exact HasCell.mk 2 rfl rfl (.refl _) | exact HasCell.mk 3 rfl rfl (.refl _) | exact HasCell.mk 4 rfl rfl (.refl _) | exact HasCell.mk 5 rfl rfl (.refl _) | exact HasCell.mk 6 rfl rfl (.refl _) | exact HasCell.mk 7 rfl rfl (.refl _)) ?_)), ?_⟩))
      refine ASeq.pv rfl rfl rfl rfl (fun L0 => (AVal.fieldP rfl rfl)) ?_
      refine ASeq.ee0 rfl rfl rfl rfl (AOp.storeN 3 rfl rfl rfl (by constructor) rfl rfl rfl (by repeat constructor) (by repeat constructor) ⟨(by first | exact Keeps.nil | (repeat first | exact Keeps.nil | refine Keeps.cons (by first | exact HasCell.mk 0 rfl rfl (.refl _) | exact HasCell.mk 1 rfl rfl (.refl _) | exact HasCell.mk 2 rfl rfl (.refl _) | exact HasCell.mk 3 rfl rfl (.refl _) | exact HasCell.mk 4 rfl rfl (.refl _) | exact HasCell.mk 5 rfl rfl (.refl _) | exact HasCell.mk 6 rfl rfl (.refl _) | exact HasCell.mk 7 rfl rfl (.refl _)) ?_)), ?_⟩)
      refine ASeq.nil ?_
      refine ACode.region ?_
      refine AOps.v rfl rfl rfl (AVal.addn rfl rfl (by omega)) ?_
      refine AOps.v rfl rfl rfl (AVal.moveN (by constructor)) ?_
      refine AOps.nil ?_
      refine ⟨(0 + 1, bq, cap'), by simp only; omega, by simp only; omega, rfl, (by repeat first | exact Agree.nil | refine Agree.cons (.refl _) ?_), ?_⟩
      simp only [growL, growD, List.cons_append, List.nil_append, take_succ_getD hlt, List.map_append, List.map_cons, List.map_nil]
      exact (by repeat first | exact List.Sublist.refl _ | apply List.Sublist.cons_cons | apply List.Sublist.cons | exact List.nil_sublist _)
    ·
      try simp only [decide_eq_true_eq, decide_eq_false_iff_not, Bool.not_eq_true', Bool.not_eq_false', Bool.and_eq_true, Bool.or_eq_true, beq_iff_eq, beq_eq_false_iff_ne] at h16
      refine ACode.exit ?_
      refine ACode.seq ?_
      refine ACode.region ?_
      refine AOps.v rfl rfl rfl (AVal.loadPN 1 rfl rfl rfl rfl (by constructor)) ?_
      refine AOps.e0 rfl rfl (AOp.storeN 0 rfl rfl rfl (by constructor) rfl rfl rfl (by repeat constructor) (by repeat constructor) ?_)
      refine AOps.v rfl rfl rfl (AVal.assignN (by constructor)) ?_
      refine AOps.nil ?_
      refine ACode.ret ?_
      refine AFin.keepRet rfl (.cons (by first | exact ARead.box (d := encT _) 0 rfl rfl rfl rfl | exact ARead.box (d := encT _) 1 rfl rfl rfl rfl | exact ARead.box (d := encT _) 2 rfl rfl rfl rfl | exact ARead.box (d := encT _) 3 rfl rfl rfl rfl | exact ARead.box (d := encT _) 4 rfl rfl rfl rfl | exact ARead.box (d := encT _) 5 rfl rfl rfl rfl | exact ARead.box (d := encT _) 6 rfl rfl rfl rfl | exact ARead.box (d := encT _) 7 rfl rfl rfl rfl | exact ARead.box 0 rfl rfl rfl rfl | exact ARead.box 1 rfl rfl rfl rfl | exact ARead.box 2 rfl rfl rfl rfl | exact ARead.box 3 rfl rfl rfl rfl | exact ARead.box 4 rfl rfl rfl rfl | exact ARead.box 5 rfl rfl rfl rfl | exact ARead.box 6 rfl rfl rfl rfl | exact ARead.box 7 rfl rfl rfl rfl) (.cons rfl .nil)) (by repeat first | exact List.Sublist.refl _ | apply List.Sublist.cons_cons | apply List.Sublist.cons) ?_
      exact tupLe (.cons (leT' .emp (.slT _) (by unfold levelsG; rw [List.eq_nil_of_length_eq_zero (by omega : t.levels.length = 0)]; rfl)) (.cons (.refl _) .nil))
  ·
    simp only [growL, growD, List.cons_append, List.nil_append]
    refine ACode.seq ?_
    refine ACode.region ?_
    refine AOps.v rfl rfl rfl (AVal.lss rfl rfl) ?_
    refine AOps.nil ?_
    refine ACode.seq ?_
    refine ACode.condS rfl (fun h16 => ?_) (fun h16 => ?_)
    ·
      try simp only [decide_eq_true_eq, decide_eq_false_iff_not, Bool.not_eq_true', Bool.not_eq_false', Bool.and_eq_true, Bool.or_eq_true, beq_iff_eq, beq_eq_false_iff_ne] at h16
      have hlt : (i + 1 : Nat) < t.levels.length := by omega
      have hmem : t.levels.getD (i + 1) default ∈ t.levels := getD_mem hlt
      refine ACode.skip ?_
      refine ACode.seq ?_
      refine ACode.block ?_
      refine ACode.seq ?_
      refine ACode.region ?_
      refine AOps.v rfl rfl rfl (AVal.indexLN rfl rfl rfl rfl rfl ⟨by omega, by omega⟩) ?_
      refine AOps.v rfl rfl rfl (AVal.loadE (d := encL _) rfl rfl rfl) ?_
      refine AOps.e rfl rfl rfl (AOp.allocN rfl rfl (fun b9 => ?_))
      refine AOps.e0 rfl rfl (AOp.storeN 0 rfl rfl rfl (by constructor) rfl rfl rfl (by repeat constructor) (by repeat constructor) ?_)
      refine AOps.nil ?_
      refine ACode.draws [.p 0, .l 1, .l 2, .l 3, .p 4, .p 5, .e 6 [], .p 7, .e 8 []] mixed (by kernel_rfl) ?_
      refine ASeq.pv rfl rfl rfl rfl (fun L0 => (AVal.fieldP rfl rfl)) ?_
      refine ASeq.lv rfl rfl rfl rfl (HasCell.mk 3 rfl rfl (by constructor)) ?_
      refine ASeq.lv rfl rfl rfl rfl (HasCell.mk (d := encL _) 0 rfl rfl (.refl _)) ?_
      refine ASeq.lv rfl rfl rfl rfl (HasCell.mk 4 rfl rfl (by constructor)) ?_
      refine ASeq.pe rfl rfl rfl rfl (fun L0 => (AOp.callP (levelPut_c hS (t.levels.getD (i + 1) default) by_ (by have := hf.plen hmem; omega) hb hp) (by first | exact LeL.eq rfl | (repeat constructor)) ⟨rfl, rfl⟩)) ?_
      refine ASeq.pe rfl rfl rfl rfl (fun L0 => (AOp.buildSliceL (ts := [_]) rfl rfl rfl rfl rfl ⟨rfl, rfl⟩)) ?_
      refine ASeq.ee rfl rfl rfl rfl rfl (AOp.app1Own 1 rfl rfl rfl rfl rfl rfl rfl rfl rfl (by simp only [List.length_map, List.length_take]; have := hf.llen; omega) rfl (by repeat constructor) (fun bq cap' => ⟨(by first | exact Keeps.nil | (repeat first | exact Keeps.nil | refine Keeps.cons (by first | exact HasCell.mk 0 rfl rfl (.refl _) | exact HasCell.mk 1 rfl rfl (.refl _) | exact HasCell.mk 2 rfl rfl (.refl _) | exact HasCell.mk 3 rfl rfl (.refl _) | exact HasCell.mk 4 rfl rfl (.refl _) | exact HasCell.mk 5 rfl rfl (.refl _) | exact HasCell.mk 6 rfl rfl (.refl _) | exact HasCell.mk 7 rfl rfl (.refl _)) ?_)), ?_⟩))
      refine ASeq.pv rfl rfl rfl rfl (fun L0 => (AVal.fieldP rfl rfl)) ?_
      refine ASeq.ee0 rfl rfl rfl rfl (AOp.storeN 3 rfl rfl rfl (by constructor) rfl rfl rfl (by repeat constructor) (by repeat constructor) ⟨(by first | exact Keeps.nil | (repeat first | exact Keeps.nil | refine Keeps.cons (by first | exact HasCell.mk 0 rfl rfl (.refl _) | exact HasCell.mk 1 rfl rfl (.refl _) | exact HasCell.mk 2 rfl rfl (.refl _) | exact HasCell.mk 3 rfl rfl (.refl _) | exact HasCell.mk 4 rfl rfl (.refl _) | exact HasCell.mk 5 rfl rfl (.refl _) | exact HasCell.mk 6 rfl rfl (.refl _) | exact HasCell.mk 7 rfl rfl (.refl _)) ?_)), ?_⟩)
      refine ASeq.nil ?_
      refine ACode.region ?_
      refine AOps.v rfl rfl rfl (AVal.addn rfl rfl (by omega)) ?_
      refine AOps.v rfl rfl rfl (AVal.moveN (by constructor)) ?_
      refine AOps.nil ?_
      refine ⟨(i + 1 + 1, bq, cap'), by simp only; omega, by simp only; omega, rfl, (by repeat first | exact Agree.nil | refine Agree.cons (.refl _) ?_), ?_⟩
      simp only [growL, growD, List.cons_append, List.nil_append, take_succ_getD hlt, List.map_append, List.map_cons, List.map_nil]
      exact (by repeat first | exact List.Sublist.refl _ | apply List.Sublist.cons_cons | apply List.Sublist.cons | exact List.nil_sublist _)
    ·
      try simp only [decide_eq_true_eq, decide_eq_false_iff_not, Bool.not_eq_true', Bool.not_eq_false', Bool.and_eq_true, Bool.or_eq_true, beq_iff_eq, beq_eq_false_iff_ne] at h16
      refine ACode.exit ?_
      refine ACode.seq ?_
      refine ACode.region ?_
      refine AOps.v rfl rfl rfl (AVal.loadPN 2 rfl rfl rfl rfl (by constructor)) ?_
      refine AOps.e0 rfl rfl (AOp.storeN 1 rfl rfl rfl (by constructor) rfl rfl rfl (by repeat constructor) (by repeat constructor) ?_)
      refine AOps.v rfl rfl rfl (AVal.assignN (by constructor)) ?_
      refine AOps.nil ?_
      refine ACode.ret ?_
      refine AFin.keepRet rfl (.cons (by first | exact ARead.box (d := encT _) 0 rfl rfl rfl rfl | exact ARead.box (d := encT _) 1 rfl rfl rfl rfl | exact ARead.box (d := encT _) 2 rfl rfl rfl rfl | exact ARead.box (d := encT _) 3 rfl rfl rfl rfl | exact ARead.box (d := encT _) 4 rfl rfl rfl rfl | exact ARead.box (d := encT _) 5 rfl rfl rfl rfl | exact ARead.box (d := encT _) 6 rfl rfl rfl rfl | exact ARead.box (d := encT _) 7 rfl rfl rfl rfl | exact ARead.box 0 rfl rfl rfl rfl | exact ARead.box 1 rfl rfl rfl rfl | exact ARead.box 2 rfl rfl rfl rfl | exact ARead.box 3 rfl rfl rfl rfl | exact ARead.box 4 rfl rfl rfl rfl | exact ARead.box 5 rfl rfl rfl rfl | exact ARead.box 6 rfl rfl rfl rfl | exact ARead.box 7 rfl rfl rfl rfl) (.cons rfl .nil)) (by repeat first | exact List.Sublist.refl _ | apply List.Sublist.cons_cons | apply List.Sublist.cons) ?_
      exact tupLe (.cons (leT' (.own _ _ _) (.slT _) (by unfold levelsG; rw [List.take_of_length_le (by omega)])) (.cons (.refl _) .nil))

theorem levels_c (hS : SortedOk) (t : Term) (by_ : List Level) (hf : t.fit 1099511627776) (hs : t.sz ≤ 4611686018427387904) (hb : by_.length ≤ 9223372036854775807) (hp : ∀ x ∈ by_, x.length ≤ 9223372036854775807) : AFn X 83 [encT t, .slL by_] (encT (levelsM t by_)) := by
  refine ACalls.of_code Tryz.func83 rfl (by rfl) (Nat.le_of_ble_eq_true rfl) ?_
  refine ACode.seq ?_
  refine ACode.region ?_
  refine AOps.e rfl rfl rfl (AOp.boxA rfl (fun b2 => ?_))
  refine AOps.e rfl rfl rfl (AOp.box1 (by constructor) rfl rfl (fun b3 => ?_))
  refine AOps.e rfl rfl rfl (AOp.allocN rfl rfl (fun b4 => ?_))
  refine AOps.nil ?_
  refine ACode.seq ?_
  refine ACode.region ?_
  refine AOps.v rfl rfl rfl (AVal.makeFunc) ?_
  refine AOps.v rfl rfl rfl (AVal.build rfl rfl rfl) ?_
  refine AOps.v rfl rfl rfl (AVal.loadP (d := encT _) 2 rfl rfl rfl rfl) ?_
  refine AOps.e rfl rfl rfl (AOp.callK [_] (walk_c (gg := levelsG by_) (dn := no) (fun b u h0 h1 hu => levels1_c hS by_ b u _ rfl b3 _ hu hb hp) (fun b u _ _ => rfl) _ t rfl hf 0 (by omega) (by omega)) (LeL.eq rfl) rfl ?_)
  refine AOps.e0 rfl rfl (AOp.storeN 0 rfl rfl rfl (by constructor) rfl rfl rfl (by repeat constructor) (by repeat constructor) ?_)
  refine AOps.nil ?_
  refine ACode.ret ?_
  refine AFin.pureRet rfl (.cons (by first | exact ARead.box (d := encT _) 0 rfl rfl rfl rfl | exact ARead.box (d := encT _) 1 rfl rfl rfl rfl | exact ARead.box (d := encT _) 2 rfl rfl rfl rfl | exact ARead.box (d := encT _) 3 rfl rfl rfl rfl | exact ARead.box (d := encT _) 4 rfl rfl rfl rfl | exact ARead.box (d := encT _) 5 rfl rfl rfl rfl | exact ARead.box (d := encT _) 6 rfl rfl rfl rfl | exact ARead.box (d := encT _) 7 rfl rfl rfl rfl | exact ARead.box 0 rfl rfl rfl rfl | exact ARead.box 1 rfl rfl rfl rfl | exact ARead.box 2 rfl rfl rfl rfl | exact ARead.box 3 rfl rfl rfl rfl | exact ARead.box 4 rfl rfl rfl rfl | exact ARead.box 5 rfl rfl rfl rfl | exact ARead.box 6 rfl rfl rfl rfl | exact ARead.box 7 rfl rfl rfl rfl) .nil) ?_
  exact .refl _

theorem coreAt_c (cs : List Core) (num : Int) (ls : List Level) : AFn X 82 [.slC cs, .int .i64 num, .slL ls] (.tup [encC (coreAtM cs num ls).1, .bool (coreAtM cs num ls).2]) := by
  refine ACalls.of_code Tryz.func82 rfl (by rfl) (Nat.le_of_ble_eq_true rfl) ?_
  refine ACode.seq ?_
  refine ACode.region ?_
  refine AOps.e rfl rfl rfl (AOp.allocN rfl rfl (fun b6 => ?_))
  refine AOps.v rfl rfl rfl (AVal.assignN (by constructor)) ?_
  refine AOps.nil ?_
  refine ACode.seq ?_
  refine ACode.seq ?_
  refine ACode.region ?_
  refine AOps.v rfl rfl rfl (AVal.moveN (by constructor)) ?_
  refine AOps.v rfl rfl rfl (AVal.geq rfl rfl) ?_
  refine AOps.v rfl rfl rfl (AVal.moveN (by constructor)) ?_
  refine AOps.split 10 rfl (fun h10 => ?_) (fun h10 => ?_)
  ·
    try simp only [decide_eq_true_eq, decide_eq_false_iff_not, Bool.not_eq_true', Bool.not_eq_false', Bool.and_eq_true, Bool.or_eq_true, beq_iff_eq, beq_eq_false_iff_ne] at h10
    refine AOps.vT rfl rfl rfl rfl rfl rfl (AVal.moveN (by constructor)) ?_
    refine AOps.vT rfl rfl rfl rfl rfl rfl (AVal.moveN (by constructor)) ?_
    refine AOps.vT rfl rfl rfl rfl rfl rfl (AVal.len rfl rfl rfl) ?_
    refine AOps.vT rfl rfl rfl rfl rfl rfl (AVal.lss rfl rfl) ?_
    refine AOps.v rfl rfl rfl (AVal.pickT rfl (by constructor)) ?_
    refine AOps.v rfl rfl rfl (AVal.moveN (by constructor)) ?_
    refine AOps.split 16 rfl (fun h16 => ?_) (fun h16 => ?_)
    ·
      try simp only [decide_eq_true_eq, decide_eq_false_iff_not, Bool.not_eq_true', Bool.not_eq_false', Bool.and_eq_true, Bool.or_eq_true, beq_iff_eq, beq_eq_false_iff_ne] at h16
      refine AOps.vT rfl rfl rfl rfl rfl rfl (AVal.moveN (by constructor)) ?_
      refine AOps.vT rfl rfl rfl rfl rfl rfl (AVal.moveN (by constructor)) ?_
      refine AOps.vT rfl rfl rfl rfl rfl rfl (AVal.indexCN rfl rfl rfl rfl rfl ⟨by omega, by omega⟩) ?_
      refine AOps.vT rfl rfl rfl rfl rfl rfl (AVal.fieldE rfl rfl) ?_
      refine AOps.vT rfl rfl rfl rfl rfl rfl (AVal.loadEN rfl rfl rfl (by constructor)) ?_
      refine AOps.vT rfl rfl rfl rfl rfl rfl (AVal.moveN (by constructor)) ?_
      refine AOps.vT rfl rfl rfl rfl rfl rfl (AVal.len rfl rfl rfl) ?_
      refine AOps.vT rfl rfl rfl rfl rfl rfl (AVal.eql rfl rfl) ?_
      refine AOps.v rfl rfl rfl (AVal.pickT rfl (by constructor)) ?_
      refine AOps.nil ?_
      refine ACode.condS rfl (fun h25 => ?_) (fun h25 => ?_)
      ·
        try simp only [decide_eq_true_eq, decide_eq_false_iff_not, Bool.not_eq_true', Bool.not_eq_false', Bool.and_eq_true, Bool.or_eq_true, beq_iff_eq, beq_eq_false_iff_ne] at h25
        refine ACode.seq ?_
        refine ACode.region ?_
        refine AOps.v rfl rfl rfl (AVal.moveN (by constructor)) ?_
        refine AOps.v rfl rfl rfl (AVal.moveN (by constructor)) ?_
        refine AOps.v rfl rfl rfl (AVal.indexCN rfl rfl rfl rfl rfl ⟨by omega, by omega⟩) ?_
        refine AOps.v rfl rfl rfl (AVal.loadE (d := encC _) rfl rfl rfl) ?_
        refine AOps.e0 rfl rfl (AOp.storeN 0 rfl rfl rfl (by constructor) rfl rfl rfl (by repeat constructor) (by repeat constructor) ?_)
        refine AOps.v rfl rfl rfl (AVal.assignN (by constructor)) ?_
        refine AOps.nil ?_
        refine ACode.ret ?_
        refine AFin.pureRet rfl (.cons (by first | exact ARead.box (d := encC _) 0 rfl rfl rfl rfl | exact ARead.box (d := encC _) 1 rfl rfl rfl rfl | exact ARead.box (d := encC _) 2 rfl rfl rfl rfl | exact ARead.box (d := encC _) 3 rfl rfl rfl rfl | exact ARead.box (d := encC _) 4 rfl rfl rfl rfl | exact ARead.box (d := encC _) 5 rfl rfl rfl rfl | exact ARead.box (d := encC _) 6 rfl rfl rfl rfl | exact ARead.box (d := encC _) 7 rfl rfl rfl rfl | exact ARead.box 0 rfl rfl rfl rfl | exact ARead.box 1 rfl rfl rfl rfl | exact ARead.box 2 rfl rfl rfl rfl | exact ARead.box 3 rfl rfl rfl rfl | exact ARead.box 4 rfl rfl rfl rfl | exact ARead.box 5 rfl rfl rfl rfl | exact ARead.box 6 rfl rfl rfl rfl | exact ARead.box 7 rfl rfl rfl rfl) (.cons rfl .nil)) ?_
        exact D.Le.eq (by rw [show coreAtM cs num ls = (cs.getD num.toNat default, true) from if_pos ⟨by omega, by omega, by omega⟩]; rfl)
      ·
        try simp only [decide_eq_true_eq, decide_eq_false_iff_not, Bool.not_eq_true', Bool.not_eq_false', Bool.and_eq_true, Bool.or_eq_true, beq_iff_eq, beq_eq_false_iff_ne] at h25
        refine ACode.skip ?_
        refine ACode.seq ?_
        refine ACode.region ?_
        refine AOps.v rfl rfl rfl (AVal.loadPN 0 rfl rfl rfl rfl (by constructor)) ?_
        refine AOps.e0 rfl rfl (AOp.storeN 0 rfl rfl rfl (by constructor) rfl rfl rfl (by repeat constructor) (by repeat constructor) ?_)
        refine AOps.v rfl rfl rfl (AVal.assignN (by constructor)) ?_
        refine AOps.nil ?_
        refine ACode.ret ?_
        refine AFin.pureRet rfl (.cons (by first | exact ARead.box (d := encC _) 0 rfl rfl rfl rfl | exact ARead.box (d := encC _) 1 rfl rfl rfl rfl | exact ARead.box (d := encC _) 2 rfl rfl rfl rfl | exact ARead.box (d := encC _) 3 rfl rfl rfl rfl | exact ARead.box (d := encC _) 4 rfl rfl rfl rfl | exact ARead.box (d := encC _) 5 rfl rfl rfl rfl | exact ARead.box (d := encC _) 6 rfl rfl rfl rfl | exact ARead.box (d := encC _) 7 rfl rfl rfl rfl | exact ARead.box 0 rfl rfl rfl rfl | exact ARead.box 1 rfl rfl rfl rfl | exact ARead.box 2 rfl rfl rfl rfl | exact ARead.box 3 rfl rfl rfl rfl | exact ARead.box 4 rfl rfl rfl rfl | exact ARead.box 5 rfl rfl rfl rfl | exact ARead.box 6 rfl rfl rfl rfl | exact ARead.box 7 rfl rfl rfl rfl) (.cons rfl .nil)) ?_
        exact tupLe (.cons (by rw [show coreAtM cs num ls = (C0, false) from if_neg (by omega)]; exact leC0) (.cons (D.Le.eq (by rw [show coreAtM cs num ls = (C0, false) from if_neg (by omega)]; rfl)) .nil))
    ·
      try simp only [decide_eq_true_eq, decide_eq_false_iff_not, Bool.not_eq_true', Bool.not_eq_false', Bool.and_eq_true, Bool.or_eq_true, beq_iff_eq, beq_eq_false_iff_ne] at h16
      refine AOps.vF rfl rfl rfl rfl rfl rfl rfl ?_
      refine AOps.vF rfl rfl rfl rfl rfl rfl rfl ?_
      refine AOps.vF rfl rfl rfl rfl rfl rfl rfl ?_
      refine AOps.vF rfl rfl rfl rfl rfl rfl rfl ?_
      refine AOps.vF rfl rfl rfl rfl rfl rfl rfl ?_
      refine AOps.vF rfl rfl rfl rfl rfl rfl rfl ?_
      refine AOps.vF rfl rfl rfl rfl rfl rfl rfl ?_
      refine AOps.vF rfl rfl rfl rfl rfl rfl rfl ?_
      refine AOps.v rfl rfl rfl (AVal.pickF rfl (by constructor)) ?_
      refine AOps.nil ?_
      refine ACode.condF rfl ?_
      refine ACode.skip ?_
      refine ACode.seq ?_
      refine ACode.region ?_
      refine AOps.v rfl rfl rfl (AVal.loadPN 0 rfl rfl rfl rfl (by constructor)) ?_
      refine AOps.e0 rfl rfl (AOp.storeN 0 rfl rfl rfl (by constructor) rfl rfl rfl (by repeat constructor) (by repeat constructor) ?_)
      refine AOps.v rfl rfl rfl (AVal.assignN (by constructor)) ?_
      refine AOps.nil ?_
      refine ACode.ret ?_
      refine AFin.pureRet rfl (.cons (by first | exact ARead.box (d := encC _) 0 rfl rfl rfl rfl | exact ARead.box (d := encC _) 1 rfl rfl rfl rfl | exact ARead.box (d := encC _) 2 rfl rfl rfl rfl | exact ARead.box (d := encC _) 3 rfl rfl rfl rfl | exact ARead.box (d := encC _) 4 rfl rfl rfl rfl | exact ARead.box (d := encC _) 5 rfl rfl rfl rfl | exact ARead.box (d := encC _) 6 rfl rfl rfl rfl | exact ARead.box (d := encC _) 7 rfl rfl rfl rfl | exact ARead.box 0 rfl rfl rfl rfl | exact ARead.box 1 rfl rfl rfl rfl | exact ARead.box 2 rfl rfl rfl rfl | exact ARead.box 3 rfl rfl rfl rfl | exact ARead.box 4 rfl rfl rfl rfl | exact ARead.box 5 rfl rfl rfl rfl | exact ARead.box 6 rfl rfl rfl rfl | exact ARead.box 7 rfl rfl rfl rfl) (.cons rfl .nil)) ?_
      exact tupLe (.cons (by rw [show coreAtM cs num ls = (C0, false) from if_neg (by omega)]; exact leC0) (.cons (D.Le.eq (by rw [show coreAtM cs num ls = (C0, false) from if_neg (by omega)]; rfl)) .nil))
  ·
    try simp only [decide_eq_true_eq, decide_eq_false_iff_not, Bool.not_eq_true', Bool.not_eq_false', Bool.and_eq_true, Bool.or_eq_true, beq_iff_eq, beq_eq_false_iff_ne] at h10
    refine AOps.vF rfl rfl rfl rfl rfl rfl rfl ?_
    refine AOps.vF rfl rfl rfl rfl rfl rfl rfl ?_
    refine AOps.vF rfl rfl rfl rfl rfl rfl rfl ?_
    refine AOps.vF rfl rfl rfl rfl rfl rfl rfl ?_
    refine AOps.v rfl rfl rfl (AVal.pickF rfl (by constructor)) ?_
    refine AOps.v rfl rfl rfl (AVal.moveN (by constructor)) ?_
    refine AOps.vF rfl rfl rfl rfl rfl rfl rfl ?_
    refine AOps.vF rfl rfl rfl rfl rfl rfl rfl ?_
    refine AOps.vF rfl rfl rfl rfl rfl rfl rfl ?_
    refine AOps.vF rfl rfl rfl rfl rfl rfl rfl ?_
    refine AOps.vF rfl rfl rfl rfl rfl rfl rfl ?_
    refine AOps.vF rfl rfl rfl rfl rfl rfl rfl ?_
    refine AOps.vF rfl rfl rfl rfl rfl rfl rfl ?_
    refine AOps.vF rfl rfl rfl rfl rfl rfl rfl ?_
    refine AOps.v rfl rfl rfl (AVal.pickF rfl (by constructor)) ?_
    refine AOps.nil ?_
    refine ACode.condF rfl ?_
    refine ACode.skip ?_
    refine ACode.seq ?_
    refine ACode.region ?_
    refine AOps.v rfl rfl rfl (AVal.loadPN 0 rfl rfl rfl rfl (by constructor)) ?_
    refine AOps.e0 rfl rfl (AOp.storeN 0 rfl rfl rfl (by constructor) rfl rfl rfl (by repeat constructor) (by repeat constructor) ?_)
    refine AOps.v rfl rfl rfl (AVal.assignN (by constructor)) ?_
    refine AOps.nil ?_
    refine ACode.ret ?_
    refine AFin.pureRet rfl (.cons (by first | exact ARead.box (d := encC _) 0 rfl rfl rfl rfl | exact ARead.box (d := encC _) 1 rfl rfl rfl rfl | exact ARead.box (d := encC _) 2 rfl rfl rfl rfl | exact ARead.box (d := encC _) 3 rfl rfl rfl rfl | exact ARead.box (d := encC _) 4 rfl rfl rfl rfl | exact ARead.box (d := encC _) 5 rfl rfl rfl rfl | exact ARead.box (d := encC _) 6 rfl rfl rfl rfl | exact ARead.box (d := encC _) 7 rfl rfl rfl rfl | exact ARead.box 0 rfl rfl rfl rfl | exact ARead.box 1 rfl rfl rfl rfl | exact ARead.box 2 rfl rfl rfl rfl | exact ARead.box 3 rfl rfl rfl rfl | exact ARead.box 4 rfl rfl rfl rfl | exact ARead.box 5 rfl rfl rfl rfl | exact ARead.box 6 rfl rfl rfl rfl | exact ARead.box 7 rfl rfl rfl rfl) (.cons rfl .nil)) ?_
    exact tupLe (.cons (by rw [show coreAtM cs num ls = (C0, false) from if_neg (by omega)]; exact leC0) (.cons (D.Le.eq (by rw [show coreAtM cs num ls = (C0, false) from if_neg (by omega)]; rfl)) .nil))

theorem body_c (hS : SortedOk) (cs : List Core) (num : Int) (ls : List Level) (hc : ∀ c ∈ cs, c.body.fit 1099511627776 ∧ c.body.sz ≤ 4611686018427387904) (hb : ls.length ≤ 9223372036854775807) (hp : ∀ x ∈ ls, x.length ≤ 9223372036854775807) : AFn X 69 [.slC cs, .int .i64 num, .slL ls] (.tup [encT (bodyM cs num ls).1, .bool (bodyM cs num ls).2]) := by
  have hcm := coreAt_mem (S := 4611686018427387903) cs num ls hc
  refine ACalls.of_code Tryz.func69 rfl (by rfl) (Nat.le_of_ble_eq_true rfl) ?_
  refine ACode.seq ?_
  refine ACode.region ?_
  refine AOps.e rfl rfl rfl (AOp.allocN rfl rfl (fun b6 => ?_))
  refine AOps.v rfl rfl rfl (AVal.assignN (by constructor)) ?_
  refine AOps.nil ?_
  refine ACode.seq ?_
  refine ACode.region ?_
  refine AOps.v rfl rfl rfl (AVal.moveN (by constructor)) ?_
  refine AOps.v rfl rfl rfl (AVal.moveN (by constructor)) ?_
  refine AOps.v rfl rfl rfl (AVal.moveN (by constructor)) ?_
  refine AOps.e rfl rfl rfl (AOp.callP (coreAt_c cs num ls) (by first | exact LeL.eq rfl | (repeat constructor)) ?_)
  refine AOps.v rfl rfl rfl (AVal.moveN (by constructor)) ?_
  refine AOps.v rfl rfl rfl (AVal.extractN rfl rfl (by constructor)) ?_
  refine AOps.v rfl rfl rfl (AVal.extractN rfl rfl (by constructor)) ?_
  refine AOps.e rfl rfl rfl (AOp.allocN rfl rfl (fun b8 => ?_))
  refine AOps.e0 rfl rfl (AOp.storeN 0 rfl rfl rfl (by constructor) rfl rfl rfl (by repeat constructor) (by repeat constructor) ?_)
  refine AOps.v rfl rfl rfl (AVal.assignN (by constructor)) ?_
  refine AOps.nil ?_
  refine ACode.seq ?_
  refine ACode.seq ?_
  refine ACode.region ?_
  refine AOps.v rfl rfl rfl (AVal.moveN (by constructor)) ?_
  refine AOps.v rfl rfl rfl (AVal.not rfl) ?_
  refine AOps.v rfl rfl rfl (AVal.moveN (by constructor)) ?_
  refine AOps.split 19 rfl (fun h19 => ?_) (fun h19 => ?_)
  ·
    try simp only [decide_eq_true_eq, decide_eq_false_iff_not, Bool.not_eq_true', Bool.not_eq_false', Bool.and_eq_true, Bool.or_eq_true, beq_iff_eq, beq_eq_false_iff_ne] at h19
    refine AOps.vF rfl rfl rfl rfl rfl rfl rfl ?_
    refine AOps.vF rfl rfl rfl rfl rfl rfl rfl ?_
    refine AOps.vF rfl rfl rfl rfl rfl rfl rfl ?_
    refine AOps.v rfl rfl rfl (AVal.pickT rfl (by constructor)) ?_
    refine AOps.nil ?_
    refine ACode.condT rfl ?_
    refine ACode.seq ?_
    refine ACode.region ?_
    refine AOps.v rfl rfl rfl (AVal.build rfl rfl rfl) ?_
    refine AOps.e0 rfl rfl (AOp.storeN 1 rfl rfl rfl (by constructor) rfl rfl rfl (by repeat constructor) (by repeat constructor) ?_)
    refine AOps.v rfl rfl rfl (AVal.assignN (by constructor)) ?_
    refine AOps.nil ?_
    refine ACode.ret ?_
    refine AFin.pureRet rfl (.cons (by first | exact ARead.box (d := encT _) 0 rfl rfl rfl rfl | exact ARead.box (d := encT _) 1 rfl rfl rfl rfl | exact ARead.box (d := encT _) 2 rfl rfl rfl rfl | exact ARead.box (d := encT _) 3 rfl rfl rfl rfl | exact ARead.box (d := encT _) 4 rfl rfl rfl rfl | exact ARead.box (d := encT _) 5 rfl rfl rfl rfl | exact ARead.box (d := encT _) 6 rfl rfl rfl rfl | exact ARead.box (d := encT _) 7 rfl rfl rfl rfl | exact ARead.box 0 rfl rfl rfl rfl | exact ARead.box 1 rfl rfl rfl rfl | exact ARead.box 2 rfl rfl rfl rfl | exact ARead.box 3 rfl rfl rfl rfl | exact ARead.box 4 rfl rfl rfl rfl | exact ARead.box 5 rfl rfl rfl rfl | exact ARead.box 6 rfl rfl rfl rfl | exact ARead.box 7 rfl rfl rfl rfl) (.cons rfl .nil)) ?_
    exact tupLe (.cons (by rw [bodyM, if_neg (by simp_all)]; exact leT' .emp .emp rfl) (.cons (D.Le.eq (by rw [bodyM, if_neg (by simp_all)]; rfl)) .nil))
  ·
    try simp only [decide_eq_true_eq, decide_eq_false_iff_not, Bool.not_eq_true', Bool.not_eq_false', Bool.and_eq_true, Bool.or_eq_true, beq_iff_eq, beq_eq_false_iff_ne] at h19
    refine AOps.vT rfl rfl rfl rfl rfl rfl (AVal.fieldP rfl rfl) ?_
    refine AOps.vT rfl rfl rfl rfl rfl rfl (AVal.loadPN 0 rfl rfl rfl rfl (by constructor)) ?_
    refine AOps.vT rfl rfl rfl rfl rfl rfl (AVal.not rfl) ?_
    refine AOps.v rfl rfl rfl (AVal.pickF rfl (by constructor)) ?_
    refine AOps.nil ?_
    refine ACode.condS rfl (fun h23 => ?_) (fun h23 => ?_)
    ·
      try simp only [decide_eq_true_eq, decide_eq_false_iff_not, Bool.not_eq_true', Bool.not_eq_false', Bool.and_eq_true, Bool.or_eq_true, beq_iff_eq, beq_eq_false_iff_ne] at h23
      refine ACode.seq ?_
      refine ACode.region ?_
      refine AOps.v rfl rfl rfl (AVal.build rfl rfl rfl) ?_
      refine AOps.e0 rfl rfl (AOp.storeN 1 rfl rfl rfl (by constructor) rfl rfl rfl (by repeat constructor) (by repeat constructor) ?_)
      refine AOps.v rfl rfl rfl (AVal.assignN (by constructor)) ?_
      refine AOps.nil ?_
      refine ACode.ret ?_
      refine AFin.pureRet rfl (.cons (by first | exact ARead.box (d := encT _) 0 rfl rfl rfl rfl | exact ARead.box (d := encT _) 1 rfl rfl rfl rfl | exact ARead.box (d := encT _) 2 rfl rfl rfl rfl | exact ARead.box (d := encT _) 3 rfl rfl rfl rfl | exact ARead.box (d := encT _) 4 rfl rfl rfl rfl | exact ARead.box (d := encT _) 5 rfl rfl rfl rfl | exact ARead.box (d := encT _) 6 rfl rfl rfl rfl | exact ARead.box (d := encT _) 7 rfl rfl rfl rfl | exact ARead.box 0 rfl rfl rfl rfl | exact ARead.box 1 rfl rfl rfl rfl | exact ARead.box 2 rfl rfl rfl rfl | exact ARead.box 3 rfl rfl rfl rfl | exact ARead.box 4 rfl rfl rfl rfl | exact ARead.box 5 rfl rfl rfl rfl | exact ARead.box 6 rfl rfl rfl rfl | exact ARead.box 7 rfl rfl rfl rfl) (.cons rfl .nil)) ?_
      exact tupLe (.cons (by rw [bodyM, if_neg (by simp_all)]; exact leT' .emp .emp rfl) (.cons (D.Le.eq (by rw [bodyM, if_neg (by simp_all)]; rfl)) .nil))
    ·
      try simp only [decide_eq_true_eq, decide_eq_false_iff_not, Bool.not_eq_true', Bool.not_eq_false', Bool.and_eq_true, Bool.or_eq_true, beq_iff_eq, beq_eq_false_iff_ne] at h23
      refine ACode.skip ?_
      refine ACode.seq ?_
      refine ACode.region ?_
      refine AOps.v rfl rfl rfl (AVal.fieldP rfl rfl) ?_
      refine AOps.v rfl rfl rfl (AVal.loadP (d := encT _) 0 rfl rfl rfl rfl) ?_
      refine AOps.v rfl rfl rfl (AVal.moveN (by constructor)) ?_
      refine AOps.e rfl rfl rfl (AOp.callP (levels_c hS (coreAtM cs num ls).1.body ls hcm.1 hcm.2 hb hp) (by first | exact LeL.eq rfl | (repeat constructor)) ?_)
      refine AOps.e0 rfl rfl (AOp.storeN 1 rfl rfl rfl (by constructor) rfl rfl rfl (by repeat constructor) (by repeat constructor) ?_)
      refine AOps.v rfl rfl rfl (AVal.assignN (by constructor)) ?_
      refine AOps.nil ?_
      refine ACode.ret ?_
      refine AFin.pureRet rfl (.cons (by first | exact ARead.box (d := encT _) 0 rfl rfl rfl rfl | exact ARead.box (d := encT _) 1 rfl rfl rfl rfl | exact ARead.box (d := encT _) 2 rfl rfl rfl rfl | exact ARead.box (d := encT _) 3 rfl rfl rfl rfl | exact ARead.box (d := encT _) 4 rfl rfl rfl rfl | exact ARead.box (d := encT _) 5 rfl rfl rfl rfl | exact ARead.box (d := encT _) 6 rfl rfl rfl rfl | exact ARead.box (d := encT _) 7 rfl rfl rfl rfl | exact ARead.box 0 rfl rfl rfl rfl | exact ARead.box 1 rfl rfl rfl rfl | exact ARead.box 2 rfl rfl rfl rfl | exact ARead.box 3 rfl rfl rfl rfl | exact ARead.box 4 rfl rfl rfl rfl | exact ARead.box 5 rfl rfl rfl rfl | exact ARead.box 6 rfl rfl rfl rfl | exact ARead.box 7 rfl rfl rfl rfl) (.cons rfl .nil)) ?_
      exact D.Le.eq (by rw [bodyM, if_pos (by simp_all)]; rfl)

end Sp
