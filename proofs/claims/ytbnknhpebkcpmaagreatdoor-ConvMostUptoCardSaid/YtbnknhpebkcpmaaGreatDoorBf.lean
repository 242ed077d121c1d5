/- Walks of the program's functions and what they compute: contracts of calls; no condition beyond those that each theorem names. -/
import Derived.Test.YtbnknhpebkcpmaaGreatDoorBe
import Derived.Test.YtbnknhpebkcpmaaGreatDoorKb
import Derived.Test.YtbnknhpebkcpmaaGreatDoorKc
/- The walks of conv: the asker. Written by a program of mine. -/
set_option linter.unusedVariables false
set_option linter.unusedSimpArgs false
set_option maxRecDepth 20000
namespace Sp
open Go Go.Proofs

theorem acall_c (b : Nat) (cs : List Core) (F : Int) (h0 : 0 ≤ F) (h1 : F ≤ 1073741824) : AMay X 73 [.ptr b 0] [(b, .cells 119 [.int .i64 (F), .slC cs])] (¬ F = 0) (.tup []) [(b, .cells 119 [.int .i64 (F - 1), .slC cs])] (.iface 30 (.int .i64 5)) [(b, .cells 119 [.int .i64 (F), .slC cs])] := by
  refine ACalls.of_code Tryz.func73 rfl (by rfl) (Nat.le_of_ble_eq_true rfl) ?_
  refine ACode.seq ?_
  refine ACode.seq ?_
  refine ACode.region ?_
  refine AOps.v rfl rfl rfl (AVal.moveN (by constructor)) ?_
  refine AOps.v rfl rfl rfl (AVal.nilCheckP rfl) ?_
  refine AOps.v rfl rfl rfl (AVal.fieldP rfl rfl) ?_
  refine AOps.v rfl rfl rfl (AVal.loadPN 0 rfl rfl rfl rfl (by constructor)) ?_
  refine AOps.v rfl rfl rfl (AVal.eql rfl rfl) ?_
  refine AOps.nil ?_
  refine ACode.condS rfl (fun h6 => ?_) (fun h6 => ?_)
  ·
    try simp only [decide_eq_true_eq, decide_eq_false_iff_not, Bool.not_eq_true', Bool.not_eq_false', Bool.and_eq_true, Bool.or_eq_true, beq_iff_eq, beq_eq_false_iff_ne] at h6
    refine ACode.region ?_
    refine AOps.v rfl rfl rfl (AVal.makeInterface rfl (by kernel_rfl)) ?_
    refine AOps.e0 rfl rfl (AOp.panic rfl ?_)
    exact AFin.mayPan (X := X) (fn := Tryz.f73) rfl (by repeat first | exact List.Sublist.refl _ | apply List.Sublist.cons_cons | apply List.Sublist.cons | exact List.nil_sublist _) (by omega)
  ·
    try simp only [decide_eq_true_eq, decide_eq_false_iff_not, Bool.not_eq_true', Bool.not_eq_false', Bool.and_eq_true, Bool.or_eq_true, beq_iff_eq, beq_eq_false_iff_ne] at h6
    refine ACode.skip ?_
    refine ACode.region ?_
    refine AOps.v rfl rfl rfl (AVal.moveN (by constructor)) ?_
    refine AOps.v rfl rfl rfl (AVal.nilCheckP rfl) ?_
    refine AOps.v rfl rfl rfl (AVal.fieldP rfl rfl) ?_
    refine AOps.v rfl rfl rfl (AVal.loadPN 0 rfl rfl rfl rfl (by constructor)) ?_
    refine AOps.v rfl rfl rfl (AVal.subn rfl rfl (by omega)) ?_
    refine AOps.v rfl rfl rfl (AVal.nilCheckP rfl) ?_
    refine AOps.v rfl rfl rfl (AVal.fieldP rfl rfl) ?_
    refine AOps.e0 rfl rfl (AOp.storeN 0 rfl rfl rfl (by constructor) rfl rfl rfl (by repeat constructor) (by repeat constructor) ?_)
    refine AOps.nil ?_
    refine AFin.mayEnd rfl .nil (by repeat first | exact List.Sublist.refl _ | apply List.Sublist.cons_cons | apply List.Sublist.cons) ?_ (by omega)
    exact .refl _

theorem aspend_c (b : Nat) (cs : List Core) (F left e : Int) : AMay X 126 [.ptr b 0, .int .i64 left, .int .i64 e] [(b, .cells 119 [.int .i64 (F), .slC cs])] (e = 0) (.tup []) [(b, .cells 119 [.int .i64 (left), .slC cs])] (.iface 30 (.int .i64 e)) [(b, .cells 119 [.int .i64 (left), .slC cs])] := by
  refine ACalls.of_code Tryz.func126 rfl (by rfl) (Nat.le_of_ble_eq_true rfl) ?_
  refine ACode.seq ?_
  refine ACode.region ?_
  refine AOps.v rfl rfl rfl (AVal.moveN (by constructor)) ?_
  refine AOps.v rfl rfl rfl (AVal.moveN (by constructor)) ?_
  refine AOps.v rfl rfl rfl (AVal.nilCheckP rfl) ?_
  refine AOps.v rfl rfl rfl (AVal.fieldP rfl rfl) ?_
  refine AOps.e0 rfl rfl (AOp.storeN 0 rfl rfl rfl (by constructor) rfl rfl rfl (by repeat constructor) (by repeat constructor) ?_)
  refine AOps.nil ?_
  refine ACode.seq ?_
  refine ACode.region ?_
  refine AOps.v rfl rfl rfl (AVal.moveN (by constructor)) ?_
  refine AOps.v rfl rfl rfl (AVal.neq rfl rfl) ?_
  refine AOps.nil ?_
  refine ACode.condS rfl (fun h11 => ?_) (fun h11 => ?_)
  ·
    try simp only [decide_eq_true_eq, decide_eq_false_iff_not, Bool.not_eq_true', Bool.not_eq_false', Bool.and_eq_true, Bool.or_eq_true, beq_iff_eq, beq_eq_false_iff_ne] at h11
    refine ACode.region ?_
    refine AOps.v rfl rfl rfl (AVal.moveN (by constructor)) ?_
    refine AOps.v rfl rfl rfl (AVal.makeInterface rfl (by kernel_rfl)) ?_
    refine AOps.e0 rfl rfl (AOp.panic rfl ?_)
    exact AFin.mayPan (X := X) (fn := Tryz.f126) rfl (by repeat first | exact List.Sublist.refl _ | apply List.Sublist.cons_cons | apply List.Sublist.cons | exact List.nil_sublist _) (by omega)
  ·
    try simp only [decide_eq_true_eq, decide_eq_false_iff_not, Bool.not_eq_true', Bool.not_eq_false', Bool.and_eq_true, Bool.or_eq_true, beq_iff_eq, beq_eq_false_iff_ne] at h11
    refine ACode.skip ?_
    refine AFin.mayEnd rfl .nil (by repeat first | exact List.Sublist.refl _ | apply List.Sublist.cons_cons | apply List.Sublist.cons) ?_ (by omega)
    exact .refl _

theorem ahead_c (hS : SortedOk) (b : Nat) (cs : List Core) (hC : CoresOk cs) (F : Int) (t : Term) (h0 : 0 ≤ F) (h1 : F ≤ 1073741824) (hw : W F t) : AMay X 75 [.ptr b 0, encT t] [(b, .cells 119 [.int .i64 (F), .slC cs])] ((whnfM cs t F).2.2 = 0) (encT (whnfM cs t F).1) [(b, .cells 119 [.int .i64 ((whnfM cs t F).2.1), .slC cs])] (.iface 30 (.int .i64 5)) [(b, .cells 119 [.int .i64 ((whnfM cs t F).2.1), .slC cs])] := by
  refine ACalls.of_code Tryz.func75 rfl (by rfl) (Nat.le_of_ble_eq_true rfl) ?_
  refine ACode.seq ?_
  refine ACode.region ?_
  refine AOps.e rfl rfl rfl (AOp.boxA rfl (fun b3 => ?_))
  refine AOps.e rfl rfl rfl (AOp.allocN rfl rfl (fun b4 => ?_))
  refine AOps.nil ?_
  refine ACode.seq ?_
  refine ACode.draws [.p 0, .p 1, .p 2, .l 3, .l 4, .p 5, .p 6, .p 7, .p 8, .l 9, .p 10, .p 11, .p 12, .p 13, .p 14, .a 15, .e 16 [], .p 17, .p 18] mixed (by kernel_rfl) ?_
  refine ASeq.pv rfl rfl rfl rfl (fun L0 => (AVal.moveN (by constructor))) ?_
  refine ASeq.pv rfl rfl rfl rfl (fun L0 => (AVal.nilCheckP rfl)) ?_
  refine ASeq.pv rfl rfl rfl rfl (fun L0 => (AVal.fieldP rfl rfl)) ?_
  refine ASeq.lv rfl rfl rfl rfl (HasCell.mk 2 rfl rfl (by constructor)) ?_
  refine ASeq.lv rfl rfl rfl rfl (HasCell.mk (d := encT _) 1 rfl rfl (.refl _)) ?_
  refine ASeq.pv rfl rfl rfl rfl (fun L0 => (AVal.moveN (by constructor))) ?_
  refine ASeq.pv rfl rfl rfl rfl (fun L0 => (AVal.nilCheckP rfl)) ?_
  refine ASeq.pv rfl rfl rfl rfl (fun L0 => (AVal.fieldP rfl rfl)) ?_
  refine ASeq.pv rfl rfl rfl rfl (fun L0 => (AVal.fieldP rfl rfl)) ?_
  refine ASeq.lv rfl rfl rfl rfl (HasCell.mk 2 rfl rfl (by constructor)) ?_
  refine ASeq.pe rfl rfl rfl rfl (fun L0 => (AOp.callP (whnf_c (t := t) (fuel := F) hS cs (fun _ => ⟨hC, hw.1, by have := psz_le_fsz hw.1; have := hw.2; omega⟩)) (by first | exact LeL.eq rfl | (repeat constructor)) ⟨rfl, rfl⟩)) ?_
  refine ASeq.pv rfl rfl rfl rfl (fun L0 => (AVal.moveN (by constructor))) ?_
  refine ASeq.pv rfl rfl rfl rfl (fun L0 => (AVal.extractN rfl rfl (by constructor))) ?_
  refine ASeq.pv rfl rfl rfl rfl (fun L0 => (AVal.extractN rfl rfl (by constructor))) ?_
  refine ASeq.pv rfl rfl rfl rfl (fun L0 => (AVal.extractN rfl rfl (by constructor))) ?_
  refine ASeq.ea rfl rfl rfl rfl rfl rfl rfl (fun b5 => ?_)
  refine ASeq.ee0 rfl rfl rfl rfl (AOp.storeN 0 rfl rfl rfl (by constructor) rfl rfl rfl (by repeat constructor) (by repeat constructor) ⟨(by first | exact Keeps.nil | (repeat first | exact Keeps.nil | refine Keeps.cons (by first | exact HasCell.mk 0 rfl rfl (.refl _) | exact HasCell.mk 1 rfl rfl (.refl _) | exact HasCell.mk 2 rfl rfl (.refl _) | exact HasCell.mk 3 rfl rfl (.refl _) | exact HasCell.mk 4 rfl rfl (.refl _) | exact HasCell.mk 5 rfl rfl (.refl _) | exact HasCell.mk 6 rfl rfl (.refl _) | exact HasCell.mk 7 rfl rfl (.refl _)) ?_)), ?_⟩)
  refine ASeq.pv rfl rfl rfl rfl (fun L0 => (AVal.assignN (by constructor))) ?_
  refine ASeq.pv rfl rfl rfl rfl (fun L0 => (AVal.assignN (by constructor))) ?_
  refine ASeq.nil ?_
  refine ACode.seq ?_
  refine ACode.region ?_
  refine AOps.v rfl rfl rfl (AVal.moveN (by constructor)) ?_
  refine AOps.v rfl rfl rfl (AVal.nilCheckP rfl) ?_
  refine AOps.v rfl rfl rfl (AVal.fieldP rfl rfl) ?_
  refine AOps.v rfl rfl rfl (AVal.moveN (by constructor)) ?_
  refine AOps.v rfl rfl rfl (AVal.moveN (by constructor)) ?_
  refine AOps.e rfl rfl rfl (AOp.callM [_, _, _] (aspend_c b cs F _ _) (by first | exact LeL.eq rfl | (repeat constructor)) rfl (fun hok => ?_) (fun hno => ?_))
  ·
    refine AOps.nil ?_
    refine ACode.seq ?_
    refine ACode.region ?_
    refine AOps.v rfl rfl rfl (AVal.loadP (d := encT _) 0 rfl rfl rfl rfl) ?_
    refine AOps.e0 rfl rfl (AOp.storeN 1 rfl rfl rfl (by constructor) rfl rfl rfl (by repeat constructor) (by repeat constructor) ?_)
    refine AOps.nil ?_
    refine ACode.ret ?_
    refine AFin.mayRet rfl (.cons (by first | exact ARead.box (d := encT _) 0 rfl rfl rfl rfl | exact ARead.box (d := encT _) 1 rfl rfl rfl rfl | exact ARead.box (d := encT _) 2 rfl rfl rfl rfl | exact ARead.box (d := encT _) 3 rfl rfl rfl rfl | exact ARead.box (d := encT _) 4 rfl rfl rfl rfl | exact ARead.box (d := encT _) 5 rfl rfl rfl rfl | exact ARead.box (d := encT _) 6 rfl rfl rfl rfl | exact ARead.box (d := encT _) 7 rfl rfl rfl rfl | exact ARead.box 0 rfl rfl rfl rfl | exact ARead.box 1 rfl rfl rfl rfl | exact ARead.box 2 rfl rfl rfl rfl | exact ARead.box 3 rfl rfl rfl rfl | exact ARead.box 4 rfl rfl rfl rfl | exact ARead.box 5 rfl rfl rfl rfl | exact ARead.box 6 rfl rfl rfl rfl | exact ARead.box 7 rfl rfl rfl rfl) .nil) (by repeat first | exact List.Sublist.refl _ | apply List.Sublist.cons_cons | apply List.Sublist.cons) ?_ (hok)
    exact .refl _
  ·
    have he : (whnfM cs t F) = (T0, 0, 5) := whnf_err h0 h1 hno
    rw [he]
    exact AFin.mayPan (X := X) (fn := Tryz.f75) rfl (by repeat first | exact List.Sublist.refl _ | apply List.Sublist.cons_cons | apply List.Sublist.cons | exact List.nil_sublist _) (by simp)

theorem aall_c (b : Nat) (cs : List Core) (hC : CoresOk cs) (n : Nat) (H : ∀ G p q, 0 ≤ G → G ≤ min (n : Int) 1073741824 → W G p → W G q → AMay X 36 [.ptr b 0, encT p, encT q] [(b, .cells 119 [.int .i64 (G), .slC cs])] ((oneM cs n G p q).isSome = true) (.bool (oB (oneM cs n G p q))) [(b, .cells 119 [.int .i64 (oL (oneM cs n G p q)), .slC cs])] (.iface 30 (.int .i64 5)) [(b, .cells 119 [.int .i64 (oL (oneM cs n G p q)), .slC cs])]) (F : Int) (ps qs : List Term) (hl : ps.length = qs.length) (h0 : 0 ≤ F) (h1 : F ≤ min (n : Int) 1073741824) (hlen : ps.length ≤ 9223372036854775807) (hp : ∀ u ∈ ps, W F u) (hq : ∀ u ∈ qs, W F u) : AMay X 79 [.ptr b 0, .slT ps, .slT qs] [(b, .cells 119 [.int .i64 (F), .slC cs])] ((allM (oneM cs n) F ps qs).isSome = true) (.bool (oB (allM (oneM cs n) F ps qs))) [(b, .cells 119 [.int .i64 (oL (allM (oneM cs n) F ps qs)), .slC cs])] (.iface 30 (.int .i64 5)) [(b, .cells 119 [.int .i64 (oL (allM (oneM cs n) F ps qs)), .slC cs])] := by
  refine ACalls.of_code Tryz.func79 rfl (by rfl) (Nat.le_of_ble_eq_true rfl) ?_
  refine ACode.seq ?_
  refine ACode.region ?_
  refine AOps.v rfl rfl rfl (AVal.assignN (by constructor)) ?_
  refine AOps.nil ?_
  refine ACode.seq ?_
  refine ACode.seq ?_
  refine ACode.region ?_
  refine AOps.v rfl rfl rfl (AVal.moveN (by constructor)) ?_
  refine AOps.v rfl rfl rfl (AVal.len rfl rfl rfl) ?_
  refine AOps.v rfl rfl rfl (AVal.moveN (by constructor)) ?_
  refine AOps.nil ?_
  refine ACode.block ?_
  refine ACode.loop (γ := Nat × Int) (fun g => [(0, .ptr b 0), (1, .slT ps), (2, .slT qs), (8, .slT ps), (9, .int .i64 ps.length), (10, .int .i64 g.1)]) (fun g => [(b, .cells 119 [.int .i64 (g.2), .slC cs])]) (fun g => g.1 ≤ ps.length ∧ 0 ≤ g.2 ∧ g.2 ≤ F ∧ allM (oneM cs n) g.2 (ps.drop g.1) (qs.drop g.1) = (allM (oneM cs n) F ps qs)) (fun g => ps.length - g.1) (0, F) ⟨Nat.zero_le _, h0, Int.le_refl _, rfl⟩ (by repeat first | exact Agree.nil | refine Agree.cons (.refl _) ?_) (by repeat first | exact List.Sublist.refl _ | apply List.Sublist.cons_cons | apply List.Sublist.cons | exact List.nil_sublist _) ?_
  rintro ⟨i, G⟩ ⟨hi, hG0, hG1, hg⟩ t1
  simp only at hi hG0 hG1 hg ⊢
  refine ACode.seq ?_
  refine ACode.region ?_
  refine AOps.v rfl rfl rfl (AVal.lss rfl rfl) ?_
  refine AOps.nil ?_
  refine ACode.seq ?_
  refine ACode.condS rfl (fun h11 => ?_) (fun h11 => ?_)
  ·
    try simp only [decide_eq_true_eq, decide_eq_false_iff_not, Bool.not_eq_true', Bool.not_eq_false', Bool.and_eq_true, Bool.or_eq_true, beq_iff_eq, beq_eq_false_iff_ne] at h11
    have hlt : i < ps.length := by omega
    have hltq : i < qs.length := by omega
    refine ACode.skip ?_
    refine ACode.seq ?_
    refine ACode.block ?_
    refine ACode.seq ?_
    refine ACode.region ?_
    refine AOps.v rfl rfl rfl (AVal.moveN (by constructor)) ?_
    refine AOps.v rfl rfl rfl (AVal.assignN (by constructor)) ?_
    refine AOps.nil ?_
    refine ACode.seq ?_
    refine ACode.draws [.p 0, .p 1, .p 2, .p 3, .p 4, .p 5, .p 6, .p 7, .p 8, .e 9 [], .p 10] mixed (by kernel_rfl) ?_
    refine ASeq.pv rfl rfl rfl rfl (fun L0 => (AVal.moveN (by constructor))) ?_
    refine ASeq.pv rfl rfl rfl rfl (fun L0 => (AVal.moveN (by constructor))) ?_
    refine ASeq.pv rfl rfl rfl rfl (fun L0 => (AVal.moveN (by constructor))) ?_
    refine ASeq.pv rfl rfl rfl rfl (fun L0 => (AVal.indexTK rfl rfl rfl rfl rfl (by omega))) ?_
    refine ASeq.pv rfl rfl rfl rfl (fun L0 => (AVal.loadE (d := encT _) rfl rfl rfl)) ?_
    refine ASeq.pv rfl rfl rfl rfl (fun L0 => (AVal.moveN (by constructor))) ?_
    refine ASeq.pv rfl rfl rfl rfl (fun L0 => (AVal.moveN (by constructor))) ?_
    refine ASeq.pv rfl rfl rfl rfl (fun L0 => (AVal.indexTK rfl rfl rfl rfl rfl (by omega))) ?_
    refine ASeq.pv rfl rfl rfl rfl (fun L0 => (AVal.loadE (d := encT _) rfl rfl rfl)) ?_
    refine ASeq.ee rfl rfl rfl rfl rfl (AOp.callM [] (H G (ps.getD i default) (qs.getD i default) hG0 (by omega) ((hp _ (getD_mem hlt)).mono (by omega)) ((hq _ (getD_mem hltq)).mono (by omega))) (by first | exact LeL.eq rfl | (repeat constructor)) rfl (fun hok => ⟨(by first | exact Keeps.nil | (repeat first | exact Keeps.nil | refine Keeps.cons (by first | exact HasCell.mk 0 rfl rfl (.refl _) | exact HasCell.mk 1 rfl rfl (.refl _) | exact HasCell.mk 2 rfl rfl (.refl _) | exact HasCell.mk 3 rfl rfl (.refl _) | exact HasCell.mk 4 rfl rfl (.refl _) | exact HasCell.mk 5 rfl rfl (.refl _) | exact HasCell.mk 6 rfl rfl (.refl _) | exact HasCell.mk 7 rfl rfl (.refl _)) ?_)), ?_⟩) (fun hno => ?_))
    ·
      refine ASeq.pv rfl rfl rfl rfl (fun L0 => (AVal.not rfl)) ?_
      refine ASeq.nil ?_
      refine ACode.condS rfl (fun h23 => ?_) (fun h23 => ?_)
      ·
        try simp only [decide_eq_true_eq, decide_eq_false_iff_not, Bool.not_eq_true', Bool.not_eq_false', Bool.and_eq_true, Bool.or_eq_true, beq_iff_eq, beq_eq_false_iff_ne] at h23
        have hs := hok
        have hqh : (qs.drop i).headD T0 = qs.getD i default := by rw [drop_getD hltq]; rfl
        have hqt : (qs.drop i).tail = qs.drop (i + 1) := by rw [drop_getD hltq]; rfl
        have hn : (allM (oneM cs n) F ps qs) = some (false, oL (oneM cs n G (ps.getD i default) (qs.getD i default))) := by rw [← hg, drop_getD hlt]; exact allM_step_false (by rw [hqh]; exact o_false hs h23)
        rw [hn]
        refine ACode.seq ?_
        refine ACode.region ?_
        refine AOps.v rfl rfl rfl (AVal.assignN (by constructor)) ?_
        refine AOps.nil ?_
        refine ACode.ret ?_
        refine AFin.mayRet rfl (.cons rfl .nil) (by repeat first | exact List.Sublist.refl _ | apply List.Sublist.cons_cons | apply List.Sublist.cons) ?_ (rfl)
        exact .refl _
      ·
        try simp only [decide_eq_true_eq, decide_eq_false_iff_not, Bool.not_eq_true', Bool.not_eq_false', Bool.and_eq_true, Bool.or_eq_true, beq_iff_eq, beq_eq_false_iff_ne] at h23
        have hs := hok
        have hqh : (qs.drop i).headD T0 = qs.getD i default := by rw [drop_getD hltq]; rfl
        have hqt : (qs.drop i).tail = qs.drop (i + 1) := by rw [drop_getD hltq]; rfl
        have hn : allM (oneM cs n) (oL (oneM cs n G (ps.getD i default) (qs.getD i default))) (ps.drop (i + 1)) (qs.drop (i + 1)) = (allM (oneM cs n) F ps qs) := by
          rw [← hg, drop_getD hlt, allM_step_true (by rw [hqh]; exact o_true hs h23), hqt]
        have hsh := one_shift hC n 0 G _ _ _ _ hG0 (by omega) ((hp _ (getD_mem hlt)).mono (by omega)) ((hq _ (getD_mem hltq)).mono (by omega)) (o_true hs h23)
        refine ACode.skip ?_
        refine ACode.region ?_
        refine AOps.v rfl rfl rfl (AVal.addn rfl rfl (by omega)) ?_
        refine AOps.v rfl rfl rfl (AVal.moveN (by constructor)) ?_
        refine AOps.nil ?_
        refine ⟨(i + 1, oL (oneM cs n G (ps.getD i default) (qs.getD i default))), ⟨by simp only; omega, hsh.1, by simp only; omega, hn⟩, by simp only; omega, rfl, (by repeat first | exact Agree.nil | refine Agree.cons (.refl _) ?_), (by repeat first | exact List.Sublist.refl _ | apply List.Sublist.cons_cons | apply List.Sublist.cons | exact List.nil_sublist _)⟩
    ·
      have hqh : (qs.drop i).headD T0 = qs.getD i default := by rw [drop_getD hltq]; rfl
      have hn : (allM (oneM cs n) F ps qs) = none := by rw [← hg, drop_getD hlt]; exact allM_step_none (by rw [hqh]; exact o_none hno)
      rw [o_none hno, hn]
      exact AFin.mayPan (X := X) (fn := Tryz.f79) rfl (by repeat first | exact List.Sublist.refl _ | apply List.Sublist.cons_cons | apply List.Sublist.cons | exact List.nil_sublist _) (by simp)
  ·
    try simp only [decide_eq_true_eq, decide_eq_false_iff_not, Bool.not_eq_true', Bool.not_eq_false', Bool.and_eq_true, Bool.or_eq_true, beq_iff_eq, beq_eq_false_iff_ne] at h11
    have hn : (allM (oneM cs n) F ps qs) = some (true, G) := by rw [← hg, List.drop_of_length_le (by omega)]; rfl
    rw [hn]
    refine ACode.exit ?_
    refine ACode.seq ?_
    refine ACode.region ?_
    refine AOps.v rfl rfl rfl (AVal.assignN (by constructor)) ?_
    refine AOps.nil ?_
    refine ACode.ret ?_
    refine AFin.mayRet rfl (.cons rfl .nil) (by repeat first | exact List.Sublist.refl _ | apply List.Sublist.cons_cons | apply List.Sublist.cons) ?_ (rfl)
    exact .refl _

theorem aheads_c (hS : SortedOk) (b : Nat) (cs : List Core) (hC : CoresOk cs) (n : Nat) (H : ∀ G p q, 0 ≤ G → G ≤ min (n : Int) 1073741824 → W G p → W G q → AMay X 36 [.ptr b 0, encT p, encT q] [(b, .cells 119 [.int .i64 (G), .slC cs])] ((oneM cs n G p q).isSome = true) (.bool (oB (oneM cs n G p q))) [(b, .cells 119 [.int .i64 (oL (oneM cs n G p q)), .slC cs])] (.iface 30 (.int .i64 5)) [(b, .cells 119 [.int .i64 (oL (oneM cs n G p q)), .slC cs])]) (F : Int) (p q : Term) (h0 : 0 ≤ F) (h1 : F ≤ min (n : Int) 1073741824) (hp : p.fit 1099511627776 ∧ (fsz p : Int) + 2 + 7 * F ≤ 268435456) (hq : q.fit 1099511627776 ∧ (fsz q : Int) + 2 + 7 * F ≤ 268435456) : AMay X 76 [.ptr b 0, encT p, encT q] [(b, .cells 119 [.int .i64 (F), .slC cs])] ((headsM (oneM cs n) F p q).isSome = true) (.bool (oB (headsM (oneM cs n) F p q))) [(b, .cells 119 [.int .i64 (oL (headsM (oneM cs n) F p q)), .slC cs])] (.iface 30 (.int .i64 5)) [(b, .cells 119 [.int .i64 (oL (headsM (oneM cs n) F p q)), .slC cs])] := by
  refine ACalls.of_code Tryz.func76 rfl (by rfl) (Nat.le_of_ble_eq_true rfl) ?_
  refine ACode.seq ?_
  refine ACode.region ?_
  refine AOps.e rfl rfl rfl (AOp.boxA rfl (fun b4 => ?_))
  refine AOps.e rfl rfl rfl (AOp.boxA rfl (fun b5 => ?_))
  refine AOps.v rfl rfl rfl (AVal.assignN (by constructor)) ?_
  refine AOps.nil ?_
  refine ACode.seq ?_
  refine ACode.seq ?_
  refine ACode.region ?_
  refine AOps.e rfl rfl rfl (AOp.buildSlice (es := [.int .i64 _, .int .i64 _]) rfl rfl rfl rfl rfl ?_)
  refine AOps.v rfl rfl rfl (AVal.len rfl rfl rfl) ?_
  refine AOps.v rfl rfl rfl (AVal.moveN (by constructor)) ?_
  refine AOps.nil ?_
  refine ACode.block ?_
  refine ACode.loop (γ := Nat) (fun g => [(0, .ptr b 0), (4, .ptr b4 0), (5, .ptr b5 0), (10, .slc [.int .i64 5, .int .i64 13]), (11, .int .i64 2), (12, .int .i64 g)]) (fun g => [(b5, .cells 27 (cellsT q)), (b4, .cells 27 (cellsT p)), (b, .cells 119 [.int .i64 F, .slC cs])]) (fun g => g ≤ 2 ∧ (1 ≤ g → ¬ (p.kind = 5 ∨ q.kind = 5)) ∧ (2 ≤ g → ¬ (p.kind = 13 ∨ q.kind = 13))) (fun g => 2 - g) 0 ⟨by omega, by omega, by omega⟩ (by repeat first | exact Agree.nil | refine Agree.cons (.refl _) ?_) (by repeat first | exact List.Sublist.refl _ | apply List.Sublist.cons_cons | apply List.Sublist.cons | exact List.nil_sublist _) ?_
  rintro g ⟨hg2, hinv5, hinv13⟩ t1
  rcases g with _ | _ | g
  ·
    
    refine ACode.seq ?_
    refine ACode.region ?_
    refine AOps.v rfl rfl rfl (AVal.lss rfl rfl) ?_
    refine AOps.nil ?_
    refine ACode.seq ?_
    refine ACode.condS rfl (fun h13 => ?_) (fun h13 => ?_)
    ·
      try simp only [decide_eq_true_eq, decide_eq_false_iff_not, Bool.not_eq_true', Bool.not_eq_false', Bool.and_eq_true, Bool.or_eq_true, beq_iff_eq, beq_eq_false_iff_ne] at h13
      skip
      refine ACode.skip ?_
      refine ACode.seq ?_
      refine ACode.block ?_
      refine ACode.seq ?_
      refine ACode.region ?_
      refine AOps.v rfl rfl rfl (AVal.indexD (e := .int .i64 5) rfl rfl rfl rfl rfl (by omega) rfl (fun e he => by simp at he; rcases he with rfl | rfl <;> rfl)) ?_
      refine AOps.v rfl rfl rfl (AVal.loadEN rfl rfl rfl (by constructor)) ?_
      refine AOps.v rfl rfl rfl (AVal.assignN (by constructor)) ?_
      refine AOps.nil ?_
      refine ACode.seq ?_
      refine ACode.region ?_
      refine AOps.v rfl rfl rfl (AVal.fieldP rfl rfl) ?_
      refine AOps.v rfl rfl rfl (AVal.loadPN 1 rfl rfl rfl rfl (by constructor)) ?_
      refine AOps.v rfl rfl rfl (AVal.moveN (by constructor)) ?_
      refine AOps.v rfl rfl rfl (AVal.eql rfl rfl) ?_
      refine AOps.v rfl rfl rfl (AVal.moveN (by constructor)) ?_
      refine AOps.split 20 rfl (fun h20 => ?_) (fun h20 => ?_)
      ·
        try simp only [decide_eq_true_eq, decide_eq_false_iff_not, Bool.not_eq_true', Bool.not_eq_false', Bool.and_eq_true, Bool.or_eq_true, beq_iff_eq, beq_eq_false_iff_ne] at h20
        refine AOps.vF rfl rfl rfl rfl rfl rfl rfl ?_
        refine AOps.vF rfl rfl rfl rfl rfl rfl rfl ?_
        refine AOps.vF rfl rfl rfl rfl rfl rfl rfl ?_
        refine AOps.vF rfl rfl rfl rfl rfl rfl rfl ?_
        refine AOps.v rfl rfl rfl (AVal.pickT rfl (by constructor)) ?_
        refine AOps.nil ?_
        refine ACode.condT rfl ?_
        have hc5 : p.kind = 5 ∨ q.kind = 5 := by simp_all
        have hn : (headsM (oneM cs n) F p q) = allM (oneM cs n) F (partsM p 5) (partsM q 5) := if_pos hc5
        rw [hn]
        refine ACode.seq ?_
        refine ACode.draws [.p 0, .l 1, .p 2, .p 3, .l 4, .p 5, .p 6, .e 7 [], .p 8] mixed (by kernel_rfl) ?_
        refine ASeq.pv rfl rfl rfl rfl (fun L0 => (AVal.moveN (by constructor))) ?_
        refine ASeq.lv rfl rfl rfl rfl (HasCell.mk (d := encT _) 1 rfl rfl (.refl _)) ?_
        refine ASeq.pv rfl rfl rfl rfl (fun L0 => (AVal.moveN (by constructor))) ?_
        refine ASeq.pe rfl rfl rfl rfl (fun L0 => (AOp.callP (parts_c p 5 hp.1 (by have := sz_le_fsz p; omega)) (by first | exact LeL.eq rfl | (repeat constructor)) ⟨rfl, rfl⟩)) ?_
        refine ASeq.lv rfl rfl rfl rfl (HasCell.mk (d := encT _) 0 rfl rfl (.refl _)) ?_
        refine ASeq.pv rfl rfl rfl rfl (fun L0 => (AVal.moveN (by constructor))) ?_
        refine ASeq.pe rfl rfl rfl rfl (fun L0 => (AOp.callP (parts_c q 5 hq.1 (by have := sz_le_fsz q; omega)) (by first | exact LeL.eq rfl | (repeat constructor)) ⟨rfl, rfl⟩)) ?_
        refine ASeq.ee rfl rfl rfl rfl rfl (AOp.callM [_, _] (aall_c b cs hC n H F (partsM p 5) (partsM q 5) (partsM_len p q 5) h0 h1 (by unfold partsM halvesM appliedM; split <;> split <;> simp) (W_parts 5 hp.1 hp.2) (W_parts 5 hq.1 hq.2)) (by first | exact LeL.eq rfl | (repeat constructor)) rfl (fun hok => ⟨(by first | exact Keeps.nil | (repeat first | exact Keeps.nil | refine Keeps.cons (by first | exact HasCell.mk 0 rfl rfl (.refl _) | exact HasCell.mk 1 rfl rfl (.refl _) | exact HasCell.mk 2 rfl rfl (.refl _) | exact HasCell.mk 3 rfl rfl (.refl _) | exact HasCell.mk 4 rfl rfl (.refl _) | exact HasCell.mk 5 rfl rfl (.refl _) | exact HasCell.mk 6 rfl rfl (.refl _) | exact HasCell.mk 7 rfl rfl (.refl _)) ?_)), ?_⟩) (fun hno => ?_))
        ·
          refine ASeq.pv rfl rfl rfl rfl (fun L0 => (AVal.assignN (by constructor))) ?_
          refine ASeq.nil ?_
          refine ACode.ret ?_
          refine AFin.mayRet rfl (.cons rfl .nil) (by repeat first | exact List.Sublist.refl _ | apply List.Sublist.cons_cons | apply List.Sublist.cons) ?_ ((by first | exact hok | rfl))
          exact .refl _
        ·
          exact AFin.mayPan (X := X) (fn := Tryz.f76) rfl (by repeat first | exact List.Sublist.refl _ | apply List.Sublist.cons_cons | apply List.Sublist.cons | exact List.nil_sublist _) hno
      ·
        try simp only [decide_eq_true_eq, decide_eq_false_iff_not, Bool.not_eq_true', Bool.not_eq_false', Bool.and_eq_true, Bool.or_eq_true, beq_iff_eq, beq_eq_false_iff_ne] at h20
        refine AOps.vT rfl rfl rfl rfl rfl rfl (AVal.fieldP rfl rfl) ?_
        refine AOps.vT rfl rfl rfl rfl rfl rfl (AVal.loadPN 0 rfl rfl rfl rfl (by constructor)) ?_
        refine AOps.vT rfl rfl rfl rfl rfl rfl (AVal.moveN (by constructor)) ?_
        refine AOps.vT rfl rfl rfl rfl rfl rfl (AVal.eql rfl rfl) ?_
        refine AOps.v rfl rfl rfl (AVal.pickF rfl (by constructor)) ?_
        refine AOps.nil ?_
        refine ACode.condS rfl (fun h25 => ?_) (fun h25 => ?_)
        ·
          try simp only [decide_eq_true_eq, decide_eq_false_iff_not, Bool.not_eq_true', Bool.not_eq_false', Bool.and_eq_true, Bool.or_eq_true, beq_iff_eq, beq_eq_false_iff_ne] at h25
          have hc5 : p.kind = 5 ∨ q.kind = 5 := by simp_all
          have hn : (headsM (oneM cs n) F p q) = allM (oneM cs n) F (partsM p 5) (partsM q 5) := if_pos hc5
          rw [hn]
          refine ACode.seq ?_
          refine ACode.draws [.p 0, .l 1, .p 2, .p 3, .l 4, .p 5, .p 6, .e 7 [], .p 8] mixed (by kernel_rfl) ?_
          refine ASeq.pv rfl rfl rfl rfl (fun L0 => (AVal.moveN (by constructor))) ?_
          refine ASeq.lv rfl rfl rfl rfl (HasCell.mk (d := encT _) 1 rfl rfl (.refl _)) ?_
          refine ASeq.pv rfl rfl rfl rfl (fun L0 => (AVal.moveN (by constructor))) ?_
          refine ASeq.pe rfl rfl rfl rfl (fun L0 => (AOp.callP (parts_c p 5 hp.1 (by have := sz_le_fsz p; omega)) (by first | exact LeL.eq rfl | (repeat constructor)) ⟨rfl, rfl⟩)) ?_
          refine ASeq.lv rfl rfl rfl rfl (HasCell.mk (d := encT _) 0 rfl rfl (.refl _)) ?_
          refine ASeq.pv rfl rfl rfl rfl (fun L0 => (AVal.moveN (by constructor))) ?_
          refine ASeq.pe rfl rfl rfl rfl (fun L0 => (AOp.callP (parts_c q 5 hq.1 (by have := sz_le_fsz q; omega)) (by first | exact LeL.eq rfl | (repeat constructor)) ⟨rfl, rfl⟩)) ?_
          refine ASeq.ee rfl rfl rfl rfl rfl (AOp.callM [_, _] (aall_c b cs hC n H F (partsM p 5) (partsM q 5) (partsM_len p q 5) h0 h1 (by unfold partsM halvesM appliedM; split <;> split <;> simp) (W_parts 5 hp.1 hp.2) (W_parts 5 hq.1 hq.2)) (by first | exact LeL.eq rfl | (repeat constructor)) rfl (fun hok => ⟨(by first | exact Keeps.nil | (repeat first | exact Keeps.nil | refine Keeps.cons (by first | exact HasCell.mk 0 rfl rfl (.refl _) | exact HasCell.mk 1 rfl rfl (.refl _) | exact HasCell.mk 2 rfl rfl (.refl _) | exact HasCell.mk 3 rfl rfl (.refl _) | exact HasCell.mk 4 rfl rfl (.refl _) | exact HasCell.mk 5 rfl rfl (.refl _) | exact HasCell.mk 6 rfl rfl (.refl _) | exact HasCell.mk 7 rfl rfl (.refl _)) ?_)), ?_⟩) (fun hno => ?_))
          ·
            refine ASeq.pv rfl rfl rfl rfl (fun L0 => (AVal.assignN (by constructor))) ?_
            refine ASeq.nil ?_
            refine ACode.ret ?_
            refine AFin.mayRet rfl (.cons rfl .nil) (by repeat first | exact List.Sublist.refl _ | apply List.Sublist.cons_cons | apply List.Sublist.cons) ?_ ((by first | exact hok | rfl))
            exact .refl _
          ·
            exact AFin.mayPan (X := X) (fn := Tryz.f76) rfl (by repeat first | exact List.Sublist.refl _ | apply List.Sublist.cons_cons | apply List.Sublist.cons | exact List.nil_sublist _) hno
        ·
          try simp only [decide_eq_true_eq, decide_eq_false_iff_not, Bool.not_eq_true', Bool.not_eq_false', Bool.and_eq_true, Bool.or_eq_true, beq_iff_eq, beq_eq_false_iff_ne] at h25
          have hinv5 : ¬ (p.kind = 5 ∨ q.kind = 5) := by simp_all
          refine ACode.skip ?_
          refine ACode.region ?_
          refine AOps.v rfl rfl rfl (AVal.addn rfl rfl (by omega)) ?_
          refine AOps.v rfl rfl rfl (AVal.moveN (by constructor)) ?_
          refine AOps.nil ?_
          refine ⟨1, ⟨by omega, fun _ => hinv5, fun h => absurd h (by omega)⟩, by omega, rfl, (by repeat first | exact Agree.nil | refine Agree.cons (.refl _) ?_), (by repeat first | exact List.Sublist.refl _ | apply List.Sublist.cons_cons | apply List.Sublist.cons | exact List.nil_sublist _)⟩
    ·
      try simp only [decide_eq_true_eq, decide_eq_false_iff_not, Bool.not_eq_true', Bool.not_eq_false', Bool.and_eq_true, Bool.or_eq_true, beq_iff_eq, beq_eq_false_iff_ne] at h13
      exact absurd h13 (by omega) --END
  ·
    have hinv5 := hinv5 (by omega)
    refine ACode.seq ?_
    refine ACode.region ?_
    refine AOps.v rfl rfl rfl (AVal.lss rfl rfl) ?_
    refine AOps.nil ?_
    refine ACode.seq ?_
    refine ACode.condS rfl (fun h13 => ?_) (fun h13 => ?_)
    ·
      try simp only [decide_eq_true_eq, decide_eq_false_iff_not, Bool.not_eq_true', Bool.not_eq_false', Bool.and_eq_true, Bool.or_eq_true, beq_iff_eq, beq_eq_false_iff_ne] at h13
      skip
      refine ACode.skip ?_
      refine ACode.seq ?_
      refine ACode.block ?_
      refine ACode.seq ?_
      refine ACode.region ?_
      refine AOps.v rfl rfl rfl (AVal.indexD (e := .int .i64 13) rfl rfl rfl rfl rfl (by omega) rfl (fun e he => by simp at he; rcases he with rfl | rfl <;> rfl)) ?_
      refine AOps.v rfl rfl rfl (AVal.loadEN rfl rfl rfl (by constructor)) ?_
      refine AOps.v rfl rfl rfl (AVal.assignN (by constructor)) ?_
      refine AOps.nil ?_
      refine ACode.seq ?_
      refine ACode.region ?_
      refine AOps.v rfl rfl rfl (AVal.fieldP rfl rfl) ?_
      refine AOps.v rfl rfl rfl (AVal.loadPN 1 rfl rfl rfl rfl (by constructor)) ?_
      refine AOps.v rfl rfl rfl (AVal.moveN (by constructor)) ?_
      refine AOps.v rfl rfl rfl (AVal.eql rfl rfl) ?_
      refine AOps.v rfl rfl rfl (AVal.moveN (by constructor)) ?_
      refine AOps.split 20 rfl (fun h20 => ?_) (fun h20 => ?_)
      ·
        try simp only [decide_eq_true_eq, decide_eq_false_iff_not, Bool.not_eq_true', Bool.not_eq_false', Bool.and_eq_true, Bool.or_eq_true, beq_iff_eq, beq_eq_false_iff_ne] at h20
        refine AOps.vF rfl rfl rfl rfl rfl rfl rfl ?_
        refine AOps.vF rfl rfl rfl rfl rfl rfl rfl ?_
        refine AOps.vF rfl rfl rfl rfl rfl rfl rfl ?_
        refine AOps.vF rfl rfl rfl rfl rfl rfl rfl ?_
        refine AOps.v rfl rfl rfl (AVal.pickT rfl (by constructor)) ?_
        refine AOps.nil ?_
        refine ACode.condT rfl ?_
        have hc13 : p.kind = 13 ∨ q.kind = 13 := by simp_all
        have hn : (headsM (oneM cs n) F p q) = allM (oneM cs n) F (partsM p 13) (partsM q 13) := by unfold headsM; rw [if_neg hinv5, if_pos hc13]
        rw [hn]
        refine ACode.seq ?_
        refine ACode.draws [.p 0, .l 1, .p 2, .p 3, .l 4, .p 5, .p 6, .e 7 [], .p 8] mixed (by kernel_rfl) ?_
        refine ASeq.pv rfl rfl rfl rfl (fun L0 => (AVal.moveN (by constructor))) ?_
        refine ASeq.lv rfl rfl rfl rfl (HasCell.mk (d := encT _) 1 rfl rfl (.refl _)) ?_
        refine ASeq.pv rfl rfl rfl rfl (fun L0 => (AVal.moveN (by constructor))) ?_
        refine ASeq.pe rfl rfl rfl rfl (fun L0 => (AOp.callP (parts_c p 13 hp.1 (by have := sz_le_fsz p; omega)) (by first | exact LeL.eq rfl | (repeat constructor)) ⟨rfl, rfl⟩)) ?_
        refine ASeq.lv rfl rfl rfl rfl (HasCell.mk (d := encT _) 0 rfl rfl (.refl _)) ?_
        refine ASeq.pv rfl rfl rfl rfl (fun L0 => (AVal.moveN (by constructor))) ?_
        refine ASeq.pe rfl rfl rfl rfl (fun L0 => (AOp.callP (parts_c q 13 hq.1 (by have := sz_le_fsz q; omega)) (by first | exact LeL.eq rfl | (repeat constructor)) ⟨rfl, rfl⟩)) ?_
        refine ASeq.ee rfl rfl rfl rfl rfl (AOp.callM [_, _] (aall_c b cs hC n H F (partsM p 13) (partsM q 13) (partsM_len p q 13) h0 h1 (by unfold partsM halvesM appliedM; split <;> split <;> simp) (W_parts 13 hp.1 hp.2) (W_parts 13 hq.1 hq.2)) (by first | exact LeL.eq rfl | (repeat constructor)) rfl (fun hok => ⟨(by first | exact Keeps.nil | (repeat first | exact Keeps.nil | refine Keeps.cons (by first | exact HasCell.mk 0 rfl rfl (.refl _) | exact HasCell.mk 1 rfl rfl (.refl _) | exact HasCell.mk 2 rfl rfl (.refl _) | exact HasCell.mk 3 rfl rfl (.refl _) | exact HasCell.mk 4 rfl rfl (.refl _) | exact HasCell.mk 5 rfl rfl (.refl _) | exact HasCell.mk 6 rfl rfl (.refl _) | exact HasCell.mk 7 rfl rfl (.refl _)) ?_)), ?_⟩) (fun hno => ?_))
        ·
          refine ASeq.pv rfl rfl rfl rfl (fun L0 => (AVal.assignN (by constructor))) ?_
          refine ASeq.nil ?_
          refine ACode.ret ?_
          refine AFin.mayRet rfl (.cons rfl .nil) (by repeat first | exact List.Sublist.refl _ | apply List.Sublist.cons_cons | apply List.Sublist.cons) ?_ ((by first | exact hok | rfl))
          exact .refl _
        ·
          exact AFin.mayPan (X := X) (fn := Tryz.f76) rfl (by repeat first | exact List.Sublist.refl _ | apply List.Sublist.cons_cons | apply List.Sublist.cons | exact List.nil_sublist _) hno
      ·
        try simp only [decide_eq_true_eq, decide_eq_false_iff_not, Bool.not_eq_true', Bool.not_eq_false', Bool.and_eq_true, Bool.or_eq_true, beq_iff_eq, beq_eq_false_iff_ne] at h20
        refine AOps.vT rfl rfl rfl rfl rfl rfl (AVal.fieldP rfl rfl) ?_
        refine AOps.vT rfl rfl rfl rfl rfl rfl (AVal.loadPN 0 rfl rfl rfl rfl (by constructor)) ?_
        refine AOps.vT rfl rfl rfl rfl rfl rfl (AVal.moveN (by constructor)) ?_
        refine AOps.vT rfl rfl rfl rfl rfl rfl (AVal.eql rfl rfl) ?_
        refine AOps.v rfl rfl rfl (AVal.pickF rfl (by constructor)) ?_
        refine AOps.nil ?_
        refine ACode.condS rfl (fun h25 => ?_) (fun h25 => ?_)
        ·
          try simp only [decide_eq_true_eq, decide_eq_false_iff_not, Bool.not_eq_true', Bool.not_eq_false', Bool.and_eq_true, Bool.or_eq_true, beq_iff_eq, beq_eq_false_iff_ne] at h25
          have hc13 : p.kind = 13 ∨ q.kind = 13 := by simp_all
          have hn : (headsM (oneM cs n) F p q) = allM (oneM cs n) F (partsM p 13) (partsM q 13) := by unfold headsM; rw [if_neg hinv5, if_pos hc13]
          rw [hn]
          refine ACode.seq ?_
          refine ACode.draws [.p 0, .l 1, .p 2, .p 3, .l 4, .p 5, .p 6, .e 7 [], .p 8] mixed (by kernel_rfl) ?_
          refine ASeq.pv rfl rfl rfl rfl (fun L0 => (AVal.moveN (by constructor))) ?_
          refine ASeq.lv rfl rfl rfl rfl (HasCell.mk (d := encT _) 1 rfl rfl (.refl _)) ?_
          refine ASeq.pv rfl rfl rfl rfl (fun L0 => (AVal.moveN (by constructor))) ?_
          refine ASeq.pe rfl rfl rfl rfl (fun L0 => (AOp.callP (parts_c p 13 hp.1 (by have := sz_le_fsz p; omega)) (by first | exact LeL.eq rfl | (repeat constructor)) ⟨rfl, rfl⟩)) ?_
          refine ASeq.lv rfl rfl rfl rfl (HasCell.mk (d := encT _) 0 rfl rfl (.refl _)) ?_
          refine ASeq.pv rfl rfl rfl rfl (fun L0 => (AVal.moveN (by constructor))) ?_
          refine ASeq.pe rfl rfl rfl rfl (fun L0 => (AOp.callP (parts_c q 13 hq.1 (by have := sz_le_fsz q; omega)) (by first | exact LeL.eq rfl | (repeat constructor)) ⟨rfl, rfl⟩)) ?_
          refine ASeq.ee rfl rfl rfl rfl rfl (AOp.callM [_, _] (aall_c b cs hC n H F (partsM p 13) (partsM q 13) (partsM_len p q 13) h0 h1 (by unfold partsM halvesM appliedM; split <;> split <;> simp) (W_parts 13 hp.1 hp.2) (W_parts 13 hq.1 hq.2)) (by first | exact LeL.eq rfl | (repeat constructor)) rfl (fun hok => ⟨(by first | exact Keeps.nil | (repeat first | exact Keeps.nil | refine Keeps.cons (by first | exact HasCell.mk 0 rfl rfl (.refl _) | exact HasCell.mk 1 rfl rfl (.refl _) | exact HasCell.mk 2 rfl rfl (.refl _) | exact HasCell.mk 3 rfl rfl (.refl _) | exact HasCell.mk 4 rfl rfl (.refl _) | exact HasCell.mk 5 rfl rfl (.refl _) | exact HasCell.mk 6 rfl rfl (.refl _) | exact HasCell.mk 7 rfl rfl (.refl _)) ?_)), ?_⟩) (fun hno => ?_))
          ·
            refine ASeq.pv rfl rfl rfl rfl (fun L0 => (AVal.assignN (by constructor))) ?_
            refine ASeq.nil ?_
            refine ACode.ret ?_
            refine AFin.mayRet rfl (.cons rfl .nil) (by repeat first | exact List.Sublist.refl _ | apply List.Sublist.cons_cons | apply List.Sublist.cons) ?_ ((by first | exact hok | rfl))
            exact .refl _
          ·
            exact AFin.mayPan (X := X) (fn := Tryz.f76) rfl (by repeat first | exact List.Sublist.refl _ | apply List.Sublist.cons_cons | apply List.Sublist.cons | exact List.nil_sublist _) hno
        ·
          try simp only [decide_eq_true_eq, decide_eq_false_iff_not, Bool.not_eq_true', Bool.not_eq_false', Bool.and_eq_true, Bool.or_eq_true, beq_iff_eq, beq_eq_false_iff_ne] at h25
          have hinv13 : ¬ (p.kind = 13 ∨ q.kind = 13) := by simp_all
          refine ACode.skip ?_
          refine ACode.region ?_
          refine AOps.v rfl rfl rfl (AVal.addn rfl rfl (by omega)) ?_
          refine AOps.v rfl rfl rfl (AVal.moveN (by constructor)) ?_
          refine AOps.nil ?_
          refine ⟨2, ⟨by omega, fun _ => hinv5, fun _ => hinv13⟩, by omega, rfl, (by repeat first | exact Agree.nil | refine Agree.cons (.refl _) ?_), (by repeat first | exact List.Sublist.refl _ | apply List.Sublist.cons_cons | apply List.Sublist.cons | exact List.nil_sublist _)⟩
    ·
      try simp only [decide_eq_true_eq, decide_eq_false_iff_not, Bool.not_eq_true', Bool.not_eq_false', Bool.and_eq_true, Bool.or_eq_true, beq_iff_eq, beq_eq_false_iff_ne] at h13
      exact absurd h13 (by omega) --END
  ·
    have hinv5 := hinv5 (by omega)
    have hinv13 := hinv13 (by omega)
    refine ACode.seq ?_
    refine ACode.region ?_
    refine AOps.v rfl rfl rfl (AVal.lss rfl rfl) ?_
    refine AOps.nil ?_
    refine ACode.seq ?_
    refine ACode.condS rfl (fun h13 => ?_) (fun h13 => ?_)
    ·
      try simp only [decide_eq_true_eq, decide_eq_false_iff_not, Bool.not_eq_true', Bool.not_eq_false', Bool.and_eq_true, Bool.or_eq_true, beq_iff_eq, beq_eq_false_iff_ne] at h13
      exfalso; omega --END
    ·
      try simp only [decide_eq_true_eq, decide_eq_false_iff_not, Bool.not_eq_true', Bool.not_eq_false', Bool.and_eq_true, Bool.or_eq_true, beq_iff_eq, beq_eq_false_iff_ne] at h13
      skip
      refine ACode.exit ?_
      refine ACode.seq ?_
      refine ACode.region ?_
      refine AOps.v rfl rfl rfl (AVal.fieldP rfl rfl) ?_
      refine AOps.v rfl rfl rfl (AVal.loadPN 1 rfl rfl rfl rfl (by constructor)) ?_
      refine AOps.v rfl rfl rfl (AVal.fieldP rfl rfl) ?_
      refine AOps.v rfl rfl rfl (AVal.loadPN 0 rfl rfl rfl rfl (by constructor)) ?_
      refine AOps.v rfl rfl rfl (AVal.eql rfl rfl) ?_
      refine AOps.v rfl rfl rfl (AVal.moveN (by constructor)) ?_
      refine AOps.split 40 rfl (fun h40 => ?_) (fun h40 => ?_)
      ·
        try simp only [decide_eq_true_eq, decide_eq_false_iff_not, Bool.not_eq_true', Bool.not_eq_false', Bool.and_eq_true, Bool.or_eq_true, beq_iff_eq, beq_eq_false_iff_ne] at h40
        refine AOps.vT rfl rfl rfl rfl rfl rfl (AVal.fieldP rfl rfl) ?_
        refine AOps.vT rfl rfl rfl rfl rfl rfl (AVal.loadPN 1 rfl rfl rfl rfl (by constructor)) ?_
        refine AOps.vT rfl rfl rfl rfl rfl rfl (AVal.fieldP rfl rfl) ?_
        refine AOps.vT rfl rfl rfl rfl rfl rfl (AVal.loadPN 0 rfl rfl rfl rfl (by constructor)) ?_
        refine AOps.vT rfl rfl rfl rfl rfl rfl (AVal.eql rfl rfl) ?_
        refine AOps.v rfl rfl rfl (AVal.pickT rfl (by constructor)) ?_
        refine AOps.v rfl rfl rfl (AVal.moveN (by constructor)) ?_
        refine AOps.split 47 rfl (fun h47 => ?_) (fun h47 => ?_)
        ·
          try simp only [decide_eq_true_eq, decide_eq_false_iff_not, Bool.not_eq_true', Bool.not_eq_false', Bool.and_eq_true, Bool.or_eq_true, beq_iff_eq, beq_eq_false_iff_ne] at h47
          refine AOps.vT rfl rfl rfl rfl rfl rfl (AVal.fieldP rfl rfl) ?_
          refine AOps.vT rfl rfl rfl rfl rfl rfl (AVal.loadPN 1 rfl rfl rfl rfl (by constructor)) ?_
          refine AOps.vT rfl rfl rfl rfl rfl rfl (AVal.fieldP rfl rfl) ?_
          refine AOps.vT rfl rfl rfl rfl rfl rfl (AVal.loadPN 0 rfl rfl rfl rfl (by constructor)) ?_
          refine AOps.vT rfl rfl rfl rfl rfl rfl (AVal.eql rfl rfl) ?_
          refine AOps.v rfl rfl rfl (AVal.pickT rfl (by constructor)) ?_
          refine AOps.v rfl rfl rfl (AVal.moveN (by constructor)) ?_
          refine AOps.split 54 rfl (fun h54 => ?_) (fun h54 => ?_)
          ·
            try simp only [decide_eq_true_eq, decide_eq_false_iff_not, Bool.not_eq_true', Bool.not_eq_false', Bool.and_eq_true, Bool.or_eq_true, beq_iff_eq, beq_eq_false_iff_ne] at h54
            refine AOps.vT rfl rfl rfl rfl rfl rfl (AVal.fieldP rfl rfl) ?_
            refine AOps.vT rfl rfl rfl rfl rfl rfl (AVal.loadPN 1 rfl rfl rfl rfl (by constructor)) ?_
            refine AOps.vT rfl rfl rfl rfl rfl rfl (AVal.len rfl rfl rfl) ?_
            refine AOps.vT rfl rfl rfl rfl rfl rfl (AVal.fieldP rfl rfl) ?_
            refine AOps.vT rfl rfl rfl rfl rfl rfl (AVal.loadPN 0 rfl rfl rfl rfl (by constructor)) ?_
            refine AOps.vT rfl rfl rfl rfl rfl rfl (AVal.len rfl rfl rfl) ?_
            refine AOps.vT rfl rfl rfl rfl rfl rfl (AVal.eql rfl rfl) ?_
            refine AOps.v rfl rfl rfl (AVal.pickT rfl (by constructor)) ?_
            refine AOps.v rfl rfl rfl (AVal.moveN (by constructor)) ?_
            refine AOps.split 63 rfl (fun h63 => ?_) (fun h63 => ?_)
            ·
              try simp only [decide_eq_true_eq, decide_eq_false_iff_not, Bool.not_eq_true', Bool.not_eq_false', Bool.and_eq_true, Bool.or_eq_true, beq_iff_eq, beq_eq_false_iff_ne] at h63
              refine AOps.vT rfl rfl rfl rfl rfl rfl (AVal.fieldP rfl rfl) ?_
              refine AOps.vT rfl rfl rfl rfl rfl rfl (AVal.loadPN 1 rfl rfl rfl rfl (by constructor)) ?_
              refine AOps.vT rfl rfl rfl rfl rfl rfl (AVal.fieldP rfl rfl) ?_
              refine AOps.vT rfl rfl rfl rfl rfl rfl (AVal.loadPN 0 rfl rfl rfl rfl (by constructor)) ?_
              refine AOps.eT rfl rfl rfl rfl rfl rfl (AOp.callP (eqLvs_c hS p.levels q.levels (by have := hp.1.llen; omega) (fun l hl => by have := hp.1.plen hl; omega) (fun l hl => by have := hq.1.plen hl; omega)) (by first | exact LeL.eq rfl | (repeat constructor)) ?_)
              refine AOps.v rfl rfl rfl (AVal.pickT rfl (by constructor)) ?_
              refine AOps.v rfl rfl rfl (AVal.assignN (by constructor)) ?_
              refine AOps.nil ?_
              refine ACode.seq ?_
              refine ACode.draws [.p 0, .p 1, .p 2, .l 3, .p 4, .l 5, .p 6, .e 7 [], .p 8, .p 9] mixed (by kernel_rfl) ?_
              refine ASeq.pv rfl rfl rfl rfl (fun L0 => (AVal.moveN (by constructor))) ?_
              refine ASeq.pv rfl rfl rfl rfl (fun L0 => (AVal.moveN (by constructor))) ?_
              refine ASeq.split 71 rfl (fun h71 => ?_) (fun h71 => ?_)
              ·
                try simp only [decide_eq_true_eq, decide_eq_false_iff_not, Bool.not_eq_true', Bool.not_eq_false', Bool.and_eq_true, Bool.or_eq_true, beq_iff_eq, beq_eq_false_iff_ne] at h71
                have hal : alikeM p q = true := by
                  simp only [alikeM, Bool.and_eq_true, decide_eq_true_eq]
                  exact ⟨⟨⟨⟨h40, h47⟩, h54⟩, by omega⟩, h71⟩
                have hn : (headsM (oneM cs n) F p q) = allM (oneM cs n) F (mattersM p) (mattersM q) := by unfold headsM; rw [if_neg hinv5, if_neg hinv13, if_pos hal]
                rw [hn]
                refine ASeq.pvT rfl rfl rfl rfl rfl rfl rfl (fun L0 => (AVal.moveN (by constructor))) ?_
                refine ASeq.lvT rfl rfl rfl rfl rfl rfl rfl (HasCell.mk (d := encT _) 1 rfl rfl (.refl _)) ?_
                refine ASeq.peT rfl rfl rfl rfl rfl rfl rfl (fun L0 => (AOp.callP (matters_c p) (by first | exact LeL.eq rfl | (repeat constructor)) ⟨rfl, rfl⟩)) ?_
                refine ASeq.lvT rfl rfl rfl rfl rfl rfl rfl (HasCell.mk (d := encT _) 0 rfl rfl (.refl _)) ?_
                refine ASeq.peT rfl rfl rfl rfl rfl rfl rfl (fun L0 => (AOp.callP (matters_c q) (by first | exact LeL.eq rfl | (repeat constructor)) ⟨rfl, rfl⟩)) ?_
                refine ASeq.eeT rfl rfl rfl rfl rfl rfl rfl rfl (AOp.callM [_, _] ((aall_c b cs hC n H F (mattersM p) (mattersM q) (matters_len hal) h0 h1 (by unfold mattersM; have := hp.1.len; split; simp; split; simp; omega) (W_matters ⟨hp.1, by have := hp.2; omega⟩) (W_matters ⟨hq.1, by have := hq.2; omega⟩))) (by first | exact LeL.eq rfl | (repeat constructor)) rfl (fun hok => ⟨(by first | exact Keeps.nil | (repeat first | exact Keeps.nil | refine Keeps.cons (by first | exact HasCell.mk 0 rfl rfl (.refl _) | exact HasCell.mk 1 rfl rfl (.refl _) | exact HasCell.mk 2 rfl rfl (.refl _) | exact HasCell.mk 3 rfl rfl (.refl _) | exact HasCell.mk 4 rfl rfl (.refl _) | exact HasCell.mk 5 rfl rfl (.refl _) | exact HasCell.mk 6 rfl rfl (.refl _) | exact HasCell.mk 7 rfl rfl (.refl _)) ?_)), ?_⟩) (fun hno => ?_))
                ·
                  refine ASeq.pv rfl rfl rfl rfl (fun L0 => (AVal.pickT rfl (by constructor))) ?_
                  refine ASeq.pv rfl rfl rfl rfl (fun L0 => (AVal.assignN (by constructor))) ?_
                  refine ASeq.nil ?_
                  refine ACode.ret ?_
                  refine AFin.mayRet rfl (.cons rfl .nil) (by repeat first | exact List.Sublist.refl _ | apply List.Sublist.cons_cons | apply List.Sublist.cons) ?_ ((by first | exact hok | rfl))
                  exact .refl _
                ·
                  exact AFin.mayPan (X := X) (fn := Tryz.f76) rfl (by repeat first | exact List.Sublist.refl _ | apply List.Sublist.cons_cons | apply List.Sublist.cons | exact List.nil_sublist _) hno
              ·
                try simp only [decide_eq_true_eq, decide_eq_false_iff_not, Bool.not_eq_true', Bool.not_eq_false', Bool.and_eq_true, Bool.or_eq_true, beq_iff_eq, beq_eq_false_iff_ne] at h71
                refine ASeq.pvF rfl rfl rfl rfl rfl rfl rfl rfl ?_
                refine ASeq.lvF rfl rfl rfl rfl rfl rfl (HasCell.mk (o := 0) (i := ⟨1, false, [], 0⟩) 0 rfl rfl (.refl _)) ?_
                refine ASeq.pvF rfl rfl rfl rfl rfl rfl rfl rfl ?_
                refine ASeq.lvF rfl rfl rfl rfl rfl rfl (HasCell.mk (o := 0) (i := ⟨1, false, [], 0⟩) 0 rfl rfl (.refl _)) ?_
                refine ASeq.pvF rfl rfl rfl rfl rfl rfl rfl rfl ?_
                refine ASeq.eeF rfl rfl rfl rfl rfl rfl rfl rfl rfl (by first | exact Keeps.nil | (repeat first | exact Keeps.nil | refine Keeps.cons (by first | exact HasCell.mk 0 rfl rfl (.refl _) | exact HasCell.mk 1 rfl rfl (.refl _) | exact HasCell.mk 2 rfl rfl (.refl _) | exact HasCell.mk 3 rfl rfl (.refl _) | exact HasCell.mk 4 rfl rfl (.refl _) | exact HasCell.mk 5 rfl rfl (.refl _) | exact HasCell.mk 6 rfl rfl (.refl _) | exact HasCell.mk 7 rfl rfl (.refl _)) ?_)) ?_
                refine ASeq.pv rfl rfl rfl rfl (fun L0 => (AVal.pickF rfl (by constructor))) ?_
                refine ASeq.pv rfl rfl rfl rfl (fun L0 => (AVal.assignN (by constructor))) ?_
                refine ASeq.nil ?_
                refine ACode.ret ?_
                have hal : ¬ alikeM p q = true := fun h => by
                  simp only [alikeM, Bool.and_eq_true, decide_eq_true_eq] at h
                  obtain ⟨⟨⟨⟨a1, a2⟩, a3⟩, a4⟩, a5⟩ := h
                  first | exact absurd a1 h40 | exact absurd a2 h47 | exact absurd a3 h54 | exact absurd (by omega) h63 | simp_all
                have hn : (headsM (oneM cs n) F p q) = some (false, F) := by unfold headsM; rw [if_neg hinv5, if_neg hinv13, if_neg hal]
                rw [hn]
                refine AFin.mayRet rfl (.cons rfl .nil) (by repeat first | exact List.Sublist.refl _ | apply List.Sublist.cons_cons | apply List.Sublist.cons) ?_ ((by first | exact hok | rfl))
                exact .refl _
            ·
              try simp only [decide_eq_true_eq, decide_eq_false_iff_not, Bool.not_eq_true', Bool.not_eq_false', Bool.and_eq_true, Bool.or_eq_true, beq_iff_eq, beq_eq_false_iff_ne] at h63
              refine AOps.vF rfl rfl rfl rfl rfl rfl rfl ?_
              refine AOps.vF rfl rfl rfl rfl rfl rfl rfl ?_
              refine AOps.vF rfl rfl rfl rfl rfl rfl rfl ?_
              refine AOps.vF rfl rfl rfl rfl rfl rfl rfl ?_
              refine AOps.vF rfl rfl rfl rfl rfl rfl rfl ?_
              refine AOps.v rfl rfl rfl (AVal.pickF rfl (by constructor)) ?_
              refine AOps.v rfl rfl rfl (AVal.assignN (by constructor)) ?_
              refine AOps.nil ?_
              refine ACode.seq ?_
              refine ACode.draws [.p 0, .p 1, .p 2, .l 3, .p 4, .l 5, .p 6, .e 7 [], .p 8, .p 9] mixed (by kernel_rfl) ?_
              refine ASeq.pv rfl rfl rfl rfl (fun L0 => (AVal.moveN (by constructor))) ?_
              refine ASeq.pv rfl rfl rfl rfl (fun L0 => (AVal.moveN (by constructor))) ?_
              refine ASeq.pvF rfl rfl rfl rfl rfl rfl rfl rfl ?_
              refine ASeq.lvF rfl rfl rfl rfl rfl rfl (HasCell.mk (o := 0) (i := ⟨1, false, [], 0⟩) 0 rfl rfl (.refl _)) ?_
              refine ASeq.pvF rfl rfl rfl rfl rfl rfl rfl rfl ?_
              refine ASeq.lvF rfl rfl rfl rfl rfl rfl (HasCell.mk (o := 0) (i := ⟨1, false, [], 0⟩) 0 rfl rfl (.refl _)) ?_
              refine ASeq.pvF rfl rfl rfl rfl rfl rfl rfl rfl ?_
              refine ASeq.eeF rfl rfl rfl rfl rfl rfl rfl rfl rfl (by first | exact Keeps.nil | (repeat first | exact Keeps.nil | refine Keeps.cons (by first | exact HasCell.mk 0 rfl rfl (.refl _) | exact HasCell.mk 1 rfl rfl (.refl _) | exact HasCell.mk 2 rfl rfl (.refl _) | exact HasCell.mk 3 rfl rfl (.refl _) | exact HasCell.mk 4 rfl rfl (.refl _) | exact HasCell.mk 5 rfl rfl (.refl _) | exact HasCell.mk 6 rfl rfl (.refl _) | exact HasCell.mk 7 rfl rfl (.refl _)) ?_)) ?_
              refine ASeq.pv rfl rfl rfl rfl (fun L0 => (AVal.pickF rfl (by constructor))) ?_
              refine ASeq.pv rfl rfl rfl rfl (fun L0 => (AVal.assignN (by constructor))) ?_
              refine ASeq.nil ?_
              refine ACode.ret ?_
              have hal : ¬ alikeM p q = true := fun h => by
                simp only [alikeM, Bool.and_eq_true, decide_eq_true_eq] at h
                obtain ⟨⟨⟨⟨a1, a2⟩, a3⟩, a4⟩, a5⟩ := h
                first | exact absurd a1 h40 | exact absurd a2 h47 | exact absurd a3 h54 | exact absurd (by omega) h63 | simp_all
              have hn : (headsM (oneM cs n) F p q) = some (false, F) := by unfold headsM; rw [if_neg hinv5, if_neg hinv13, if_neg hal]
              rw [hn]
              refine AFin.mayRet rfl (.cons rfl .nil) (by repeat first | exact List.Sublist.refl _ | apply List.Sublist.cons_cons | apply List.Sublist.cons) ?_ ((by first | exact hok | rfl))
              exact .refl _
          ·
            try simp only [decide_eq_true_eq, decide_eq_false_iff_not, Bool.not_eq_true', Bool.not_eq_false', Bool.and_eq_true, Bool.or_eq_true, beq_iff_eq, beq_eq_false_iff_ne] at h54
            refine AOps.vF rfl rfl rfl rfl rfl rfl rfl ?_
            refine AOps.vF rfl rfl rfl rfl rfl rfl rfl ?_
            refine AOps.vF rfl rfl rfl rfl rfl rfl rfl ?_
            refine AOps.vF rfl rfl rfl rfl rfl rfl rfl ?_
            refine AOps.vF rfl rfl rfl rfl rfl rfl rfl ?_
            refine AOps.vF rfl rfl rfl rfl rfl rfl rfl ?_
            refine AOps.vF rfl rfl rfl rfl rfl rfl rfl ?_
            refine AOps.v rfl rfl rfl (AVal.pickF rfl (by constructor)) ?_
            refine AOps.v rfl rfl rfl (AVal.moveN (by constructor)) ?_
            refine AOps.vF rfl rfl rfl rfl rfl rfl rfl ?_
            refine AOps.vF rfl rfl rfl rfl rfl rfl rfl ?_
            refine AOps.vF rfl rfl rfl rfl rfl rfl rfl ?_
            refine AOps.vF rfl rfl rfl rfl rfl rfl rfl ?_
            refine AOps.vF rfl rfl rfl rfl rfl rfl rfl ?_
            refine AOps.v rfl rfl rfl (AVal.pickF rfl (by constructor)) ?_
            refine AOps.v rfl rfl rfl (AVal.assignN (by constructor)) ?_
            refine AOps.nil ?_
            refine ACode.seq ?_
            refine ACode.draws [.p 0, .p 1, .p 2, .l 3, .p 4, .l 5, .p 6, .e 7 [], .p 8, .p 9] mixed (by kernel_rfl) ?_
            refine ASeq.pv rfl rfl rfl rfl (fun L0 => (AVal.moveN (by constructor))) ?_
            refine ASeq.pv rfl rfl rfl rfl (fun L0 => (AVal.moveN (by constructor))) ?_
            refine ASeq.pvF rfl rfl rfl rfl rfl rfl rfl rfl ?_
            refine ASeq.lvF rfl rfl rfl rfl rfl rfl (HasCell.mk (o := 0) (i := ⟨1, false, [], 0⟩) 0 rfl rfl (.refl _)) ?_
            refine ASeq.pvF rfl rfl rfl rfl rfl rfl rfl rfl ?_
            refine ASeq.lvF rfl rfl rfl rfl rfl rfl (HasCell.mk (o := 0) (i := ⟨1, false, [], 0⟩) 0 rfl rfl (.refl _)) ?_
            refine ASeq.pvF rfl rfl rfl rfl rfl rfl rfl rfl ?_
            refine ASeq.eeF rfl rfl rfl rfl rfl rfl rfl rfl rfl (by first | exact Keeps.nil | (repeat first | exact Keeps.nil | refine Keeps.cons (by first | exact HasCell.mk 0 rfl rfl (.refl _) | exact HasCell.mk 1 rfl rfl (.refl _) | exact HasCell.mk 2 rfl rfl (.refl _) | exact HasCell.mk 3 rfl rfl (.refl _) | exact HasCell.mk 4 rfl rfl (.refl _) | exact HasCell.mk 5 rfl rfl (.refl _) | exact HasCell.mk 6 rfl rfl (.refl _) | exact HasCell.mk 7 rfl rfl (.refl _)) ?_)) ?_
            refine ASeq.pv rfl rfl rfl rfl (fun L0 => (AVal.pickF rfl (by constructor))) ?_
            refine ASeq.pv rfl rfl rfl rfl (fun L0 => (AVal.assignN (by constructor))) ?_
            refine ASeq.nil ?_
            refine ACode.ret ?_
            have hal : ¬ alikeM p q = true := fun h => by
              simp only [alikeM, Bool.and_eq_true, decide_eq_true_eq] at h
              obtain ⟨⟨⟨⟨a1, a2⟩, a3⟩, a4⟩, a5⟩ := h
              first | exact absurd a1 h40 | exact absurd a2 h47 | exact absurd a3 h54 | exact absurd (by omega) h63 | simp_all
            have hn : (headsM (oneM cs n) F p q) = some (false, F) := by unfold headsM; rw [if_neg hinv5, if_neg hinv13, if_neg hal]
            rw [hn]
            refine AFin.mayRet rfl (.cons rfl .nil) (by repeat first | exact List.Sublist.refl _ | apply List.Sublist.cons_cons | apply List.Sublist.cons) ?_ ((by first | exact hok | rfl))
            exact .refl _
        ·
          try simp only [decide_eq_true_eq, decide_eq_false_iff_not, Bool.not_eq_true', Bool.not_eq_false', Bool.and_eq_true, Bool.or_eq_true, beq_iff_eq, beq_eq_false_iff_ne] at h47
          refine AOps.vF rfl rfl rfl rfl rfl rfl rfl ?_
          refine AOps.vF rfl rfl rfl rfl rfl rfl rfl ?_
          refine AOps.vF rfl rfl rfl rfl rfl rfl rfl ?_
          refine AOps.vF rfl rfl rfl rfl rfl rfl rfl ?_
          refine AOps.vF rfl rfl rfl rfl rfl rfl rfl ?_
          refine AOps.v rfl rfl rfl (AVal.pickF rfl (by constructor)) ?_
          refine AOps.v rfl rfl rfl (AVal.moveN (by constructor)) ?_
          refine AOps.vF rfl rfl rfl rfl rfl rfl rfl ?_
          refine AOps.vF rfl rfl rfl rfl rfl rfl rfl ?_
          refine AOps.vF rfl rfl rfl rfl rfl rfl rfl ?_
          refine AOps.vF rfl rfl rfl rfl rfl rfl rfl ?_
          refine AOps.vF rfl rfl rfl rfl rfl rfl rfl ?_
          refine AOps.vF rfl rfl rfl rfl rfl rfl rfl ?_
          refine AOps.vF rfl rfl rfl rfl rfl rfl rfl ?_
          refine AOps.v rfl rfl rfl (AVal.pickF rfl (by constructor)) ?_
          refine AOps.v rfl rfl rfl (AVal.moveN (by constructor)) ?_
          refine AOps.vF rfl rfl rfl rfl rfl rfl rfl ?_
          refine AOps.vF rfl rfl rfl rfl rfl rfl rfl ?_
          refine AOps.vF rfl rfl rfl rfl rfl rfl rfl ?_
          refine AOps.vF rfl rfl rfl rfl rfl rfl rfl ?_
          refine AOps.vF rfl rfl rfl rfl rfl rfl rfl ?_
          refine AOps.v rfl rfl rfl (AVal.pickF rfl (by constructor)) ?_
          refine AOps.v rfl rfl rfl (AVal.assignN (by constructor)) ?_
          refine AOps.nil ?_
          refine ACode.seq ?_
          refine ACode.draws [.p 0, .p 1, .p 2, .l 3, .p 4, .l 5, .p 6, .e 7 [], .p 8, .p 9] mixed (by kernel_rfl) ?_
          refine ASeq.pv rfl rfl rfl rfl (fun L0 => (AVal.moveN (by constructor))) ?_
          refine ASeq.pv rfl rfl rfl rfl (fun L0 => (AVal.moveN (by constructor))) ?_
          refine ASeq.pvF rfl rfl rfl rfl rfl rfl rfl rfl ?_
          refine ASeq.lvF rfl rfl rfl rfl rfl rfl (HasCell.mk (o := 0) (i := ⟨1, false, [], 0⟩) 0 rfl rfl (.refl _)) ?_
          refine ASeq.pvF rfl rfl rfl rfl rfl rfl rfl rfl ?_
          refine ASeq.lvF rfl rfl rfl rfl rfl rfl (HasCell.mk (o := 0) (i := ⟨1, false, [], 0⟩) 0 rfl rfl (.refl _)) ?_
          refine ASeq.pvF rfl rfl rfl rfl rfl rfl rfl rfl ?_
          refine ASeq.eeF rfl rfl rfl rfl rfl rfl rfl rfl rfl (by first | exact Keeps.nil | (repeat first | exact Keeps.nil | refine Keeps.cons (by first | exact HasCell.mk 0 rfl rfl (.refl _) | exact HasCell.mk 1 rfl rfl (.refl _) | exact HasCell.mk 2 rfl rfl (.refl _) | exact HasCell.mk 3 rfl rfl (.refl _) | exact HasCell.mk 4 rfl rfl (.refl _) | exact HasCell.mk 5 rfl rfl (.refl _) | exact HasCell.mk 6 rfl rfl (.refl _) | exact HasCell.mk 7 rfl rfl (.refl _)) ?_)) ?_
          refine ASeq.pv rfl rfl rfl rfl (fun L0 => (AVal.pickF rfl (by constructor))) ?_
          refine ASeq.pv rfl rfl rfl rfl (fun L0 => (AVal.assignN (by constructor))) ?_
          refine ASeq.nil ?_
          refine ACode.ret ?_
          have hal : ¬ alikeM p q = true := fun h => by
            simp only [alikeM, Bool.and_eq_true, decide_eq_true_eq] at h
            obtain ⟨⟨⟨⟨a1, a2⟩, a3⟩, a4⟩, a5⟩ := h
            first | exact absurd a1 h40 | exact absurd a2 h47 | exact absurd a3 h54 | exact absurd (by omega) h63 | simp_all
          have hn : (headsM (oneM cs n) F p q) = some (false, F) := by unfold headsM; rw [if_neg hinv5, if_neg hinv13, if_neg hal]
          rw [hn]
          refine AFin.mayRet rfl (.cons rfl .nil) (by repeat first | exact List.Sublist.refl _ | apply List.Sublist.cons_cons | apply List.Sublist.cons) ?_ ((by first | exact hok | rfl))
          exact .refl _
      ·
        try simp only [decide_eq_true_eq, decide_eq_false_iff_not, Bool.not_eq_true', Bool.not_eq_false', Bool.and_eq_true, Bool.or_eq_true, beq_iff_eq, beq_eq_false_iff_ne] at h40
        refine AOps.vF rfl rfl rfl rfl rfl rfl rfl ?_
        refine AOps.vF rfl rfl rfl rfl rfl rfl rfl ?_
        refine AOps.vF rfl rfl rfl rfl rfl rfl rfl ?_
        refine AOps.vF rfl rfl rfl rfl rfl rfl rfl ?_
        refine AOps.vF rfl rfl rfl rfl rfl rfl rfl ?_
        refine AOps.v rfl rfl rfl (AVal.pickF rfl (by constructor)) ?_
        refine AOps.v rfl rfl rfl (AVal.moveN (by constructor)) ?_
        refine AOps.vF rfl rfl rfl rfl rfl rfl rfl ?_
        refine AOps.vF rfl rfl rfl rfl rfl rfl rfl ?_
        refine AOps.vF rfl rfl rfl rfl rfl rfl rfl ?_
        refine AOps.vF rfl rfl rfl rfl rfl rfl rfl ?_
        refine AOps.vF rfl rfl rfl rfl rfl rfl rfl ?_
        refine AOps.v rfl rfl rfl (AVal.pickF rfl (by constructor)) ?_
        refine AOps.v rfl rfl rfl (AVal.moveN (by constructor)) ?_
        refine AOps.vF rfl rfl rfl rfl rfl rfl rfl ?_
        refine AOps.vF rfl rfl rfl rfl rfl rfl rfl ?_
        refine AOps.vF rfl rfl rfl rfl rfl rfl rfl ?_
        refine AOps.vF rfl rfl rfl rfl rfl rfl rfl ?_
        refine AOps.vF rfl rfl rfl rfl rfl rfl rfl ?_
        refine AOps.vF rfl rfl rfl rfl rfl rfl rfl ?_
        refine AOps.vF rfl rfl rfl rfl rfl rfl rfl ?_
        refine AOps.v rfl rfl rfl (AVal.pickF rfl (by constructor)) ?_
        refine AOps.v rfl rfl rfl (AVal.moveN (by constructor)) ?_
        refine AOps.vF rfl rfl rfl rfl rfl rfl rfl ?_
        refine AOps.vF rfl rfl rfl rfl rfl rfl rfl ?_
        refine AOps.vF rfl rfl rfl rfl rfl rfl rfl ?_
        refine AOps.vF rfl rfl rfl rfl rfl rfl rfl ?_
        refine AOps.vF rfl rfl rfl rfl rfl rfl rfl ?_
        refine AOps.v rfl rfl rfl (AVal.pickF rfl (by constructor)) ?_
        refine AOps.v rfl rfl rfl (AVal.assignN (by constructor)) ?_
        refine AOps.nil ?_
        refine ACode.seq ?_
        refine ACode.draws [.p 0, .p 1, .p 2, .l 3, .p 4, .l 5, .p 6, .e 7 [], .p 8, .p 9] mixed (by kernel_rfl) ?_
        refine ASeq.pv rfl rfl rfl rfl (fun L0 => (AVal.moveN (by constructor))) ?_
        refine ASeq.pv rfl rfl rfl rfl (fun L0 => (AVal.moveN (by constructor))) ?_
        refine ASeq.pvF rfl rfl rfl rfl rfl rfl rfl rfl ?_
        refine ASeq.lvF rfl rfl rfl rfl rfl rfl (HasCell.mk (o := 0) (i := ⟨1, false, [], 0⟩) 0 rfl rfl (.refl _)) ?_
        refine ASeq.pvF rfl rfl rfl rfl rfl rfl rfl rfl ?_
        refine ASeq.lvF rfl rfl rfl rfl rfl rfl (HasCell.mk (o := 0) (i := ⟨1, false, [], 0⟩) 0 rfl rfl (.refl _)) ?_
        refine ASeq.pvF rfl rfl rfl rfl rfl rfl rfl rfl ?_
        refine ASeq.eeF rfl rfl rfl rfl rfl rfl rfl rfl rfl (by first | exact Keeps.nil | (repeat first | exact Keeps.nil | refine Keeps.cons (by first | exact HasCell.mk 0 rfl rfl (.refl _) | exact HasCell.mk 1 rfl rfl (.refl _) | exact HasCell.mk 2 rfl rfl (.refl _) | exact HasCell.mk 3 rfl rfl (.refl _) | exact HasCell.mk 4 rfl rfl (.refl _) | exact HasCell.mk 5 rfl rfl (.refl _) | exact HasCell.mk 6 rfl rfl (.refl _) | exact HasCell.mk 7 rfl rfl (.refl _)) ?_)) ?_
        refine ASeq.pv rfl rfl rfl rfl (fun L0 => (AVal.pickF rfl (by constructor))) ?_
        refine ASeq.pv rfl rfl rfl rfl (fun L0 => (AVal.assignN (by constructor))) ?_
        refine ASeq.nil ?_
        refine ACode.ret ?_
        have hal : ¬ alikeM p q = true := fun h => by
          simp only [alikeM, Bool.and_eq_true, decide_eq_true_eq] at h
          obtain ⟨⟨⟨⟨a1, a2⟩, a3⟩, a4⟩, a5⟩ := h
          first | exact absurd a1 h40 | exact absurd a2 h47 | exact absurd a3 h54 | exact absurd (by omega) h63 | simp_all
        have hn : (headsM (oneM cs n) F p q) = some (false, F) := by unfold headsM; rw [if_neg hinv5, if_neg hinv13, if_neg hal]
        rw [hn]
        refine AFin.mayRet rfl (.cons rfl .nil) (by repeat first | exact List.Sublist.refl _ | apply List.Sublist.cons_cons | apply List.Sublist.cons) ?_ ((by first | exact hok | rfl))
        exact .refl _

end Sp

/- The walks of conv: one, at most, what is told. Written by a program of mine. -/
set_option linter.unusedVariables false
set_option linter.unusedSimpArgs false
set_option maxRecDepth 20000
namespace Sp
open Go Go.Proofs

theorem one_w (hS : SortedOk) (b : Nat) (cs : List Core) (hC : CoresOk cs) (n : Nat) (H1 : ∀ m, n = m + 1 → (∀ G p q, 0 ≤ G → G ≤ min (m : Int) 1073741824 → W G p → W G q → AMay X 36 [.ptr b 0, encT p, encT q] [(b, .cells 119 [.int .i64 (G), .slC cs])] ((oneM cs m G p q).isSome = true) (.bool (oB (oneM cs m G p q))) [(b, .cells 119 [.int .i64 (oL (oneM cs m G p q)), .slC cs])] (.iface 30 (.int .i64 5)) [(b, .cells 119 [.int .i64 (oL (oneM cs m G p q)), .slC cs])])) (F : Int) (p q : Term) (h0 : 0 ≤ F) (h1 : F ≤ min (n : Int) 1073741824) (hp : W F p) (hq : W F q) : AMay X 36 [.ptr b 0, encT p, encT q] [(b, .cells 119 [.int .i64 (F), .slC cs])] ((oneM cs n F p q).isSome = true) (.bool (oB (oneM cs n F p q))) [(b, .cells 119 [.int .i64 (oL (oneM cs n F p q)), .slC cs])] (.iface 30 (.int .i64 5)) [(b, .cells 119 [.int .i64 (oL (oneM cs n F p q)), .slC cs])] := by
  refine ACalls.of_code Tryz.func36 rfl (by rfl) (Nat.le_of_ble_eq_true rfl) ?_
  refine ACode.seq ?_
  refine ACode.region ?_
  refine AOps.e rfl rfl rfl (AOp.boxA rfl (fun b4 => ?_))
  refine AOps.e rfl rfl rfl (AOp.boxA rfl (fun b5 => ?_))
  refine AOps.v rfl rfl rfl (AVal.assignN (by constructor)) ?_
  refine AOps.nil ?_
  refine ACode.seq ?_
  refine ACode.region ?_
  refine AOps.v rfl rfl rfl (AVal.moveN (by constructor)) ?_
  refine AOps.v rfl rfl rfl (AVal.nilCheckP rfl) ?_
  refine AOps.v rfl rfl rfl (AVal.fieldP rfl rfl) ?_
  refine AOps.e rfl rfl rfl (AOp.callM [_, _] (acall_c b cs F h0 (by omega)) (by first | exact LeL.eq rfl | (repeat constructor)) rfl (fun hok1 => ?_) (fun hno1 => ?_))
  ·
    obtain ⟨m, rfl⟩ : ∃ m, n = m + 1 := ⟨n - 1, by omega⟩
    have hp2 := hp.2
    have hq2 := hq.2
    have hF1 : F - 1 ≤ min (m : Int) 1073741824 := by push_cast at h1; omega
    have hp1 : W (F - 1) p := hp.mono (by omega)
    have hq1 : W (F - 1) q := hq.mono (by omega)
    refine AOps.nil ?_
    refine ACode.seq ?_
    refine ACode.seq ?_
    refine ACode.region ?_
    refine AOps.v rfl rfl rfl (AVal.loadP (d := encT _) 1 rfl rfl rfl rfl) ?_
    refine AOps.v rfl rfl rfl (AVal.loadP (d := encT _) 0 rfl rfl rfl rfl) ?_
    refine AOps.e rfl rfl rfl (AOp.callP (same_c hS _ p q rfl (fitMax hp.1) (fitMax hq.1)) (by first | exact LeL.eq rfl | (repeat constructor)) ?_)
    refine AOps.nil ?_
    refine ACode.condS rfl (fun h14 => ?_) (fun h14 => ?_)
    ·
      try simp only [decide_eq_true_eq, decide_eq_false_iff_not] at h14
      have hn : (oneM cs (m + 1) F p q) = some (true, F - 1) := by rw [oneM_succ, if_neg (by omega), if_pos h14]
      rw [hn]
      refine ACode.seq ?_
      refine ACode.region ?_
      refine AOps.v rfl rfl rfl (AVal.assignN (by constructor)) ?_
      refine AOps.nil ?_
      refine ACode.ret ?_
      refine AFin.mayRet rfl (.cons rfl .nil) (by repeat first | exact List.Sublist.refl _ | apply List.Sublist.cons_cons | apply List.Sublist.cons) ?_ ((by first | exact hok4 | rfl))
      exact .refl _
    ·
      try simp only [decide_eq_true_eq, decide_eq_false_iff_not] at h14
      have hne : ¬ sameM p q = true := by rw [h14]; simp
      refine ACode.skip ?_
      refine ACode.seq ?_
      refine ACode.region ?_
      refine AOps.v rfl rfl rfl (AVal.moveN (by constructor)) ?_
      refine AOps.v rfl rfl rfl (AVal.loadP (d := encT _) 1 rfl rfl rfl rfl) ?_
      refine AOps.e rfl rfl rfl (AOp.callM [_, _] (ahead_c hS b cs hC (F - 1) p (by omega) (by omega) hp1) (by first | exact LeL.eq rfl | (repeat constructor)) rfl (fun hok2 => ?_) (fun hno2 => ?_))
      ·
        obtain ⟨xf, x0, x1, xz⟩ := head_ok hC (by omega) (by omega) hp1 hok2
        have hq3 : W (whnfM cs p (F - 1)).2.1 q := hq.mono (by omega)
        refine AOps.e rfl rfl rfl (AOp.allocN rfl rfl (fun b7 => ?_))
        refine AOps.e0 rfl rfl (AOp.storeN 0 rfl rfl rfl (by constructor) rfl rfl rfl (by repeat constructor) (by repeat constructor) ?_)
        refine AOps.nil ?_
        refine ACode.seq ?_
        refine ACode.draws [.p 0, .l 1, .p 2, .l 3, .e 4 [1], .e 5 [], .p 6] mixed (by kernel_rfl) ?_
        refine ASeq.pv rfl rfl rfl rfl (fun L0 => (AVal.moveN (by constructor))) ?_
        refine ASeq.lv rfl rfl rfl rfl (HasCell.mk (d := encT _) 0 rfl rfl (.refl _)) ?_
        refine ASeq.pv rfl rfl rfl rfl (fun L0 => (AVal.moveN (by constructor))) ?_
        refine ASeq.lv rfl rfl rfl rfl (HasCell.mk (d := encT _) 1 rfl rfl (.refl _)) ?_
        refine ASeq.ee rfl rfl rfl rfl rfl (AOp.callM [_, _, _] (ahead_c hS b cs hC (whnfM cs p (F - 1)).2.1 q x0 (by omega) hq3) (by first | exact LeL.eq rfl | (repeat constructor)) rfl (fun hok3 => ⟨(by first | exact Keeps.nil | (repeat first | exact Keeps.nil | refine Keeps.cons (by first | exact HasCell.mk 0 rfl rfl (.refl _) | exact HasCell.mk 1 rfl rfl (.refl _) | exact HasCell.mk 2 rfl rfl (.refl _) | exact HasCell.mk 3 rfl rfl (.refl _) | exact HasCell.mk 4 rfl rfl (.refl _) | exact HasCell.mk 5 rfl rfl (.refl _) | exact HasCell.mk 6 rfl rfl (.refl _) | exact HasCell.mk 7 rfl rfl (.refl _)) ?_)), ?_⟩) (fun hno3 => ?_))
        ·
          obtain ⟨yf, y0, y1, yz⟩ := head_ok hC x0 (by omega) hq3 hok3
          have hn : (oneM cs (m + 1) F p q) = headsM (oneM cs m) (whnfM cs q (whnfM cs p (F - 1)).2.1).2.1 (whnfM cs p (F - 1)).1 (whnfM cs q (whnfM cs p (F - 1)).2.1).1 := by rw [oneM_succ, if_neg (by omega), if_neg hne, whnf2_yes hok2 hok3]
          rw [hn]
          refine ASeq.ee rfl rfl rfl rfl rfl (AOp.callM [_, _, _] (aheads_c hS b cs hC m (H1 m rfl) (whnfM cs q (whnfM cs p (F - 1)).2.1).2.1 (whnfM cs p (F - 1)).1 (whnfM cs q (whnfM cs p (F - 1)).2.1).1 y0 (by omega) ⟨xf, by omega⟩ ⟨yf, by omega⟩) (by first | exact LeL.eq rfl | (repeat constructor)) rfl (fun hok4 => ⟨(by first | exact Keeps.nil | (repeat first | exact Keeps.nil | refine Keeps.cons (by first | exact HasCell.mk 0 rfl rfl (.refl _) | exact HasCell.mk 1 rfl rfl (.refl _) | exact HasCell.mk 2 rfl rfl (.refl _) | exact HasCell.mk 3 rfl rfl (.refl _) | exact HasCell.mk 4 rfl rfl (.refl _) | exact HasCell.mk 5 rfl rfl (.refl _) | exact HasCell.mk 6 rfl rfl (.refl _) | exact HasCell.mk 7 rfl rfl (.refl _)) ?_)), ?_⟩) (fun hno4 => ?_))
          ·
            refine ASeq.pv rfl rfl rfl rfl (fun L0 => (AVal.assignN (by constructor))) ?_
            refine ASeq.nil ?_
            refine ACode.ret ?_
            refine AFin.mayRet rfl (.cons rfl .nil) (by repeat first | exact List.Sublist.refl _ | apply List.Sublist.cons_cons | apply List.Sublist.cons) ?_ ((by first | exact hok4 | rfl))
            exact .refl _
          ·
            exact AFin.mayPan (X := X) (fn := Tryz.f36) rfl (by repeat first | exact List.Sublist.refl _ | apply List.Sublist.cons_cons | apply List.Sublist.cons | exact List.nil_sublist _) hno4
        ·
          have hn : (oneM cs (m + 1) F p q) = none := by rw [oneM_succ, if_neg (by omega), if_neg hne, whnf2_no2 hok2 hno3]
          have he : whnfM cs q (whnfM cs p (F - 1)).2.1 = (T0, 0, 5) := whnf_err x0 (by omega) hno3
          rw [hn, he]
          exact AFin.mayPan (X := X) (fn := Tryz.f36) rfl (by repeat first | exact List.Sublist.refl _ | apply List.Sublist.cons_cons | apply List.Sublist.cons | exact List.nil_sublist _) (by simp)
      ·
        have hn : (oneM cs (m + 1) F p q) = none := by rw [oneM_succ, if_neg (by omega), if_neg hne, whnf2_no1 hno2]
        have he : whnfM cs p (F - 1) = (T0, 0, 5) := whnf_err (by omega) (by omega) hno2
        rw [hn, he]
        exact AFin.mayPan (X := X) (fn := Tryz.f36) rfl (by repeat first | exact List.Sublist.refl _ | apply List.Sublist.cons_cons | apply List.Sublist.cons | exact List.nil_sublist _) (by simp)
  ·
    obtain rfl : F = 0 := by omega
    rw [one_zero]
    exact AFin.mayPan (X := X) (fn := Tryz.f36) rfl (by repeat first | exact List.Sublist.refl _ | apply List.Sublist.cons_cons | apply List.Sublist.cons | exact List.nil_sublist _) (by simp)

theorem one_c (hS : SortedOk) (b : Nat) (cs : List Core) (hC : CoresOk cs) (m : Nat) : ∀ G p q, 0 ≤ G → G ≤ min (m : Int) 1073741824 → W G p → W G q → AMay X 36 [.ptr b 0, encT p, encT q] [(b, .cells 119 [.int .i64 (G), .slC cs])] ((oneM cs m G p q).isSome = true) (.bool (oB (oneM cs m G p q))) [(b, .cells 119 [.int .i64 (oL (oneM cs m G p q)), .slC cs])] (.iface 30 (.int .i64 5)) [(b, .cells 119 [.int .i64 (oL (oneM cs m G p q)), .slC cs])] := by
  induction m with
  | zero => exact one_w hS b cs hC 0 (fun m h => by omega)
  | succ n ih => exact one_w hS b cs hC (n + 1) (fun m h => by cases h; exact ih)

theorem both_c (k : Int) (x y : Term) (bx by_ : Nat) (R : Loc) : AKeep X 77 [.int .i64 k, .ptr bx 0, .ptr by_ 0] ((by_, .cells 27 (cellsT y)) :: (bx, .cells 27 (cellsT x)) :: R) (.bool (decide (x.kind = k) && decide (y.kind = k))) := by
  refine ACalls.of_code Tryz.func77 rfl (by rfl) (Nat.le_of_ble_eq_true rfl) ?_
  refine ACode.seq ?_
  refine ACode.region ?_
  refine AOps.v rfl rfl rfl (AVal.assignN (by constructor)) ?_
  refine AOps.nil ?_
  refine ACode.seq ?_
  refine ACode.region ?_
  refine AOps.v rfl rfl rfl (AVal.fieldP rfl rfl) ?_
  refine AOps.v rfl rfl rfl (AVal.loadPN 1 rfl rfl rfl rfl (by constructor)) ?_
  refine AOps.v rfl rfl rfl (AVal.moveN (by constructor)) ?_
  refine AOps.v rfl rfl rfl (AVal.eql rfl rfl) ?_
  refine AOps.v rfl rfl rfl (AVal.moveN (by constructor)) ?_
  refine AOps.split 9 rfl (fun h9 => ?_) (fun h9 => ?_)
  ·
    try simp only [decide_eq_true_eq, decide_eq_false_iff_not, Bool.not_eq_true', Bool.not_eq_false', Bool.and_eq_true, Bool.or_eq_true, beq_iff_eq, beq_eq_false_iff_ne] at h9
    refine AOps.vT rfl rfl rfl rfl rfl rfl (AVal.fieldP rfl rfl) ?_
    refine AOps.vT rfl rfl rfl rfl rfl rfl (AVal.loadPN 0 rfl rfl rfl rfl (by constructor)) ?_
    refine AOps.vT rfl rfl rfl rfl rfl rfl (AVal.moveN (by constructor)) ?_
    refine AOps.vT rfl rfl rfl rfl rfl rfl (AVal.eql rfl rfl) ?_
    refine AOps.v rfl rfl rfl (AVal.pickT rfl (by constructor)) ?_
    refine AOps.v rfl rfl rfl (AVal.assignN (by constructor)) ?_
    refine AOps.nil ?_
    refine ACode.ret ?_
    refine AFin.keepRet rfl (.cons rfl .nil) (by repeat first | exact List.Sublist.refl _ | apply List.Sublist.cons_cons | apply List.Sublist.cons) ?_
    exact D.Le.eq (congrArg D.bool (by rw [decide_eq_true h9, Bool.true_and]))
  ·
    try simp only [decide_eq_true_eq, decide_eq_false_iff_not, Bool.not_eq_true', Bool.not_eq_false', Bool.and_eq_true, Bool.or_eq_true, beq_iff_eq, beq_eq_false_iff_ne] at h9
    refine AOps.vF rfl rfl rfl rfl rfl rfl rfl ?_
    refine AOps.vF rfl rfl rfl rfl rfl rfl rfl ?_
    refine AOps.vF rfl rfl rfl rfl rfl rfl rfl ?_
    refine AOps.vF rfl rfl rfl rfl rfl rfl rfl ?_
    refine AOps.v rfl rfl rfl (AVal.pickF rfl (by constructor)) ?_
    refine AOps.v rfl rfl rfl (AVal.assignN (by constructor)) ?_
    refine AOps.nil ?_
    refine ACode.ret ?_
    refine AFin.keepRet rfl (.cons rfl .nil) (by repeat first | exact List.Sublist.refl _ | apply List.Sublist.cons_cons | apply List.Sublist.cons) ?_
    exact D.Le.eq (congrArg D.bool (by rw [decide_eq_false h9, Bool.false_and]))

theorem allM_one {one : Ask} {F F' : Int} {p q : Term} (h : allM one F [p] [q] = some (true, F')) : one F p q = some (true, F') := by
  simp only [allM, List.headD_cons] at h
  cases e : one F p q with
  | none => rw [e] at h; cases h
  | some v =>
    obtain ⟨b, G⟩ := v
    rw [e] at h
    cases b with
    | false => simp at h
    | true => exact h

set_option maxHeartbeats 1600000 in
theorem most_w (hS : SortedOk) (b : Nat) (cs : List Core) (hC : CoresOk cs) (n : Nat) (H1 : ∀ m, n = m + 1 → (∀ G p q, 0 ≤ G → G ≤ min (m : Int) 1073741824 → W G p → W G q → AMay X 36 [.ptr b 0, encT p, encT q] [(b, .cells 119 [.int .i64 (G), .slC cs])] ((oneM cs m G p q).isSome = true) (.bool (oB (oneM cs m G p q))) [(b, .cells 119 [.int .i64 (oL (oneM cs m G p q)), .slC cs])] (.iface 30 (.int .i64 5)) [(b, .cells 119 [.int .i64 (oL (oneM cs m G p q)), .slC cs])])) (H2 : ∀ m, n = m + 1 → (∀ G p q, 0 ≤ G → G ≤ min (m : Int) 1073741824 → W G p → W G q → AMay X 38 [.ptr b 0, encT p, encT q] [(b, .cells 119 [.int .i64 (G), .slC cs])] ((mostM cs m G p q).isSome = true) (.bool (oB (mostM cs m G p q))) [(b, .cells 119 [.int .i64 (oL (mostM cs m G p q)), .slC cs])] (.iface 30 (.int .i64 5)) [(b, .cells 119 [.int .i64 (oL (mostM cs m G p q)), .slC cs])])) (F : Int) (p q : Term) (h0 : 0 ≤ F) (h1 : F ≤ min (n : Int) 1073741824) (hp : W F p) (hq : W F q) : AMay X 38 [.ptr b 0, encT p, encT q] [(b, .cells 119 [.int .i64 (F), .slC cs])] ((mostM cs n F p q).isSome = true) (.bool (oB (mostM cs n F p q))) [(b, .cells 119 [.int .i64 (oL (mostM cs n F p q)), .slC cs])] (.iface 30 (.int .i64 5)) [(b, .cells 119 [.int .i64 (oL (mostM cs n F p q)), .slC cs])] := by
  refine ACalls.of_code Tryz.func38 rfl (by rfl) (Nat.le_of_ble_eq_true rfl) ?_
  refine ACode.seq ?_
  refine ACode.region ?_
  refine AOps.e rfl rfl rfl (AOp.boxA rfl (fun b4 => ?_))
  refine AOps.e rfl rfl rfl (AOp.boxA rfl (fun b5 => ?_))
  refine AOps.v rfl rfl rfl (AVal.assignN (by constructor)) ?_
  refine AOps.nil ?_
  refine ACode.seq ?_
  refine ACode.region ?_
  refine AOps.v rfl rfl rfl (AVal.moveN (by constructor)) ?_
  refine AOps.v rfl rfl rfl (AVal.nilCheckP rfl) ?_
  refine AOps.v rfl rfl rfl (AVal.fieldP rfl rfl) ?_
  refine AOps.e rfl rfl rfl (AOp.callM [_, _] (acall_c b cs F h0 (by omega)) (by first | exact LeL.eq rfl | (repeat constructor)) rfl (fun hok1 => ?_) (fun hno1 => ?_))
  ·
    obtain ⟨m, rfl⟩ : ∃ m, n = m + 1 := ⟨n - 1, by omega⟩
    have hp2 := hp.2
    have hq2 := hq.2
    have hF1 : F - 1 ≤ min (m : Int) 1073741824 := by push_cast at h1; omega
    have hp1 : W (F - 1) p := hp.mono (by omega)
    have hq1 : W (F - 1) q := hq.mono (by omega)
    refine AOps.nil ?_
    refine ACode.seq ?_
    refine ACode.seq ?_
    refine ACode.region ?_
    refine AOps.v rfl rfl rfl (AVal.loadP (d := encT _) 1 rfl rfl rfl rfl) ?_
    refine AOps.v rfl rfl rfl (AVal.loadP (d := encT _) 0 rfl rfl rfl rfl) ?_
    refine AOps.e rfl rfl rfl (AOp.callP (same_c hS _ p q rfl (fitMax hp.1) (fitMax hq.1)) (by first | exact LeL.eq rfl | (repeat constructor)) ?_)
    refine AOps.nil ?_
    refine ACode.condS rfl (fun h16 => ?_) (fun h16 => ?_)
    ·
      try simp only [decide_eq_true_eq, decide_eq_false_iff_not, Bool.not_eq_true', Bool.not_eq_false', Bool.and_eq_true, Bool.or_eq_true, beq_iff_eq, beq_eq_false_iff_ne] at h16
      have hn : (mostM cs (m + 1) F p q) = some (true, F - 1) := by rw [mostM_succ, if_neg (by omega), if_pos h16]
      rw [hn]
      refine ACode.seq ?_
      refine ACode.region ?_
      refine AOps.v rfl rfl rfl (AVal.assignN (by constructor)) ?_
      refine AOps.nil ?_
      refine ACode.ret ?_
      refine AFin.mayRet rfl (.cons rfl .nil) (by repeat first | exact List.Sublist.refl _ | apply List.Sublist.cons_cons | apply List.Sublist.cons) ?_ ((by first | exact hok5 | exact hok6 | rfl))
      exact .refl _
    ·
      try simp only [decide_eq_true_eq, decide_eq_false_iff_not, Bool.not_eq_true', Bool.not_eq_false', Bool.and_eq_true, Bool.or_eq_true, beq_iff_eq, beq_eq_false_iff_ne] at h16
      have hne : ¬ sameM p q = true := by rw [h16]; simp
      refine ACode.skip ?_
      refine ACode.seq ?_
      refine ACode.region ?_
      refine AOps.v rfl rfl rfl (AVal.moveN (by constructor)) ?_
      refine AOps.v rfl rfl rfl (AVal.loadP (d := encT _) 1 rfl rfl rfl rfl) ?_
      refine AOps.e rfl rfl rfl (AOp.callM [_, _] (ahead_c hS b cs hC (F - 1) p (by omega) (by omega) hp1) (by first | exact LeL.eq rfl | (repeat constructor)) rfl (fun hok2 => ?_) (fun hno2 => ?_))
      ·
        obtain ⟨xf, x0, x1, xz⟩ := head_ok hC (by omega) (by omega) hp1 hok2
        have hq3 : W (whnfM cs p (F - 1)).2.1 q := hq.mono (by omega)
        refine AOps.e rfl rfl rfl (AOp.allocN rfl rfl (fun b7 => ?_))
        refine AOps.e0 rfl rfl (AOp.storeN 0 rfl rfl rfl (by constructor) rfl rfl rfl (by repeat constructor) (by repeat constructor) ?_)
        refine AOps.nil ?_
        refine ACode.seq ?_
        refine ACode.region ?_
        refine AOps.v rfl rfl rfl (AVal.moveN (by constructor)) ?_
        refine AOps.v rfl rfl rfl (AVal.loadP (d := encT _) 1 rfl rfl rfl rfl) ?_
        refine AOps.e rfl rfl rfl (AOp.callM [_, _, _] (ahead_c hS b cs hC (whnfM cs p (F - 1)).2.1 q x0 (by omega) hq3) (by first | exact LeL.eq rfl | (repeat constructor)) rfl (fun hok3 => ?_) (fun hno3 => ?_))
        ·
          obtain ⟨yf, y0, y1, yz⟩ := head_ok hC x0 (by omega) hq3 hok3
          have hn : (mostM cs (m + 1) F p q) = mostK cs (oneM cs m) (mostM cs m) (whnfM cs q (whnfM cs p (F - 1)).2.1).2.1 (whnfM cs p (F - 1)).1 (whnfM cs q (whnfM cs p (F - 1)).2.1).1 := by rw [mostM_succ, if_neg (by omega), if_neg hne, whnf2_yes hok2 hok3]
          clear hok3 hok2
          generalize (whnfM cs q (whnfM cs p (F - 1)).2.1).2.1 = G3 at *
          generalize (whnfM cs q (whnfM cs p (F - 1)).2.1).1 = y at *
          generalize (whnfM cs p (F - 1)).1 = x at *
          generalize (whnfM cs p (F - 1)).2.1 = G2 at *
          refine AOps.e rfl rfl rfl (AOp.allocN rfl rfl (fun b8 => ?_))
          refine AOps.e0 rfl rfl (AOp.storeN 0 rfl rfl rfl (by constructor) rfl rfl rfl (by repeat constructor) (by repeat constructor) ?_)
          refine AOps.nil ?_
          refine ACode.seq ?_
          refine ACode.region ?_
          refine AOps.v rfl rfl rfl (AVal.makeFunc) ?_
          refine AOps.v rfl rfl rfl (AVal.assignN (by constructor)) ?_
          refine AOps.nil ?_
          refine ACode.seq ?_
          refine ACode.block ?_
          refine ACode.seq ?_
          refine ACode.region ?_
          refine AOps.v rfl rfl rfl (AVal.moveN (by constructor)) ?_
          refine AOps.e rfl rfl rfl (AOp.callVK [] rfl (both_c 2 x y _ _ _) (LeL.eq rfl) rfl ?_)
          refine AOps.v rfl rfl rfl (AVal.moveN (by constructor)) ?_
          refine AOps.split 27 rfl (fun h27 => ?_) (fun h27 => ?_)
          ·
            try simp only [decide_eq_true_eq, decide_eq_false_iff_not, Bool.not_eq_true', Bool.not_eq_false', Bool.and_eq_true, Bool.or_eq_true, beq_iff_eq, beq_eq_false_iff_ne] at h27
            refine AOps.vT rfl rfl rfl rfl rfl rfl (AVal.fieldP rfl rfl) ?_
            refine AOps.vT rfl rfl rfl rfl rfl rfl (AVal.loadPN 1 rfl rfl rfl rfl (by constructor)) ?_
            refine AOps.vT rfl rfl rfl rfl rfl rfl (AVal.len rfl rfl rfl) ?_
            refine AOps.vT rfl rfl rfl rfl rfl rfl (AVal.eql rfl rfl) ?_
            refine AOps.v rfl rfl rfl (AVal.pickT rfl (by constructor)) ?_
            refine AOps.v rfl rfl rfl (AVal.moveN (by constructor)) ?_
            refine AOps.split 33 rfl (fun h33 => ?_) (fun h33 => ?_)
            ·
              try simp only [decide_eq_true_eq, decide_eq_false_iff_not, Bool.not_eq_true', Bool.not_eq_false', Bool.and_eq_true, Bool.or_eq_true, beq_iff_eq, beq_eq_false_iff_ne] at h33
              refine AOps.vT rfl rfl rfl rfl rfl rfl (AVal.fieldP rfl rfl) ?_
              refine AOps.vT rfl rfl rfl rfl rfl rfl (AVal.loadPN 0 rfl rfl rfl rfl (by constructor)) ?_
              refine AOps.vT rfl rfl rfl rfl rfl rfl (AVal.len rfl rfl rfl) ?_
              refine AOps.vT rfl rfl rfl rfl rfl rfl (AVal.eql rfl rfl) ?_
              refine AOps.v rfl rfl rfl (AVal.pickT rfl (by constructor)) ?_
              refine AOps.v rfl rfl rfl (AVal.assignN (by constructor)) ?_
              refine AOps.nil ?_
              refine ACode.condS rfl (fun h24 => ?_) (fun h24 => ?_)
              ·
                try simp only [decide_eq_true_eq, decide_eq_false_iff_not, Bool.not_eq_true', Bool.not_eq_false', Bool.and_eq_true, Bool.or_eq_true, beq_iff_eq, beq_eq_false_iff_ne] at h24
                have hc : x.kind = 2 ∧ y.kind = 2 ∧ x.levels.length = 1 ∧ y.levels.length = 1 := ⟨h27.1, h27.2, by omega, by omega⟩
                rw [hn, mostK_leq hc]
                refine ACode.seq ?_
                refine ACode.draws [.p 0, .l 1, .p 2, .p 3, .p 4, .l 5, .p 6, .p 7, .p 8, .p 9] mixed (by kernel_rfl) ?_
                refine ASeq.pv rfl rfl rfl rfl (fun L0 => (AVal.fieldP rfl rfl)) ?_
                refine ASeq.lv rfl rfl rfl rfl (HasCell.mk 1 rfl rfl (by constructor)) ?_
                refine ASeq.pv rfl rfl rfl rfl (fun L0 => (AVal.indexLN rfl rfl rfl rfl rfl ⟨by omega, by first | omega | simp⟩)) ?_
                refine ASeq.pv rfl rfl rfl rfl (fun L0 => (AVal.loadE (d := encL _) rfl rfl rfl)) ?_
                refine ASeq.pv rfl rfl rfl rfl (fun L0 => (AVal.fieldP rfl rfl)) ?_
                refine ASeq.lv rfl rfl rfl rfl (HasCell.mk 0 rfl rfl (by constructor)) ?_
                refine ASeq.pv rfl rfl rfl rfl (fun L0 => (AVal.indexLN rfl rfl rfl rfl rfl ⟨by omega, by first | omega | simp⟩)) ?_
                refine ASeq.pv rfl rfl rfl rfl (fun L0 => (AVal.loadE (d := encL _) rfl rfl rfl)) ?_
                refine ASeq.pe rfl rfl rfl rfl (fun L0 => (AOp.callP (lvLeq_c hS (x.levels.getD 0 default) (y.levels.getD 0 default) (by have := xf.plen (getD_mem (i := 0) (by omega)); omega) (by have := yf.plen (getD_mem (i := 0) (by omega)); omega)) (by first | exact LeL.eq rfl | (repeat constructor)) ⟨rfl, rfl⟩)) ?_
                refine ASeq.pv rfl rfl rfl rfl (fun L0 => (AVal.assignN (by constructor))) ?_
                refine ASeq.nil ?_
                refine ACode.ret ?_
                refine AFin.mayRet rfl (.cons rfl .nil) (by repeat first | exact List.Sublist.refl _ | apply List.Sublist.cons_cons | apply List.Sublist.cons) ?_ ((by first | exact hok5 | exact hok6 | rfl))
                exact .refl _
              ·
                try simp only [decide_eq_true_eq, decide_eq_false_iff_not, Bool.not_eq_true', Bool.not_eq_false', Bool.and_eq_true, Bool.or_eq_true, beq_iff_eq, beq_eq_false_iff_ne] at h24
                have hc : ¬ (x.kind = 2 ∧ y.kind = 2 ∧ x.levels.length = 1 ∧ y.levels.length = 1) := fun hh => by
                  obtain ⟨a1, a2, a3, a4⟩ := hh
                  first | exact absurd (by omega) h24 | exact absurd (by omega) h33 | (rcases h27 with h27 | h27 <;> omega) | (exact absurd ⟨a1, a2⟩ h27) | (simp_all)
                refine ACode.seq ?_
                refine ACode.region ?_
                refine AOps.v rfl rfl rfl (AVal.moveN (by constructor)) ?_
                refine AOps.e rfl rfl rfl (AOp.callVK [] rfl (both_c 4 x y _ _ _) (LeL.eq rfl) rfl ?_)
                refine AOps.v rfl rfl rfl (AVal.assignN (by constructor)) ?_
                refine AOps.nil ?_
                refine ACode.condS rfl (fun h48 => ?_) (fun h48 => ?_)
                ·
                  try simp only [decide_eq_true_eq, decide_eq_false_iff_not, Bool.not_eq_true', Bool.not_eq_false', Bool.and_eq_true, Bool.or_eq_true, beq_iff_eq, beq_eq_false_iff_ne] at h48
                  have hc4 : x.kind = 4 ∧ y.kind = 4 := h48
                  refine ACode.seq ?_
                  refine ACode.seq ?_
                  refine ACode.draws [.p 0, .l 1, .p 2, .p 3, .l 4, .p 5, .p 6, .e 7 [], .p 8] mixed (by kernel_rfl) ?_
                  refine ASeq.pv rfl rfl rfl rfl (fun L0 => (AVal.moveN (by constructor))) ?_
                  refine ASeq.lv rfl rfl rfl rfl (HasCell.mk (d := encT _) 1 rfl rfl (.refl _)) ?_
                  refine ASeq.pe rfl rfl rfl rfl (fun L0 => (AOp.buildSlice (es := [.int .i64 _]) rfl rfl rfl rfl rfl ⟨rfl, rfl⟩)) ?_
                  refine ASeq.pe rfl rfl rfl rfl (fun L0 => (AOp.callP (ckids_c x [0] (by simp) (by simp)) (by first | exact LeL.eq rfl | (repeat constructor)) ⟨rfl, rfl⟩)) ?_
                  refine ASeq.lv rfl rfl rfl rfl (HasCell.mk (d := encT _) 0 rfl rfl (.refl _)) ?_
                  refine ASeq.pe rfl rfl rfl rfl (fun L0 => (AOp.buildSlice (es := [.int .i64 _]) rfl rfl rfl rfl rfl ⟨rfl, rfl⟩)) ?_
                  refine ASeq.pe rfl rfl rfl rfl (fun L0 => (AOp.callP (ckids_c y [0] (by simp) (by simp)) (by first | exact LeL.eq rfl | (repeat constructor)) ⟨rfl, rfl⟩)) ?_
                  refine ASeq.ee rfl rfl rfl rfl rfl (AOp.callM [_, _, _, _] (aall_c b cs hC m (H1 m rfl) G3 [kid x 0] [kid y 0] rfl y0 (by omega) (by simp) (fun u hu => by rw [List.mem_singleton.1 hu]; exact (show W G3 x from ⟨xf, by omega⟩).kid (Int.le_refl _) 0) (fun u hu => by rw [List.mem_singleton.1 hu]; exact (show W G3 y from ⟨yf, by omega⟩).kid (Int.le_refl _) 0)) (by first | exact LeL.eq rfl | (repeat constructor)) rfl (fun hok4 => ⟨(by first | exact Keeps.nil | (repeat first | exact Keeps.nil | refine Keeps.cons (by first | exact HasCell.mk 0 rfl rfl (.refl _) | exact HasCell.mk 1 rfl rfl (.refl _) | exact HasCell.mk 2 rfl rfl (.refl _) | exact HasCell.mk 3 rfl rfl (.refl _) | exact HasCell.mk 4 rfl rfl (.refl _) | exact HasCell.mk 5 rfl rfl (.refl _) | exact HasCell.mk 6 rfl rfl (.refl _) | exact HasCell.mk 7 rfl rfl (.refl _)) ?_)), ?_⟩) (fun hno4 => ?_))
                  ·
                    refine ASeq.pv rfl rfl rfl rfl (fun L0 => (AVal.not rfl)) ?_
                    refine ASeq.nil ?_
                    refine ACode.condS rfl (fun h59 => ?_) (fun h59 => ?_)
                    ·
                      try simp only [decide_eq_true_eq, decide_eq_false_iff_not, Bool.not_eq_true', Bool.not_eq_false', Bool.and_eq_true, Bool.or_eq_true, beq_iff_eq, beq_eq_false_iff_ne] at h59
                      rw [hn, mostK_pi_false hc4 hok4 (by simpa using h59)]
                      refine ACode.seq ?_
                      refine ACode.region ?_
                      refine AOps.v rfl rfl rfl (AVal.assignN (by constructor)) ?_
                      refine AOps.nil ?_
                      refine ACode.ret ?_
                      refine AFin.mayRet rfl (.cons rfl .nil) (by repeat first | exact List.Sublist.refl _ | apply List.Sublist.cons_cons | apply List.Sublist.cons) ?_ ((by first | exact hok5 | exact hok6 | rfl))
                      exact .refl _
                    ·
                      try simp only [decide_eq_true_eq, decide_eq_false_iff_not, Bool.not_eq_true', Bool.not_eq_false', Bool.and_eq_true, Bool.or_eq_true, beq_iff_eq, beq_eq_false_iff_ne] at h59
                      have ht := o_true hok4 (by simpa using h59)
                      have hsh := one_shift hC m 0 G3 _ _ _ _ y0 (by omega) ((show W G3 x from ⟨xf, by omega⟩).kid (Int.le_refl _) 0) ((show W G3 y from ⟨yf, by omega⟩).kid (Int.le_refl _) 0) (allM_one ht)
                      rw [hn, mostK_pi_true hc4 hok4 (by simpa using h59)]
                      refine ACode.skip ?_
                      refine ACode.seq ?_
                      refine ACode.draws [.p 0, .l 1, .p 2, .p 3, .p 4, .p 5, .l 6, .p 7, .p 8, .p 9, .p 10, .e 11 [], .p 12] mixed (by kernel_rfl) ?_
                      refine ASeq.pv rfl rfl rfl rfl (fun L0 => (AVal.moveN (by constructor))) ?_
                      refine ASeq.lv rfl rfl rfl rfl (HasCell.mk (d := encT _) 1 rfl rfl (.refl _)) ?_
                      refine ASeq.pe rfl rfl rfl rfl (fun L0 => (AOp.buildSlice (es := [.int .i64 _]) rfl rfl rfl rfl rfl ⟨rfl, rfl⟩)) ?_
                      refine ASeq.pe rfl rfl rfl rfl (fun L0 => (AOp.callP (ckids_c x [1] (by simp) (by simp)) (by first | exact LeL.eq rfl | (repeat constructor)) ⟨rfl, rfl⟩)) ?_
                      refine ASeq.pv rfl rfl rfl rfl (fun L0 => (AVal.indexTN rfl rfl rfl rfl rfl ⟨by omega, by first | omega | simp⟩)) ?_
                      refine ASeq.pv rfl rfl rfl rfl (fun L0 => (AVal.loadE (d := encT _) rfl rfl rfl)) ?_
                      refine ASeq.lv rfl rfl rfl rfl (HasCell.mk (d := encT _) 0 rfl rfl (.refl _)) ?_
                      refine ASeq.pe rfl rfl rfl rfl (fun L0 => (AOp.buildSlice (es := [.int .i64 _]) rfl rfl rfl rfl rfl ⟨rfl, rfl⟩)) ?_
                      refine ASeq.pe rfl rfl rfl rfl (fun L0 => (AOp.callP (ckids_c y [1] (by simp) (by simp)) (by first | exact LeL.eq rfl | (repeat constructor)) ⟨rfl, rfl⟩)) ?_
                      refine ASeq.pv rfl rfl rfl rfl (fun L0 => (AVal.indexTN rfl rfl rfl rfl rfl ⟨by omega, by first | omega | simp⟩)) ?_
                      refine ASeq.pv rfl rfl rfl rfl (fun L0 => (AVal.loadE (d := encT _) rfl rfl rfl)) ?_
                      refine ASeq.ee rfl rfl rfl rfl rfl (AOp.callM [_, _, _, _] (H2 m rfl (oL (allM (oneM cs m) G3 [kid x 0] [kid y 0])) (kid x 1) (kid y 1) hsh.1 (by omega) ((show W G3 x from ⟨xf, by omega⟩).kid hsh.2.1 1) ((show W G3 y from ⟨yf, by omega⟩).kid hsh.2.1 1)) (by first | exact LeL.eq rfl | (repeat constructor)) rfl (fun hok5 => ⟨(by first | exact Keeps.nil | (repeat first | exact Keeps.nil | refine Keeps.cons (by first | exact HasCell.mk 0 rfl rfl (.refl _) | exact HasCell.mk 1 rfl rfl (.refl _) | exact HasCell.mk 2 rfl rfl (.refl _) | exact HasCell.mk 3 rfl rfl (.refl _) | exact HasCell.mk 4 rfl rfl (.refl _) | exact HasCell.mk 5 rfl rfl (.refl _) | exact HasCell.mk 6 rfl rfl (.refl _) | exact HasCell.mk 7 rfl rfl (.refl _)) ?_)), ?_⟩) (fun hno5 => ?_))
                      ·
                        refine ASeq.pv rfl rfl rfl rfl (fun L0 => (AVal.assignN (by constructor))) ?_
                        refine ASeq.nil ?_
                        refine ACode.ret ?_
                        refine AFin.mayRet rfl (.cons rfl .nil) (by repeat first | exact List.Sublist.refl _ | apply List.Sublist.cons_cons | apply List.Sublist.cons) ?_ ((by first | exact hok5 | exact hok6 | rfl))
                        exact .refl _
                      ·
                        exact AFin.mayPan (X := X) (fn := Tryz.f38) rfl (by repeat first | exact List.Sublist.refl _ | apply List.Sublist.cons_cons | apply List.Sublist.cons | exact List.nil_sublist _) hno5
                  ·
                    rw [hn, mostK_pi_none hc4 hno4, o_none hno4]
                    exact AFin.mayPan (X := X) (fn := Tryz.f38) rfl (by repeat first | exact List.Sublist.refl _ | apply List.Sublist.cons_cons | apply List.Sublist.cons | exact List.nil_sublist _) (by simp)
                ·
                  try simp only [decide_eq_true_eq, decide_eq_false_iff_not, Bool.not_eq_true', Bool.not_eq_false', Bool.and_eq_true, Bool.or_eq_true, beq_iff_eq, beq_eq_false_iff_ne] at h48
                  have hc4 : ¬ (x.kind = 4 ∧ y.kind = 4) := fun hh => by first | (rcases h48 with h48 | h48 <;> omega) | exact absurd hh h48 | simp_all
                  rw [hn, mostK_one hc hc4]
                  refine ACode.skip ?_
                  refine ACode.seq ?_
                  refine ACode.region ?_
                  refine AOps.v rfl rfl rfl (AVal.moveN (by constructor)) ?_
                  refine AOps.v rfl rfl rfl (AVal.loadP (d := encT _) 1 rfl rfl rfl rfl) ?_
                  refine AOps.v rfl rfl rfl (AVal.loadP (d := encT _) 0 rfl rfl rfl rfl) ?_
                  refine AOps.e rfl rfl rfl (AOp.callM [_, _, _, _] (H1 m rfl G3 x y y0 (by omega) (show W G3 x from ⟨xf, by omega⟩) (show W G3 y from ⟨yf, by omega⟩)) (by first | exact LeL.eq rfl | (repeat constructor)) rfl (fun hok6 => ?_) (fun hno6 => ?_))
                  ·
                    refine AOps.v rfl rfl rfl (AVal.assignN (by constructor)) ?_
                    refine AOps.nil ?_
                    refine ACode.ret ?_
                    refine AFin.mayRet rfl (.cons rfl .nil) (by repeat first | exact List.Sublist.refl _ | apply List.Sublist.cons_cons | apply List.Sublist.cons) ?_ ((by first | exact hok5 | exact hok6 | rfl))
                    exact .refl _
                  ·
                    exact AFin.mayPan (X := X) (fn := Tryz.f38) rfl (by repeat first | exact List.Sublist.refl _ | apply List.Sublist.cons_cons | apply List.Sublist.cons | exact List.nil_sublist _) hno6
            ·
              try simp only [decide_eq_true_eq, decide_eq_false_iff_not, Bool.not_eq_true', Bool.not_eq_false', Bool.and_eq_true, Bool.or_eq_true, beq_iff_eq, beq_eq_false_iff_ne] at h33
              refine AOps.vF rfl rfl rfl rfl rfl rfl rfl ?_
              refine AOps.vF rfl rfl rfl rfl rfl rfl rfl ?_
              refine AOps.vF rfl rfl rfl rfl rfl rfl rfl ?_
              refine AOps.vF rfl rfl rfl rfl rfl rfl rfl ?_
              refine AOps.v rfl rfl rfl (AVal.pickF rfl (by constructor)) ?_
              refine AOps.v rfl rfl rfl (AVal.assignN (by constructor)) ?_
              refine AOps.nil ?_
              refine ACode.condF rfl ?_
              have hc : ¬ (x.kind = 2 ∧ y.kind = 2 ∧ x.levels.length = 1 ∧ y.levels.length = 1) := fun hh => by
                obtain ⟨a1, a2, a3, a4⟩ := hh
                first | exact absurd (by omega) h24 | exact absurd (by omega) h33 | (rcases h27 with h27 | h27 <;> omega) | (exact absurd ⟨a1, a2⟩ h27) | (simp_all)
              refine ACode.seq ?_
              refine ACode.region ?_
              refine AOps.v rfl rfl rfl (AVal.moveN (by constructor)) ?_
              refine AOps.e rfl rfl rfl (AOp.callVK [] rfl (both_c 4 x y _ _ _) (LeL.eq rfl) rfl ?_)
              refine AOps.v rfl rfl rfl (AVal.assignN (by constructor)) ?_
              refine AOps.nil ?_
              refine ACode.condS rfl (fun h48 => ?_) (fun h48 => ?_)
              ·
                try simp only [decide_eq_true_eq, decide_eq_false_iff_not, Bool.not_eq_true', Bool.not_eq_false', Bool.and_eq_true, Bool.or_eq_true, beq_iff_eq, beq_eq_false_iff_ne] at h48
                have hc4 : x.kind = 4 ∧ y.kind = 4 := h48
                refine ACode.seq ?_
                refine ACode.seq ?_
                refine ACode.draws [.p 0, .l 1, .p 2, .p 3, .l 4, .p 5, .p 6, .e 7 [], .p 8] mixed (by kernel_rfl) ?_
                refine ASeq.pv rfl rfl rfl rfl (fun L0 => (AVal.moveN (by constructor))) ?_
                refine ASeq.lv rfl rfl rfl rfl (HasCell.mk (d := encT _) 1 rfl rfl (.refl _)) ?_
                refine ASeq.pe rfl rfl rfl rfl (fun L0 => (AOp.buildSlice (es := [.int .i64 _]) rfl rfl rfl rfl rfl ⟨rfl, rfl⟩)) ?_
                refine ASeq.pe rfl rfl rfl rfl (fun L0 => (AOp.callP (ckids_c x [0] (by simp) (by simp)) (by first | exact LeL.eq rfl | (repeat constructor)) ⟨rfl, rfl⟩)) ?_
                refine ASeq.lv rfl rfl rfl rfl (HasCell.mk (d := encT _) 0 rfl rfl (.refl _)) ?_
                refine ASeq.pe rfl rfl rfl rfl (fun L0 => (AOp.buildSlice (es := [.int .i64 _]) rfl rfl rfl rfl rfl ⟨rfl, rfl⟩)) ?_
                refine ASeq.pe rfl rfl rfl rfl (fun L0 => (AOp.callP (ckids_c y [0] (by simp) (by simp)) (by first | exact LeL.eq rfl | (repeat constructor)) ⟨rfl, rfl⟩)) ?_
                refine ASeq.ee rfl rfl rfl rfl rfl (AOp.callM [_, _, _, _] (aall_c b cs hC m (H1 m rfl) G3 [kid x 0] [kid y 0] rfl y0 (by omega) (by simp) (fun u hu => by rw [List.mem_singleton.1 hu]; exact (show W G3 x from ⟨xf, by omega⟩).kid (Int.le_refl _) 0) (fun u hu => by rw [List.mem_singleton.1 hu]; exact (show W G3 y from ⟨yf, by omega⟩).kid (Int.le_refl _) 0)) (by first | exact LeL.eq rfl | (repeat constructor)) rfl (fun hok4 => ⟨(by first | exact Keeps.nil | (repeat first | exact Keeps.nil | refine Keeps.cons (by first | exact HasCell.mk 0 rfl rfl (.refl _) | exact HasCell.mk 1 rfl rfl (.refl _) | exact HasCell.mk 2 rfl rfl (.refl _) | exact HasCell.mk 3 rfl rfl (.refl _) | exact HasCell.mk 4 rfl rfl (.refl _) | exact HasCell.mk 5 rfl rfl (.refl _) | exact HasCell.mk 6 rfl rfl (.refl _) | exact HasCell.mk 7 rfl rfl (.refl _)) ?_)), ?_⟩) (fun hno4 => ?_))
                ·
                  refine ASeq.pv rfl rfl rfl rfl (fun L0 => (AVal.not rfl)) ?_
                  refine ASeq.nil ?_
                  refine ACode.condS rfl (fun h59 => ?_) (fun h59 => ?_)
                  ·
                    try simp only [decide_eq_true_eq, decide_eq_false_iff_not, Bool.not_eq_true', Bool.not_eq_false', Bool.and_eq_true, Bool.or_eq_true, beq_iff_eq, beq_eq_false_iff_ne] at h59
                    rw [hn, mostK_pi_false hc4 hok4 (by simpa using h59)]
                    refine ACode.seq ?_
                    refine ACode.region ?_
                    refine AOps.v rfl rfl rfl (AVal.assignN (by constructor)) ?_
                    refine AOps.nil ?_
                    refine ACode.ret ?_
                    refine AFin.mayRet rfl (.cons rfl .nil) (by repeat first | exact List.Sublist.refl _ | apply List.Sublist.cons_cons | apply List.Sublist.cons) ?_ ((by first | exact hok5 | exact hok6 | rfl))
                    exact .refl _
                  ·
                    try simp only [decide_eq_true_eq, decide_eq_false_iff_not, Bool.not_eq_true', Bool.not_eq_false', Bool.and_eq_true, Bool.or_eq_true, beq_iff_eq, beq_eq_false_iff_ne] at h59
                    have ht := o_true hok4 (by simpa using h59)
                    have hsh := one_shift hC m 0 G3 _ _ _ _ y0 (by omega) ((show W G3 x from ⟨xf, by omega⟩).kid (Int.le_refl _) 0) ((show W G3 y from ⟨yf, by omega⟩).kid (Int.le_refl _) 0) (allM_one ht)
                    rw [hn, mostK_pi_true hc4 hok4 (by simpa using h59)]
                    refine ACode.skip ?_
                    refine ACode.seq ?_
                    refine ACode.draws [.p 0, .l 1, .p 2, .p 3, .p 4, .p 5, .l 6, .p 7, .p 8, .p 9, .p 10, .e 11 [], .p 12] mixed (by kernel_rfl) ?_
                    refine ASeq.pv rfl rfl rfl rfl (fun L0 => (AVal.moveN (by constructor))) ?_
                    refine ASeq.lv rfl rfl rfl rfl (HasCell.mk (d := encT _) 1 rfl rfl (.refl _)) ?_
                    refine ASeq.pe rfl rfl rfl rfl (fun L0 => (AOp.buildSlice (es := [.int .i64 _]) rfl rfl rfl rfl rfl ⟨rfl, rfl⟩)) ?_
                    refine ASeq.pe rfl rfl rfl rfl (fun L0 => (AOp.callP (ckids_c x [1] (by simp) (by simp)) (by first | exact LeL.eq rfl | (repeat constructor)) ⟨rfl, rfl⟩)) ?_
                    refine ASeq.pv rfl rfl rfl rfl (fun L0 => (AVal.indexTN rfl rfl rfl rfl rfl ⟨by omega, by first | omega | simp⟩)) ?_
                    refine ASeq.pv rfl rfl rfl rfl (fun L0 => (AVal.loadE (d := encT _) rfl rfl rfl)) ?_
                    refine ASeq.lv rfl rfl rfl rfl (HasCell.mk (d := encT _) 0 rfl rfl (.refl _)) ?_
                    refine ASeq.pe rfl rfl rfl rfl (fun L0 => (AOp.buildSlice (es := [.int .i64 _]) rfl rfl rfl rfl rfl ⟨rfl, rfl⟩)) ?_
                    refine ASeq.pe rfl rfl rfl rfl (fun L0 => (AOp.callP (ckids_c y [1] (by simp) (by simp)) (by first | exact LeL.eq rfl | (repeat constructor)) ⟨rfl, rfl⟩)) ?_
                    refine ASeq.pv rfl rfl rfl rfl (fun L0 => (AVal.indexTN rfl rfl rfl rfl rfl ⟨by omega, by first | omega | simp⟩)) ?_
                    refine ASeq.pv rfl rfl rfl rfl (fun L0 => (AVal.loadE (d := encT _) rfl rfl rfl)) ?_
                    refine ASeq.ee rfl rfl rfl rfl rfl (AOp.callM [_, _, _, _] (H2 m rfl (oL (allM (oneM cs m) G3 [kid x 0] [kid y 0])) (kid x 1) (kid y 1) hsh.1 (by omega) ((show W G3 x from ⟨xf, by omega⟩).kid hsh.2.1 1) ((show W G3 y from ⟨yf, by omega⟩).kid hsh.2.1 1)) (by first | exact LeL.eq rfl | (repeat constructor)) rfl (fun hok5 => ⟨(by first | exact Keeps.nil | (repeat first | exact Keeps.nil | refine Keeps.cons (by first | exact HasCell.mk 0 rfl rfl (.refl _) | exact HasCell.mk 1 rfl rfl (.refl _) | exact HasCell.mk 2 rfl rfl (.refl _) | exact HasCell.mk 3 rfl rfl (.refl _) | exact HasCell.mk 4 rfl rfl (.refl _) | exact HasCell.mk 5 rfl rfl (.refl _) | exact HasCell.mk 6 rfl rfl (.refl _) | exact HasCell.mk 7 rfl rfl (.refl _)) ?_)), ?_⟩) (fun hno5 => ?_))
                    ·
                      refine ASeq.pv rfl rfl rfl rfl (fun L0 => (AVal.assignN (by constructor))) ?_
                      refine ASeq.nil ?_
                      refine ACode.ret ?_
                      refine AFin.mayRet rfl (.cons rfl .nil) (by repeat first | exact List.Sublist.refl _ | apply List.Sublist.cons_cons | apply List.Sublist.cons) ?_ ((by first | exact hok5 | exact hok6 | rfl))
                      exact .refl _
                    ·
                      exact AFin.mayPan (X := X) (fn := Tryz.f38) rfl (by repeat first | exact List.Sublist.refl _ | apply List.Sublist.cons_cons | apply List.Sublist.cons | exact List.nil_sublist _) hno5
                ·
                  rw [hn, mostK_pi_none hc4 hno4, o_none hno4]
                  exact AFin.mayPan (X := X) (fn := Tryz.f38) rfl (by repeat first | exact List.Sublist.refl _ | apply List.Sublist.cons_cons | apply List.Sublist.cons | exact List.nil_sublist _) (by simp)
              ·
                try simp only [decide_eq_true_eq, decide_eq_false_iff_not, Bool.not_eq_true', Bool.not_eq_false', Bool.and_eq_true, Bool.or_eq_true, beq_iff_eq, beq_eq_false_iff_ne] at h48
                have hc4 : ¬ (x.kind = 4 ∧ y.kind = 4) := fun hh => by first | (rcases h48 with h48 | h48 <;> omega) | exact absurd hh h48 | simp_all
                rw [hn, mostK_one hc hc4]
                refine ACode.skip ?_
                refine ACode.seq ?_
                refine ACode.region ?_
                refine AOps.v rfl rfl rfl (AVal.moveN (by constructor)) ?_
                refine AOps.v rfl rfl rfl (AVal.loadP (d := encT _) 1 rfl rfl rfl rfl) ?_
                refine AOps.v rfl rfl rfl (AVal.loadP (d := encT _) 0 rfl rfl rfl rfl) ?_
                refine AOps.e rfl rfl rfl (AOp.callM [_, _, _, _] (H1 m rfl G3 x y y0 (by omega) (show W G3 x from ⟨xf, by omega⟩) (show W G3 y from ⟨yf, by omega⟩)) (by first | exact LeL.eq rfl | (repeat constructor)) rfl (fun hok6 => ?_) (fun hno6 => ?_))
                ·
                  refine AOps.v rfl rfl rfl (AVal.assignN (by constructor)) ?_
                  refine AOps.nil ?_
                  refine ACode.ret ?_
                  refine AFin.mayRet rfl (.cons rfl .nil) (by repeat first | exact List.Sublist.refl _ | apply List.Sublist.cons_cons | apply List.Sublist.cons) ?_ ((by first | exact hok5 | exact hok6 | rfl))
                  exact .refl _
                ·
                  exact AFin.mayPan (X := X) (fn := Tryz.f38) rfl (by repeat first | exact List.Sublist.refl _ | apply List.Sublist.cons_cons | apply List.Sublist.cons | exact List.nil_sublist _) hno6
          ·
            try simp only [decide_eq_true_eq, decide_eq_false_iff_not, Bool.not_eq_true', Bool.not_eq_false', Bool.and_eq_true, Bool.or_eq_true, beq_iff_eq, beq_eq_false_iff_ne] at h27
            refine AOps.vF rfl rfl rfl rfl rfl rfl rfl ?_
            refine AOps.vF rfl rfl rfl rfl rfl rfl rfl ?_
            refine AOps.vF rfl rfl rfl rfl rfl rfl rfl ?_
            refine AOps.vF rfl rfl rfl rfl rfl rfl rfl ?_
            refine AOps.v rfl rfl rfl (AVal.pickF rfl (by constructor)) ?_
            refine AOps.v rfl rfl rfl (AVal.moveN (by constructor)) ?_
            refine AOps.vF rfl rfl rfl rfl rfl rfl rfl ?_
            refine AOps.vF rfl rfl rfl rfl rfl rfl rfl ?_
            refine AOps.vF rfl rfl rfl rfl rfl rfl rfl ?_
            refine AOps.vF rfl rfl rfl rfl rfl rfl rfl ?_
            refine AOps.v rfl rfl rfl (AVal.pickF rfl (by constructor)) ?_
            refine AOps.v rfl rfl rfl (AVal.assignN (by constructor)) ?_
            refine AOps.nil ?_
            refine ACode.condF rfl ?_
            have hc : ¬ (x.kind = 2 ∧ y.kind = 2 ∧ x.levels.length = 1 ∧ y.levels.length = 1) := fun hh => by
              obtain ⟨a1, a2, a3, a4⟩ := hh
              first | exact absurd (by omega) h24 | exact absurd (by omega) h33 | (rcases h27 with h27 | h27 <;> omega) | (exact absurd ⟨a1, a2⟩ h27) | (simp_all)
            refine ACode.seq ?_
            refine ACode.region ?_
            refine AOps.v rfl rfl rfl (AVal.moveN (by constructor)) ?_
            refine AOps.e rfl rfl rfl (AOp.callVK [] rfl (both_c 4 x y _ _ _) (LeL.eq rfl) rfl ?_)
            refine AOps.v rfl rfl rfl (AVal.assignN (by constructor)) ?_
            refine AOps.nil ?_
            refine ACode.condS rfl (fun h48 => ?_) (fun h48 => ?_)
            ·
              try simp only [decide_eq_true_eq, decide_eq_false_iff_not, Bool.not_eq_true', Bool.not_eq_false', Bool.and_eq_true, Bool.or_eq_true, beq_iff_eq, beq_eq_false_iff_ne] at h48
              have hc4 : x.kind = 4 ∧ y.kind = 4 := h48
              refine ACode.seq ?_
              refine ACode.seq ?_
              refine ACode.draws [.p 0, .l 1, .p 2, .p 3, .l 4, .p 5, .p 6, .e 7 [], .p 8] mixed (by kernel_rfl) ?_
              refine ASeq.pv rfl rfl rfl rfl (fun L0 => (AVal.moveN (by constructor))) ?_
              refine ASeq.lv rfl rfl rfl rfl (HasCell.mk (d := encT _) 1 rfl rfl (.refl _)) ?_
              refine ASeq.pe rfl rfl rfl rfl (fun L0 => (AOp.buildSlice (es := [.int .i64 _]) rfl rfl rfl rfl rfl ⟨rfl, rfl⟩)) ?_
              refine ASeq.pe rfl rfl rfl rfl (fun L0 => (AOp.callP (ckids_c x [0] (by simp) (by simp)) (by first | exact LeL.eq rfl | (repeat constructor)) ⟨rfl, rfl⟩)) ?_
              refine ASeq.lv rfl rfl rfl rfl (HasCell.mk (d := encT _) 0 rfl rfl (.refl _)) ?_
              refine ASeq.pe rfl rfl rfl rfl (fun L0 => (AOp.buildSlice (es := [.int .i64 _]) rfl rfl rfl rfl rfl ⟨rfl, rfl⟩)) ?_
              refine ASeq.pe rfl rfl rfl rfl (fun L0 => (AOp.callP (ckids_c y [0] (by simp) (by simp)) (by first | exact LeL.eq rfl | (repeat constructor)) ⟨rfl, rfl⟩)) ?_
              refine ASeq.ee rfl rfl rfl rfl rfl (AOp.callM [_, _, _, _] (aall_c b cs hC m (H1 m rfl) G3 [kid x 0] [kid y 0] rfl y0 (by omega) (by simp) (fun u hu => by rw [List.mem_singleton.1 hu]; exact (show W G3 x from ⟨xf, by omega⟩).kid (Int.le_refl _) 0) (fun u hu => by rw [List.mem_singleton.1 hu]; exact (show W G3 y from ⟨yf, by omega⟩).kid (Int.le_refl _) 0)) (by first | exact LeL.eq rfl | (repeat constructor)) rfl (fun hok4 => ⟨(by first | exact Keeps.nil | (repeat first | exact Keeps.nil | refine Keeps.cons (by first | exact HasCell.mk 0 rfl rfl (.refl _) | exact HasCell.mk 1 rfl rfl (.refl _) | exact HasCell.mk 2 rfl rfl (.refl _) | exact HasCell.mk 3 rfl rfl (.refl _) | exact HasCell.mk 4 rfl rfl (.refl _) | exact HasCell.mk 5 rfl rfl (.refl _) | exact HasCell.mk 6 rfl rfl (.refl _) | exact HasCell.mk 7 rfl rfl (.refl _)) ?_)), ?_⟩) (fun hno4 => ?_))
              ·
                refine ASeq.pv rfl rfl rfl rfl (fun L0 => (AVal.not rfl)) ?_
                refine ASeq.nil ?_
                refine ACode.condS rfl (fun h59 => ?_) (fun h59 => ?_)
                ·
                  try simp only [decide_eq_true_eq, decide_eq_false_iff_not, Bool.not_eq_true', Bool.not_eq_false', Bool.and_eq_true, Bool.or_eq_true, beq_iff_eq, beq_eq_false_iff_ne] at h59
                  rw [hn, mostK_pi_false hc4 hok4 (by simpa using h59)]
                  refine ACode.seq ?_
                  refine ACode.region ?_
                  refine AOps.v rfl rfl rfl (AVal.assignN (by constructor)) ?_
                  refine AOps.nil ?_
                  refine ACode.ret ?_
                  refine AFin.mayRet rfl (.cons rfl .nil) (by repeat first | exact List.Sublist.refl _ | apply List.Sublist.cons_cons | apply List.Sublist.cons) ?_ ((by first | exact hok5 | exact hok6 | rfl))
                  exact .refl _
                ·
                  try simp only [decide_eq_true_eq, decide_eq_false_iff_not, Bool.not_eq_true', Bool.not_eq_false', Bool.and_eq_true, Bool.or_eq_true, beq_iff_eq, beq_eq_false_iff_ne] at h59
                  have ht := o_true hok4 (by simpa using h59)
                  have hsh := one_shift hC m 0 G3 _ _ _ _ y0 (by omega) ((show W G3 x from ⟨xf, by omega⟩).kid (Int.le_refl _) 0) ((show W G3 y from ⟨yf, by omega⟩).kid (Int.le_refl _) 0) (allM_one ht)
                  rw [hn, mostK_pi_true hc4 hok4 (by simpa using h59)]
                  refine ACode.skip ?_
                  refine ACode.seq ?_
                  refine ACode.draws [.p 0, .l 1, .p 2, .p 3, .p 4, .p 5, .l 6, .p 7, .p 8, .p 9, .p 10, .e 11 [], .p 12] mixed (by kernel_rfl) ?_
                  refine ASeq.pv rfl rfl rfl rfl (fun L0 => (AVal.moveN (by constructor))) ?_
                  refine ASeq.lv rfl rfl rfl rfl (HasCell.mk (d := encT _) 1 rfl rfl (.refl _)) ?_
                  refine ASeq.pe rfl rfl rfl rfl (fun L0 => (AOp.buildSlice (es := [.int .i64 _]) rfl rfl rfl rfl rfl ⟨rfl, rfl⟩)) ?_
                  refine ASeq.pe rfl rfl rfl rfl (fun L0 => (AOp.callP (ckids_c x [1] (by simp) (by simp)) (by first | exact LeL.eq rfl | (repeat constructor)) ⟨rfl, rfl⟩)) ?_
                  refine ASeq.pv rfl rfl rfl rfl (fun L0 => (AVal.indexTN rfl rfl rfl rfl rfl ⟨by omega, by first | omega | simp⟩)) ?_
                  refine ASeq.pv rfl rfl rfl rfl (fun L0 => (AVal.loadE (d := encT _) rfl rfl rfl)) ?_
                  refine ASeq.lv rfl rfl rfl rfl (HasCell.mk (d := encT _) 0 rfl rfl (.refl _)) ?_
                  refine ASeq.pe rfl rfl rfl rfl (fun L0 => (AOp.buildSlice (es := [.int .i64 _]) rfl rfl rfl rfl rfl ⟨rfl, rfl⟩)) ?_
                  refine ASeq.pe rfl rfl rfl rfl (fun L0 => (AOp.callP (ckids_c y [1] (by simp) (by simp)) (by first | exact LeL.eq rfl | (repeat constructor)) ⟨rfl, rfl⟩)) ?_
                  refine ASeq.pv rfl rfl rfl rfl (fun L0 => (AVal.indexTN rfl rfl rfl rfl rfl ⟨by omega, by first | omega | simp⟩)) ?_
                  refine ASeq.pv rfl rfl rfl rfl (fun L0 => (AVal.loadE (d := encT _) rfl rfl rfl)) ?_
                  refine ASeq.ee rfl rfl rfl rfl rfl (AOp.callM [_, _, _, _] (H2 m rfl (oL (allM (oneM cs m) G3 [kid x 0] [kid y 0])) (kid x 1) (kid y 1) hsh.1 (by omega) ((show W G3 x from ⟨xf, by omega⟩).kid hsh.2.1 1) ((show W G3 y from ⟨yf, by omega⟩).kid hsh.2.1 1)) (by first | exact LeL.eq rfl | (repeat constructor)) rfl (fun hok5 => ⟨(by first | exact Keeps.nil | (repeat first | exact Keeps.nil | refine Keeps.cons (by first | exact HasCell.mk 0 rfl rfl (.refl _) | exact HasCell.mk 1 rfl rfl (.refl _) | exact HasCell.mk 2 rfl rfl (.refl _) | exact HasCell.mk 3 rfl rfl (.refl _) | exact HasCell.mk 4 rfl rfl (.refl _) | exact HasCell.mk 5 rfl rfl (.refl _) | exact HasCell.mk 6 rfl rfl (.refl _) | exact HasCell.mk 7 rfl rfl (.refl _)) ?_)), ?_⟩) (fun hno5 => ?_))
                  ·
                    refine ASeq.pv rfl rfl rfl rfl (fun L0 => (AVal.assignN (by constructor))) ?_
                    refine ASeq.nil ?_
                    refine ACode.ret ?_
                    refine AFin.mayRet rfl (.cons rfl .nil) (by repeat first | exact List.Sublist.refl _ | apply List.Sublist.cons_cons | apply List.Sublist.cons) ?_ ((by first | exact hok5 | exact hok6 | rfl))
                    exact .refl _
                  ·
                    exact AFin.mayPan (X := X) (fn := Tryz.f38) rfl (by repeat first | exact List.Sublist.refl _ | apply List.Sublist.cons_cons | apply List.Sublist.cons | exact List.nil_sublist _) hno5
              ·
                rw [hn, mostK_pi_none hc4 hno4, o_none hno4]
                exact AFin.mayPan (X := X) (fn := Tryz.f38) rfl (by repeat first | exact List.Sublist.refl _ | apply List.Sublist.cons_cons | apply List.Sublist.cons | exact List.nil_sublist _) (by simp)
            ·
              try simp only [decide_eq_true_eq, decide_eq_false_iff_not, Bool.not_eq_true', Bool.not_eq_false', Bool.and_eq_true, Bool.or_eq_true, beq_iff_eq, beq_eq_false_iff_ne] at h48
              have hc4 : ¬ (x.kind = 4 ∧ y.kind = 4) := fun hh => by first | (rcases h48 with h48 | h48 <;> omega) | exact absurd hh h48 | simp_all
              rw [hn, mostK_one hc hc4]
              refine ACode.skip ?_
              refine ACode.seq ?_
              refine ACode.region ?_
              refine AOps.v rfl rfl rfl (AVal.moveN (by constructor)) ?_
              refine AOps.v rfl rfl rfl (AVal.loadP (d := encT _) 1 rfl rfl rfl rfl) ?_
              refine AOps.v rfl rfl rfl (AVal.loadP (d := encT _) 0 rfl rfl rfl rfl) ?_
              refine AOps.e rfl rfl rfl (AOp.callM [_, _, _, _] (H1 m rfl G3 x y y0 (by omega) (show W G3 x from ⟨xf, by omega⟩) (show W G3 y from ⟨yf, by omega⟩)) (by first | exact LeL.eq rfl | (repeat constructor)) rfl (fun hok6 => ?_) (fun hno6 => ?_))
              ·
                refine AOps.v rfl rfl rfl (AVal.assignN (by constructor)) ?_
                refine AOps.nil ?_
                refine ACode.ret ?_
                refine AFin.mayRet rfl (.cons rfl .nil) (by repeat first | exact List.Sublist.refl _ | apply List.Sublist.cons_cons | apply List.Sublist.cons) ?_ ((by first | exact hok5 | exact hok6 | rfl))
                exact .refl _
              ·
                exact AFin.mayPan (X := X) (fn := Tryz.f38) rfl (by repeat first | exact List.Sublist.refl _ | apply List.Sublist.cons_cons | apply List.Sublist.cons | exact List.nil_sublist _) hno6
        ·
          have hn : (mostM cs (m + 1) F p q) = none := by rw [mostM_succ, if_neg (by omega), if_neg hne, whnf2_no2 hok2 hno3]
          have he : whnfM cs q (whnfM cs p (F - 1)).2.1 = (T0, 0, 5) := whnf_err x0 (by omega) hno3
          rw [hn, he]
          exact AFin.mayPan (X := X) (fn := Tryz.f38) rfl (by repeat first | exact List.Sublist.refl _ | apply List.Sublist.cons_cons | apply List.Sublist.cons | exact List.nil_sublist _) (by simp)
      ·
        have hn : (mostM cs (m + 1) F p q) = none := by rw [mostM_succ, if_neg (by omega), if_neg hne, whnf2_no1 hno2]
        have he : whnfM cs p (F - 1) = (T0, 0, 5) := whnf_err (by omega) (by omega) hno2
        rw [hn, he]
        exact AFin.mayPan (X := X) (fn := Tryz.f38) rfl (by repeat first | exact List.Sublist.refl _ | apply List.Sublist.cons_cons | apply List.Sublist.cons | exact List.nil_sublist _) (by simp)
  ·
    obtain rfl : F = 0 := by omega
    rw [most_zero]
    exact AFin.mayPan (X := X) (fn := Tryz.f38) rfl (by repeat first | exact List.Sublist.refl _ | apply List.Sublist.cons_cons | apply List.Sublist.cons | exact List.nil_sublist _) (by simp)

theorem most_c (hS : SortedOk) (b : Nat) (cs : List Core) (hC : CoresOk cs) (m : Nat) : ∀ G p q, 0 ≤ G → G ≤ min (m : Int) 1073741824 → W G p → W G q → AMay X 38 [.ptr b 0, encT p, encT q] [(b, .cells 119 [.int .i64 (G), .slC cs])] ((mostM cs m G p q).isSome = true) (.bool (oB (mostM cs m G p q))) [(b, .cells 119 [.int .i64 (oL (mostM cs m G p q)), .slC cs])] (.iface 30 (.int .i64 5)) [(b, .cells 119 [.int .i64 (oL (mostM cs m G p q)), .slC cs])] := by
  induction m with
  | zero => exact most_w hS b cs hC 0 (fun m h => by omega) (fun m h => by omega)
  | succ n ih => exact most_w hS b cs hC (n + 1) (fun m h => by cases h; exact one_c hS b cs hC n) (fun m h => by cases h; exact ih)

end Sp

/- The walks of conv: what is told. Written by a program of mine. -/
set_option linter.unusedVariables false
set_option linter.unusedSimpArgs false
set_option maxRecDepth 20000
namespace Sp
open Go Go.Proofs

theorem convAsk_c (hS : SortedOk) (b b5 b6 : Nat) (cs : List Core) (hC : CoresOk cs) (n : Nat) (G : Int) (p q : Term) (h0 : 0 ≤ G) (h1 : G ≤ min (n : Int) 1073741824) (hp : W G p) (hq : W G q) : AMay X 35 [.ptr b 0, .ptr b5 0, .ptr b6 0] ((b6, .cells 27 (cellsT q)) :: (b5, .cells 27 (cellsT p)) :: [(b, .cells 119 [.int .i64 (G), .slC cs])]) ((oneM cs n G p q).isSome = true) (.bool (oB (oneM cs n G p q))) ((b6, .cells 27 (cellsT q)) :: (b5, .cells 27 (cellsT p)) :: [(b, .cells 119 [.int .i64 (oL (oneM cs n G p q)), .slC cs])]) (.iface 30 (.int .i64 5)) ((b6, .cells 27 (cellsT q)) :: (b5, .cells 27 (cellsT p)) :: [(b, .cells 119 [.int .i64 (oL (oneM cs n G p q)), .slC cs])]) := by
  refine ACalls.of_code Tryz.func35 rfl (by rfl) (Nat.le_of_ble_eq_true rfl) ?_
  refine ACode.seq ?_
  refine ACode.region ?_
  refine AOps.v rfl rfl rfl (AVal.assignN (by constructor)) ?_
  refine AOps.nil ?_
  refine ACode.seq ?_
  refine ACode.region ?_
  refine AOps.v rfl rfl rfl (AVal.moveN (by constructor)) ?_
  refine AOps.v rfl rfl rfl (AVal.loadP (d := encT _) 1 rfl rfl rfl rfl) ?_
  refine AOps.v rfl rfl rfl (AVal.loadP (d := encT _) 0 rfl rfl rfl rfl) ?_
  refine AOps.e rfl rfl rfl (AOp.callM [_, _] (one_c hS b cs hC n G p q h0 h1 hp hq) (by first | exact LeL.eq rfl | (repeat constructor)) rfl (fun hok => ?_) (fun hno => ?_))
  ·
    refine AOps.v rfl rfl rfl (AVal.assignN (by constructor)) ?_
    refine AOps.nil ?_
    refine ACode.ret ?_
    refine AFin.mayRet rfl (.cons rfl .nil) (by repeat first | exact List.Sublist.refl _ | apply List.Sublist.cons_cons | apply List.Sublist.cons) ?_ (hok)
    exact .refl _
  ·
    exact AFin.mayPan (X := X) (fn := Tryz.f35) rfl (by repeat first | exact List.Sublist.refl _ | apply List.Sublist.cons_cons | apply List.Sublist.cons | exact List.nil_sublist _) hno

theorem leqAsk_c (hS : SortedOk) (b b5 b6 : Nat) (cs : List Core) (hC : CoresOk cs) (n : Nat) (G : Int) (p q : Term) (h0 : 0 ≤ G) (h1 : G ≤ min (n : Int) 1073741824) (hp : W G p) (hq : W G q) : AMay X 37 [.ptr b 0, .ptr b5 0, .ptr b6 0] ((b6, .cells 27 (cellsT q)) :: (b5, .cells 27 (cellsT p)) :: [(b, .cells 119 [.int .i64 (G), .slC cs])]) ((mostM cs n G p q).isSome = true) (.bool (oB (mostM cs n G p q))) ((b6, .cells 27 (cellsT q)) :: (b5, .cells 27 (cellsT p)) :: [(b, .cells 119 [.int .i64 (oL (mostM cs n G p q)), .slC cs])]) (.iface 30 (.int .i64 5)) ((b6, .cells 27 (cellsT q)) :: (b5, .cells 27 (cellsT p)) :: [(b, .cells 119 [.int .i64 (oL (mostM cs n G p q)), .slC cs])]) := by
  refine ACalls.of_code Tryz.func37 rfl (by rfl) (Nat.le_of_ble_eq_true rfl) ?_
  refine ACode.seq ?_
  refine ACode.region ?_
  refine AOps.v rfl rfl rfl (AVal.assignN (by constructor)) ?_
  refine AOps.nil ?_
  refine ACode.seq ?_
  refine ACode.region ?_
  refine AOps.v rfl rfl rfl (AVal.moveN (by constructor)) ?_
  refine AOps.v rfl rfl rfl (AVal.loadP (d := encT _) 1 rfl rfl rfl rfl) ?_
  refine AOps.v rfl rfl rfl (AVal.loadP (d := encT _) 0 rfl rfl rfl rfl) ?_
  refine AOps.e rfl rfl rfl (AOp.callM [_, _] (most_c hS b cs hC n G p q h0 h1 hp hq) (by first | exact LeL.eq rfl | (repeat constructor)) rfl (fun hok => ?_) (fun hno => ?_))
  ·
    refine AOps.v rfl rfl rfl (AVal.assignN (by constructor)) ?_
    refine AOps.nil ?_
    refine ACode.ret ?_
    refine AFin.mayRet rfl (.cons rfl .nil) (by repeat first | exact List.Sublist.refl _ | apply List.Sublist.cons_cons | apply List.Sublist.cons) ?_ (hok)
    exact .refl _
  ·
    exact AFin.mayPan (X := X) (fn := Tryz.f37) rfl (by repeat first | exact List.Sublist.refl _ | apply List.Sublist.cons_cons | apply List.Sublist.cons | exact List.nil_sublist _) hno

theorem told1_ret (b6 b7 b8 b9 : Nat) (d0 d5 d6 : D) (m : MObj) (R : Loc) : ADef X 72 [.ptr b8 0, .ptr b6 0, .ptr b7 0] ((b9, m) :: (b8, .cells 30 [d6]) :: (b7, .cells 3 [d5]) :: (b6, .cells 4 [d0]) :: R) none ((b9, m) :: (b8, .cells 30 [d6]) :: (b7, .cells 3 [d5]) :: (b6, .cells 4 [d0]) :: R) := by
  refine ADef.of_code Tryz.func72 rfl (by rfl) (Nat.le_of_ble_eq_true rfl) rfl rfl rfl ?_
  refine ACode.seq ?_
  refine ACode.region ?_
  refine AOps.v rfl rfl rfl (AVal.moveN (by constructor)) ?_
  refine AOps.v rfl rfl rfl (AVal.neqNilF rfl rfl (by kernel_rfl)) ?_
  refine AOps.nil ?_
  refine ACode.condF rfl ?_
  refine ACode.skip ?_
  exact ⟨.inl rfl, rfl, (by repeat first | exact List.Sublist.refl _ | apply List.Sublist.cons_cons | apply List.Sublist.cons | exact List.nil_sublist _)⟩

theorem told1_pan (b6 b7 b8 b9 : Nat) (d0 d5 d6 : D) (m : MObj) (R : Loc) : ADef X 72 [.ptr b8 0, .ptr b6 0, .ptr b7 0] ((b9, m) :: (b8, .cells 30 [d6]) :: (b7, .cells 3 [d5]) :: (b6, .cells 4 [d0]) :: R) (some (.iface 30 (.int .i64 5))) ((b9, m) :: (b8, .cells 30 [.int .i64 5]) :: (b7, .cells 3 [.int .i64 0]) :: (b6, .cells 4 [.bool false]) :: R) := by
  refine ADef.of_code Tryz.func72 rfl (by rfl) (Nat.le_of_ble_eq_true rfl) rfl rfl rfl ?_
  refine ACode.seq ?_
  refine ACode.region ?_
  refine AOps.v rfl rfl rfl (AVal.moveN (by constructor)) ?_
  refine AOps.v rfl rfl rfl (AVal.neqNilT rfl rfl (by kernel_rfl)) ?_
  refine AOps.nil ?_
  refine ACode.condT rfl ?_
  refine ACode.seq ?_
  refine ACode.region ?_
  refine AOps.v rfl rfl rfl (AVal.assignN (by constructor)) ?_
  refine AOps.nil ?_
  refine ACode.seq ?_
  refine ACode.seq ?_
  refine ACode.region ?_
  refine AOps.v rfl rfl rfl (AVal.moveN (by constructor)) ?_
  refine AOps.v rfl rfl rfl (AVal.assertOk rfl Tryz.underlying30 rfl) ?_
  refine AOps.v rfl rfl rfl (AVal.moveN (by constructor)) ?_
  refine AOps.v rfl rfl rfl (AVal.extractN rfl rfl (by constructor)) ?_
  refine AOps.v rfl rfl rfl (AVal.extractN rfl rfl (by constructor)) ?_
  refine AOps.e0 rfl rfl (AOp.storeN 1 rfl rfl rfl (by constructor) rfl rfl rfl (by repeat constructor) (by repeat constructor) ?_)
  refine AOps.v rfl rfl rfl (AVal.assignN (by constructor)) ?_
  refine AOps.nil ?_
  refine ACode.seq ?_
  refine ACode.region ?_
  refine AOps.v rfl rfl rfl (AVal.moveN (by constructor)) ?_
  refine AOps.v rfl rfl rfl (AVal.not rfl) ?_
  refine AOps.nil ?_
  refine ACode.condF rfl ?_
  refine ACode.skip ?_
  refine ACode.region ?_
  refine AOps.e0 rfl rfl (AOp.storeN 3 rfl rfl rfl (by constructor) rfl rfl rfl (by repeat constructor) (by repeat constructor) ?_)
  refine AOps.e0 rfl rfl (AOp.storeN 2 rfl rfl rfl (by constructor) rfl rfl rfl (by repeat constructor) (by repeat constructor) ?_)
  refine AOps.nil ?_
  exact ⟨.inl rfl, rfl, (by repeat first | exact List.Sublist.refl _ | apply List.Sublist.cons_cons | apply List.Sublist.cons | exact List.nil_sublist _)⟩

theorem callToldM {ρ : Operand → D} {L0 : Loc} {dst : Option Tmp} {ty : TypeId} {pos : String} {after : Array Edge} {guard : Option (Nat × Bool)} {K Kp : D → Loc → Prop} {g : Operand} {xs : Array Operand} {tys : Array TypeId} {f : FuncId} {caps : List D} {b : Nat} {o o2 o3 x y z : Nat × MObj} {ok : Prop} {d dp : D}
    (hg : ρ g = .func (.func f) [] caps) (hc : AMay X f ([.ptr b 0] ++ caps) (L0 ++ [o]) ok d (L0 ++ [o2]) dp (L0 ++ [o3])) (hx : xs.toList.map ρ = [.ptr b 0])
    (h1 : ok → K d (o2 :: x :: y :: z :: L0)) (h2 : ¬ ok → Kp dp (o3 :: x :: y :: z :: L0)) : AOp X ⟨dst, .call ⟨.value g, xs, tys⟩, ty, pos, after, guard⟩ ρ (o :: x :: y :: z :: L0) K Kp := by
  have hp : ∀ o : Nat × MObj, (o :: x :: y :: z :: L0).Perm ((L0 ++ [o]) ++ [x, y, z]) := fun o => by
    have e : o :: x :: y :: z :: L0 = [o, x, y, z] ++ L0 := rfl
    have e2 : (L0 ++ [o]) ++ [x, y, z] = L0 ++ [o, x, y, z] := by simp
    rw [e, e2]; exact List.perm_append_comm
  refine AOp.callVQ (L0 := L0 ++ [o]) (L1 := [x, y, z]) hg hc (LeL.eq (by simp [hx])) (hp o) (fun d' L' h => ?_) (fun d' L' h => ?_)
  · rcases h with ⟨h, e1, rfl⟩ | ⟨h, e1, rfl⟩
    · cases e1; exact ⟨_, (hp o2).symm, h1 h⟩
    · cases e1
  · rcases h with ⟨h, e1, rfl⟩ | ⟨h, e1, rfl⟩
    · cases e1
    · cases e1; exact ⟨_, (hp o3).symm, h2 h⟩

theorem told_c {f : FuncId} {caps : List D} {L0 : Loc} {r : Option (Bool × Int)} (cs : List Core) (fuel : Int) (H : 0 ≤ fuel ∧ fuel ≤ 1073741824 → ∀ b, AMay X f ([.ptr b 0] ++ caps) (L0 ++ [(b, .cells 119 [.int .i64 (fuel), .slC cs])]) (r.isSome = true) (.bool (oB r)) (L0 ++ [(b, .cells 119 [.int .i64 (oL r), .slC cs])]) (.iface 30 (.int .i64 5)) (L0 ++ [(b, .cells 119 [.int .i64 (oL r), .slC cs])])) : AKeep X 34 [.slC cs, .int .i64 fuel, .func (.func f) [] caps] L0 (.tup [.bool (toldM fuel r).1, .int .i64 (toldM fuel r).2.1, .int .i64 (toldM fuel r).2.2]) := by
  refine ACalls.of_codeD Tryz.func34 rfl (by rfl) (Nat.le_of_ble_eq_true rfl) ?_
  refine ACode.seq ?_
  refine ACode.region ?_
  refine AOps.e rfl rfl rfl (AOp.allocN rfl rfl (fun b6 => ?_))
  refine AOps.e rfl rfl rfl (AOp.allocN rfl rfl (fun b7 => ?_))
  refine AOps.e rfl rfl rfl (AOp.allocN rfl rfl (fun b8 => ?_))
  refine AOps.nil ?_
  refine ACode.seq ?_
  refine ACode.seq ?_
  refine ACode.region ?_
  refine AOps.v rfl rfl rfl (AVal.moveN (by constructor)) ?_
  refine AOps.v rfl rfl rfl (AVal.lss rfl rfl) ?_
  refine AOps.v rfl rfl rfl (AVal.moveN (by constructor)) ?_
  refine AOps.split 12 rfl (fun h12 => ?_) (fun h12 => ?_)
  ·
    try simp only [decide_eq_true_eq, decide_eq_false_iff_not, Bool.not_eq_true', Bool.not_eq_false', Bool.and_eq_true, Bool.or_eq_true, beq_iff_eq, beq_eq_false_iff_ne] at h12
    refine AOps.vF rfl rfl rfl rfl rfl rfl rfl ?_
    refine AOps.vF rfl rfl rfl rfl rfl rfl rfl ?_
    refine AOps.v rfl rfl rfl (AVal.pickT rfl (by constructor)) ?_
    refine AOps.nil ?_
    refine ACode.condT rfl ?_
    refine ACode.seq ?_
    refine ACode.region ?_
    refine AOps.e0 rfl rfl (AOp.storeN 2 rfl rfl rfl (by constructor) rfl rfl rfl (by repeat constructor) (by repeat constructor) ?_)
    refine AOps.e0 rfl rfl (AOp.storeN 1 rfl rfl rfl (by constructor) rfl rfl rfl (by repeat constructor) (by repeat constructor) ?_)
    refine AOps.e0 rfl rfl (AOp.storeN 0 rfl rfl rfl (by constructor) rfl rfl rfl (by repeat constructor) (by repeat constructor) ?_)
    refine AOps.nil ?_
    refine ACode.ret ?_
    refine AFinD.ret0 (X := X) (fn := Tryz.f34) (R := fun x L2 => x = .ret (.tup [.bool (toldM fuel r).1, .int .i64 (toldM fuel r).2.1, .int .i64 (toldM fuel r).2.2]) ∧ L2 = L0) (.cons (by first | exact ARead.box 0 rfl rfl rfl rfl | exact ARead.box 1 rfl rfl rfl rfl | exact ARead.box 2 rfl rfl rfl rfl | exact ARead.box 3 rfl rfl rfl rfl) (.cons (by first | exact ARead.box 0 rfl rfl rfl rfl | exact ARead.box 1 rfl rfl rfl rfl | exact ARead.box 2 rfl rfl rfl rfl | exact ARead.box 3 rfl rfl rfl rfl) (.cons (by first | exact ARead.box 0 rfl rfl rfl rfl | exact ARead.box 1 rfl rfl rfl rfl | exact ARead.box 2 rfl rfl rfl rfl | exact ARead.box 3 rfl rfl rfl rfl) .nil))) (by repeat first | exact List.Sublist.refl _ | apply List.Sublist.cons) (D.Le.eq ?_) ⟨rfl, rfl⟩
    rw [toldM_arg (by omega)]; rfl
  ·
    try simp only [decide_eq_true_eq, decide_eq_false_iff_not, Bool.not_eq_true', Bool.not_eq_false', Bool.and_eq_true, Bool.or_eq_true, beq_iff_eq, beq_eq_false_iff_ne] at h12
    refine AOps.vT rfl rfl rfl rfl rfl rfl (AVal.moveN (by constructor)) ?_
    refine AOps.vT rfl rfl rfl rfl rfl rfl (AVal.gtr rfl rfl) ?_
    refine AOps.v rfl rfl rfl (AVal.pickF rfl (by constructor)) ?_
    refine AOps.nil ?_
    refine ACode.condS rfl (fun h15 => ?_) (fun h15 => ?_)
    ·
      try simp only [decide_eq_true_eq, decide_eq_false_iff_not, Bool.not_eq_true', Bool.not_eq_false', Bool.and_eq_true, Bool.or_eq_true, beq_iff_eq, beq_eq_false_iff_ne] at h15
      refine ACode.seq ?_
      refine ACode.region ?_
      refine AOps.e0 rfl rfl (AOp.storeN 2 rfl rfl rfl (by constructor) rfl rfl rfl (by repeat constructor) (by repeat constructor) ?_)
      refine AOps.e0 rfl rfl (AOp.storeN 1 rfl rfl rfl (by constructor) rfl rfl rfl (by repeat constructor) (by repeat constructor) ?_)
      refine AOps.e0 rfl rfl (AOp.storeN 0 rfl rfl rfl (by constructor) rfl rfl rfl (by repeat constructor) (by repeat constructor) ?_)
      refine AOps.nil ?_
      refine ACode.ret ?_
      refine AFinD.ret0 (X := X) (fn := Tryz.f34) (R := fun x L2 => x = .ret (.tup [.bool (toldM fuel r).1, .int .i64 (toldM fuel r).2.1, .int .i64 (toldM fuel r).2.2]) ∧ L2 = L0) (.cons (by first | exact ARead.box 0 rfl rfl rfl rfl | exact ARead.box 1 rfl rfl rfl rfl | exact ARead.box 2 rfl rfl rfl rfl | exact ARead.box 3 rfl rfl rfl rfl) (.cons (by first | exact ARead.box 0 rfl rfl rfl rfl | exact ARead.box 1 rfl rfl rfl rfl | exact ARead.box 2 rfl rfl rfl rfl | exact ARead.box 3 rfl rfl rfl rfl) (.cons (by first | exact ARead.box 0 rfl rfl rfl rfl | exact ARead.box 1 rfl rfl rfl rfl | exact ARead.box 2 rfl rfl rfl rfl | exact ARead.box 3 rfl rfl rfl rfl) .nil))) (by repeat first | exact List.Sublist.refl _ | apply List.Sublist.cons) (D.Le.eq ?_) ⟨rfl, rfl⟩
      rw [toldM_arg (by omega)]; rfl
    ·
      try simp only [decide_eq_true_eq, decide_eq_false_iff_not, Bool.not_eq_true', Bool.not_eq_false', Bool.and_eq_true, Bool.or_eq_true, beq_iff_eq, beq_eq_false_iff_ne] at h15
      refine ACode.skip ?_
      refine ACode.seq ?_
      refine ACode.region ?_
      refine AOps.v rfl rfl rfl (AVal.makeFunc) ?_
      refine AOps.deferP (ps := [b8, b6, b7]) rfl ?_
      refine AOps.nil ?_
      refine ACode.seq ?_
      refine ACode.region ?_
      refine AOps.v rfl rfl rfl (AVal.moveN (by constructor)) ?_
      refine AOps.v rfl rfl rfl (AVal.build rfl rfl rfl) ?_
      refine AOps.v rfl rfl rfl (AVal.moveN (by constructor)) ?_
      refine AOps.v rfl rfl rfl (AVal.build rfl rfl rfl) ?_
      refine AOps.e rfl rfl rfl (AOp.boxA rfl (fun b21 => ?_))
      refine AOps.v rfl rfl rfl (AVal.assignN (by constructor)) ?_
      refine AOps.nil ?_
      refine ACode.seq ?_
      refine ACode.region ?_
      refine AOps.v rfl rfl rfl (AVal.moveN (by constructor)) ?_
      refine AOps.v rfl rfl rfl (AVal.moveN (by constructor)) ?_
      refine AOps.e rfl rfl rfl (callToldM rfl (H (by omega) b21) rfl (fun hok => ?_) (fun hno => ?_))
      ·
        refine AOps.e0 rfl rfl (AOp.storeN 3 rfl rfl rfl (by constructor) rfl rfl rfl (by repeat constructor) (by repeat constructor) ?_)
        refine AOps.nil ?_
        refine ACode.seq ?_
        refine ACode.draws [.l 0, .p 1, .p 2, .p 3, .p 4, .l 5, .e 6 [5], .e 7 [], .e 8 []] mixed (by kernel_rfl) ?_
        refine ASeq.lv rfl rfl rfl rfl (HasCell.mk 3 rfl rfl (by constructor)) ?_
        refine ASeq.pv rfl rfl rfl rfl (fun L0 => (AVal.moveN (by constructor))) ?_
        refine ASeq.pv rfl rfl rfl rfl (fun L0 => (AVal.nilCheckP rfl)) ?_
        refine ASeq.pv rfl rfl rfl rfl (fun L0 => (AVal.fieldP rfl rfl)) ?_
        refine ASeq.pv rfl rfl rfl rfl (fun L0 => (AVal.fieldP rfl rfl)) ?_
        refine ASeq.lv rfl rfl rfl rfl (HasCell.mk 0 rfl rfl (by constructor)) ?_
        refine ASeq.ee0 rfl rfl rfl rfl (AOp.storeN 3 rfl rfl rfl (by constructor) rfl rfl rfl (by repeat constructor) (by repeat constructor) ⟨(by first | exact Keeps.nil | (repeat first | exact Keeps.nil | refine Keeps.cons (by first | exact HasCell.mk 0 rfl rfl (.refl _) | exact HasCell.mk 1 rfl rfl (.refl _) | exact HasCell.mk 2 rfl rfl (.refl _) | exact HasCell.mk 3 rfl rfl (.refl _) | exact HasCell.mk 4 rfl rfl (.refl _) | exact HasCell.mk 5 rfl rfl (.refl _) | exact HasCell.mk 6 rfl rfl (.refl _) | exact HasCell.mk 7 rfl rfl (.refl _)) ?_)), ?_⟩)
        refine ASeq.ee0 rfl rfl rfl rfl (AOp.storeN 2 rfl rfl rfl (by constructor) rfl rfl rfl (by repeat constructor) (by repeat constructor) ⟨(by first | exact Keeps.nil | (repeat first | exact Keeps.nil | refine Keeps.cons (by first | exact HasCell.mk 0 rfl rfl (.refl _) | exact HasCell.mk 1 rfl rfl (.refl _) | exact HasCell.mk 2 rfl rfl (.refl _) | exact HasCell.mk 3 rfl rfl (.refl _) | exact HasCell.mk 4 rfl rfl (.refl _) | exact HasCell.mk 5 rfl rfl (.refl _) | exact HasCell.mk 6 rfl rfl (.refl _) | exact HasCell.mk 7 rfl rfl (.refl _)) ?_)), ?_⟩)
        refine ASeq.ee0 rfl rfl rfl rfl (AOp.storeN 1 rfl rfl rfl (by constructor) rfl rfl rfl (by repeat constructor) (by repeat constructor) ⟨(by first | exact Keeps.nil | (repeat first | exact Keeps.nil | refine Keeps.cons (by first | exact HasCell.mk 0 rfl rfl (.refl _) | exact HasCell.mk 1 rfl rfl (.refl _) | exact HasCell.mk 2 rfl rfl (.refl _) | exact HasCell.mk 3 rfl rfl (.refl _) | exact HasCell.mk 4 rfl rfl (.refl _) | exact HasCell.mk 5 rfl rfl (.refl _) | exact HasCell.mk 6 rfl rfl (.refl _) | exact HasCell.mk 7 rfl rfl (.refl _)) ?_)), ?_⟩)
        refine ASeq.nil ?_
        refine ACode.ret ?_
        refine AFinD.retD (X := X) (fn := Tryz.f34) (R := fun x L2 => x = .ret (.tup [.bool (toldM fuel r).1, .int .i64 (toldM fuel r).2.1, .int .i64 (toldM fuel r).2.2]) ∧ L2 = L0) (g := 72) (ps := [b8, b6, b7]) (told1_ret b6 b7 b8 b21 _ _ _ _ _) (.cons (by first | exact ARead.box 0 rfl rfl rfl rfl | exact ARead.box 1 rfl rfl rfl rfl | exact ARead.box 2 rfl rfl rfl rfl | exact ARead.box 3 rfl rfl rfl rfl) (.cons (by first | exact ARead.box 0 rfl rfl rfl rfl | exact ARead.box 1 rfl rfl rfl rfl | exact ARead.box 2 rfl rfl rfl rfl | exact ARead.box 3 rfl rfl rfl rfl) (.cons (by first | exact ARead.box 0 rfl rfl rfl rfl | exact ARead.box 1 rfl rfl rfl rfl | exact ARead.box 2 rfl rfl rfl rfl | exact ARead.box 3 rfl rfl rfl rfl) .nil))) (by repeat first | exact List.Sublist.refl _ | apply List.Sublist.cons) (D.Le.eq ?_) ⟨rfl, rfl⟩
        rw [toldM_ok (by omega) hok]; rfl
      ·
        refine AFinD.panD (X := X) (fn := Tryz.f34) (R := fun x L2 => x = .ret (.tup [.bool (toldM fuel r).1, .int .i64 (toldM fuel r).2.1, .int .i64 (toldM fuel r).2.2]) ∧ L2 = L0) (g := 72) (ps := [b8, b6, b7]) (told1_pan b6 b7 b8 b21 _ _ _ _ _) (.cons (by first | exact ARead.box 0 rfl rfl rfl rfl | exact ARead.box 1 rfl rfl rfl rfl | exact ARead.box 2 rfl rfl rfl rfl | exact ARead.box 3 rfl rfl rfl rfl) (.cons (by first | exact ARead.box 0 rfl rfl rfl rfl | exact ARead.box 1 rfl rfl rfl rfl | exact ARead.box 2 rfl rfl rfl rfl | exact ARead.box 3 rfl rfl rfl rfl) (.cons (by first | exact ARead.box 0 rfl rfl rfl rfl | exact ARead.box 1 rfl rfl rfl rfl | exact ARead.box 2 rfl rfl rfl rfl | exact ARead.box 3 rfl rfl rfl rfl) .nil))) (by repeat first | exact List.Sublist.refl _ | apply List.Sublist.cons) (D.Le.eq ?_) ⟨rfl, rfl⟩
        rw [toldM_gone (by omega) hno]; rfl

theorem convTop_c (hS : SortedOk) (cs : List Core) (p q : Term) (F : Int) (hc : 0 ≤ F ∧ F ≤ 1073741824 → CoresOk cs ∧ W F p ∧ W F q) : AFn X 9 [.slC cs, encT p, encT q, .int .i64 F] (.tup [.bool (convM cs F p q).1, .int .i64 (convM cs F p q).2.1, .int .i64 (convM cs F p q).2.2]) := by
  refine ACalls.of_code Tryz.func9 rfl (by rfl) (Nat.le_of_ble_eq_true rfl) ?_
  refine ACode.seq ?_
  refine ACode.region ?_
  refine AOps.e rfl rfl rfl (AOp.boxA rfl (fun b5 => ?_))
  refine AOps.e rfl rfl rfl (AOp.boxA rfl (fun b6 => ?_))
  refine AOps.v rfl rfl rfl (AVal.assignN (by constructor)) ?_
  refine AOps.v rfl rfl rfl (AVal.assignN (by constructor)) ?_
  refine AOps.v rfl rfl rfl (AVal.assignN (by constructor)) ?_
  refine AOps.nil ?_
  refine ACode.seq ?_
  refine ACode.region ?_
  refine AOps.v rfl rfl rfl (AVal.moveN (by constructor)) ?_
  refine AOps.v rfl rfl rfl (AVal.moveN (by constructor)) ?_
  refine AOps.v rfl rfl rfl (AVal.makeFunc) ?_
  refine AOps.e rfl rfl rfl (AOp.callK [] (told_c (r := oneM cs (F.toNat + 1) F p q) (L0 := [(b6, .cells 27 (cellsT q)), (b5, .cells 27 (cellsT p))]) cs F (fun hF b => convAsk_c hS b b5 b6 cs (hc hF).1 (F.toNat + 1) F p q hF.1 (by omega) (hc hF).2.1 (hc hF).2.2)) (LeL.eq rfl) rfl ?_)
  refine AOps.v rfl rfl rfl (AVal.extractN rfl rfl (by constructor)) ?_
  refine AOps.v rfl rfl rfl (AVal.extractN rfl rfl (by constructor)) ?_
  refine AOps.v rfl rfl rfl (AVal.extractN rfl rfl (by constructor)) ?_
  refine AOps.v rfl rfl rfl (AVal.assignN (by constructor)) ?_
  refine AOps.v rfl rfl rfl (AVal.assignN (by constructor)) ?_
  refine AOps.v rfl rfl rfl (AVal.assignN (by constructor)) ?_
  refine AOps.nil ?_
  refine ACode.ret ?_
  refine AFin.pureRet rfl (.cons rfl (.cons rfl (.cons rfl .nil))) ?_
  exact D.Le.eq rfl

theorem leqTop_c (hS : SortedOk) (cs : List Core) (p q : Term) (F : Int) (hc : 0 ≤ F ∧ F ≤ 1073741824 → CoresOk cs ∧ W F p ∧ W F q) : AFn X 10 [.slC cs, encT p, encT q, .int .i64 F] (.tup [.bool (leqM cs F p q).1, .int .i64 (leqM cs F p q).2.1, .int .i64 (leqM cs F p q).2.2]) := by
  refine ACalls.of_code Tryz.func10 rfl (by rfl) (Nat.le_of_ble_eq_true rfl) ?_
  refine ACode.seq ?_
  refine ACode.region ?_
  refine AOps.e rfl rfl rfl (AOp.boxA rfl (fun b5 => ?_))
  refine AOps.e rfl rfl rfl (AOp.boxA rfl (fun b6 => ?_))
  refine AOps.v rfl rfl rfl (AVal.assignN (by constructor)) ?_
  refine AOps.v rfl rfl rfl (AVal.assignN (by constructor)) ?_
  refine AOps.v rfl rfl rfl (AVal.assignN (by constructor)) ?_
  refine AOps.nil ?_
  refine ACode.seq ?_
  refine ACode.region ?_
  refine AOps.v rfl rfl rfl (AVal.moveN (by constructor)) ?_
  refine AOps.v rfl rfl rfl (AVal.moveN (by constructor)) ?_
  refine AOps.v rfl rfl rfl (AVal.makeFunc) ?_
  refine AOps.e rfl rfl rfl (AOp.callK [] (told_c (r := mostM cs (F.toNat + 1) F p q) (L0 := [(b6, .cells 27 (cellsT q)), (b5, .cells 27 (cellsT p))]) cs F (fun hF b => leqAsk_c hS b b5 b6 cs (hc hF).1 (F.toNat + 1) F p q hF.1 (by omega) (hc hF).2.1 (hc hF).2.2)) (LeL.eq rfl) rfl ?_)
  refine AOps.v rfl rfl rfl (AVal.extractN rfl rfl (by constructor)) ?_
  refine AOps.v rfl rfl rfl (AVal.extractN rfl rfl (by constructor)) ?_
  refine AOps.v rfl rfl rfl (AVal.extractN rfl rfl (by constructor)) ?_
  refine AOps.v rfl rfl rfl (AVal.assignN (by constructor)) ?_
  refine AOps.v rfl rfl rfl (AVal.assignN (by constructor)) ?_
  refine AOps.v rfl rfl rfl (AVal.assignN (by constructor)) ?_
  refine AOps.nil ?_
  refine ACode.ret ?_
  refine AFin.pureRet rfl (.cons rfl (.cons rfl (.cons rfl .nil))) ?_
  exact D.Le.eq rfl

end Sp
