/- For every input whose reading is of bulk at most the row's number, the law CenvMore answers true and leaves its arguments as they were; the card ties the table of kinds to the program's text. -/
import Derived.Test.YtbnknhpebkcpmaaGreatDoorBh
import Derived.Test.YtbnknhpebkcpmaaGreatDoorSa
import Derived.Test.YtbnknhpebkcpmaaGreatDoorRa
import Derived.Test.YtbnknhpebkcpmaaGreatDoorCards
import Derived.Test.YtbnknhpebkcpmaaGreatDoorTie
import Derived.WalkKit
import Derived.ProofKit
import Derived.OpenShut
import Derived.Carry
import Derived.Deep.DeepHandedRow
/- For every input whose reading is of bulk at most the row's number, the law CenvMore answers true and leaves its arguments as they were; the card ties the table of kinds to the program's text. -/
set_option linter.unusedVariables false
set_option maxRecDepth 100000

namespace Sp
open Go Go.Proofs Go.Proofs.YtbnknhpebkcpmaaGreatDoor.Rows
theorem trodTv {HH : Type} {enc : TypeId × Value → HH} {W : World} {r : Reach} {b0 : Nat} {v : Value} {d : DataW HH} {ps : List MemPlace} (hval : Value.okWide Tryz.prog W r b0 27 v) (h : DataW.Trod enc Tryz.prog W 0 (fun _ => true) true 27 v d ps) :
    ∃ t : Term, Enc (HW W) (encT t) v ∧ QT t d := by
  obtain ⟨fuel, h⟩ := h
  obtain ⟨t, he, hq⟩ := trodT fuel _ _ _ h
  have hv : ∃ cs, v = .agg cs := by
    unfold Value.okWide at hval
    rw [Tryz.underlying27] at hval
    obtain ⟨cs, e, _⟩ := hval
    exact ⟨cs, e⟩
  obtain ⟨cs, rfl⟩ := hv
  exact ⟨t, Enc.agg_iff.2 ⟨cs, rfl, by simpa [Value.cells] using he⟩, hq⟩
theorem trodCv {HH : Type} {enc : TypeId × Value → HH} {W : World} {r : Reach} {b0 : Nat} {v : Value} {d : DataW HH} {ps : List MemPlace} (hval : Value.okWide Tryz.prog W r b0 53 v) (h : DataW.Trod enc Tryz.prog W 0 (fun _ => true) true 53 v d ps) :
    ∃ t : Core, Enc (HW W) (encC t) v ∧ QC t d := by
  obtain ⟨fuel, h⟩ := h
  obtain ⟨t, he, hq⟩ := trodC fuel _ _ _ h
  have hv : ∃ cs, v = .agg cs := by
    unfold Value.okWide at hval
    rw [Tryz.underlying53] at hval
    obtain ⟨cs, e, _⟩ := hval
    exact ⟨cs, e⟩
  obtain ⟨cs, rfl⟩ := hv
  exact ⟨t, Enc.agg_iff.2 ⟨cs, rfl, by simpa [Value.cells] using he⟩, hq⟩
theorem simHW {W : World} (h : laidMetH Tryz.prog [("spandrel/term.kinds", laid_spandrel_term_kinds)] W) : Sim (HW W) [] W :=
  ⟨g0_le h, (fun b o v e => e), (fun b m hm => by cases hm), List.nodup_nil⟩
end Sp

namespace Go.Proofs.YtbnknhpebkcpmaaGreatDoor
open Go.ChangeShapes Go.WideShapes Go.ChangeAt Go.RowKit Sp

theorem own : ownKnob Tryz.prog.godebug = none := by kernel_rfl
theorem laidOut : laidOutB Tryz.prog = true := by kernel_rfl

theorem contract (H : Type) (enc : TypeId × Value → H) (W : World) (base : Nat) (args : Array Value) (ds gs : List (DataW H)) (before : List MemPlace)
    (hval : ∀ (j : Nat) t v, Tryz.f6.params[j]? = some t → args[j]? = some v → Value.okWide Tryz.prog W .any base t v)
    (hW : DataW.Whole enc Tryz.prog Tryz.f6.params.toList Rows.cenvMoreSpec.vars false W args.toList ds gs before) (hb : Rows.uptoSmall H (ds ++ gs) = true) (hL : laidMetH Tryz.prog Rows.cenvMoreRow.laid W) :
    Calls Tryz.prog 6 args W fun e W' => ∃ v, e = .returned v ∧ Rows.cenvMoreSpec.post enc Tryz.prog Tryz.f6 false true false false W args v W' := by
  have hW' := hW
  have hbl : ∀ p ∈ before, p.block < W.heap.size := hW.lt
  obtain ⟨p, q, hA0, hV, rfl, hfz, hnd⟩ := hW
  have hA : DataW.TrodAll enc Tryz.prog W 0 (fun _ => true) true Tryz.f6.params.toList args.toList ds p := hA0
  rw [Tryz.params6] at hA hval
  obtain ⟨v0, vs0, d0, ds0, p0, q0, hargs, rfl, rfl, h0, r0⟩ := trodAll_cons hA
  obtain ⟨v1, vs1, d1, ds1, p1, q1, e1, rfl, rfl, h1, r1⟩ := trodAll_cons r0
  obtain ⟨v2, vs2, d2, ds2, p2, q2, e2, rfl, rfl, h2, r2⟩ := trodAll_cons r1
  obtain ⟨v3, vs3, d3, ds3, p3, q3, e3, rfl, rfl, h3, r3⟩ := trodAll_cons r2
  obtain ⟨e9, rfl, rfl⟩ := trodAll_nil r3
  obtain rfl : args = #[v0, v1, v2, v3] := by cases args; simp_all
  obtain ⟨rfl, rfl⟩ := trodVars_none hV
  have t0 := h0
  have t1 := h1
  have t2 := h2
  have t3 := h3
  obtain ⟨x0, he0, hl0, hq0⟩ := trodCs (hval 0 _ v0 rfl rfl) h0
  obtain ⟨x1, he1, hl1, hq1⟩ := trodCs (hval 1 _ v1 rfl rfl) h1
  obtain ⟨x2, he2, hq2⟩ := trodCv (hval 2 _ v2 rfl rfl) h2
  obtain ⟨x3, rfl, rfl, rfl, hw3⟩ := ChangeShapes.open_int Tryz.underlying3 (hval 3 _ v3 rfl rfl) h3
  have hbulk : Rows.uptoBulkAll ([d0, d1, d2, .lit (.int .i64 x3)] : List (DataW H)) ≤ 1048576 := by
    have := of_decide_eq_true hb
    simpa using this
  simp only [Rows.uptoBulkAll] at hbulk
  have b0 := one_le (HH := H) d0
  have b1 := one_le (HH := H) d1
  have b2 := one_le (HH := H) d2
  have hc : AFn X 6 [.slC x0, .slC x1, encC x2, .int .i64 x3] (.bool true) :=
    cenvMore_c sortedOk x0 x1 x2 x3 (fun c hc => ⟨(hq0 c hc).1.2 _ (by omega), Nat.le_trans (hq0 c hc).1.1 (by omega), (hq0 c hc).2.2 _ (by omega), Nat.le_trans (hq0 c hc).2.1 (by omega)⟩) (fun c hc => ⟨(hq1 c hc).1.2 _ (by omega), Nat.le_trans (hq1 c hc).1.1 (by omega), (hq1 c hc).2.2 _ (by omega), Nat.le_trans (hq1 c hc).2.1 (by omega)⟩) ⟨hq2.1.2 _ (by omega), Nat.le_trans hq2.1.1 (by omega), hq2.2.2 _ (by omega), Nat.le_trans hq2.2.1 (by omega)⟩ (by omega) (by omega)
  obtain ⟨_, hcall⟩ := hc
  refine (hcall (HW W) W #[v0, v1, v2, .int .i64 x3] (simHW hL) ⟨rfl, fun i d v e k => ?_⟩).mono ?_
  · match i, e, k with
    | 0, e, k => cases e; cases k; exact he0
    | 1, e, k => cases e; cases k; exact he1
    | 2, e, k => cases e; cases k; exact he2
    | 3, e, k => cases e; cases k; exact (Enc.int .i64 x3)
    | i + 4, e, k => simp at e
  · rintro e W' ⟨H', L', hs', hst, he⟩
    cases e with
    | returned v =>
      obtain ⟨d, hd, hr⟩ := he
      cases hr
      obtain rfl := hd.bool_inv
      have hbe : Below W.heap.size W W' := hst.below
      refine ⟨_, rfl, [d0, d1, d2, .lit (.int .i64 x3)], [], _, [], _, [], hW', trodAll_cons_mk (shut_bool Tryz.underlying4 _) trodAll_mk0, (trodAll_cons_mk (Below.trod laidOut (by kernel_rfl) (of_decide_eq_true (by kernel_rfl)) t0 hbe (fun x hx => hbl x (by simp [hx]))) (trodAll_cons_mk (Below.trod laidOut (by kernel_rfl) (of_decide_eq_true (by kernel_rfl)) t1 hbe (fun x hx => hbl x (by simp [hx]))) (trodAll_cons_mk (Below.trod laidOut (by kernel_rfl) (of_decide_eq_true (by kernel_rfl)) t2 hbe (fun x hx => hbl x (by simp [hx]))) (trodAll_cons_mk (Below.trod laidOut (by kernel_rfl) (of_decide_eq_true (by kernel_rfl)) t3 hbe (fun x hx => by cases hx)) trodAll_mk0)))), rfl, hbe.frame _, fun h => by cases h⟩
    | panicked ch => obtain ⟨d, v, _, _, hr⟩ := he; cases hr
    | outgrown => exact he.elim

/-- A WORLD FOR THE WITNESS: the settled one, the table (block 0) holding what its initialiser lays. -/
noncomputable def laidWorld (os : Os) : World :=
  { World.holding Tryz.prog os ⟨#[], #[], []⟩ with heap := (World.holding Tryz.prog os ⟨#[], #[], []⟩).heap.modify 0 fun
      | .cells _ t frozen => .cells kindCells.toArray t frozen
      | o => o }
theorem laid_met (os : Os) : laidMet Tryz.prog Rows.cenvMoreRow.laid ((laidWorld os).forCall (fun _ _ => 0) ⟨#[], #[.slice none 0 0, .slice none 0 0, .agg #[.int .i64 0, .int .i64 0, .int .i64 0, .int .i64 0, .slice none 0 0, .slice none 0 0, .bool false, .int .i64 0, .int .i64 0, .int .i64 0, .slice none 0 0, .slice none 0 0], .int .i64 0], []⟩).memory :=
  laidMet_of_run' 8 (by kernel_rfl) (by kernel_rfl)
theorem reads (os : Os) {H : Type} (enc : TypeId × Value → H) : ∃ places, DataW.whole enc Tryz.prog ((laidWorld os).forCall (fun _ _ => 0) ⟨#[], #[.slice none 0 0, .slice none 0 0, .agg #[.int .i64 0, .int .i64 0, .int .i64 0, .int .i64 0, .slice none 0 0, .slice none 0 0, .bool false, .int .i64 0, .int .i64 0, .int .i64 0, .slice none 0 0, .slice none 0 0], .int .i64 0], []⟩).memory Tryz.f6.params.toList Rows.cenvMoreSpec.vars false (#[.slice none 0 0, .slice none 0 0, .agg #[.int .i64 0, .int .i64 0, .int .i64 0, .int .i64 0, .slice none 0 0, .slice none 0 0, .bool false, .int .i64 0, .int .i64 0, .int .i64 0, .slice none 0 0, .slice none 0 0], .int .i64 0] : Array Value).toList 8 = some ([.nil, .nil, .agg [.lit (.int .i64 0), .agg [.lit (.int .i64 0), .lit (.int .i64 0), .lit (.int .i64 0), .nil, .nil], .lit (.bool false), .agg [.lit (.int .i64 0), .lit (.int .i64 0), .lit (.int .i64 0), .nil, .nil]], .lit (.int .i64 0)], [], places) :=
  ⟨[], by kernel_rfl⟩

theorem liftedUpto (os : Os) (started : os.Started) (H : Type) (enc : TypeId × Value → H) (F : Stop.Interp) :
    ReturnsInHanded {} Tryz.checked os 6 .any ((Rows.OpenSpec.upto Rows.cenvMoreSpec).preRow enc Tryz.prog Tryz.f6 Rows.cenvMoreUptoRow.domain false Rows.cenvMoreUptoRow.laid) (((Rows.OpenSpec.upto Rows.cenvMoreSpec).at F).post enc Tryz.prog Tryz.f6 false true false false) := by
  obtain ⟨places, hx⟩ := reads os enc
  refine returnsInHanded_of_row (C := Tryz.checked) (s := Rows.OpenSpec.upto Rows.cenvMoreSpec) own started (by kernel_rfl) Tryz.func6
    (witness_row_at (enc := enc) (C := Tryz.checked) false (laidWorld os) #[.slice none 0 0, .slice none 0 0, .agg #[.int .i64 0, .int .i64 0, .int .i64 0, .int .i64 0, .slice none 0 0, .slice none 0 0, .bool false, .int .i64 0, .int .i64 0, .int .i64 0, .slice none 0 0, .slice none 0 0], .int .i64 0] rfl (by kernel_rfl) (by kernel_rfl) (by kernel_rfl)
      (OpenSpec.preRow_of_cond 8 hx (by kernel_rfl) (fun k hk => by cases hk; kernel_rfl) (by kernel_rfl) (laid_met os))) ?_
  intro W base args ds gs before hval hW _ hcond _ hL _ _
  exact contract H enc W base args ds gs before hval hW (hcond _ rfl) hL

theorem saidUpto : Rows.CenvMoreUptoSaid :=
  OpenClaim.holds_of_cond 6 Tryz.f6 rfl rfl rfl rfl rfl rfl rfl ⟨rfl, rfl, rfl, rfl, rfl⟩ rfl rfl rfl rfl rfl (by kernel_rfl) Tryz.func6 (by kernel_rfl)
    (of_decide_eq_true (by kernel_rfl)) (by unfold Func.isWrapper; first | (rw [if_pos (by decide +kernel)]; kernel_rfl) | (rw [if_neg (by decide +kernel)]; exact ⟨rfl, rfl⟩))
    (fun os started H enc _ F => by rw [OpenClaim.pre_eq_preRow]; exact liftedUpto os started H enc F)

theorem plain (f : FuncId) (fn : Func) (hf : Tryz.pinned.checked.prog.funcNamed "spandrel/spandrellaw10.CenvMore" = some f) (hfn : Tryz.pinned.checked.prog.funcs[f]? = some fn) :
    true = Tryz.pinned.checked.prog.looks [] ∧ ∀ (j : Nat) t, fn.params[j]? = some t → Tryz.pinned.checked.prog.wantsStandIn t = false := by
  obtain rfl : f = 6 := Option.some.inj ((show Tryz.prog.funcNamed "spandrel/spandrellaw10.CenvMore" = some 6 by kernel_rfl).symm.trans hf) |>.symm
  obtain rfl : fn = Tryz.f6 := (Option.some.inj (Tryz.func6.symm.trans hfn)).symm
  refine ⟨by kernel_rfl, fun j t ht => ?_⟩
  rw [Tryz.params6] at ht
  have hm := Array.mem_of_getElem? ht
  simp only [List.mem_toArray, List.mem_cons, List.not_mem_nil, or_false] at hm
  have h0 : Tryz.prog.wantsStandIn 22 = false ∧ Tryz.prog.wantsStandIn 53 = false ∧ Tryz.prog.wantsStandIn 3 = false := ⟨by kernel_rfl, by kernel_rfl, by kernel_rfl⟩
  rcases hm with rfl | rfl | rfl | rfl
  · exact h0.1
  · exact h0.1
  · exact h0.2.1
  · exact h0.2.2

theorem cardUpto : Rows.CenvMoreUptoCardSaid :=
  Claim7.holds_tied_plain_at .later [] _ _ _ _ saidUpto (fun _ h => by cases h) (by kernel_rfl) (fun _ h => by cases h) cenvMoreUpto_row_tie rfl ⟨rfl, rfl⟩ (by kernel_rfl) rfl plain (by kernel_rfl)

end Go.Proofs.YtbnknhpebkcpmaaGreatDoor

