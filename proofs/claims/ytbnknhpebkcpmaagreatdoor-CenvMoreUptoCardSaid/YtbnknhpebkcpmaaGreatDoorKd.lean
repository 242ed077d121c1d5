/- Walks of the program's functions and what they compute: contracts of calls; no condition beyond those that each theorem names. -/
import Derived.Test.YtbnknhpebkcpmaaGreatDoorKb
import Derived.Test.YtbnknhpebkcpmaaGreatDoorKc
/- A level's parts, each made greater by 1, in place. -/
set_option linter.unusedVariables false
set_option linter.unusedSimpArgs false
namespace Sp
open Go
def bump (p : Part) : Part := ⟨p.v, w64 (p.p + 1)⟩
def bumpN (g : Nat) (ps : List Part) : List Part := (ps.take g).map bump ++ ps.drop g
theorem bumpN_zero (ps : List Part) : bumpN 0 ps = ps := by simp [bumpN]
theorem bumpN_cons (p : Part) (ps : List Part) (g : Nat) : bumpN (g + 1) (p :: ps) = bump p :: bumpN g ps := rfl
theorem bumpN_len (g : Nat) (ps : List Part) : (bumpN g ps).length = ps.length := by simp [bumpN]; omega
theorem bumpN_all {g : Nat} {ps : List Part} (h : ps.length ≤ g) : bumpN g ps = ps.map bump := by
  unfold bumpN; rw [List.take_of_length_le h, List.drop_of_length_le h, List.append_nil]
theorem rowM_cons (p : Part) (ps : List Part) (r : Nat) : rowM (p :: ps) r = .int .i64 p.v :: .int .i64 p.p :: rowM ps r := rfl
theorem rowM_len (ps : List Part) (r : Nat) : (rowM ps r).length = 2 * ps.length + r := by
  unfold rowM; rw [List.length_append, flat_parts_len, List.length_replicate]; omega
theorem rowM_get : ∀ (ps : List Part) (r i : Nat), i < ps.length → ∃ tl, (rowM (bumpN i ps) r).drop (2 * i + 1) = .int .i64 (ps.getD i default).p :: tl
  | [], r, i, h => by simp at h
  | p :: ps, r, 0, h => ⟨rowM ps r, by rw [bumpN_zero, rowM_cons]; rfl⟩
  | p :: ps, r, i + 1, h => by
    obtain ⟨tl, ht⟩ := rowM_get ps r i (by simpa using h)
    exact ⟨tl, by rw [bumpN_cons, rowM_cons, show 2 * (i + 1) + 1 = 2 * i + 1 + 1 + 1 by omega, List.drop_succ_cons, List.drop_succ_cons, ht]; rfl⟩
theorem setD_cons2 (a b : D) (cs new : List D) (o : Nat) : setD (a :: b :: cs) (o + 2) new = a :: b :: setD cs o new := by
  unfold setD
  rw [show o + 2 + new.length = o + new.length + 1 + 1 by omega, show o + 2 = o + 1 + 1 by omega]
  rfl
theorem rowM_set : ∀ (ps : List Part) (r i : Nat), i < ps.length → setD (rowM (bumpN i ps) r) (2 * i + 1) [.int .i64 (w64 ((ps.getD i default).p + 1))] = rowM (bumpN (i + 1) ps) r
  | [], r, i, h => by simp at h
  | p :: ps, r, 0, h => by rw [bumpN_zero, bumpN_cons, bumpN_zero, rowM_cons, rowM_cons]; rfl
  | p :: ps, r, i + 1, h => by
    have ih := rowM_set ps r i (by simpa using h)
    rw [bumpN_cons, rowM_cons, bumpN_cons, rowM_cons, show 2 * (i + 1) + 1 = 2 * i + 1 + 2 by omega, setD_cons2]
    rw [show (p :: ps).getD (i + 1) default = ps.getD i default from rfl, ih]
theorem rowM_load {ti : TI} {ps : List Part} {r i : Nat} (ha : ti.agg = false) (h : i < ps.length) : loadD ti ((rowM (bumpN i ps) r).drop (2 * i + 1)) = some (.int .i64 (ps.getD i default).p) := by
  obtain ⟨tl, ht⟩ := rowM_get ps r i h
  unfold loadD; rw [ha]; simp only [cond_false]; rw [ht]; rfl
theorem Conv.parts' {L L1 : Loc} {b r n : Nat} {ps : List Part} {tP : TypeId} (j : Nat) (hj : L[j]? = some (b, .cells tP (rowM ps r))) (hn : ps.length = n) (hE : L.eraseIdx j = L1) : Conv L (.agg [.sl b 0 n]) L1 (encL ps) := by
  subst hn; subst hE; exact Conv.parts j hj
section
variable {X : PT} {ρ : Operand → D} {L L' : Loc} {dst : Option Tmp} {ty : TypeId} {pos : String} {after : Array Edge} {guard : Option (Nat × Bool)} {K Kp : D → Loc → Prop}
theorem AOp.storeBump {t tt : TypeId} {x y : Operand} {b i r : Nat} {ps : List Part} {ti : TI} {z : Int} (k : Nat) (hx : ρ x = .ptr b (2 * i + 1)) (hk : L[k]? = some (b, .cells tt (rowM (bumpN i ps) r))) (hT : X.ty t = some ti) (h1 : ti.size = 1)
    (hy : ρ y = .int .i64 z) (hz : z = w64 ((ps.getD i default).p + 1)) (hlt : i < ps.length) (hs : L.set k (b, .cells tt (rowM (bumpN (i + 1) ps) r)) = L') (h : K .any L') : AOp X ⟨dst, .store t x y, ty, pos, after, guard⟩ ρ L K Kp := by
  subst hz
  refine AOp.store k hx hk hT hy rfl (by rw [h1]; rfl) (Nat.ble_eq_true_of_le (by rw [rowM_len, bumpN_len, h1]; omega)) ?_
  rw [show D.cells (.int .i64 (w64 ((ps.getD i default).p + 1))) = [.int .i64 (w64 ((ps.getD i default).p + 1))] from rfl, rowM_set ps r i hlt, hs]; exact h
end
theorem succL_cons {l : Level} (h : normM l ≠ []) : succL l = normM ((normM l).map bump) := by
  unfold succL; rw [if_neg h]; rfl
end Sp

/- What was put off, amid other objects; what infer asks of what is put in. -/
set_option linter.unusedVariables false
namespace Sp
open Go
theorem Step.widen {H H' : Ghost} {L L0 L2 : Loc} {w w' : World} (h : Step H L0 w H' L2 w') (hs : L0.Sublist L) : Step H L w H' L2 w' :=
  { h with
    frame := fun b hb hd => h.frame b hb (fun e => hd ((hs.map Prod.fst).subset e))
    dom' := fun b hb => (h.dom' b hb).imp (fun e => (hs.map Prod.fst).subset e) id
    fresh := fun b o hb hd hn => h.fresh b o hb (fun e => hd ((hs.map Prod.fst).subset e)) hn }
theorem ADef.drop {X : PT} {f : FuncId} {args : List D} {L L0 L2 : Loc} {dv : Option D} (hs : L0.Sublist L) (h : ADef X f args L0 dv L2) : ADef X f args L dv L2 :=
  ⟨h.1, fun H w vs u s a m => (h.2 H w vs u (s.drop hs) a m).mono (fun e u' w' ⟨h1, h2, H', s', t'⟩ => ⟨h1, h2, H', s', t'.widen hs⟩)⟩
section
variable {X : PT} {ρ : Operand → D} {L L' : Loc} {dst : Option Tmp} {ty : TypeId} {pos : String} {after : Array Edge} {guard : Option (Nat × Bool)} {K Kp : D → Loc → Prop}
theorem AOp.callToldI {α : Type} {enc : α → D} {r : RS α} {tE : TypeId} {F : Int} {L0 : Loc} {g : Operand} {xs : Array Operand} {tys : Array TypeId} {f : FuncId} {caps : List D} {b : Nat} {W1 W2 : Int → Nat × MObj} {x y z : Nat × MObj}
    (hg : ρ g = .func (.func f) [] caps) (hc : ARs X f ([.ptr b 0] ++ caps) tE (fun F => L0 ++ [W1 F, W2 F]) F enc r) (hx : xs.toList.map ρ = [.ptr b 0]) (hL : L = W1 F :: W2 F :: x :: y :: z :: L0)
    (h1 : ∀ a F', r = .ok a F' → K (enc a) (W1 F' :: W2 F' :: x :: y :: z :: L0)) (h2 : ∀ e F', r = .er e → Kp (.iface tE (.int .i64 e)) (W1 F' :: W2 F' :: x :: y :: z :: L0)) : AOp X ⟨dst, .call ⟨.value g, xs, tys⟩, ty, pos, after, guard⟩ ρ L K Kp := by
  subst hL
  have hp : ∀ F, (W1 F :: W2 F :: x :: y :: z :: L0).Perm ((L0 ++ [W1 F, W2 F]) ++ [x, y, z]) := fun F => by
    have e : W1 F :: W2 F :: x :: y :: z :: L0 = [W1 F, W2 F, x, y, z] ++ L0 := rfl
    have e2 : (L0 ++ [W1 F, W2 F]) ++ [x, y, z] = L0 ++ [W1 F, W2 F, x, y, z] := by simp
    rw [e, e2]; exact List.perm_append_comm
  refine AOp.callVQ (L0 := L0 ++ [W1 F, W2 F]) (L1 := [x, y, z]) hg hc (Yn (by simp [hx])) (hp F) (fun d' L' h => ?_) (fun d' L' h => ?_)
  · rcases h with ⟨a, F', hr, e1, rfl⟩ | ⟨e, F', hr, e1, rfl⟩
    · cases e1; exact ⟨_, (hp F').symm, h1 a F' hr⟩
    · cases e1
  · rcases h with ⟨a, F', hr, e1, rfl⟩ | ⟨e, F', hr, e1, rfl⟩
    · cases e1
    · cases e1; exact ⟨_, (hp F').symm, h2 e F' hr⟩
end
end Sp

/- Rows of definitions: cloned, written with what they hold. -/
set_option linter.unusedVariables false
set_option linter.unusedSimpArgs false
namespace Sp
open Go
def flatC (cs : List Core) (r : Nat) : List D := flat (cs.map encC) ++ List.replicate r .any
theorem flat_encC_len : ∀ (cs : List Core), (flat (cs.map encC)).length = 12 * cs.length
  | [] => rfl
  | c :: cs => by
    have ih := flat_encC_len cs
    show (cellsC c ++ flat (cs.map encC)).length = 12 * (cs.length + 1)
    rw [List.length_append, ih]; simp [cellsC]; omega
theorem flatC_len (cs : List Core) (r : Nat) : (flatC cs r).length = 12 * cs.length + r := by
  unfold flatC; rw [List.length_append, flat_encC_len, List.length_replicate]
theorem flatC_get : ∀ (cs : List Core) (r i : Nat), i < cs.length → ∃ hd tl, flatC cs r = hd ++ cellsC (cs.getD i default) ++ tl ∧ hd.length = 12 * i
  | [], r, i, h => by simp at h
  | c :: cs, r, 0, h => ⟨[], flatC cs r, rfl, rfl⟩
  | c :: cs, r, i + 1, h => by
    obtain ⟨hd, tl, e, hl⟩ := flatC_get cs r i (by simpa using h)
    refine ⟨cellsC c ++ hd, tl, ?_, by rw [List.length_append, hl]; simp [cellsC]; omega⟩
    show cellsC c ++ flatC cs r = _
    rw [e, List.getD_cons_succ]; simp [List.append_assoc]
theorem drop_mid {hd ms tl : List D} {n j : Nat} (h : hd.length = n) (hj : j ≤ ms.length) : (hd ++ ms ++ tl).drop (n + j) = ms.drop j ++ tl := by
  rw [← List.drop_drop, List.append_assoc, ← h, List.drop_left, List.drop_append_of_le_length hj]
theorem set_mid {hd ms tl new : List D} {n j : Nat} (h : hd.length = n) (hj : j + new.length ≤ ms.length) (hn : (ms.drop j).take new.length = new) : setD (hd ++ ms ++ tl) (n + j) new = hd ++ ms ++ tl := by
  unfold setD
  have h1 : (hd ++ ms ++ tl).drop (n + j) = ms.drop j ++ tl := drop_mid h (by omega)
  have h2 : (hd ++ ms ++ tl).drop (n + j + new.length) = (ms.drop j ++ tl).drop new.length := by rw [← List.drop_drop, h1]
  rw [h2]
  conv => rhs; rw [← List.take_append_drop (n + j) (hd ++ ms ++ tl), h1]
  rw [List.append_assoc]
  congr 1
  have h3 : ms.drop j ++ tl = new ++ (ms.drop j ++ tl).drop new.length := by
    conv => lhs; rw [← List.take_append_drop new.length (ms.drop j ++ tl)]
    congr 1
    rw [List.take_append_of_le_length (by rw [List.length_drop]; omega), hn]
  exact h3.symm
theorem flatC_has {L : Loc} {cs : List Core} {r i b : Nat} {tt : TypeId} {ti : TI} (k : Nat) (hk : L[k]? = some (b, .cells tt (flatC cs r))) (h : i < cs.length) (ha : ti.agg = true) (hs : ti.size = 5) :
    HasCell L (b, 12 * i + 1, ti, encT (cs.getD i default).typ) ∧ HasCell L (b, 12 * i + 7, ti, encT (cs.getD i default).body) := by
  obtain ⟨hd, tl, e, hl⟩ := flatC_get cs r i h
  refine ⟨⟨tt, _, List.mem_iff_getElem?.2 ⟨k, hk⟩, ?_⟩, ⟨tt, _, List.mem_iff_getElem?.2 ⟨k, hk⟩, ?_⟩⟩
  · show loadD ti ((flatC cs r).drop (12 * i + 1)) = _
    rw [e, drop_mid hl (by simp [cellsC])]
    unfold loadD; rw [ha, hs]
    rfl
  · show loadD ti ((flatC cs r).drop (12 * i + 7)) = _
    rw [e, drop_mid hl (by simp [cellsC])]
    unfold loadD; rw [ha, hs]
    rfl
theorem flatC_set {cs : List Core} {r i : Nat} (h : i < cs.length) :
    setD (flatC cs r) (12 * i + 1) (cellsT (cs.getD i default).typ) = flatC cs r ∧ setD (flatC cs r) (12 * i + 7) (cellsT (cs.getD i default).body) = flatC cs r := by
  obtain ⟨hd, tl, e, hl⟩ := flatC_get cs r i h
  rw [e]
  exact ⟨set_mid hl (by simp [cellsC, cellsT]) rfl, set_mid hl (by simp [cellsC, cellsT]) rfl⟩
theorem Conv.cores {L : Loc} {b r n : Nat} {cs : List Core} {tt : TypeId} (j : Nat) (hj : L[j]? = some (b, .cells tt (flatC cs r))) (hn : n = cs.length) : Conv L (.sl b 0 n) [] (.slC cs) := by
  subst hn
  intro H w v hsim he
  obtain ⟨H', s', t', hrow⟩ := hsim.freeze hj
  refine ⟨H', s'.drop (List.nil_sublist _), t'.drop (List.nil_sublist _), ?_⟩
  have hrow' : RowAt H' b 0 (flat (cs.map encC)) := RowAt.left (ds := List.replicate r .any) hrow
  obtain ⟨cap, hv, hcap⟩ := he.sl_inv
  rw [hv]
  have := Enc.data_mk (d := .slC cs) (es := cs.map encC) (b := b) (o := 0) (cap := cap) rfl (by simpa using hcap) hrow'
  simpa using this
section
variable {X : PT} {ρ : Operand → D} {L L' : Loc} {dst : Option Tmp} {ty : TypeId} {pos : String} {after : Array Edge} {guard : Option (Nat × Bool)} {K Kp : D → Loc → Prop}
theorem coresE {cs : List Core} : ∀ e ∈ cs.map encC, e.cells.length = 12 := fun e he => by obtain ⟨u, _, rfl⟩ := List.mem_map.1 he; rfl
theorem AOp.cloneCB {s x : Operand} {t tx et ex : TypeId} {i : TI} {cs : List Core} (ht : X.elem t = some et) (htx : X.elem tx = some ex) (hT : X.ty et = some i) (hs0 : ρ s = .emp) (hx : ρ x = .slC cs) (hz : i.size = 12) (hb : Nat.ble i.bytes 1024 = true)
    (hlen : cs.length ≤ 10000000000) (h0 : cs = [] → K .emp L) (h1 : cs ≠ [] → ∀ b cap, K (.own b cap (cs.map encC)) ((b, .buf et i.size cap (cs.map encC)) :: L)) : AOp X ⟨dst, .call ⟨.builtin .append, #[s, x], #[t, tx]⟩, ty, pos, after, guard⟩ ρ L K Kp := by
  by_cases hne : cs = []
  · exact AOp.appendNone ht htx hT hs0 hx (by rw [hne]; rfl) (h0 hne)
  · have hby : (cs.map encC).length * i.bytes ≤ 140737488355328 := by
      have h1 : cs.length * i.bytes ≤ 10000000000 * 1024 := Nat.mul_le_mul hlen (Nat.le_of_ble_eq_true hb)
      rw [List.length_map]; omega
    exact AOp.appendNew (es := cs.map encC) ht htx hT hs0 hx rfl (fun e he => by rw [hz]; exact coresE e he) (by simpa using hne) (by simp only [maxLen, List.length_map]; omega) hby (h1 hne)
theorem AOp.cloneCM {s x : Operand} {t tx et ex : TypeId} {i : TI} {cs : List Core} (ht : X.elem t = some et) (htx : X.elem tx = some ex) (hT : X.ty et = some i) (hs0 : ρ s = .emp) (hx : ρ x = .slC cs) (hz : i.size = 12) (hb : Nat.ble i.bytes 1024 = true)
    (hlen : cs.length ≤ 10000000000) (h0 : cs = [] → K .emp L) (h1 : cs ≠ [] → ∀ b r, K (.sl b 0 cs.length) ((b, .cells et (flatC cs r)) :: L)) : AOp X ⟨dst, .call ⟨.builtin .append, #[s, x], #[t, tx]⟩, ty, pos, after, guard⟩ ρ L K Kp := by
  by_cases hne : cs = []
  · exact AOp.appendNone ht htx hT hs0 hx (by rw [hne]; rfl) (h0 hne)
  · have hby : (cs.map encC).length * i.bytes ≤ 140737488355328 := by
      have h1 : cs.length * i.bytes ≤ 10000000000 * 1024 := Nat.mul_le_mul hlen (Nat.le_of_ble_eq_true hb)
      rw [List.length_map]; omega
    refine AOp.appendNewM (es := cs.map encC) ht htx hT hs0 hx rfl (fun e he => by rw [hz]; exact coresE e he) (by simpa using hne) (by simp only [maxLen, List.length_map]; omega) hby (fun b r => ?_)
    rw [List.length_map]; exact h1 hne b r
theorem AOp.appC {s x : Operand} {t tx et ex : TypeId} {i : TI} {cs : List Core} {c : Core} {b cap : Nat} (k : Nat) (ht : X.elem t = some et) (htx : X.elem tx = some ex) (hT : X.ty et = some i) (hs0 : ρ s = .own b cap (cs.map encC)) (hx : ρ x = .slC [c])
    (hk : L[k]? = some (b, .buf et i.size cap (cs.map encC))) (hz : i.size = 12) (hb : Nat.ble i.bytes 1024 = true) (hlen : cs.length ≤ 10000000000) (hE : NmL (L.eraseIdx k) L')
    (h : ∀ b' cap', K (.own b' cap' ((cs ++ [c]).map encC)) ((b', .buf et i.size cap' ((cs ++ [c]).map encC)) :: L')) : AOp X ⟨dst, .call ⟨.builtin .append, #[s, x], #[t, tx]⟩, ty, pos, after, guard⟩ ρ L K Kp := by
  have hby : ((cs.map encC).length + ([c].map encC).length) * i.bytes ≤ 140737488355328 := by
    have h1 : (cs.length + 1) * i.bytes ≤ 10000000001 * 1024 := Nat.mul_le_mul (by omega) (Nat.le_of_ble_eq_true hb)
    simp only [List.length_map, List.length_singleton]; omega
  refine AOp.appendOwn (es := [c].map encC) k ht htx hT hs0 hx rfl hk (fun e he => by rw [hz]; exact coresE e he) (by simp only [maxLen, List.length_map, List.length_singleton]; omega) hby ?_
  rw [hE.eq]
  intro b' cap'
  have := h b' cap'
  rwa [List.map_append] at this
theorem AOp.newC {s x : Operand} {t tx et ex : TypeId} {i : TI} {c : Core} (ht : X.elem t = some et) (htx : X.elem tx = some ex) (hT : X.ty et = some i) (hs0 : ρ s = .emp) (hx : ρ x = .slC [c]) (hz : i.size = 12) (hb : Nat.ble i.bytes 1024 = true)
    (h : ∀ b cap, K (.own b cap ([c].map encC)) ((b, .buf et i.size cap ([c].map encC)) :: L)) : AOp X ⟨dst, .call ⟨.builtin .append, #[s, x], #[t, tx]⟩, ty, pos, after, guard⟩ ρ L K Kp :=
  AOp.appendNew (es := [c].map encC) ht htx hT hs0 hx rfl (fun e he => by rw [hz]; exact coresE e he) (by simp) (by simp [maxLen]) (by have := Nat.le_of_ble_eq_true hb; simp; omega) h
end
end Sp

/- Comparisons whose answer is known. -/
set_option linter.unusedVariables false
namespace Sp
open Go
section
variable {X : PT} {ρ : Operand → D} {L : Loc} {dst : Option Tmp} {ty : TypeId} {pos : String} {after : Array Edge} {guard : Option (Nat × Bool)}
theorem AVal.neqD {t : TypeId} {x y : Operand} {k : IntKind} {a b : Int} {u : TypeId} (hx : ρ x = .int k a) (hy : ρ y = .int k b) (h : ¬ a = b) : AVal X ⟨dst, .binOp .neq t x y u, ty, pos, after, guard⟩ ρ L (.bool true) := by
  have := AVal.neq (X := X) (L := L) (dst := dst) (ty := ty) (pos := pos) (after := after) (guard := guard) (t := t) (u := u) hx hy
  simpa [h] using this
theorem AVal.gtrF {t : TypeId} {x y : Operand} {k : IntKind} {a b : Int} {u : TypeId} (hx : ρ x = .int k a) (hy : ρ y = .int k b) (h : a ≤ b) : AVal X ⟨dst, .binOp .gtr t x y u, ty, pos, after, guard⟩ ρ L (.bool false) := by
  have := AVal.gtr (X := X) (L := L) (dst := dst) (ty := ty) (pos := pos) (after := after) (guard := guard) (t := t) (u := u) hx hy
  simpa [Int.not_lt.2 h, decide_eq_false (show ¬ b < a by omega)] using this
theorem AVal.eqlBS {t : TypeId} {x y : Operand} {a b : Bool} {u : TypeId} (hx : ρ x = .bool a) (hy : ρ y = .bool b) (hu : X.P.underlying t = some .bool) (h : a = b) : AVal X ⟨dst, .binOp .eql t x y u, ty, pos, after, guard⟩ ρ L (.bool true) := by
  have := AVal.eqlB (X := X) (L := L) (dst := dst) (ty := ty) (pos := pos) (after := after) (guard := guard) (t := t) (u := u) hx hy hu
  simpa [h] using this
end
end Sp

/- The commonest steps of a walk, their premises proved by default. Written by a program of mine. -/
set_option linter.unusedVariables false
namespace Sp
open Go
variable {X : PT} {n : Nat} {ops : Array Oper} {Q : Post} {rest : List Oper} {t : Env} {df : List Deferred} {L L' : Loc} {i j : Nat} {op : Op} {ty : TypeId} {pos : String} {after : Array Edge} {d : D} {m : MObj} {g : Nat} {want : Bool} {s : Tmp}
  {r : List It} {lz lz' : List (Nat × (Nat × Nat × TI × D))} {ks : List Nat} {b f : Nat} {ti : TI} {x : Operand} {T : TypeId}
theorem X0 {α : Type} (l : List α) : l.Sublist l := List.Sublist.refl l
theorem X1 {α : Type} {l m : List α} (a : α) (h : l.Sublist m) : (a :: l).Sublist (a :: m) := List.Sublist.cons_cons a h
theorem X2 {α : Type} {l m : List α} (a : α) (h : l.Sublist m) : l.Sublist (a :: m) := List.Sublist.cons a h
theorem X3 {α : Type} (l : List α) : [].Sublist l := List.nil_sublist l
theorem Zc {P : Program} {x y : Code} {k : Tmp} {c : Bool} (h1 : c = true → ACode P n x Q ⟨upd t k (.bool true), df⟩ L) (h2 : c = false → ACode P n y Q ⟨upd t k (.bool false), df⟩ L) (hc : t k = .bool c := by exact rfl) : ACode P n (.cond (.tmp k) x y) Q ⟨t, df⟩ L := ACode.condS hc h1 h2
theorem Zs {l : List Oper} (k : Tmp) {c : Bool} (h1 : c = true → AOps X n ops Q l ⟨upd t k (.bool true), df⟩ L) (h2 : c = false → AOps X n ops Q l ⟨upd t k (.bool false), df⟩ L) (hv : t k = .bool c := by exact rfl) : AOps X n ops Q l ⟨t, df⟩ L := AOps.split k hv h1 h2
theorem Zf {f : FuncId} {fn : Func} {c : Code} {args : List D} {R : AEnd → Loc → Prop} (hf : X.P.funcs[f]? = some fn) (h : ACode X.P fn.ntmps c (AFin X fn R) ⟨fun i => (args[i]?).getD .any, []⟩ L) (hb : fn.body = some c := by exact rfl) (hname : (fn.name == "runtime.NumGoroutine") = false := by rfl) (hn : args.length ≤ fn.ntmps := by exact Nat.le_of_ble_eq_true rfl) : ACalls X f args L R := ACalls.of_code hf hb hname hn h
theorem Za {z : List D} (h : ∀ b, ASeq X n ops Q r lz ⟨upd t j (.ptr b 0), df⟩ ((b, .cells T z) :: L)) (hi : ops[i]? = some ⟨some j, .alloc T, ty, pos, after, none⟩ := by exact rfl) (hj : Nat.blt j n = true := by exact rfl) (hT : X.ty T = some ti := by exact rfl) (hz : ti.zero = z := by exact rfl) : ASeq X n ops Q (.a i :: r) lz ⟨t, df⟩ L := ASeq.ea hi rfl rfl hj rfl hT hz h
theorem Z1 (h : AOps X n ops Q rest ⟨upd t j d, df⟩ L) (hj : Nat.blt j n = true := by exact rfl) (hv : AVal X ⟨some j, op, ty, pos, after, none⟩ (AS.ev ⟨t, df⟩) L d := by exact (AVal.moveN (by constructor))) : AOps X n ops Q (⟨some j, op, ty, pos, after, none⟩ :: rest) ⟨t, df⟩ L := AOps.v rfl rfl hj hv h
theorem Z2 (h : AOps X n ops Q rest ⟨upd t j d, df⟩ L) (hj : Nat.blt j n = true := by exact rfl) (hv : AVal X ⟨some j, op, ty, pos, after, none⟩ (AS.ev ⟨t, df⟩) L d := by exact (AVal.assignN (by constructor))) : AOps X n ops Q (⟨some j, op, ty, pos, after, none⟩ :: rest) ⟨t, df⟩ L := AOps.v rfl rfl hj hv h
theorem Z3 (h : AOps X n ops Q rest ⟨t, df⟩ L') (hv : ∀ {K Kp : D → Loc → Prop}, K d L' → AOp X ⟨none, op, ty, pos, after, none⟩ (AS.ev ⟨t, df⟩) L K Kp := by exact fun h => AOp.storeN 0 rfl rfl rfl (by constructor) rfl rfl rfl (by repeat constructor) (by repeat constructor) h) : AOps X n ops Q (⟨none, op, ty, pos, after, none⟩ :: rest) ⟨t, df⟩ L := AOps.e0 rfl rfl (hv (K := fun d L' => AOps X n ops Q rest ⟨t, df⟩ L') h)
theorem Z4 {b : Bool} (h : AOps X n ops Q rest ⟨upd t j (.tup []), df⟩ L) (hs : ((ops[g]?).bind (·.dst)) = some s := by exact rfl) (hn : Nat.blt s n = true := by exact rfl) (ht : t s = .bool b := by exact rfl) (hb : b = !want := by exact rfl) (hj : Nat.blt j n = true := by exact rfl) : AOps X n ops Q (⟨some j, op, ty, pos, after, some (g, want)⟩ :: rest) ⟨t, df⟩ L := Yq rfl hs hn ht hb rfl hj h
theorem Z5 (h : ASeq X n ops Q r lz ⟨upd t j d, df⟩ L) (hi : ops[i]? = some ⟨some j, op, ty, pos, after, none⟩ := by exact rfl) (hj : Nat.blt j n = true := by exact rfl) (hv : ∀ L', AVal X ⟨some j, op, ty, pos, after, none⟩ (AS.ev ⟨t, df⟩) L' d := by exact fun _ => (AVal.moveN (by constructor))) : ASeq X n ops Q (.p i :: r) lz ⟨t, df⟩ L := Yt hi rfl rfl hj hv h
theorem Z6 (h : AOps X n ops Q rest ⟨upd t j d, df⟩ L) (hj : Nat.blt j n = true := by exact rfl) (hv : AVal X ⟨some j, op, ty, pos, after, none⟩ (AS.ev ⟨t, df⟩) L d := by exact (AVal.fieldP rfl rfl)) : AOps X n ops Q (⟨some j, op, ty, pos, after, none⟩ :: rest) ⟨t, df⟩ L := AOps.v rfl rfl hj hv h
theorem Z7 (h : ∀ b, AOps X n ops Q rest ⟨upd t j (.ptr b 0), df⟩ ((b, m) :: L)) (hj : Nat.blt j n = true := by exact rfl) (hv : ∀ {K Kp : D → Loc → Prop}, (∀ b, K (.ptr b 0) ((b, m) :: L)) → AOp X ⟨some j, op, ty, pos, after, none⟩ (AS.ev ⟨t, df⟩) L K Kp := by exact fun h => AOp.allocN rfl rfl h) : AOps X n ops Q (⟨some j, op, ty, pos, after, none⟩ :: rest) ⟨t, df⟩ L := AOps.e rfl rfl hj (hv (K := fun d L' => AOps X n ops Q rest ⟨upd t j d, df⟩ L') h)
theorem Z8 (h : ASeq X n ops Q r lz ⟨upd t j d, df⟩ L) (hi : ops[i]? = some ⟨some j, op, ty, pos, after, none⟩ := by exact rfl) (hj : Nat.blt j n = true := by exact rfl) (hv : ∀ L', AVal X ⟨some j, op, ty, pos, after, none⟩ (AS.ev ⟨t, df⟩) L' d := by exact fun _ => (AVal.fieldP rfl rfl)) : ASeq X n ops Q (.p i :: r) lz ⟨t, df⟩ L := Yt hi rfl rfl hj hv h
theorem Z9 (h : ∀ b, AOps X n ops Q rest ⟨upd t j (.ptr b 0), df⟩ ((b, m) :: L)) (hj : Nat.blt j n = true := by exact rfl) (hv : ∀ {K Kp : D → Loc → Prop}, (∀ b, K (.ptr b 0) ((b, m) :: L)) → AOp X ⟨some j, op, ty, pos, after, none⟩ (AS.ev ⟨t, df⟩) L K Kp := by exact fun h => AOp.boxA rfl h) : AOps X n ops Q (⟨some j, op, ty, pos, after, none⟩ :: rest) ⟨t, df⟩ L := AOps.e rfl rfl hj (hv (K := fun d L' => AOps X n ops Q rest ⟨upd t j d, df⟩ L') h)
theorem Z10 (h : AOps X n ops Q rest ⟨t, df⟩ L') (hv : ∀ {K Kp : D → Loc → Prop}, K d L' → AOp X ⟨none, op, ty, pos, after, none⟩ (AS.ev ⟨t, df⟩) L K Kp := by exact fun h => AOp.storeN 1 rfl rfl rfl (by constructor) rfl rfl rfl (by repeat constructor) (by repeat constructor) h) : AOps X n ops Q (⟨none, op, ty, pos, after, none⟩ :: rest) ⟨t, df⟩ L := AOps.e0 rfl rfl (hv (K := fun d L' => AOps X n ops Q rest ⟨t, df⟩ L') h)
theorem Z11 (h : AOps X n ops Q rest ⟨upd t j d, df⟩ L) (hj : Nat.blt j n = true := by exact rfl) (hv : AVal X ⟨some j, op, ty, pos, after, none⟩ (AS.ev ⟨t, df⟩) L d := by exact (AVal.loadPN 0 rfl rfl rfl rfl (by constructor))) : AOps X n ops Q (⟨some j, op, ty, pos, after, none⟩ :: rest) ⟨t, df⟩ L := AOps.v rfl rfl hj hv h
theorem Z12 (h : AOps X n ops Q rest ⟨upd t j d, df⟩ L) (hj : Nat.blt j n = true := by exact rfl) (hv : AVal X ⟨some j, op, ty, pos, after, none⟩ (AS.ev ⟨t, df⟩) L d := by exact (AVal.extractN rfl rfl (by constructor))) : AOps X n ops Q (⟨some j, op, ty, pos, after, none⟩ :: rest) ⟨t, df⟩ L := AOps.v rfl rfl hj hv h
theorem Z13 (h : AOps X n ops Q rest ⟨upd t j d, df⟩ L) (hj : Nat.blt j n = true := by exact rfl) (hv : AVal X ⟨some j, op, ty, pos, after, none⟩ (AS.ev ⟨t, df⟩) L d := by exact (AVal.pickF rfl (by constructor))) : AOps X n ops Q (⟨some j, op, ty, pos, after, none⟩ :: rest) ⟨t, df⟩ L := AOps.v rfl rfl hj hv h
theorem Z14 (h : AOps X n ops Q rest ⟨upd t j d, df⟩ L) (hs : ((ops[g]?).bind (·.dst)) = some s := by exact rfl) (hn : Nat.blt s n = true := by exact rfl) (ht : t s = .bool want := by exact rfl) (hj : Nat.blt j n = true := by exact rfl) (hv : AVal X ⟨some j, op, ty, pos, after, some (g, want)⟩ (AS.ev ⟨t, df⟩) L d := by exact (AVal.moveN (by constructor))) : AOps X n ops Q (⟨some j, op, ty, pos, after, some (g, want)⟩ :: rest) ⟨t, df⟩ L := Yp rfl hs hn ht rfl hj hv h
theorem Z15 (h : AOps X n ops Q rest ⟨upd t j d, df⟩ L) (hj : Nat.blt j n = true := by exact rfl) (hv : AVal X ⟨some j, op, ty, pos, after, none⟩ (AS.ev ⟨t, df⟩) L d := by exact (AVal.pickT rfl (by constructor))) : AOps X n ops Q (⟨some j, op, ty, pos, after, none⟩ :: rest) ⟨t, df⟩ L := AOps.v rfl rfl hj hv h
theorem Z16 (h : AOps X n ops Q rest ⟨upd t j d, df⟩ L) (hj : Nat.blt j n = true := by exact rfl) (hv : AVal X ⟨some j, op, ty, pos, after, none⟩ (AS.ev ⟨t, df⟩) L d := by exact (AVal.loadPN 1 rfl rfl rfl rfl (by constructor))) : AOps X n ops Q (⟨some j, op, ty, pos, after, none⟩ :: rest) ⟨t, df⟩ L := AOps.v rfl rfl hj hv h
theorem Z17 (h : ASeq X n ops Q r lz ⟨upd t j d, df⟩ L) (hi : ops[i]? = some ⟨some j, op, ty, pos, after, none⟩ := by exact rfl) (hj : Nat.blt j n = true := by exact rfl) (hv : ∀ L', AVal X ⟨some j, op, ty, pos, after, none⟩ (AS.ev ⟨t, df⟩) L' d := by exact fun _ => (AVal.assignN (by constructor))) : ASeq X n ops Q (.p i :: r) lz ⟨t, df⟩ L := Yt hi rfl rfl hj hv h
theorem Z18 (h : AOps X n ops Q rest ⟨upd t j d, df⟩ L) (hs : ((ops[g]?).bind (·.dst)) = some s := by exact rfl) (hn : Nat.blt s n = true := by exact rfl) (ht : t s = .bool want := by exact rfl) (hj : Nat.blt j n = true := by exact rfl) (hv : AVal X ⟨some j, op, ty, pos, after, some (g, want)⟩ (AS.ev ⟨t, df⟩) L d := by exact (AVal.fieldP rfl rfl)) : AOps X n ops Q (⟨some j, op, ty, pos, after, some (g, want)⟩ :: rest) ⟨t, df⟩ L := Yp rfl hs hn ht rfl hj hv h
theorem Z19 (h : AOps X n ops Q rest ⟨upd t j d, df⟩ L) (hj : Nat.blt j n = true := by exact rfl) (hv : AVal X ⟨some j, op, ty, pos, after, none⟩ (AS.ev ⟨t, df⟩) L d := by exact (AVal.addn rfl rfl (by omega))) : AOps X n ops Q (⟨some j, op, ty, pos, after, none⟩ :: rest) ⟨t, df⟩ L := AOps.v rfl rfl hj hv h
theorem Z20 (h : AOps X n ops Q rest ⟨upd t j d, df⟩ L) (hj : Nat.blt j n = true := by exact rfl) (hv : AVal X ⟨some j, op, ty, pos, after, none⟩ (AS.ev ⟨t, df⟩) L d := by exact (AVal.loadP (d := encT _) 0 rfl rfl rfl rfl)) : AOps X n ops Q (⟨some j, op, ty, pos, after, none⟩ :: rest) ⟨t, df⟩ L := AOps.v rfl rfl hj hv h
theorem Z21 (h : ASeq X n ops Q r lz ⟨upd t j d, df⟩ L) (hi : ops[i]? = some ⟨some j, op, ty, pos, after, none⟩ := by exact rfl) (hj : Nat.blt j n = true := by exact rfl) (hv : ∀ L', AVal X ⟨some j, op, ty, pos, after, none⟩ (AS.ev ⟨t, df⟩) L' d := by exact fun _ => (AVal.loadE (d := encT _) rfl rfl rfl)) : ASeq X n ops Q (.p i :: r) lz ⟨t, df⟩ L := Yt hi rfl rfl hj hv h
theorem Z22 (h : ASeq X n ops Q r lz ⟨upd t j d, df⟩ L) (hi : ops[i]? = some ⟨some j, op, ty, pos, after, none⟩ := by exact rfl) (hj : Nat.blt j n = true := by exact rfl) (hv : ∀ L', AVal X ⟨some j, op, ty, pos, after, none⟩ (AS.ev ⟨t, df⟩) L' d := by exact fun _ => (AVal.indexTN rfl rfl rfl rfl rfl ⟨by omega, by simp [Term.kids]⟩)) : ASeq X n ops Q (.p i :: r) lz ⟨t, df⟩ L := Yt hi rfl rfl hj hv h
theorem Z23 (h : AOps X n ops Q rest ⟨upd t j d, df⟩ L) (hj : Nat.blt j n = true := by exact rfl) (hv : AVal X ⟨some j, op, ty, pos, after, none⟩ (AS.ev ⟨t, df⟩) L d := by exact (AVal.loadP (d := encT _) 1 rfl rfl rfl rfl)) : AOps X n ops Q (⟨some j, op, ty, pos, after, none⟩ :: rest) ⟨t, df⟩ L := AOps.v rfl rfl hj hv h
theorem Z24 (h : AOps X n ops Q rest ⟨upd t j d, df⟩ L) (hj : Nat.blt j n = true := by exact rfl) (hv : AVal X ⟨some j, op, ty, pos, after, none⟩ (AS.ev ⟨t, df⟩) L d := by exact (AVal.len rfl rfl rfl)) : AOps X n ops Q (⟨some j, op, ty, pos, after, none⟩ :: rest) ⟨t, df⟩ L := AOps.v rfl rfl hj hv h
theorem Z25 (h : ASeq X n ops Q r lz' ⟨t, df⟩ L') (hi : ops[i]? = some ⟨none, op, ty, pos, after, none⟩ := by exact rfl) (hlz : lz.filter (fun p => ks.contains p.1) = lz' := by exact rfl) (hv : ∀ {K Kp : D → Loc → Prop}, K d L' → AOp X ⟨none, op, ty, pos, after, none⟩ (AS.ev ⟨t, df⟩) L K Kp := by exact fun h => AOp.storeN 0 rfl rfl rfl (by constructor) rfl rfl rfl (by repeat constructor) (by repeat constructor) h) (hk : Keeps lz' L' := by exact Yo) : ASeq X n ops Q (.e i ks :: r) lz ⟨t, df⟩ L := ASeq.ee0 hi rfl rfl hlz (hv (K := fun d L' => Keeps lz' L' ∧ ASeq X n ops Q r lz' ⟨t, df⟩ L') ⟨hk, h⟩)
theorem Z26 (h : AOps X n ops Q rest ⟨upd t j d, df⟩ L) (hj : Nat.blt j n = true := by exact rfl) (hv : AVal X ⟨some j, op, ty, pos, after, none⟩ (AS.ev ⟨t, df⟩) L d := by exact (AVal.lss rfl rfl)) : AOps X n ops Q (⟨some j, op, ty, pos, after, none⟩ :: rest) ⟨t, df⟩ L := AOps.v rfl rfl hj hv h
theorem Z27 (h : AOps X n ops Q rest ⟨upd t j d, df⟩ L) (hs : ((ops[g]?).bind (·.dst)) = some s := by exact rfl) (hn : Nat.blt s n = true := by exact rfl) (ht : t s = .bool want := by exact rfl) (hj : Nat.blt j n = true := by exact rfl) (hv : AVal X ⟨some j, op, ty, pos, after, some (g, want)⟩ (AS.ev ⟨t, df⟩) L d := by exact (AVal.loadPN 1 rfl rfl rfl rfl (by constructor))) : AOps X n ops Q (⟨some j, op, ty, pos, after, some (g, want)⟩ :: rest) ⟨t, df⟩ L := Yp rfl hs hn ht rfl hj hv h
theorem Z28 (h : ASeq X n ops Q r ((i, (b, f, ti, d)) :: lz) ⟨upd t j d, df⟩ L) (hi : ops[i]? = some ⟨some j, .load T x, ty, pos, after, none⟩ := by exact rfl) (hj : Nat.blt j n = true := by exact rfl) (hx : AS.ev ⟨t, df⟩ x = .ptr b f := by exact rfl) (hT : X.ty T = some ti := by exact rfl) (hc : HasCell L (b, f, ti, d) := by exact (Yv (d := encT _) 1 rfl rfl (.refl _))) : ASeq X n ops Q (.l i :: r) lz ⟨t, df⟩ L := ASeq.lv hi hj hx hT hc h
theorem Z29 (h : ASeq X n ops Q r lz ⟨upd t j d, df⟩ L) (hi : ops[i]? = some ⟨some j, op, ty, pos, after, none⟩ := by exact rfl) (hj : Nat.blt j n = true := by exact rfl) (hv : ∀ L', AVal X ⟨some j, op, ty, pos, after, none⟩ (AS.ev ⟨t, df⟩) L' d := by exact fun _ => (AVal.extractN rfl rfl (by constructor))) : ASeq X n ops Q (.p i :: r) lz ⟨t, df⟩ L := Yt hi rfl rfl hj hv h
theorem Z30 (h : AOps X n ops Q rest ⟨upd t j d, df⟩ L) (hs : ((ops[g]?).bind (·.dst)) = some s := by exact rfl) (hn : Nat.blt s n = true := by exact rfl) (ht : t s = .bool want := by exact rfl) (hj : Nat.blt j n = true := by exact rfl) (hv : AVal X ⟨some j, op, ty, pos, after, some (g, want)⟩ (AS.ev ⟨t, df⟩) L d := by exact (AVal.loadPN 0 rfl rfl rfl rfl (by constructor))) : AOps X n ops Q (⟨some j, op, ty, pos, after, some (g, want)⟩ :: rest) ⟨t, df⟩ L := Yp rfl hs hn ht rfl hj hv h
theorem Z31 (h : ASeq X n ops Q r ((i, (b, f, ti, d)) :: lz) ⟨upd t j d, df⟩ L) (hi : ops[i]? = some ⟨some j, .load T x, ty, pos, after, none⟩ := by exact rfl) (hj : Nat.blt j n = true := by exact rfl) (hx : AS.ev ⟨t, df⟩ x = .ptr b f := by exact rfl) (hT : X.ty T = some ti := by exact rfl) (hc : HasCell L (b, f, ti, d) := by exact (Yv (d := encT _) 0 rfl rfl (.refl _))) : ASeq X n ops Q (.l i :: r) lz ⟨t, df⟩ L := ASeq.lv hi hj hx hT hc h
theorem Z32 (h : ASeq X n ops Q r lz ⟨upd t j d, df⟩ L) (hi : ops[i]? = some ⟨some j, op, ty, pos, after, none⟩ := by exact rfl) (hj : Nat.blt j n = true := by exact rfl) (hv : ∀ L', AOp X ⟨some j, op, ty, pos, after, none⟩ (AS.ev ⟨t, df⟩) L' (fun d' L'' => d' = d ∧ L'' = L') (fun _ _ => False) := by exact fun _ => AOp.buildSliceT (ts := [_, _]) rfl rfl rfl rfl rfl ⟨rfl, rfl⟩) : ASeq X n ops Q (.p i :: r) lz ⟨t, df⟩ L := ASeq.pe hi rfl rfl hj hv h
theorem Z33 (h : AOps X n ops Q rest ⟨t, df⟩ L') (hv : ∀ {K Kp : D → Loc → Prop}, K d L' → AOp X ⟨none, op, ty, pos, after, none⟩ (AS.ev ⟨t, df⟩) L K Kp := by exact fun h => AOp.insertN (e := 125) 0 rfl rfl rfl (by kernel_rfl) (by repeat constructor) rfl (by repeat constructor) h) : AOps X n ops Q (⟨none, op, ty, pos, after, none⟩ :: rest) ⟨t, df⟩ L := AOps.e0 rfl rfl (hv (K := fun d L' => AOps X n ops Q rest ⟨t, df⟩ L') h)
theorem Z34 (h : AOps X n ops Q rest ⟨t, df⟩ L') (hv : ∀ {K Kp : D → Loc → Prop}, K d L' → AOp X ⟨none, op, ty, pos, after, none⟩ (AS.ev ⟨t, df⟩) L K Kp := by exact fun h => AOp.storeN 2 rfl rfl rfl (by constructor) rfl rfl rfl (by repeat constructor) (by repeat constructor) h) : AOps X n ops Q (⟨none, op, ty, pos, after, none⟩ :: rest) ⟨t, df⟩ L := AOps.e0 rfl rfl (hv (K := fun d L' => AOps X n ops Q rest ⟨t, df⟩ L') h)
theorem Z35 (h : AOps X n ops Q rest ⟨upd t j d, df⟩ L) (hj : Nat.blt j n = true := by exact rfl) (hv : AVal X ⟨some j, op, ty, pos, after, none⟩ (AS.ev ⟨t, df⟩) L d := by exact (AVal.loadPN 2 rfl rfl rfl rfl (by constructor))) : AOps X n ops Q (⟨some j, op, ty, pos, after, none⟩ :: rest) ⟨t, df⟩ L := AOps.v rfl rfl hj hv h
theorem Z36 (h : ASeq X n ops Q r ((i, (b, f, ti, d)) :: lz) ⟨upd t j d, df⟩ L) (hi : ops[i]? = some ⟨some j, .load T x, ty, pos, after, none⟩ := by exact rfl) (hj : Nat.blt j n = true := by exact rfl) (hx : AS.ev ⟨t, df⟩ x = .ptr b f := by exact rfl) (hT : X.ty T = some ti := by exact rfl) (hc : HasCell L (b, f, ti, d) := by exact (Yv 1 rfl rfl (by constructor))) : ASeq X n ops Q (.l i :: r) lz ⟨t, df⟩ L := ASeq.lv hi hj hx hT hc h
theorem Z37 (h : AOps X n ops Q rest ⟨t, df⟩ L') (hv : ∀ {K Kp : D → Loc → Prop}, K d L' → AOp X ⟨none, op, ty, pos, after, none⟩ (AS.ev ⟨t, df⟩) L K Kp := by exact fun h => AOp.insertN (e := 140) 0 rfl rfl rfl (by kernel_rfl) (by repeat constructor) rfl (by repeat constructor) h) : AOps X n ops Q (⟨none, op, ty, pos, after, none⟩ :: rest) ⟨t, df⟩ L := AOps.e0 rfl rfl (hv (K := fun d L' => AOps X n ops Q rest ⟨t, df⟩ L') h)
theorem Z38 (h : ASeq X n ops Q r lz ⟨upd t j d, df⟩ L) (hi : ops[i]? = some ⟨some j, op, ty, pos, after, none⟩ := by exact rfl) (hj : Nat.blt j n = true := by exact rfl) (hv : ∀ L', AVal X ⟨some j, op, ty, pos, after, none⟩ (AS.ev ⟨t, df⟩) L' d := by exact fun _ => (AVal.nilCheckP rfl)) : ASeq X n ops Q (.p i :: r) lz ⟨t, df⟩ L := Yt hi rfl rfl hj hv h
theorem Z39 (h : AOps X n ops Q rest ⟨upd t j d, df⟩ L) (hj : Nat.blt j n = true := by exact rfl) (hv : AVal X ⟨some j, op, ty, pos, after, none⟩ (AS.ev ⟨t, df⟩) L d := by exact (AVal.loadP (d := encT _) 2 rfl rfl rfl rfl)) : AOps X n ops Q (⟨some j, op, ty, pos, after, none⟩ :: rest) ⟨t, df⟩ L := AOps.v rfl rfl hj hv h
theorem Z40 (h : AOps X n ops Q rest ⟨upd t j d, df⟩ L) (hj : Nat.blt j n = true := by exact rfl) (hv : AVal X ⟨some j, op, ty, pos, after, none⟩ (AS.ev ⟨t, df⟩) L d := by exact (AVal.eql rfl rfl)) : AOps X n ops Q (⟨some j, op, ty, pos, after, none⟩ :: rest) ⟨t, df⟩ L := AOps.v rfl rfl hj hv h
theorem Z41 (h : AOps X n ops Q rest ⟨upd t j d, df⟩ L) (hj : Nat.blt j n = true := by exact rfl) (hv : AVal X ⟨some j, op, ty, pos, after, none⟩ (AS.ev ⟨t, df⟩) L d := by exact (AVal.loadE (d := encT _) rfl rfl rfl)) : AOps X n ops Q (⟨some j, op, ty, pos, after, none⟩ :: rest) ⟨t, df⟩ L := AOps.v rfl rfl hj hv h
theorem Z42 (h : ASeq X n ops Q r lz' ⟨t, df⟩ L') (hi : ops[i]? = some ⟨none, op, ty, pos, after, none⟩ := by exact rfl) (hlz : lz.filter (fun p => ks.contains p.1) = lz' := by exact rfl) (hv : ∀ {K Kp : D → Loc → Prop}, K d L' → AOp X ⟨none, op, ty, pos, after, none⟩ (AS.ev ⟨t, df⟩) L K Kp := by exact fun h => AOp.storeN 1 rfl rfl rfl (by constructor) rfl rfl rfl (by repeat constructor) (by repeat constructor) h) (hk : Keeps lz' L' := by exact Yo) : ASeq X n ops Q (.e i ks :: r) lz ⟨t, df⟩ L := ASeq.ee0 hi rfl rfl hlz (hv (K := fun d L' => Keeps lz' L' ∧ ASeq X n ops Q r lz' ⟨t, df⟩ L') ⟨hk, h⟩)
theorem Z43 (h : ASeq X n ops Q r ((i, (b, f, ti, d)) :: lz) ⟨upd t j d, df⟩ L) (hi : ops[i]? = some ⟨some j, .load T x, ty, pos, after, none⟩ := by exact rfl) (hj : Nat.blt j n = true := by exact rfl) (hx : AS.ev ⟨t, df⟩ x = .ptr b f := by exact rfl) (hT : X.ty T = some ti := by exact rfl) (hc : HasCell L (b, f, ti, d) := by exact (Yv 3 rfl rfl (by constructor))) : ASeq X n ops Q (.l i :: r) lz ⟨t, df⟩ L := ASeq.lv hi hj hx hT hc h
theorem Z44 (h : AOps X n ops Q rest ⟨upd t j d, df⟩ L) (hj : Nat.blt j n = true := by exact rfl) (hv : AVal X ⟨some j, op, ty, pos, after, none⟩ (AS.ev ⟨t, df⟩) L d := by exact (AVal.nilCheckP rfl)) : AOps X n ops Q (⟨some j, op, ty, pos, after, none⟩ :: rest) ⟨t, df⟩ L := AOps.v rfl rfl hj hv h
theorem Z45 (h : ASeq X n ops Q r ((i, (b, f, ti, d)) :: lz) ⟨upd t j d, df⟩ L) (hi : ops[i]? = some ⟨some j, .load T x, ty, pos, after, none⟩ := by exact rfl) (hj : Nat.blt j n = true := by exact rfl) (hx : AS.ev ⟨t, df⟩ x = .ptr b f := by exact rfl) (hT : X.ty T = some ti := by exact rfl) (hc : HasCell L (b, f, ti, d) := by exact (Yv 2 rfl rfl (by constructor))) : ASeq X n ops Q (.l i :: r) lz ⟨t, df⟩ L := ASeq.lv hi hj hx hT hc h
theorem Z46 (h : ASeq X n ops Q r lz' ⟨t, df⟩ L') (hi : ops[i]? = some ⟨none, op, ty, pos, after, none⟩ := by exact rfl) (hlz : lz.filter (fun p => ks.contains p.1) = lz' := by exact rfl) (hv : ∀ {K Kp : D → Loc → Prop}, K d L' → AOp X ⟨none, op, ty, pos, after, none⟩ (AS.ev ⟨t, df⟩) L K Kp := by exact fun h => AOp.storeN 2 rfl rfl rfl (by constructor) rfl rfl rfl (by repeat constructor) (by repeat constructor) h) (hk : Keeps lz' L' := by exact Yo) : ASeq X n ops Q (.e i ks :: r) lz ⟨t, df⟩ L := ASeq.ee0 hi rfl rfl hlz (hv (K := fun d L' => Keeps lz' L' ∧ ASeq X n ops Q r lz' ⟨t, df⟩ L') ⟨hk, h⟩)
theorem Z47 (h : AOps X n ops Q rest ⟨upd t j d, df⟩ L) (hs : ((ops[g]?).bind (·.dst)) = some s := by exact rfl) (hn : Nat.blt s n = true := by exact rfl) (ht : t s = .bool want := by exact rfl) (hj : Nat.blt j n = true := by exact rfl) (hv : AVal X ⟨some j, op, ty, pos, after, some (g, want)⟩ (AS.ev ⟨t, df⟩) L d := by exact (AVal.eql rfl rfl)) : AOps X n ops Q (⟨some j, op, ty, pos, after, some (g, want)⟩ :: rest) ⟨t, df⟩ L := Yp rfl hs hn ht rfl hj hv h
theorem Z48 (h : AOps X n ops Q rest ⟨upd t j d, df⟩ L) (hj : Nat.blt j n = true := by exact rfl) (hv : AVal X ⟨some j, op, ty, pos, after, none⟩ (AS.ev ⟨t, df⟩) L d := by exact (AVal.buildT rfl rfl rfl (by constructor) (by constructor))) : AOps X n ops Q (⟨some j, op, ty, pos, after, none⟩ :: rest) ⟨t, df⟩ L := AOps.v rfl rfl hj hv h
theorem Z49 (h : ASeq X n ops Q r lz ⟨upd t j d, df⟩ L) (hi : ops[i]? = some ⟨some j, op, ty, pos, after, none⟩ := by exact rfl) (hj : Nat.blt j n = true := by exact rfl) (hv : ∀ L', AOp X ⟨some j, op, ty, pos, after, none⟩ (AS.ev ⟨t, df⟩) L' (fun d' L'' => d' = d ∧ L'' = L') (fun _ _ => False) := by exact fun _ => AOp.buildSlice (es := [.int .i64 _]) rfl rfl rfl rfl rfl ⟨rfl, rfl⟩) : ASeq X n ops Q (.p i :: r) lz ⟨t, df⟩ L := ASeq.pe hi rfl rfl hj hv h
theorem Z50 (h : ASeq X n ops Q r ((i, (b, f, ti, d)) :: lz) ⟨upd t j d, df⟩ L) (hi : ops[i]? = some ⟨some j, .load T x, ty, pos, after, none⟩ := by exact rfl) (hj : Nat.blt j n = true := by exact rfl) (hx : AS.ev ⟨t, df⟩ x = .ptr b f := by exact rfl) (hT : X.ty T = some ti := by exact rfl) (hc : HasCell L (b, f, ti, d) := by exact (Yv 0 rfl rfl (by constructor))) : ASeq X n ops Q (.l i :: r) lz ⟨t, df⟩ L := ASeq.lv hi hj hx hT hc h
theorem Z51 (h : AOps X n ops Q rest ⟨upd t j d, df⟩ L) (hj : Nat.blt j n = true := by exact rfl) (hv : AVal X ⟨some j, op, ty, pos, after, none⟩ (AS.ev ⟨t, df⟩) L d := by exact (AVal.makeInterface rfl (by kernel_rfl))) : AOps X n ops Q (⟨some j, op, ty, pos, after, none⟩ :: rest) ⟨t, df⟩ L := AOps.v rfl rfl hj hv h
theorem Z52 (h : AOps X n ops Q rest ⟨upd t j d, df⟩ L) (hj : Nat.blt j n = true := by exact rfl) (hv : AVal X ⟨some j, op, ty, pos, after, none⟩ (AS.ev ⟨t, df⟩) L d := by exact (AVal.build rfl rfl rfl)) : AOps X n ops Q (⟨some j, op, ty, pos, after, none⟩ :: rest) ⟨t, df⟩ L := AOps.v rfl rfl hj hv h
theorem Z53 (h : AOps X n ops Q rest ⟨upd t j d, df⟩ L) (hj : Nat.blt j n = true := by exact rfl) (hv : AVal X ⟨some j, op, ty, pos, after, none⟩ (AS.ev ⟨t, df⟩) L d := by exact (AVal.indexTN rfl rfl rfl rfl rfl ⟨by omega, by omega⟩)) : AOps X n ops Q (⟨some j, op, ty, pos, after, none⟩ :: rest) ⟨t, df⟩ L := AOps.v rfl rfl hj hv h
theorem Z54 (h : AOps X n ops Q rest ⟨upd t j d, df⟩ L) (hj : Nat.blt j n = true := by exact rfl) (hv : AVal X ⟨some j, op, ty, pos, after, none⟩ (AS.ev ⟨t, df⟩) L d := by exact (AVal.makeFunc)) : AOps X n ops Q (⟨some j, op, ty, pos, after, none⟩ :: rest) ⟨t, df⟩ L := AOps.v rfl rfl hj hv h
theorem Z55 (h : ASeq X n ops Q r ((i, (b, f, ti, d)) :: lz) ⟨upd t j d, df⟩ L) (hi : ops[i]? = some ⟨some j, .load T x, ty, pos, after, none⟩ := by exact rfl) (hj : Nat.blt j n = true := by exact rfl) (hx : AS.ev ⟨t, df⟩ x = .ptr b f := by exact rfl) (hT : X.ty T = some ti := by exact rfl) (hc : HasCell L (b, f, ti, d) := by exact (Yv (d := encT _) 2 rfl rfl (.refl _))) : ASeq X n ops Q (.l i :: r) lz ⟨t, df⟩ L := ASeq.lv hi hj hx hT hc h
theorem Z56 (h : AOps X n ops Q rest ⟨upd t j d, df⟩ L) (hj : Nat.blt j n = true := by exact rfl) (hv : AVal X ⟨some j, op, ty, pos, after, none⟩ (AS.ev ⟨t, df⟩) L d := by exact (AVal.loadEN rfl rfl rfl (by constructor))) : AOps X n ops Q (⟨some j, op, ty, pos, after, none⟩ :: rest) ⟨t, df⟩ L := AOps.v rfl rfl hj hv h
theorem Z57 (h : ASeq X n ops Q r lz ⟨upd t j d, df⟩ L) (hi : ops[i]? = some ⟨some j, op, ty, pos, after, none⟩ := by exact rfl) (hj : Nat.blt j n = true := by exact rfl) (hv : ∀ L', AOp X ⟨some j, op, ty, pos, after, none⟩ (AS.ev ⟨t, df⟩) L' (fun d' L'' => d' = d ∧ L'' = L') (fun _ _ => False) := by exact fun _ => AOp.buildSliceT (ts := [_]) rfl rfl rfl rfl rfl ⟨rfl, rfl⟩) : ASeq X n ops Q (.p i :: r) lz ⟨t, df⟩ L := ASeq.pe hi rfl rfl hj hv h
theorem Z58 (h : AOps X n ops Q rest ⟨t, df⟩ L') (hv : ∀ {K Kp : D → Loc → Prop}, K d L' → AOp X ⟨none, op, ty, pos, after, none⟩ (AS.ev ⟨t, df⟩) L K Kp := by exact fun h => AOp.insertN (e := 205) 0 rfl rfl rfl (by kernel_rfl) (by repeat constructor) rfl (by repeat constructor) h) : AOps X n ops Q (⟨none, op, ty, pos, after, none⟩ :: rest) ⟨t, df⟩ L := AOps.e0 rfl rfl (hv (K := fun d L' => AOps X n ops Q rest ⟨t, df⟩ L') h)
theorem Z59 (h : AOps X n ops Q rest ⟨upd t j d, df⟩ L) (hs : ((ops[g]?).bind (·.dst)) = some s := by exact rfl) (hn : Nat.blt s n = true := by exact rfl) (ht : t s = .bool want := by exact rfl) (hj : Nat.blt j n = true := by exact rfl) (hv : AVal X ⟨some j, op, ty, pos, after, some (g, want)⟩ (AS.ev ⟨t, df⟩) L d := by exact (AVal.gtr rfl rfl)) : AOps X n ops Q (⟨some j, op, ty, pos, after, some (g, want)⟩ :: rest) ⟨t, df⟩ L := Yp rfl hs hn ht rfl hj hv h
theorem Z60 (h : AOps X n ops Q rest ⟨upd t j d, df⟩ L) (hj : Nat.blt j n = true := by exact rfl) (hv : AVal X ⟨some j, op, ty, pos, after, none⟩ (AS.ev ⟨t, df⟩) L d := by exact (AVal.neq rfl rfl)) : AOps X n ops Q (⟨some j, op, ty, pos, after, none⟩ :: rest) ⟨t, df⟩ L := AOps.v rfl rfl hj hv h
theorem Z61 (h : AOps X n ops Q rest ⟨upd t j d, df⟩ L') (hj : Nat.blt j n = true := by exact rfl) (hv : ∀ {K Kp : D → Loc → Prop}, K d L' → AOp X ⟨some j, op, ty, pos, after, none⟩ (AS.ev ⟨t, df⟩) L K Kp := by exact fun h => AOp.buildSliceP (ts := [_]) rfl rfl rfl rfl rfl h) : AOps X n ops Q (⟨some j, op, ty, pos, after, none⟩ :: rest) ⟨t, df⟩ L := AOps.e rfl rfl hj (hv (K := fun d L' => AOps X n ops Q rest ⟨upd t j d, df⟩ L') h)
theorem Z62 (h : AOps X n ops Q rest ⟨upd t j d, df⟩ L') (hj : Nat.blt j n = true := by exact rfl) (hv : ∀ {K Kp : D → Loc → Prop}, K d L' → AOp X ⟨some j, op, ty, pos, after, none⟩ (AS.ev ⟨t, df⟩) L K Kp := by exact fun h => AOp.buildSliceT (ts := [_]) rfl rfl rfl rfl rfl h) : AOps X n ops Q (⟨some j, op, ty, pos, after, none⟩ :: rest) ⟨t, df⟩ L := AOps.e rfl rfl hj (hv (K := fun d L' => AOps X n ops Q rest ⟨upd t j d, df⟩ L') h)
theorem Z63 (h : AOps X n ops Q rest ⟨upd t j d, df⟩ L) (hj : Nat.blt j n = true := by exact rfl) (hv : AVal X ⟨some j, op, ty, pos, after, none⟩ (AS.ev ⟨t, df⟩) L d := by exact (AVal.add rfl rfl)) : AOps X n ops Q (⟨some j, op, ty, pos, after, none⟩ :: rest) ⟨t, df⟩ L := AOps.v rfl rfl hj hv h
theorem Z64 (h : AOps X n ops Q rest ⟨upd t j d, df⟩ L) (hs : ((ops[g]?).bind (·.dst)) = some s := by exact rfl) (hn : Nat.blt s n = true := by exact rfl) (ht : t s = .bool want := by exact rfl) (hj : Nat.blt j n = true := by exact rfl) (hv : AVal X ⟨some j, op, ty, pos, after, some (g, want)⟩ (AS.ev ⟨t, df⟩) L d := by exact (AVal.len rfl rfl rfl)) : AOps X n ops Q (⟨some j, op, ty, pos, after, some (g, want)⟩ :: rest) ⟨t, df⟩ L := Yp rfl hs hn ht rfl hj hv h
theorem Z65 (h : AOps X n ops Q rest ⟨upd t j d, df⟩ L) (hj : Nat.blt j n = true := by exact rfl) (hv : AVal X ⟨some j, op, ty, pos, after, none⟩ (AS.ev ⟨t, df⟩) L d := by exact (AVal.not rfl)) : AOps X n ops Q (⟨some j, op, ty, pos, after, none⟩ :: rest) ⟨t, df⟩ L := AOps.v rfl rfl hj hv h
theorem Z66 (h : AOps X n ops Q rest ⟨upd t j d, df⟩ L) (hj : Nat.blt j n = true := by exact rfl) (hv : AVal X ⟨some j, op, ty, pos, after, none⟩ (AS.ev ⟨t, df⟩) L d := by exact (AVal.loadPN 3 rfl rfl rfl rfl (by constructor))) : AOps X n ops Q (⟨some j, op, ty, pos, after, none⟩ :: rest) ⟨t, df⟩ L := AOps.v rfl rfl hj hv h
theorem Z67 (h : AOps X n ops Q rest ⟨t, df⟩ L') (hv : ∀ {K Kp : D → Loc → Prop}, K d L' → AOp X ⟨none, op, ty, pos, after, none⟩ (AS.ev ⟨t, df⟩) L K Kp := by exact fun h => AOp.storeN 3 rfl rfl rfl (by constructor) rfl rfl rfl (by repeat constructor) (by repeat constructor) h) : AOps X n ops Q (⟨none, op, ty, pos, after, none⟩ :: rest) ⟨t, df⟩ L := AOps.e0 rfl rfl (hv (K := fun d L' => AOps X n ops Q rest ⟨t, df⟩ L') h)
theorem Z68 (h : AOps X n ops Q rest ⟨t, df⟩ L') (hv : ∀ {K Kp : D → Loc → Prop}, K d L' → AOp X ⟨none, op, ty, pos, after, none⟩ (AS.ev ⟨t, df⟩) L K Kp := by exact fun h => AOp.storeN 4 rfl rfl rfl (by constructor) rfl rfl rfl (by repeat constructor) (by repeat constructor) h) : AOps X n ops Q (⟨none, op, ty, pos, after, none⟩ :: rest) ⟨t, df⟩ L := AOps.e0 rfl rfl (hv (K := fun d L' => AOps X n ops Q rest ⟨t, df⟩ L') h)
theorem Z69 (h : AOps X n ops Q rest ⟨upd t j d, df⟩ L) (hs : ((ops[g]?).bind (·.dst)) = some s := by exact rfl) (hn : Nat.blt s n = true := by exact rfl) (ht : t s = .bool want := by exact rfl) (hj : Nat.blt j n = true := by exact rfl) (hv : AVal X ⟨some j, op, ty, pos, after, some (g, want)⟩ (AS.ev ⟨t, df⟩) L d := by exact (AVal.not rfl)) : AOps X n ops Q (⟨some j, op, ty, pos, after, some (g, want)⟩ :: rest) ⟨t, df⟩ L := Yp rfl hs hn ht rfl hj hv h
theorem Z70 (h : ASeq X n ops Q r lz ⟨upd t j d, df⟩ L) (hi : ops[i]? = some ⟨some j, op, ty, pos, after, none⟩ := by exact rfl) (hj : Nat.blt j n = true := by exact rfl) (hv : ∀ L', AVal X ⟨some j, op, ty, pos, after, none⟩ (AS.ev ⟨t, df⟩) L' d := by exact fun _ => (AVal.indexTN rfl rfl rfl rfl rfl ⟨by omega, by first | omega | simp⟩)) : ASeq X n ops Q (.p i :: r) lz ⟨t, df⟩ L := Yt hi rfl rfl hj hv h
theorem Z71 (h : ∀ b, AOps X n ops Q rest ⟨upd t j (.ptr b 0), df⟩ ((b, m) :: L)) (hj : Nat.blt j n = true := by exact rfl) (hv : ∀ {K Kp : D → Loc → Prop}, (∀ b, K (.ptr b 0) ((b, m) :: L)) → AOp X ⟨some j, op, ty, pos, after, none⟩ (AS.ev ⟨t, df⟩) L K Kp := by exact fun h => AOp.box1 (by constructor) rfl rfl h) : AOps X n ops Q (⟨some j, op, ty, pos, after, none⟩ :: rest) ⟨t, df⟩ L := AOps.e rfl rfl hj (hv (K := fun d L' => AOps X n ops Q rest ⟨upd t j d, df⟩ L') h)
theorem Z72 (h : ASeq X n ops Q r lz ⟨upd t j d, df⟩ L) (hi : ops[i]? = some ⟨some j, op, ty, pos, after, none⟩ := by exact rfl) (hj : Nat.blt j n = true := by exact rfl) (hv : ∀ L', AVal X ⟨some j, op, ty, pos, after, none⟩ (AS.ev ⟨t, df⟩) L' d := by exact fun _ => (AVal.indexCK rfl rfl rfl rfl rfl (by omega))) : ASeq X n ops Q (.p i :: r) lz ⟨t, df⟩ L := Yt hi rfl rfl hj hv h
theorem Z73 (h : AOps X n ops Q rest ⟨upd t j d, df⟩ L) (hs : ((ops[g]?).bind (·.dst)) = some s := by exact rfl) (hn : Nat.blt s n = true := by exact rfl) (ht : t s = .bool want := by exact rfl) (hj : Nat.blt j n = true := by exact rfl) (hv : AVal X ⟨some j, op, ty, pos, after, some (g, want)⟩ (AS.ev ⟨t, df⟩) L d := by exact (AVal.pickT rfl (by constructor))) : AOps X n ops Q (⟨some j, op, ty, pos, after, some (g, want)⟩ :: rest) ⟨t, df⟩ L := Yp rfl hs hn ht rfl hj hv h
theorem Z74 (h : AOps X n ops Q rest ⟨upd t j d, df⟩ L) (hs : ((ops[g]?).bind (·.dst)) = some s := by exact rfl) (hn : Nat.blt s n = true := by exact rfl) (ht : t s = .bool want := by exact rfl) (hj : Nat.blt j n = true := by exact rfl) (hv : AVal X ⟨some j, op, ty, pos, after, some (g, want)⟩ (AS.ev ⟨t, df⟩) L d := by exact (AVal.pickF rfl (by constructor))) : AOps X n ops Q (⟨some j, op, ty, pos, after, some (g, want)⟩ :: rest) ⟨t, df⟩ L := Yp rfl hs hn ht rfl hj hv h
theorem Z75 (h : AOps X n ops Q rest ⟨upd t j d, df⟩ L) (hj : Nat.blt j n = true := by exact rfl) (hv : AVal X ⟨some j, op, ty, pos, after, none⟩ (AS.ev ⟨t, df⟩) L d := by exact (AVal.indexTN rfl rfl rfl rfl rfl ⟨by omega, by simp [Term.kids]⟩)) : AOps X n ops Q (⟨some j, op, ty, pos, after, none⟩ :: rest) ⟨t, df⟩ L := AOps.v rfl rfl hj hv h
theorem Z76 (h : ASeq X n ops Q r ((i, (b, f, ti, d)) :: lz) ⟨upd t j d, df⟩ L) (hi : ops[i]? = some ⟨some j, .load T x, ty, pos, after, none⟩ := by exact rfl) (hj : Nat.blt j n = true := by exact rfl) (hx : AS.ev ⟨t, df⟩ x = .ptr b f := by exact rfl) (hT : X.ty T = some ti := by exact rfl) (hc : HasCell L (b, f, ti, d) := by exact (Yv (d := encT _) 3 rfl rfl (.refl _))) : ASeq X n ops Q (.l i :: r) lz ⟨t, df⟩ L := ASeq.lv hi hj hx hT hc h
theorem Z77 (h : AOps X n ops Q rest ⟨upd t j d, df⟩ L) (hj : Nat.blt j n = true := by exact rfl) (hv : AVal X ⟨some j, op, ty, pos, after, none⟩ (AS.ev ⟨t, df⟩) L d := by exact (AVal.loadE (d := encL _) rfl rfl rfl)) : AOps X n ops Q (⟨some j, op, ty, pos, after, none⟩ :: rest) ⟨t, df⟩ L := AOps.v rfl rfl hj hv h
theorem Z78 (h : AOps X n ops Q rest ⟨upd t j d, df⟩ L) (hs : ((ops[g]?).bind (·.dst)) = some s := by exact rfl) (hn : Nat.blt s n = true := by exact rfl) (ht : t s = .bool want := by exact rfl) (hj : Nat.blt j n = true := by exact rfl) (hv : AVal X ⟨some j, op, ty, pos, after, some (g, want)⟩ (AS.ev ⟨t, df⟩) L d := by exact (AVal.leq rfl rfl)) : AOps X n ops Q (⟨some j, op, ty, pos, after, some (g, want)⟩ :: rest) ⟨t, df⟩ L := Yp rfl hs hn ht rfl hj hv h
theorem Z79 (h : ASeq X n ops Q r lz ⟨upd t j d, df⟩ L) (hi : ops[i]? = some ⟨some j, op, ty, pos, after, none⟩ := by exact rfl) (hj : Nat.blt j n = true := by exact rfl) (hv : ∀ L', AVal X ⟨some j, op, ty, pos, after, none⟩ (AS.ev ⟨t, df⟩) L' d := by exact fun _ => (AVal.indexPN rfl rfl rfl rfl rfl ⟨by omega, by omega⟩)) : ASeq X n ops Q (.p i :: r) lz ⟨t, df⟩ L := Yt hi rfl rfl hj hv h
theorem Z80 (h : AOps X n ops Q rest ⟨upd t j d, df⟩ L') (hj : Nat.blt j n = true := by exact rfl) (hv : ∀ {K Kp : D → Loc → Prop}, K d L' → AOp X ⟨some j, op, ty, pos, after, none⟩ (AS.ev ⟨t, df⟩) L K Kp := by exact fun h => AOp.buildSlice (es := [.bool _, .bool _, .bool _]) rfl rfl rfl rfl rfl h) : AOps X n ops Q (⟨some j, op, ty, pos, after, none⟩ :: rest) ⟨t, df⟩ L := AOps.e rfl rfl hj (hv (K := fun d L' => AOps X n ops Q rest ⟨upd t j d, df⟩ L') h)
theorem Z81 (h : AOps X n ops Q rest ⟨upd t j d, df⟩ L) (hj : Nat.blt j n = true := by exact rfl) (hv : AVal X ⟨some j, op, ty, pos, after, none⟩ (AS.ev ⟨t, df⟩) L d := by exact (AVal.buildP rfl rfl rfl)) : AOps X n ops Q (⟨some j, op, ty, pos, after, none⟩ :: rest) ⟨t, df⟩ L := AOps.v rfl rfl hj hv h
theorem Z82 (h : AOps X n ops Q rest ⟨upd t j d, df⟩ L) (hj : Nat.blt j n = true := by exact rfl) (hv : AVal X ⟨some j, op, ty, pos, after, none⟩ (AS.ev ⟨t, df⟩) L d := by exact (AVal.indexLN rfl rfl rfl rfl rfl ⟨by omega, by omega⟩)) : AOps X n ops Q (⟨some j, op, ty, pos, after, none⟩ :: rest) ⟨t, df⟩ L := AOps.v rfl rfl hj hv h
theorem Z83 (h : AOps X n ops Q rest ⟨upd t j d, df⟩ L) (hj : Nat.blt j n = true := by exact rfl) (hv : AVal X ⟨some j, op, ty, pos, after, none⟩ (AS.ev ⟨t, df⟩) L d := by exact (AVal.loadPN 4 rfl rfl rfl rfl (by constructor))) : AOps X n ops Q (⟨some j, op, ty, pos, after, none⟩ :: rest) ⟨t, df⟩ L := AOps.v rfl rfl hj hv h
theorem Z84 (h : AOps X n ops Q rest ⟨upd t j d, df⟩ L) (hj : Nat.blt j n = true := by exact rfl) (hv : AVal X ⟨some j, op, ty, pos, after, none⟩ (AS.ev ⟨t, df⟩) L d := by exact (AVal.indexPK rfl rfl rfl rfl rfl (by omega))) : AOps X n ops Q (⟨some j, op, ty, pos, after, none⟩ :: rest) ⟨t, df⟩ L := AOps.v rfl rfl hj hv h
theorem Z85 (h : AOps X n ops Q rest ⟨upd t j d, df⟩ L) (hj : Nat.blt j n = true := by exact rfl) (hv : AVal X ⟨some j, op, ty, pos, after, none⟩ (AS.ev ⟨t, df⟩) L d := by exact (AVal.geq rfl rfl)) : AOps X n ops Q (⟨some j, op, ty, pos, after, none⟩ :: rest) ⟨t, df⟩ L := AOps.v rfl rfl hj hv h
theorem Z86 (h : ASeq X n ops Q r lz ⟨upd t j d, df⟩ L) (hi : ops[i]? = some ⟨some j, op, ty, pos, after, none⟩ := by exact rfl) (hj : Nat.blt j n = true := by exact rfl) (hv : ∀ L', AVal X ⟨some j, op, ty, pos, after, none⟩ (AS.ev ⟨t, df⟩) L' d := by exact fun _ => (AVal.indexTN rfl rfl rfl rfl rfl ⟨by omega, by omega⟩)) : ASeq X n ops Q (.p i :: r) lz ⟨t, df⟩ L := Yt hi rfl rfl hj hv h
theorem Z87 (h : AOps X n ops Q rest ⟨upd t j d, df⟩ L) (hj : Nat.blt j n = true := by exact rfl) (hv : AVal X ⟨some j, op, ty, pos, after, none⟩ (AS.ev ⟨t, df⟩) L d := by exact (AVal.loadE (d := encP _) rfl rfl rfl)) : AOps X n ops Q (⟨some j, op, ty, pos, after, none⟩ :: rest) ⟨t, df⟩ L := AOps.v rfl rfl hj hv h
theorem Z88 (h : AOps X n ops Q rest ⟨upd t j d, df⟩ L) (hj : Nat.blt j n = true := by exact rfl) (hv : AVal X ⟨some j, op, ty, pos, after, none⟩ (AS.ev ⟨t, df⟩) L d := by exact (AVal.indexTK rfl rfl rfl rfl rfl (by omega))) : AOps X n ops Q (⟨some j, op, ty, pos, after, none⟩ :: rest) ⟨t, df⟩ L := AOps.v rfl rfl hj hv h
theorem Z89 (h : AOps X n ops Q rest ⟨upd t j d, df⟩ L) (hj : Nat.blt j n = true := by exact rfl) (hv : AVal X ⟨some j, op, ty, pos, after, none⟩ (AS.ev ⟨t, df⟩) L d := by exact (AVal.gtr rfl rfl)) : AOps X n ops Q (⟨some j, op, ty, pos, after, none⟩ :: rest) ⟨t, df⟩ L := AOps.v rfl rfl hj hv h
theorem Z90 (h : AOps X n ops Q rest ⟨upd t j d, df⟩ L) (hj : Nat.blt j n = true := by exact rfl) (hv : AVal X ⟨some j, op, ty, pos, after, none⟩ (AS.ev ⟨t, df⟩) L d := by exact (AVal.neqNilF rfl rfl (by kernel_rfl))) : AOps X n ops Q (⟨some j, op, ty, pos, after, none⟩ :: rest) ⟨t, df⟩ L := AOps.v rfl rfl hj hv h
theorem Z91 (h : AOps X n ops Q rest ⟨upd t j d, df⟩ L) (hj : Nat.blt j n = true := by exact rfl) (hv : AVal X ⟨some j, op, ty, pos, after, none⟩ (AS.ev ⟨t, df⟩) L d := by exact (AVal.neqNilT rfl rfl (by kernel_rfl))) : AOps X n ops Q (⟨some j, op, ty, pos, after, none⟩ :: rest) ⟨t, df⟩ L := AOps.v rfl rfl hj hv h
theorem Z92 (h : AOps X n ops Q rest ⟨upd t j d, df⟩ L) (hj : Nat.blt j n = true := by exact rfl) (hv : AVal X ⟨some j, op, ty, pos, after, none⟩ (AS.ev ⟨t, df⟩) L d := by exact (AVal.subn rfl rfl (by omega))) : AOps X n ops Q (⟨some j, op, ty, pos, after, none⟩ :: rest) ⟨t, df⟩ L := AOps.v rfl rfl hj hv h
end Sp
