/- Walks of the program's functions and what they compute: contracts of calls; no condition beyond those that each theorem names. -/
import Derived.Test.YtbnknhpebkcpmaaGreatDoorKd
import Derived.Test.YtbnknhpebkcpmaaGreatDoorBg
import Derived.Test.YtbnknhpebkcpmaaGreatDoorKe
/- Cuts: what is known behind a piece of code, once for all of its ways. -/
set_option linter.unusedVariables false
namespace Sp
open Go
theorem ACode.cut {P : Program} {n : Nat} {x y : Code} {Q : Post} {t : Env} {df : List Deferred} {L : Loc} {γ : Type} (p : γ → Prop) (l : γ → List (Nat × D)) (L' : γ → Loc)
    (h1 : ACode P n x (fun e α' L2 => e = .normal ∧ ∃ g, p g ∧ Agree α' (l g) ∧ α'.df = df ∧ (L' g).Sublist L2) ⟨t, df⟩ L)
    (h2 : ∀ g u, p g → ACode P n y Q ⟨upds u (l g), df⟩ (L' g)) : ACode P n (.seq x y) Q ⟨t, df⟩ L := by
  refine Yb (h1.mono ?_)
  rintro e α' L2 ⟨rfl, g, hp, ha, hd, hs⟩
  obtain ⟨t', df'⟩ := α'
  subst hd
  exact ACode.weaken (l g) (L' g) ha hs (fun u => h2 g u hp)
section
variable {X : PT} {ρ : Operand → D} {L L2 : Loc} {dst : Option Tmp} {ty : TypeId} {pos : String} {after : Array Edge} {guard : Option (Nat × Bool)} {K Kp : D → Loc → Prop}
theorem AOp.data {o : Oper} {d2 : D} (h : AOp X o ρ L (fun d L' => D.Le d d2 ∧ L2.Sublist L') Kp) (hk : K d2 L2) : AOp X o ρ L K Kp := by
  intro H w a hs he next Qc hn hm
  refine h H w a hs he next Qc ?_ hm
  rintro v H' L' w' d s t e ⟨hl, hsub⟩
  exact hn v H' L2 w' d2 (s.drop hsub) (t.drop hsub) (e.le hl) hk
theorem AOp.appCs {s x : Operand} {t tx et ex : TypeId} {i : TI} {cs ds : List Core} {b cap : Nat} (k : Nat) (ht : X.elem t = some et) (htx : X.elem tx = some ex) (hT : X.ty et = some i) (hs0 : ρ s = .own b cap (cs.map encC)) (hx : ρ x = .slC ds)
    (hk : L[k]? = some (b, .buf et i.size cap (cs.map encC))) (hz : i.size = 12) (hb : Nat.ble i.bytes 1024 = true) (hlen : cs.length + ds.length ≤ 10000000000) (hE : L2.Sublist (L.eraseIdx k))
    (h : K (.slC (cs ++ ds)) L2) : AOp X ⟨dst, .call ⟨.builtin .append, #[s, x], #[t, tx]⟩, ty, pos, after, guard⟩ ρ L K Kp := by
  have hby : ((cs.map encC).length + (ds.map encC).length) * i.bytes ≤ 140737488355328 := by
    have h1 : (cs.length + ds.length) * i.bytes ≤ 10000000000 * 1024 := Nat.mul_le_mul (by omega) (Nat.le_of_ble_eq_true hb)
    simp only [List.length_map]; omega
  refine AOp.data (d2 := .slC (cs ++ ds)) (L2 := L2) ?_ h
  refine AOp.appendOwn (es := ds.map encC) k ht htx hT hs0 hx rfl hk (fun e he => by rw [hz]; exact coresE e he) (by simp only [maxLen, List.length_map]; omega) hby (fun b' cap' => ⟨?_, .cons _ hE⟩)
  rw [← List.map_append]
  exact .own _ _ _ _ rfl
theorem AOp.cloneCD {s x : Operand} {t tx et ex : TypeId} {i : TI} {cs : List Core} (ht : X.elem t = some et) (htx : X.elem tx = some ex) (hT : X.ty et = some i) (hs0 : ρ s = .emp) (hx : ρ x = .slC cs) (hz : i.size = 12) (hb : Nat.ble i.bytes 1024 = true)
    (hlen : cs.length ≤ 10000000000) (h : K (.slC cs) L) : AOp X ⟨dst, .call ⟨.builtin .append, #[s, x], #[t, tx]⟩, ty, pos, after, guard⟩ ρ L K Kp :=
  AOp.data (d2 := .slC cs) (L2 := L) (AOp.cloneCB ht htx hT hs0 hx hz hb hlen (fun h0 => ⟨.emp _ (by rw [h0]; rfl), List.Sublist.refl _⟩) (fun _ b cap => ⟨.own _ _ _ _ rfl, List.sublist_cons_self _ _⟩)) h
theorem AOp.newCD {s x : Operand} {t tx et ex : TypeId} {i : TI} {c : Core} (ht : X.elem t = some et) (htx : X.elem tx = some ex) (hT : X.ty et = some i) (hs0 : ρ s = .emp) (hx : ρ x = .slC [c]) (hz : i.size = 12) (hb : Nat.ble i.bytes 1024 = true)
    (h : K (.slC [c]) L) : AOp X ⟨dst, .call ⟨.builtin .append, #[s, x], #[t, tx]⟩, ty, pos, after, guard⟩ ρ L K Kp :=
  AOp.cloneCD ht htx hT hs0 hx hz hb (by simp) h
theorem AVal.gtrT {t : TypeId} {x y : Operand} {k : IntKind} {a b : Int} {u : TypeId} (hx : ρ x = .int k a) (hy : ρ y = .int k b) (h : b < a) : AVal X ⟨dst, .binOp .gtr t x y u, ty, pos, after, guard⟩ ρ L (.bool true) := by
  have := AVal.gtr (X := X) (L := L) (dst := dst) (ty := ty) (pos := pos) (after := after) (guard := guard) (t := t) (u := u) hx hy
  rwa [decide_eq_true h] at this
end
end Sp

/- The walks of the law of more. Written by a program of mine. -/
set_option linter.unusedVariables false
set_option linter.unusedSimpArgs false
set_option maxRecDepth 20000
namespace Sp
open Go Go.Proofs
theorem cenvMore_c (hS : SortedOk) (l more : List Core) (c : Core) (fuel : Int) (hl : CoresS l) (hm : CoresS more) (hc : CoreS c) (hll : l.length ≤ 400000000) (hml : more.length ≤ 400000000) : AFn X 6 [.slC l, .slC more, encC c, .int .i64 fuel] (.bool true) := by
 have hw : CoresS (l ++ more) := hl.app hm
 have hwl : (l ++ more).length ≤ 800000000 := by rw [List.length_append]; omega
 refine Zf Tryz.func6 ?_
 refine Yb (Ya ?_)
 refine Z9 (fun b6 => ?_)
 refine Z2 ?_
 refine Yc (Yb (Yb (Ya ?_)))
 refine AOps.e rfl rfl rfl (Yk (l10awake_c hS) (Yn rfl) ?_)
 refine Z65 ?_
 refine Yc (ACode.condF rfl (Ye ?_))
 refine ACode.cut (γ := Unit) (fun _ => True) (fun _ => [(0, .slC l), (1, .slC more), (3, .int .i64 fuel), (6, .ptr b6 0), (9, .slC (l ++ more))]) (fun _ => [(b6, .cells 53 (cellsC c))]) ?_ ?_
 refine Ya ?_
 refine AOps.e rfl rfl rfl (AOp.buildEmpty rfl rfl ?_)
 refine Z1 ?_
 refine AOps.e rfl rfl rfl (AOp.cloneCB (cs := l) rfl rfl rfl rfl rfl rfl rfl (by omega) (fun h0 => ?_) (fun h1 b23 k23 => ?_))
 refine Z1 ?_
 refine AOps.e rfl rfl rfl (AOp.cloneCD (cs := more) rfl rfl rfl rfl rfl rfl rfl (by omega) ?_)
 refine Z2 ?_
 refine Yc ?_
 exact ⟨rfl, (), trivial, (by repeat first | exact Ym | refine Yl (.refl _) ?_ | refine Yl (D.Le.eq (congrArg D.slC (by rw [h0]; rfl))) ?_), rfl, (by repeat first | exact X0 _ | apply X1 | apply X2 | exact X3 _)⟩
 refine Z1 ?_
 refine AOps.e rfl rfl rfl (AOp.appCs (L2 := [_]) (cs := l) (ds := more) 0 rfl rfl rfl rfl rfl rfl rfl rfl (by omega) (List.Sublist.refl _) ?_)
 refine Z2 ?_
 refine Yc ?_
 exact ⟨rfl, (), trivial, (by repeat first | exact Ym | refine Yl (.refl _) ?_ | refine Yl (D.Le.eq (congrArg D.slC (by rw [h0]; rfl))) ?_), rfl, (by repeat first | exact X0 _ | apply X1 | apply X2 | exact X3 _)⟩
 intro g3 t1 _
 clear g3
 refine Yb ?_
 refine ACode.cut (γ := Bool) (fun u => u = false → 0 ≤ fuel ∧ fuel ≤ 6000) (fun u => [(0, .slC l), (1, .slC more), (3, .int .i64 fuel), (6, .ptr b6 0), (9, .slC (l ++ more)), (40, .bool u)]) (fun _ => [(b6, .cells 53 (cellsC c))]) ?_ ?_
 refine Yj [.p 0, .p 1, .l 3, .p 4, .e 2 [3], .e 5 [], .e 6 [], .p 7, .p 8, .p 9, .p 10, .p 11, .p 12, .p 13, .p 14] mixed (by kernel_rfl) ?_
 refine ASeq.pe rfl rfl rfl rfl (fun L0 => (AOp.buildEmpty rfl rfl ⟨rfl, rfl⟩)) ?_
 refine Z5 ?_
 refine ASeq.lv rfl rfl rfl rfl (Yv (d := encC _) 0 rfl rfl (.refl _)) ?_
 refine ASeq.pe rfl rfl rfl rfl (fun L0 => (AOp.buildSliceC (ts := [_]) rfl rfl rfl rfl rfl ⟨rfl, rfl⟩)) ?_
 refine ASeq.ee rfl rfl rfl rfl rfl (AOp.cloneCB (cs := l ++ more) rfl rfl rfl rfl rfl rfl rfl (by omega) (fun h2 => ⟨(Keeps.cons (Yv 0 rfl rfl (.refl _)) Yo), ?_⟩) (fun h3 b28 k28 => ⟨(Keeps.cons (Yv 1 rfl rfl (.refl _)) Yo), ?_⟩))
 refine ASeq.ee rfl rfl rfl rfl rfl (AOp.newCD (c := c) rfl rfl rfl rfl rfl rfl rfl ⟨Yo, ?_⟩)
 refine ASeq.ee rfl rfl rfl rfl rfl (call10Great (cs := [c]) (by simp only [List.length_append, List.length_singleton] at hwl ⊢; omega) (fun x hx => ⟨(CoresS.one hc x hx).1, (CoresS.one hc x hx).2.2.1⟩) rfl (fun g32 => ⟨Yo, ?_⟩))
 refine Z5 ?_
 refine ASeq.split 33 rfl (fun h33 => ?_) (fun h33 => ?_)
 refine ASeq.pvF rfl rfl rfl rfl rfl rfl rfl rfl ?_
 refine ASeq.pvF rfl rfl rfl rfl rfl rfl rfl rfl ?_
 refine Yt rfl rfl rfl rfl (fun L0 => (AVal.pickT rfl (by constructor))) ?_
 refine Z5 ?_
 refine ASeq.pvF rfl rfl rfl rfl rfl rfl rfl rfl ?_
 refine ASeq.pvF rfl rfl rfl rfl rfl rfl rfl rfl ?_
 refine Yt rfl rfl rfl rfl (fun L0 => (AVal.pickT rfl (by constructor))) ?_
 refine ASeq.nil ?_
 exact ⟨rfl, true, fun h => absurd h (by decide), (by repeat first | exact Ym | refine Yl (.refl _) ?_), rfl, (by repeat first | exact X0 _ | apply X1 | apply X2 | exact X3 _)⟩
 refine ASeq.pvT rfl rfl rfl rfl rfl rfl rfl (fun L0 => (AVal.moveN (by constructor))) ?_
 refine ASeq.pvT rfl rfl rfl rfl rfl rfl rfl (fun L0 => (AVal.lss rfl rfl)) ?_
 refine Yt rfl rfl rfl rfl (fun L0 => (AVal.pickF rfl (by constructor))) ?_
 refine Z5 ?_
 refine ASeq.split 37 rfl (fun h37 => ?_) (fun h37 => ?_)
 try simp only [sz] at h37
 refine ASeq.pvF rfl rfl rfl rfl rfl rfl rfl rfl ?_
 refine ASeq.pvF rfl rfl rfl rfl rfl rfl rfl rfl ?_
 refine Yt rfl rfl rfl rfl (fun L0 => (AVal.pickT rfl (by constructor))) ?_
 refine ASeq.nil ?_
 exact ⟨rfl, true, fun h => absurd h (by decide), (by repeat first | exact Ym | refine Yl (.refl _) ?_), rfl, (by repeat first | exact X0 _ | apply X1 | apply X2 | exact X3 _)⟩
 try simp only [sz] at h37
 refine ASeq.pvT rfl rfl rfl rfl rfl rfl rfl (fun L0 => (AVal.moveN (by constructor))) ?_
 refine ASeq.pvT rfl rfl rfl rfl rfl rfl rfl (fun L0 => (AVal.gtr rfl rfl)) ?_
 refine Yt rfl rfl rfl rfl (fun L0 => (AVal.pickF rfl (by constructor))) ?_
 refine ASeq.nil ?_
 exact ⟨rfl, decide (6000 < fuel), fun h => by have h := of_decide_eq_false h; omega, (by repeat first | exact Ym | refine Yl (.refl _) ?_), rfl, (by repeat first | exact X0 _ | apply X1 | apply X2 | exact X3 _)⟩
 refine ASeq.ee rfl rfl rfl rfl rfl (AOp.appCs (L2 := [_]) (cs := l ++ more) (ds := [c]) 0 rfl rfl rfl rfl rfl rfl rfl rfl (by simp only [List.length_singleton]; omega) (List.Sublist.refl _) ⟨Yo, ?_⟩)
 refine ASeq.ee rfl rfl rfl rfl rfl (call10Great (cs := (l ++ more) ++ [c]) (by simp only [List.length_append, List.length_singleton] at hwl ⊢; omega) (fun x hx => ⟨((hw.app (CoresS.one hc)) x hx).1, ((hw.app (CoresS.one hc)) x hx).2.2.1⟩) rfl (fun g32 => ⟨Yo, ?_⟩))
 refine Z5 ?_
 refine ASeq.split 33 rfl (fun h33 => ?_) (fun h33 => ?_)
 refine ASeq.pvF rfl rfl rfl rfl rfl rfl rfl rfl ?_
 refine ASeq.pvF rfl rfl rfl rfl rfl rfl rfl rfl ?_
 refine Yt rfl rfl rfl rfl (fun L0 => (AVal.pickT rfl (by constructor))) ?_
 refine Z5 ?_
 refine ASeq.pvF rfl rfl rfl rfl rfl rfl rfl rfl ?_
 refine ASeq.pvF rfl rfl rfl rfl rfl rfl rfl rfl ?_
 refine Yt rfl rfl rfl rfl (fun L0 => (AVal.pickT rfl (by constructor))) ?_
 refine ASeq.nil ?_
 exact ⟨rfl, true, fun h => absurd h (by decide), (by repeat first | exact Ym | refine Yl (.refl _) ?_), rfl, (by repeat first | exact X0 _ | apply X1 | apply X2 | exact X3 _)⟩
 refine ASeq.pvT rfl rfl rfl rfl rfl rfl rfl (fun L0 => (AVal.moveN (by constructor))) ?_
 refine ASeq.pvT rfl rfl rfl rfl rfl rfl rfl (fun L0 => (AVal.lss rfl rfl)) ?_
 refine Yt rfl rfl rfl rfl (fun L0 => (AVal.pickF rfl (by constructor))) ?_
 refine Z5 ?_
 refine ASeq.split 37 rfl (fun h37 => ?_) (fun h37 => ?_)
 try simp only [sz] at h37
 refine ASeq.pvF rfl rfl rfl rfl rfl rfl rfl rfl ?_
 refine ASeq.pvF rfl rfl rfl rfl rfl rfl rfl rfl ?_
 refine Yt rfl rfl rfl rfl (fun L0 => (AVal.pickT rfl (by constructor))) ?_
 refine ASeq.nil ?_
 exact ⟨rfl, true, fun h => absurd h (by decide), (by repeat first | exact Ym | refine Yl (.refl _) ?_), rfl, (by repeat first | exact X0 _ | apply X1 | apply X2 | exact X3 _)⟩
 try simp only [sz] at h37
 refine ASeq.pvT rfl rfl rfl rfl rfl rfl rfl (fun L0 => (AVal.moveN (by constructor))) ?_
 refine ASeq.pvT rfl rfl rfl rfl rfl rfl rfl (fun L0 => (AVal.gtr rfl rfl)) ?_
 refine Yt rfl rfl rfl rfl (fun L0 => (AVal.pickF rfl (by constructor))) ?_
 refine ASeq.nil ?_
 exact ⟨rfl, decide (6000 < fuel), fun h => by have h := of_decide_eq_false h; omega, (by repeat first | exact Ym | refine Yl (.refl _) ?_), rfl, (by repeat first | exact X0 _ | apply X1 | apply X2 | exact X3 _)⟩
 intro u40 t2 hu
 refine Zc (fun h40 => ?_) (fun h40 => ?_)
 refine Yb (Ya ?_)
 refine Z2 ?_
 refine Yc (Yd ?_)
 refine Yh rfl (.cons rfl .nil) ?_
 exact .refl _
 have hbd := hu h40
 have hb : ¬ BigI fuel := by unfold BigI; omega
 refine Ye (Yb (Yb (Ya ?_)))
 refine Z1 ?_
 refine AOps.e rfl rfl rfl (Yk (all_c hS l 6000 hl (by omega) (fun _ _ => by omega)) (Yn rfl) ?_)
 refine Z1 ?_
 refine Z12 ?_
 refine Z12 ?_
 refine Z12 ?_
 refine Z2 ?_
 refine Z2 ?_
 refine Z2 ?_
 refine Yc (Yb (Ya ?_))
 refine Z1 ?_
 refine Z60 ?_
 refine Yc ?_
 refine Zc (fun h48 => ?_) (fun h48 => ?_)
 try simp only [sz] at h48
 refine Yb (Ya ?_)
 refine Z2 ?_
 refine Yc (Yd ?_)
 refine Yh rfl (.cons rfl .nil) ?_
 exact .refl _
 try simp only [sz] at h48
 have hN : CoresN l.length l := all_nm (F := 6000) (by unfold BigI; omega) (by simpa using h48)
 refine Ye (Yb (Ya ?_))
 refine Z1 ?_
 refine AOps.v rfl rfl rfl (AVal.loadP (d := encC _) 0 rfl rfl rfl rfl) ?_
 refine Z1 ?_
 refine AOps.e rfl rfl rfl (callAdd2 hS (l := l) (c := c) (F := fuel) hl hc (by omega) (by omega) hb (Yn rfl) (fun u53 G hok => ?_) (fun e53 her => ?_))
 refine Z1 ?_
 refine Z12 ?_
 refine Z12 ?_
 refine Z12 ?_
 refine Z2 ?_
 refine Z2 ?_
 refine Z2 ?_
 refine Yc (Yb (Ya ?_))
 refine Z1 ?_
 refine AOps.v rfl rfl rfl (AVal.loadP (d := encC _) 0 rfl rfl rfl rfl) ?_
 refine Z1 ?_
 refine AOps.e rfl rfl rfl (Yk (addC hS hw hc (by omega) (fun _ _ => by omega) (more_ok (more := more) hN hl hc hb (by omega) hok)) (Yn rfl) ?_)
 refine Z1 ?_
 refine Z12 ?_
 refine Z12 ?_
 refine Z12 ?_
 refine Z2 ?_
 refine Z2 ?_
 refine Z2 ?_
 refine Yc (Yb (Yb (Ya ?_)))
 refine Z1 ?_
 refine Z40 ?_
 refine Yc (ACode.condF rfl (Ye (Yb ?_)))
 refine Yj [.p 0, .p 1, .p 2, .p 3, .p 4, .p 5, .p 6, .p 7, .p 8, .p 9, .p 10, .p 11, .p 12, .p 13, .p 14, .p 15, .p 16, .p 17, .p 18, .p 19, .p 20, .p 21, .p 22, .p 23, .l 24, .p 25, .p 26, .p 27, .p 28, .p 29] mixed (by kernel_rfl) ?_
 refine Z5 ?_
 refine Z5 ?_
 refine Yt rfl rfl rfl rfl (fun L0 => (AVal.eqlS rfl rfl rfl)) ?_
 refine Z5 ?_
 refine ASeq.pvT rfl rfl rfl rfl rfl rfl rfl (fun L0 => (AVal.moveN (by constructor))) ?_
 refine ASeq.pvT rfl rfl rfl rfl rfl rfl rfl (fun L0 => (AVal.moveN (by constructor))) ?_
 refine ASeq.pvT rfl rfl rfl rfl rfl rfl rfl (fun L0 => (AVal.eqlS rfl rfl rfl)) ?_
 refine Yt rfl rfl rfl rfl (fun L0 => (AVal.pickT rfl (by constructor))) ?_
 refine Z5 ?_
 refine ASeq.pvT rfl rfl rfl rfl rfl rfl rfl (fun L0 => (AVal.moveN (by constructor))) ?_
 refine ASeq.pvT rfl rfl rfl rfl rfl rfl rfl (fun L0 => (AVal.neqS rfl rfl rfl)) ?_
 refine ASeq.pvT rfl rfl rfl rfl rfl rfl rfl (fun L0 => (AVal.moveN (by constructor))) ?_
 refine ASeq.pvT rfl rfl rfl rfl rfl rfl rfl (fun L0 => (AVal.moveN (by constructor))) ?_
 refine ASeq.pvT rfl rfl rfl rfl rfl rfl rfl (fun L0 => (AVal.moveN (by constructor))) ?_
 refine ASeq.pvT rfl rfl rfl rfl rfl rfl rfl (fun L0 => (AVal.len rfl rfl rfl)) ?_
 refine ASeq.pvT rfl rfl rfl rfl rfl rfl rfl (fun L0 => (AVal.sliceH (d := .slC (l ++ more ++ [c])) (es := (l ++ more ++ [c]).map encC) (hi := ((l ++ more).length : Int)) (d' := .slC (l ++ more)) rfl rfl rfl rfl rfl (by omega) (mid_len _ _) (by rw [Int.toNat_natCast]; exact congrArg (fun q => some (D.slC q)) (by rw [List.drop_zero, List.take_left])) coresE)) ?_
 refine ASeq.pvT rfl rfl rfl rfl rfl rfl rfl (fun L0 => (AVal.moveN (by constructor))) ?_
 refine ASeq.peT rfl rfl rfl rfl rfl rfl rfl (fun L0 => (Yk (sameCoresSelf_c (l ++ more) hw (by omega)) (Yn rfl) ⟨rfl, rfl⟩)) ?_
 refine ASeq.pvT rfl rfl rfl rfl rfl rfl rfl (fun L0 => (AVal.moveN (by constructor))) ?_
 refine ASeq.pvT rfl rfl rfl rfl rfl rfl rfl (fun L0 => (AVal.moveN (by constructor))) ?_
 refine ASeq.pvT rfl rfl rfl rfl rfl rfl rfl (fun L0 => (AVal.moveN (by constructor))) ?_
 refine ASeq.pvT rfl rfl rfl rfl rfl rfl rfl (fun L0 => (AVal.len rfl rfl rfl)) ?_
 refine ASeq.pvT rfl rfl rfl rfl rfl rfl rfl (fun L0 => (AVal.indexCN rfl rfl rfl rfl rfl ⟨by omega, by have := mid_lt (l ++ more) c; omega⟩)) ?_
 refine ASeq.pvT rfl rfl rfl rfl rfl rfl rfl (fun L0 => (AVal.loadE (d := encC _) rfl rfl rfl)) ?_
 refine ASeq.lvT rfl rfl rfl rfl rfl rfl rfl (Yv (d := encC _) 0 rfl rfl (.refl _)) ?_
 refine ASeq.peT rfl rfl rfl rfl rfl rfl rfl (fun L0 => (Yk (sameCoreSelf_c c hc) (LeL.cons (D.Le.eq (mid_get (l ++ more) c)) (LeL.cons (.refl _) .nil)) ⟨rfl, rfl⟩)) ?_
 refine ASeq.pvT rfl rfl rfl rfl rfl rfl rfl (fun L0 => (AVal.pickT rfl (by constructor))) ?_
 refine ASeq.pvT rfl rfl rfl rfl rfl rfl rfl (fun L0 => (AVal.pickF rfl (by constructor))) ?_
 refine Yt rfl rfl rfl rfl (fun L0 => (AVal.pickT rfl (by constructor))) ?_
 refine Z17 ?_
 refine ASeq.nil (Yd ?_)
 refine Yh rfl (.cons rfl .nil) ?_
 exact .refl _
 refine Z1 ?_
 refine Z12 ?_
 refine Z12 ?_
 refine Z12 ?_
 refine Z2 ?_
 refine Z2 ?_
 refine Z2 ?_
 refine Yc (Yb (Ya ?_))
 refine Z1 ?_
 refine AOps.v rfl rfl rfl (AVal.loadP (d := encC _) 0 rfl rfl rfl rfl) ?_
 refine Z1 ?_
 refine AOps.e rfl rfl rfl (Yk (add_c hS (l ++ more) c fuel hw hc (by omega) (fun _ _ => by omega)) (Yn rfl) ?_)
 refine Z1 ?_
 refine Z12 ?_
 refine Z12 ?_
 refine Z12 ?_
 refine Z2 ?_
 refine Z2 ?_
 refine Z2 ?_
 refine Yc (Yb (Yb (Ya ?_)))
 refine Z1 ?_
 refine Z40 ?_
 refine Yc ?_
 refine Zc (fun h66 => ?_) (fun h66 => ?_)
 try simp only [sz] at h66
 refine Yb (Ya ?_)
 refine Z1 ?_
 refine Z60 ?_
 refine Z1 ?_
 refine Zs 69 (fun h69 => ?_) (fun h69 => ?_)
 try simp only [sz] at h69
 refine Z4 ?_
 refine Z4 ?_
 refine Z4 ?_
 refine Z15 ?_
 refine Z2 ?_
 refine Yc (Yd ?_)
 refine Yh rfl (.cons rfl .nil) ?_
 exact .refl _
 try simp only [sz] at h69
 refine Z14 ?_
 refine Z64 ?_
 refine Yp rfl rfl rfl rfl rfl rfl (AVal.gtrT rfl rfl (more_pos hb her (by simpa using h69))) ?_
 refine Z13 ?_
 refine Z2 ?_
 refine Yc (Yd ?_)
 refine Yh rfl (.cons rfl .nil) ?_
 exact .refl _
 try simp only [sz] at h66
 have hmore := more_er (more := more) hN hl hc hb (by omega) her h66
 refine Ye (Yb ?_)
 refine Yj [.p 0, .p 1, .p 2, .p 3, .p 4, .p 5, .p 6, .p 7, .p 8, .p 9, .p 10, .p 11, .p 12, .p 13, .p 14, .p 15, .p 16, .p 17, .p 18, .p 19, .p 20, .p 21, .p 22, .p 23, .p 24, .p 25, .p 26, .p 27, .p 28, .p 29] mixed (by kernel_rfl) ?_
 refine Z5 ?_
 refine Z5 ?_
 refine Yt rfl rfl rfl rfl (fun L0 => (AVal.eqlS rfl rfl (by rw [hmore]))) ?_
 refine Z5 ?_
 refine ASeq.pvT rfl rfl rfl rfl rfl rfl rfl (fun L0 => (AVal.moveN (by constructor))) ?_
 refine ASeq.pvT rfl rfl rfl rfl rfl rfl rfl (fun L0 => (AVal.moveN (by constructor))) ?_
 refine ASeq.pvT rfl rfl rfl rfl rfl rfl rfl (fun L0 => (AVal.eqlS rfl rfl (by rw [hmore]))) ?_
 refine Yt rfl rfl rfl rfl (fun L0 => (AVal.pickT rfl (by constructor))) ?_
 refine Z5 ?_
 refine ASeq.pvT rfl rfl rfl rfl rfl rfl rfl (fun L0 => (AVal.moveN (by constructor))) ?_
 refine ASeq.pvT rfl rfl rfl rfl rfl rfl rfl (fun L0 => (AVal.neqD rfl rfl (by rw [hmore]; exact addI_er her))) ?_
 refine ASeq.pvT rfl rfl rfl rfl rfl rfl rfl (fun L0 => (AVal.moveN (by constructor))) ?_
 refine ASeq.pvF rfl rfl rfl rfl rfl rfl rfl rfl ?_
 refine ASeq.pvF rfl rfl rfl rfl rfl rfl rfl rfl ?_
 refine ASeq.pvF rfl rfl rfl rfl rfl rfl rfl rfl ?_
 refine ASeq.pvF rfl rfl rfl rfl rfl rfl rfl rfl ?_
 refine ASeq.pvF rfl rfl rfl rfl rfl rfl rfl rfl ?_
 refine ASeq.pvF rfl rfl rfl rfl rfl rfl rfl rfl ?_
 refine ASeq.pvF rfl rfl rfl rfl rfl rfl rfl rfl ?_
 refine ASeq.pvU rfl rfl rfl rfl rfl rfl ?_
 refine ASeq.pvU rfl rfl rfl rfl rfl rfl ?_
 refine ASeq.pvU rfl rfl rfl rfl rfl rfl ?_
 refine ASeq.pvU rfl rfl rfl rfl rfl rfl ?_
 refine ASeq.pvU rfl rfl rfl rfl rfl rfl ?_
 refine ASeq.pvU rfl rfl rfl rfl rfl rfl ?_
 refine ASeq.pvU rfl rfl rfl rfl rfl rfl ?_
 refine ASeq.pvF rfl rfl rfl rfl rfl rfl rfl rfl ?_
 refine ASeq.pvT rfl rfl rfl rfl rfl rfl rfl (fun L0 => (AVal.pickT rfl (by constructor))) ?_
 refine Yt rfl rfl rfl rfl (fun L0 => (AVal.pickT rfl (by constructor))) ?_
 refine Z17 ?_
 refine ASeq.nil (Yd ?_)
 refine Yh rfl (.cons rfl .nil) ?_
 exact .refl _
end Sp
