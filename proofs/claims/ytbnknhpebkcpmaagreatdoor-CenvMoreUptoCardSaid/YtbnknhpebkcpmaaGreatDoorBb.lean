/- Walks of the program's functions and what they compute: contracts of calls; no condition beyond those that each theorem names. -/
import Derived.Test.YtbnknhpebkcpmaaGreatDoorBa
import Derived.Test.YtbnknhpebkcpmaaGreatDoorKc
import Derived.Test.YtbnknhpebkcpmaaGreatDoorKb
/- The walks of levels. Written by a program of mine. -/
set_option linter.unusedVariables false
set_option linter.unusedSimpArgs false
set_option maxRecDepth 20000
namespace Sp
open Go Go.Proofs
theorem rowput_c (mb : Nat) (rows : Rows) (ps : List Part) (hl : ps.length ≤ 9223372036854775807) : ACalls X 157 [.agg [.map mb], .slP ps] [(mb, .map (encRow rows))] (fun r L' => (∃ rows', rowPut rows ps = some rows' ∧ r = .ret (.tup []) ∧ L' = [(mb, .map (encRow rows'))]) ∨ (rowPut rows ps = none ∧ ∃ es', r = .pan (.iface 202 (.agg [])) ∧ L' = [(mb, .map es')])) := by
 refine Zf Tryz.func157 ?_
 refine Yb (Ya ?_)
 refine Z9 (fun b2 => ?_)
 refine Yc (Yb (Ya ?_))
 refine Z1 ?_
 refine Z24 ?_
 refine Z1 ?_
 refine Yc (Yf ?_)
 refine Yu (γ := Nat × Rows) (fun g => [(2, .ptr b2 0), (6, .slP ps), (7, .int .i64 ps.length), (8, .int .i64 g.1)]) (fun g => [(b2, .cells 178 [.map mb]), (mb, .map (encRow g.2))]) (fun g => g.1 ≤ ps.length ∧ rowPut g.2 (ps.drop g.1) = rowPut rows ps) (fun g => ps.length - g.1) (0, rows) ⟨Nat.zero_le _, by simp⟩ (by repeat first | exact Ym | refine Yl (.refl _) ?_) (by repeat first | exact X0 _ | apply X1 | apply X2 | exact X3 _) ?_
 rintro ⟨i, r⟩ ⟨hi, hg⟩ t1
 simp only at hi hg ⊢
 refine Yb (Ya ?_)
 refine Z26 ?_
 refine Yc (Yb ?_)
 refine Zc (fun h9 => ?_) (fun h9 => ?_)
 try simp only [sz] at h9
 have hlt : i < ps.length := by omega
 refine Ye (Yb (Yf (Yb (Ya ?_))))
 refine Z84 ?_
 refine Z87 ?_
 refine Z7 (fun b5 => ?_)
 refine Z3 ?_
 refine Yc (Yb (Yb (Ya ?_)))
 refine Z6 ?_
 refine Z11 ?_
 refine Z26 ?_
 refine Z1 ?_
 refine Zs 15 (fun h15 => ?_) (fun h15 => ?_)
 try simp only [sz] at h15
 refine Z4 ?_
 refine Z4 ?_
 refine Z4 ?_
 refine Z15 ?_
 refine Z1 ?_
 refine Z4 ?_
 refine Z4 ?_
 refine Z4 ?_
 refine Z15 ?_
 refine Z1 ?_
 refine Z4 ?_
 refine Z4 ?_
 refine Z4 ?_
 refine Z15 ?_
 refine Yc (ACode.condT rfl (Ya ?_))
 refine AOps.v rfl rfl rfl (AVal.build0 (by kernel_rfl)) ?_
 refine Z51 ?_
 refine AOps.e0 rfl rfl (AOp.panic rfl ?_)
 refine AFin.pan (X := X) (fn := Tryz.f157) (R := (fun r L' => (∃ rows', rowPut rows ps = some rows' ∧ r = .ret (.tup []) ∧ L' = [(mb, .map (encRow rows'))]) ∨ (rowPut rows ps = none ∧ ∃ es', r = .pan (.iface 202 (.agg [])) ∧ L' = [(mb, .map es')]))) (L' := [(mb, .map (encRow r))]) rfl (by repeat first | exact X0 _ | apply X1 | apply X2 | exact X3 _) ?_
 refine .inr ⟨?_, _, rfl, rfl⟩
 rw [← hg, drop_getD hlt, rowPut, if_pos (by unfold badPart; omega)]
 try simp only [sz] at h15
 refine Z18 ?_
 refine Z30 ?_
 refine Yp rfl rfl rfl rfl rfl rfl (AVal.lss rfl rfl) ?_
 refine Z13 ?_
 refine Z1 ?_
 refine Zs 20 (fun h20 => ?_) (fun h20 => ?_)
 try simp only [sz] at h20
 refine Z4 ?_
 refine Z4 ?_
 refine Z4 ?_
 refine Z15 ?_
 refine Z1 ?_
 refine Z4 ?_
 refine Z4 ?_
 refine Z4 ?_
 refine Z15 ?_
 refine Yc (ACode.condT rfl (Ya ?_))
 refine AOps.v rfl rfl rfl (AVal.build0 (by kernel_rfl)) ?_
 refine Z51 ?_
 refine AOps.e0 rfl rfl (AOp.panic rfl ?_)
 refine AFin.pan (X := X) (fn := Tryz.f157) (R := (fun r L' => (∃ rows', rowPut rows ps = some rows' ∧ r = .ret (.tup []) ∧ L' = [(mb, .map (encRow rows'))]) ∨ (rowPut rows ps = none ∧ ∃ es', r = .pan (.iface 202 (.agg [])) ∧ L' = [(mb, .map es')]))) (L' := [(mb, .map (encRow r))]) rfl (by repeat first | exact X0 _ | apply X1 | apply X2 | exact X3 _) ?_
 refine .inr ⟨?_, _, rfl, rfl⟩
 rw [← hg, drop_getD hlt, rowPut, if_pos (by unfold badPart; omega)]
 try simp only [sz] at h20
 refine Z18 ?_
 refine Z30 ?_
 refine Z59 ?_
 refine Z13 ?_
 refine Z1 ?_
 refine Zs 25 (fun h25 => ?_) (fun h25 => ?_)
 try simp only [sz] at h25
 refine Z4 ?_
 refine Z4 ?_
 refine Z4 ?_
 refine Z15 ?_
 refine Yc (ACode.condT rfl (Ya ?_))
 refine AOps.v rfl rfl rfl (AVal.build0 (by kernel_rfl)) ?_
 refine Z51 ?_
 refine AOps.e0 rfl rfl (AOp.panic rfl ?_)
 refine AFin.pan (X := X) (fn := Tryz.f157) (R := (fun r L' => (∃ rows', rowPut rows ps = some rows' ∧ r = .ret (.tup []) ∧ L' = [(mb, .map (encRow rows'))]) ∨ (rowPut rows ps = none ∧ ∃ es', r = .pan (.iface 202 (.agg [])) ∧ L' = [(mb, .map es')]))) (L' := [(mb, .map (encRow r))]) rfl (by repeat first | exact X0 _ | apply X1 | apply X2 | exact X3 _) ?_
 refine .inr ⟨?_, _, rfl, rfl⟩
 rw [← hg, drop_getD hlt, rowPut, if_pos (by unfold badPart; omega)]
 try simp only [sz] at h25
 refine Z18 ?_
 refine Z30 ?_
 refine Z59 ?_
 refine Z13 ?_
 refine Yc ?_
 refine Zc (fun h29 => ?_) (fun h29 => ?_)
 try simp only [sz] at h29
 refine Ya ?_
 refine AOps.v rfl rfl rfl (AVal.build0 (by kernel_rfl)) ?_
 refine Z51 ?_
 refine AOps.e0 rfl rfl (AOp.panic rfl ?_)
 refine AFin.pan (X := X) (fn := Tryz.f157) (R := (fun r L' => (∃ rows', rowPut rows ps = some rows' ∧ r = .ret (.tup []) ∧ L' = [(mb, .map (encRow rows'))]) ∨ (rowPut rows ps = none ∧ ∃ es', r = .pan (.iface 202 (.agg [])) ∧ L' = [(mb, .map es')]))) (L' := [(mb, .map (encRow r))]) rfl (by repeat first | exact X0 _ | apply X1 | apply X2 | exact X3 _) ?_
 refine .inr ⟨?_, _, rfl, rfl⟩
 rw [← hg, drop_getD hlt, rowPut, if_pos (by unfold badPart; omega)]
 try simp only [sz] at h29
 refine Ye (Ya ?_)
 refine Z6 ?_
 refine Z16 ?_
 refine Z6 ?_
 refine Z11 ?_
 refine Z6 ?_
 refine Z16 ?_
 refine Z6 ?_
 refine Z11 ?_
 refine AOps.v rfl rfl rfl (AVal.lookupRow (e := 3) 2 rfl rfl rfl (by kernel_rfl) (by kernel_rfl)) ?_
 refine Z6 ?_
 refine Z11 ?_
 refine AOps.v rfl rfl rfl (AVal.max rfl rfl) ?_
 refine AOps.e0 rfl rfl (AOp.updateRow (e := 3) 2 rfl rfl rfl (by kernel_rfl) rfl (by repeat constructor) ?_)
 refine Yc (Ya ?_)
 refine Z19 ?_
 refine Z1 ?_
 refine Yc ?_
 refine ⟨(i + 1, rset r (ps.getD i default).v (max (rget r (ps.getD i default).v) (ps.getD i default).p)), ⟨by simp only; omega, by simp only; rw [← hg, drop_getD hlt, rowPut, if_neg (by unfold badPart; omega)]⟩, by simp only; omega, rfl, (by repeat first | exact Ym | refine Yl (.refl _) ?_), (by repeat first | exact X0 _ | apply X1 | apply X2 | exact X3 _)⟩
 try simp only [sz] at h9
 refine Yg ?_
 refine AFin.end (X := X) (fn := Tryz.f157) (R := (fun r L' => (∃ rows', rowPut rows ps = some rows' ∧ r = .ret (.tup []) ∧ L' = [(mb, .map (encRow rows'))]) ∨ (rowPut rows ps = none ∧ ∃ es', r = .pan (.iface 202 (.agg [])) ∧ L' = [(mb, .map es')]))) (L' := [(mb, .map (encRow r))]) rfl .nil (by repeat first | exact X0 _ | apply X1 | apply X2 | exact X3 _) (.refl _) ?_
 refine .inl ⟨r, ?_, rfl, rfl⟩
 rw [← hg, List.drop_of_length_le (by omega), rowPut]
theorem hidden_c (mb : Nat) (rows : Rows) (n : Int) : AKeep X 201 [.agg [.map mb], .int .i64 n] [(mb, .map (encRow rows))] (.bool (hiddenM rows n)) := by
 refine Zf Tryz.func201 ?_
 refine Yb (Ya ?_)
 refine Z9 (fun b2 => ?_)
 refine Z2 ?_
 refine Yc (Yb (Yb (Ya ?_)))
 refine Z6 ?_
 refine Z6 ?_
 refine Z11 ?_
 refine AOps.e rfl rfl rfl (AOp.rangeM 1 rfl rfl (by kernel_rfl) (fun b10 => ?_))
 refine Yc (Yf ?_)
 refine Yu (γ := List Nat) (fun g => [(1, .int .i64 n), (2, .ptr b2 0), (10, .ptr b10 0)]) (fun g => [(b10, .iter mb (encRow rows).length g), (b2, .cells 180 [.map mb]), (mb, .map (encRow rows))]) (fun g => g.Nodup ∧ (∀ i ∈ g, i < rows.length) ∧ ∀ i ∈ g, ∀ r, rows[i]? = some r → ¬ (0 < r.1 ∧ n ≤ r.2)) (fun g => rows.length - g.length) [] ⟨List.nodup_nil, (fun i h => by cases h), (fun i h => by cases h)⟩ (by repeat first | exact Ym | refine Yl (.refl _) ?_) (by repeat first | exact X0 _ | apply X1 | apply X2 | exact X3 _) ?_
 rintro seen ⟨hnd, hsl, hsn⟩ t1
 simp only at hnd hsl hsn ⊢
 refine Yb (Ya ?_)
 refine AOps.e rfl rfl rfl (AOp.nextM 0 2 rfl rfl rfl rfl (fun hall => ?_) (fun j e hj hns => ?_))
 refine Z12 ?_
 refine Yc (Yb (ACode.condF rfl (Yg (Yb (Ya ?_)))))
 refine Z2 ?_
 refine Yc (Yd ?_)
 refine Yr rfl (.cons rfl .nil) (by repeat first | exact X0 _ | apply X1 | apply X2) ?_
 exact D.Le.eq (congrArg D.bool (by rw [not_hidden (fun j r hr => hsn j (hall j (by rw [encRow_len]; exact (List.getElem?_eq_some_iff.1 hr).1)) r hr)]))
 obtain ⟨r, hr, rfl⟩ := encRow_get hj
 have hjl : j < rows.length := (List.getElem?_eq_some_iff.1 hr).1
 refine Z12 ?_
 refine Yc (Yb (ACode.condT rfl (Ye (Yf (Yb (Ya ?_))))))
 refine AOps.v rfl rfl rfl (AVal.entryM 0 2 rfl rfl rfl rfl hj) ?_
 refine Z12 ?_
 refine Z12 ?_
 refine Z2 ?_
 refine Z2 ?_
 refine Yc (Yb (Ya ?_))
 refine Z1 ?_
 refine Z89 ?_
 refine Z1 ?_
 refine Zs 18 (fun h18 => ?_) (fun h18 => ?_)
 try simp only [sz] at h18
 refine Z14 ?_
 refine Z14 ?_
 refine Yp rfl rfl rfl rfl rfl rfl (AVal.geq rfl rfl) ?_
 refine Z15 ?_
 refine Yc ?_
 refine Zc (fun h22 => ?_) (fun h22 => ?_)
 try simp only [sz] at h22
 refine Yb (Ya ?_)
 refine Z2 ?_
 refine Yc (Yd ?_)
 refine Yr rfl (.cons rfl .nil) (by repeat first | exact X0 _ | apply X1 | apply X2) ?_
 exact D.Le.eq (congrArg D.bool (by rw [hidden_of hr (by omega) (by omega)]))
 try simp only [sz] at h22
 refine Ye ?_
 refine ⟨seen ++ [j], ⟨List.nodup_append.2 ⟨hnd, by simp, fun a ha c hc => by rw [List.mem_singleton.1 hc]; exact fun e => hns (e ▸ ha)⟩, fun i hi => (List.mem_append.1 hi).elim (hsl i) (fun h => by rw [List.mem_singleton.1 h]; exact hjl), fun i hi r2 hr2 => (List.mem_append.1 hi).elim (fun h => hsn i h r2 hr2) (fun h => by rw [List.mem_singleton.1 h, hr] at hr2; cases hr2; omega)⟩, by have := nodup_lt_length (l := seen ++ [j]) (n := rows.length) (List.nodup_append.2 ⟨hnd, by simp, fun a ha c hc => by rw [List.mem_singleton.1 hc]; exact fun e => hns (e ▸ ha)⟩) (fun i hi => (List.mem_append.1 hi).elim (hsl i) (fun h => by rw [List.mem_singleton.1 h]; exact hjl)); simp at this ⊢; omega, rfl, (by repeat first | exact Ym | refine Yl (.refl _) ?_), (by repeat first | exact X0 _ | apply X1 | apply X2 | exact X3 _)⟩
 try simp only [sz] at h18
 refine Z4 ?_
 refine Z4 ?_
 refine Z4 ?_
 refine Z13 ?_
 refine Yc (ACode.condF rfl (Ye ?_))
 refine ⟨seen ++ [j], ⟨List.nodup_append.2 ⟨hnd, by simp, fun a ha c hc => by rw [List.mem_singleton.1 hc]; exact fun e => hns (e ▸ ha)⟩, fun i hi => (List.mem_append.1 hi).elim (hsl i) (fun h => by rw [List.mem_singleton.1 h]; exact hjl), fun i hi r2 hr2 => (List.mem_append.1 hi).elim (fun h => hsn i h r2 hr2) (fun h => by rw [List.mem_singleton.1 h, hr] at hr2; cases hr2; omega)⟩, by have := nodup_lt_length (l := seen ++ [j]) (n := rows.length) (List.nodup_append.2 ⟨hnd, by simp, fun a ha c hc => by rw [List.mem_singleton.1 hc]; exact fun e => hns (e ▸ ha)⟩) (fun i hi => (List.mem_append.1 hi).elim (hsl i) (fun h => by rw [List.mem_singleton.1 h]; exact hjl)); simp at this ⊢; omega, rfl, (by repeat first | exact Ym | refine Yl (.refl _) ?_), (by repeat first | exact X0 _ | apply X1 | apply X2 | exact X3 _)⟩
theorem keys_c (mb : Nat) : ACalls X 200 [.map mb] [] (fun r L' => ∃ bk, r = .ret (.func (.func 216) [] [.ptr bk 0]) ∧ L' = [(bk, .cells 176 [.map mb])]) := by
 refine Zf Tryz.func200 ?_
 refine Yb (Ya ?_)
 refine Z71 (fun b1 => ?_)
 refine Z2 ?_
 refine Yc (Yb (Ya ?_))
 refine Z54 ?_
 refine Z2 ?_
 refine Yc (Yd ?_)
 refine AFin.ret (X := X) (fn := Tryz.f200) (R := fun r L' => ∃ bk, r = .ret (.func (.func 216) [] [.ptr bk 0]) ∧ L' = [(bk, .cells 176 [.map mb])]) rfl (.cons rfl .nil) (List.Sublist.refl _) (.refl _) ?_
 exact ⟨b1, rfl, rfl⟩
def SortedOk : Prop := ∀ (mb bk : Nat) (rows : Rows), RowsOk rows → AKeep X 199 [(.func (.func 216) [] [.ptr bk 0])] [(bk, .cells 176 [.map mb]), (mb, .map (encRow rows))] (.slc ((keysM rows).map (D.int .i64)))
theorem callKeys {ρ : Operand → D} {L : Loc} {dst : Option Tmp} {ty : TypeId} {pos : String} {after : Array Edge} {guard : Option (Nat × Bool)} {K Kp : D → Loc → Prop} {x : Operand} {tys : Array TypeId} {mb : Nat} (hx : ρ x = .map mb)
    (h : ∀ bk, K (.func (.func 216) [] [.ptr bk 0]) ((bk, .cells 176 [.map mb]) :: L)) : AOp X ⟨dst, .call ⟨.value (.func 200), #[x], tys⟩, ty, pos, after, guard⟩ ρ L K Kp :=
  AOp.call (L0 := []) (L1 := L) (keys_c mb) (Yn (by simp [hx])) (List.Perm.refl _) (fun d L' h' => by
    obtain ⟨bk, e, rfl⟩ := h'
    cases e; exact h bk) (fun d L' h' => by obtain ⟨bk, e, _⟩ := h'; cases e)
theorem callRow {ρ : Operand → D} {L : Loc} {dst : Option Tmp} {ty : TypeId} {pos : String} {after : Array Edge} {guard : Option (Nat × Bool)} {K Kp : D → Loc → Prop} {xs : Array Operand} {tys : Array TypeId} {mb : Nat} {rows : Rows} {ps : List Part} (L1 R : Loc)
    (hl : ps.length ≤ 9223372036854775807) (ha : xs.toList.map ρ = [.agg [.map mb], .slP ps]) (hp : L = L1 ++ (mb, .map (encRow rows)) :: R)
    (h1 : ∀ rows', rowPut rows ps = some rows' → K (.tup []) (L1 ++ (mb, .map (encRow rows')) :: R)) (h2 : rowPut rows ps = none → ∀ es', Kp (.iface 202 (.agg [])) (L1 ++ (mb, .map es') :: R)) : AOp X ⟨dst, .call ⟨.value (.func 157), xs, tys⟩, ty, pos, after, guard⟩ ρ L K Kp :=
  AOp.callMid L1 R (rowput_c mb rows ps hl) (fun r L' h => by rcases h with ⟨r', _, _, rfl⟩ | ⟨_, es, _, rfl⟩ <;> exact ⟨_, rfl⟩) (Yn ha) hp (fun d o' h' => by
    rcases h' with ⟨r, e1, e2, e3⟩ | ⟨e1, es, e2, e3⟩
    · cases e2; cases e3; exact h1 r e1
    · cases e2) (fun d o' h' => by
    rcases h' with ⟨r, e1, e2, e3⟩ | ⟨e1, es, e2, e3⟩
    · cases e2
    · cases e2; cases e3; exact h2 e1 es)
theorem level_b (hS : SortedOk) (mb : Nat) (rows : Rows) (hr : RowsOk rows) : ACalls X 179 [.agg [.map mb]] [(mb, .map (encRow rows))] (RBuf 114 (levelM rows) [(mb, .map (encRow rows))]) := by
 have hl : rows.length ≤ 1099511627776 := by have := hr.len; omega
 have hkl := keysM_len rows
 refine Zf Tryz.func179 ?_
 refine Yb (Ya ?_)
 refine Z9 (fun b1 => ?_)
 refine Z7 (fun b2 => ?_)
 refine Yc (Yb (Yb (Ya ?_)))
 refine Z6 ?_
 refine Z6 ?_
 refine Z16 ?_
 refine AOps.e rfl rfl rfl (callKeys rfl (fun bk => ?_))
 refine AOps.e rfl rfl rfl (AOp.callKP (hS mb bk rows hr) (Yn rfl) (List.Perm.cons _ (List.perm_middle (l₁ := [_, _]) (l₂ := []))) ?_)
 refine AOps.v rfl rfl rfl (AVal.lenZ rfl rfl) ?_
 refine Z1 ?_
 refine Yc (Yf ?_)
 refine Yu (γ := Nat × Nat × Nat) (fun g => [(1, .ptr b1 0), (2, .ptr b2 0), (10, .slc ((keysM rows).map (D.int .i64))), (11, .int .i64 (keysM rows).length), (12, .int .i64 g.1)]) (fun g => growL 114 2 (((keysM rows).take g.1).filterMap (partOf rows)).length g.2.1 g.2.2 ((((keysM rows).take g.1).filterMap (partOf rows)).map encP) ++ [(b2, .cells 56 [growD (((keysM rows).take g.1).filterMap (partOf rows)).length g.2.1 g.2.2 ((((keysM rows).take g.1).filterMap (partOf rows)).map encP)]), (b1, .cells 180 [.map mb]), (mb, .map (encRow rows))]) (fun g => g.1 ≤ (keysM rows).length) (fun g => (keysM rows).length - g.1) (0, 0, 0) (Nat.zero_le _) (by repeat first | exact Ym | refine Yl (.refl _) ?_) (by repeat first | exact X0 _ | apply X1 | apply X2 | exact X3 _) ?_
 rintro ⟨i, bb, cap⟩ hi t1
 simp only at hi ⊢
 rcases ho : ((keysM rows).take i).filterMap (partOf rows) with _ | ⟨p0, out⟩
 simp only [List.length_nil, growL, growD, List.nil_append]
 refine Yb (Ya ?_)
 refine Z26 ?_
 refine Yc (Yb ?_)
 refine Zc (fun h13 => ?_) (fun h13 => ?_)
 try simp only [sz] at h13
 have hlt : i < (keysM rows).length := by omega
 refine Ye (Yb (Yf (Yb (Ya ?_))))
 refine AOps.v rfl rfl rfl (AVal.indexZ rfl rfl rfl rfl rfl hlt) ?_
 refine Z56 ?_
 refine Z2 ?_
 refine Yc (Yb (Ya ?_))
 refine Z6 ?_
 refine Z6 ?_
 refine Z16 ?_
 refine Z1 ?_
 refine AOps.v rfl rfl rfl (AVal.lookupRow (e := 3) 2 rfl rfl rfl (by kernel_rfl) (by kernel_rfl)) ?_
 refine Z2 ?_
 refine Yc (Yb (Ya ?_))
 refine Z1 ?_
 refine Z89 ?_
 refine Z1 ?_
 refine Zs 23 (fun h23 => ?_) (fun h23 => ?_)
 try simp only [sz] at h23
 refine Z4 ?_
 refine Z4 ?_
 refine Z4 ?_
 refine AOps.vU rfl rfl rfl rfl rfl ?_
 refine AOps.vU rfl rfl rfl rfl rfl ?_
 refine AOps.vU rfl rfl rfl rfl rfl ?_
 refine AOps.vU rfl rfl rfl rfl rfl ?_
 refine Z4 ?_
 refine Z15 ?_
 refine Yc (ACode.condT rfl ?_)
 have hkeep : (0 < (keysM rows).getD i default ∨ (0 < rget rows ((keysM rows).getD i default) ∧ hiddenM rows (rget rows ((keysM rows).getD i default)) = false)) := .inl (by omega)
 refine Ya ?_
 refine Z6 ?_
 refine Z11 ?_
 refine Z1 ?_
 refine Z1 ?_
 refine Z81 ?_
 refine Z61 ?_
 refine AOps.e rfl rfl rfl (AOp.app1New rfl rfl rfl rfl rfl rfl rfl rfl (fun bq cap' => ?_))
 refine Z6 ?_
 refine Z10 ?_
 refine Yc (Ya ?_)
 refine Z19 ?_
 refine Z1 ?_
 refine Yc ?_
 refine ⟨(i + 1, bq, cap'), by simp only; omega, by simp only; omega, rfl, (by repeat first | exact Ym | refine Yl (.refl _) ?_), ?_⟩
 simp only [parts_take_succ hlt, ho, partOf, if_pos hkeep, Option.toList_some, List.nil_append, List.cons_append, List.length_append, List.length_cons, List.length_nil, List.map_append, List.map_cons, List.map_nil, growL, growD]
 exact (by repeat first | exact X0 _ | apply X1 | apply X2 | exact X3 _)
 try simp only [sz] at h23
 refine Z14 ?_
 refine Z59 ?_
 refine Z14 ?_
 refine Zs 26 (fun h26 => ?_) (fun h26 => ?_)
 try simp only [sz] at h26
 refine Z27 ?_
 refine Z14 ?_
 refine AOps.eT rfl rfl rfl rfl rfl rfl (AOp.callK [_, _] (hidden_c mb rows _) (Yn rfl) rfl ?_)
 refine Z69 ?_
 refine Z73 ?_
 refine Z13 ?_
 refine Yc ?_
 refine Zc (fun h32 => ?_) (fun h32 => ?_)
 try simp only [sz] at h32
 have hkeep : (0 < (keysM rows).getD i default ∨ (0 < rget rows ((keysM rows).getD i default) ∧ hiddenM rows (rget rows ((keysM rows).getD i default)) = false)) := by first | exact .inl (by omega) | exact .inr ⟨by omega, by simpa using h32⟩ | (simp_all)
 refine Ya ?_
 refine Z6 ?_
 refine Z11 ?_
 refine Z1 ?_
 refine Z1 ?_
 refine Z81 ?_
 refine Z61 ?_
 refine AOps.e rfl rfl rfl (AOp.app1New rfl rfl rfl rfl rfl rfl rfl rfl (fun bq cap' => ?_))
 refine Z6 ?_
 refine Z10 ?_
 refine Yc (Ya ?_)
 refine Z19 ?_
 refine Z1 ?_
 refine Yc ?_
 refine ⟨(i + 1, bq, cap'), by simp only; omega, by simp only; omega, rfl, (by repeat first | exact Ym | refine Yl (.refl _) ?_), ?_⟩
 simp only [parts_take_succ hlt, ho, partOf, if_pos hkeep, Option.toList_some, List.nil_append, List.cons_append, List.length_append, List.length_cons, List.length_nil, List.map_append, List.map_cons, List.map_nil, growL, growD]
 exact (by repeat first | exact X0 _ | apply X1 | apply X2 | exact X3 _)
 try simp only [sz] at h32
 have hdrop : ¬ (0 < (keysM rows).getD i default ∨ (0 < rget rows ((keysM rows).getD i default) ∧ hiddenM rows (rget rows ((keysM rows).getD i default)) = false)) := by simp_all
 refine Ye (Ya ?_)
 refine Z19 ?_
 refine Z1 ?_
 refine Yc ?_
 refine ⟨(i + 1, bb, cap), by simp only; omega, by simp only; omega, rfl, (by repeat first | exact Ym | refine Yl (.refl _) ?_), ?_⟩
 simp only [parts_take_succ hlt, ho, partOf, if_neg hdrop, Option.toList_none, List.append_nil, List.length_cons, List.length_nil, List.map_cons, List.map_nil, growL, growD, List.nil_append, List.cons_append]
 exact (by repeat first | exact X0 _ | apply X1 | apply X2 | exact X3 _)
 try simp only [sz] at h26
 refine Z4 ?_
 refine Z4 ?_
 refine Z4 ?_
 refine Z4 ?_
 refine Z74 ?_
 refine Z13 ?_
 refine Yc (ACode.condF rfl ?_)
 have hdrop : ¬ (0 < (keysM rows).getD i default ∨ (0 < rget rows ((keysM rows).getD i default) ∧ hiddenM rows (rget rows ((keysM rows).getD i default)) = false)) := by rintro (e | ⟨e, _⟩) <;> omega
 refine Ye (Ya ?_)
 refine Z19 ?_
 refine Z1 ?_
 refine Yc ?_
 refine ⟨(i + 1, bb, cap), by simp only; omega, by simp only; omega, rfl, (by repeat first | exact Ym | refine Yl (.refl _) ?_), ?_⟩
 simp only [parts_take_succ hlt, ho, partOf, if_neg hdrop, Option.toList_none, List.append_nil, List.length_cons, List.length_nil, List.map_cons, List.map_nil, growL, growD, List.nil_append, List.cons_append]
 exact (by repeat first | exact X0 _ | apply X1 | apply X2 | exact X3 _)
 try simp only [sz] at h13
 refine Yg (Yb (Ya ?_))
 refine Z11 ?_
 refine Z3 ?_
 refine Yc (Yd ?_)
 refine AFin.ret (X := X) (fn := Tryz.f179) (R := RBuf 114 (levelM rows) [(mb, .map (encRow rows))]) (L' := [(mb, .map (encRow rows))]) rfl (.cons (Yi 0 rfl rfl rfl rfl) .nil) (by repeat first | exact X0 _ | apply X1 | apply X2 | exact X3 _) (.refl _) ?_
 exact .inl ⟨by rw [levelM, ← ho, List.take_of_length_le (by omega)], rfl, rfl⟩
 simp only [List.length_cons, growL, growD, List.cons_append, List.nil_append]
 refine Yb (Ya ?_)
 refine Z26 ?_
 refine Yc (Yb ?_)
 refine Zc (fun h13 => ?_) (fun h13 => ?_)
 try simp only [sz] at h13
 have hlt : i < (keysM rows).length := by omega
 refine Ye (Yb (Yf (Yb (Ya ?_))))
 refine AOps.v rfl rfl rfl (AVal.indexZ rfl rfl rfl rfl rfl hlt) ?_
 refine Z56 ?_
 refine Z2 ?_
 refine Yc (Yb (Ya ?_))
 refine Z6 ?_
 refine Z6 ?_
 refine Z35 ?_
 refine Z1 ?_
 refine AOps.v rfl rfl rfl (AVal.lookupRow (e := 3) 3 rfl rfl rfl (by kernel_rfl) (by kernel_rfl)) ?_
 refine Z2 ?_
 refine Yc (Yb (Ya ?_))
 refine Z1 ?_
 refine Z89 ?_
 refine Z1 ?_
 refine Zs 23 (fun h23 => ?_) (fun h23 => ?_)
 try simp only [sz] at h23
 refine Z4 ?_
 refine Z4 ?_
 refine Z4 ?_
 refine AOps.vU rfl rfl rfl rfl rfl ?_
 refine AOps.vU rfl rfl rfl rfl rfl ?_
 refine AOps.vU rfl rfl rfl rfl rfl ?_
 refine AOps.vU rfl rfl rfl rfl rfl ?_
 refine Z4 ?_
 refine Z15 ?_
 refine Yc (ACode.condT rfl ?_)
 have hkeep : (0 < (keysM rows).getD i default ∨ (0 < rget rows ((keysM rows).getD i default) ∧ hiddenM rows (rget rows ((keysM rows).getD i default)) = false)) := .inl (by omega)
 refine Ya ?_
 refine Z6 ?_
 refine Z16 ?_
 refine Z1 ?_
 refine Z1 ?_
 refine Z81 ?_
 refine Z61 ?_
 refine AOps.e rfl rfl rfl (AOp.app1Own 0 rfl rfl rfl rfl rfl rfl rfl rfl rfl (by rw [List.length_map]; have := parts_len rows i; rw [ho] at this; simp only [List.length_cons] at this ⊢; omega) rfl (by repeat constructor) (fun bq cap' => ?_))
 refine Z6 ?_
 refine Z10 ?_
 refine Yc (Ya ?_)
 refine Z19 ?_
 refine Z1 ?_
 refine Yc ?_
 refine ⟨(i + 1, bq, cap'), by simp only; omega, by simp only; omega, rfl, (by repeat first | exact Ym | refine Yl (.refl _) ?_), ?_⟩
 simp only [parts_take_succ hlt, ho, partOf, if_pos hkeep, Option.toList_some, List.nil_append, List.cons_append, List.length_append, List.length_cons, List.length_nil, List.map_append, List.map_cons, List.map_nil, growL, growD]
 exact (by repeat first | exact X0 _ | apply X1 | apply X2 | exact X3 _)
 try simp only [sz] at h23
 refine Z14 ?_
 refine Z59 ?_
 refine Z14 ?_
 refine Zs 26 (fun h26 => ?_) (fun h26 => ?_)
 try simp only [sz] at h26
 refine Yp rfl rfl rfl rfl rfl rfl (AVal.loadPN 2 rfl rfl rfl rfl (by constructor)) ?_
 refine Z14 ?_
 refine AOps.eT rfl rfl rfl rfl rfl rfl (AOp.callK [_, _, _] (hidden_c mb rows _) (Yn rfl) rfl ?_)
 refine Z69 ?_
 refine Z73 ?_
 refine Z13 ?_
 refine Yc ?_
 refine Zc (fun h32 => ?_) (fun h32 => ?_)
 try simp only [sz] at h32
 have hkeep : (0 < (keysM rows).getD i default ∨ (0 < rget rows ((keysM rows).getD i default) ∧ hiddenM rows (rget rows ((keysM rows).getD i default)) = false)) := by first | exact .inl (by omega) | exact .inr ⟨by omega, by simpa using h32⟩ | (simp_all)
 refine Ya ?_
 refine Z6 ?_
 refine Z16 ?_
 refine Z1 ?_
 refine Z1 ?_
 refine Z81 ?_
 refine Z61 ?_
 refine AOps.e rfl rfl rfl (AOp.app1Own 0 rfl rfl rfl rfl rfl rfl rfl rfl rfl (by rw [List.length_map]; have := parts_len rows i; rw [ho] at this; simp only [List.length_cons] at this ⊢; omega) rfl (by repeat constructor) (fun bq cap' => ?_))
 refine Z6 ?_
 refine Z10 ?_
 refine Yc (Ya ?_)
 refine Z19 ?_
 refine Z1 ?_
 refine Yc ?_
 refine ⟨(i + 1, bq, cap'), by simp only; omega, by simp only; omega, rfl, (by repeat first | exact Ym | refine Yl (.refl _) ?_), ?_⟩
 simp only [parts_take_succ hlt, ho, partOf, if_pos hkeep, Option.toList_some, List.nil_append, List.cons_append, List.length_append, List.length_cons, List.length_nil, List.map_append, List.map_cons, List.map_nil, growL, growD]
 exact (by repeat first | exact X0 _ | apply X1 | apply X2 | exact X3 _)
 try simp only [sz] at h32
 have hdrop : ¬ (0 < (keysM rows).getD i default ∨ (0 < rget rows ((keysM rows).getD i default) ∧ hiddenM rows (rget rows ((keysM rows).getD i default)) = false)) := by simp_all
 refine Ye (Ya ?_)
 refine Z19 ?_
 refine Z1 ?_
 refine Yc ?_
 refine ⟨(i + 1, bb, cap), by simp only; omega, by simp only; omega, rfl, (by repeat first | exact Ym | refine Yl (.refl _) ?_), ?_⟩
 simp only [parts_take_succ hlt, ho, partOf, if_neg hdrop, Option.toList_none, List.append_nil, List.length_cons, List.length_nil, List.map_cons, List.map_nil, growL, growD, List.nil_append, List.cons_append]
 exact (by repeat first | exact X0 _ | apply X1 | apply X2 | exact X3 _)
 try simp only [sz] at h26
 refine Z4 ?_
 refine Z4 ?_
 refine Z4 ?_
 refine Z4 ?_
 refine Z74 ?_
 refine Z13 ?_
 refine Yc (ACode.condF rfl ?_)
 have hdrop : ¬ (0 < (keysM rows).getD i default ∨ (0 < rget rows ((keysM rows).getD i default) ∧ hiddenM rows (rget rows ((keysM rows).getD i default)) = false)) := by rintro (e | ⟨e, _⟩) <;> omega
 refine Ye (Ya ?_)
 refine Z19 ?_
 refine Z1 ?_
 refine Yc ?_
 refine ⟨(i + 1, bb, cap), by simp only; omega, by simp only; omega, rfl, (by repeat first | exact Ym | refine Yl (.refl _) ?_), ?_⟩
 simp only [parts_take_succ hlt, ho, partOf, if_neg hdrop, Option.toList_none, List.append_nil, List.length_cons, List.length_nil, List.map_cons, List.map_nil, growL, growD, List.nil_append, List.cons_append]
 exact (by repeat first | exact X0 _ | apply X1 | apply X2 | exact X3 _)
 try simp only [sz] at h13
 refine Yg (Yb (Ya ?_))
 refine Z16 ?_
 refine Z10 ?_
 refine Yc (Yd ?_)
 refine AFin.ret (X := X) (fn := Tryz.f179) (R := RBuf 114 (levelM rows) [(mb, .map (encRow rows))]) (L' := [(bb, .buf 114 2 cap ((p0 :: out).map encP)), (mb, .map (encRow rows))]) rfl (.cons (Yi 1 rfl rfl rfl rfl) .nil) (by repeat first | exact X0 _ | apply X1 | apply X2 | exact X3 _) (.refl _) ?_
 have hlm : levelM rows = p0 :: out := by rw [levelM, ← List.take_of_length_le (l := keysM rows) (i := i) (by omega), ho]
 rw [hlm]
 exact .inr ⟨by simp, bb, cap, rfl, rfl⟩
theorem encRow_ints (rows : Rows) : ∀ e ∈ encRow rows, ∃ n, e.2 = .int .i64 n := by
  intro e he
  obtain ⟨j, hj⟩ := List.mem_iff_getElem?.1 he
  obtain ⟨r, _, rfl⟩ := encRow_get hj
  exact ⟨_, rfl⟩
theorem level_o (hS : SortedOk) (mb : Nat) (rows : Rows) (hr : RowsOk rows) : ACalls X 179 [.agg [.map mb]] [(mb, .map (encRow rows))] (ROwn 114 (levelM rows) [(mb, .map (encRow rows))]) :=
  (level_b hS mb rows hr).thaw (.ints (encRow_ints rows))
theorem of1_c (mb b1 : Nat) (rows : Rows) (ls : List Level) (R : Loc) (hl : ls.length ≤ 9223372036854775807) (hp : ∀ l ∈ ls, l.length ≤ 9223372036854775807) : ACalls X 156 [.agg [.map mb], .ptr b1 0] ((mb, .map (encRow rows)) :: ((b1, .cells 24 [.slL ls]) :: R)) (fun r L' => (∃ rows', rowPut rows ls.flatten = some rows' ∧ r = .ret (.tup []) ∧ L' = (mb, .map (encRow rows')) :: ((b1, .cells 24 [.slL ls]) :: R)) ∨ (rowPut rows ls.flatten = none ∧ ∃ es', r = .pan (.iface 202 (.agg [])) ∧ L' = (mb, .map es') :: ((b1, .cells 24 [.slL ls]) :: R))) := by
 refine Zf Tryz.func156 ?_
 refine Yb (Ya ?_)
 refine Z9 (fun b2 => ?_)
 refine Yc (Yb (Ya ?_))
 refine Z35 ?_
 refine Z24 ?_
 refine Z1 ?_
 refine Yc (Yf ?_)
 refine Yu (γ := Nat × Rows) (fun g => [(2, .ptr b2 0), (5, .slL ls), (6, .int .i64 ls.length), (7, .int .i64 g.1)]) (fun g => (b2, .cells 180 [.map mb]) :: (mb, .map (encRow g.2)) :: ((b1, .cells 24 [.slL ls]) :: R)) (fun g => g.1 ≤ ls.length ∧ rowPut g.2 (ls.drop g.1).flatten = rowPut rows ls.flatten) (fun g => ls.length - g.1) (0, rows) ⟨Nat.zero_le _, by simp⟩ (by repeat first | exact Ym | refine Yl (.refl _) ?_) (by repeat first | exact X0 _ | apply X1 | apply X2 | exact X3 _) ?_
 rintro ⟨i, r⟩ ⟨hi, hg⟩ t1
 simp only at hi hg ⊢
 refine Yb (Ya ?_)
 refine Z26 ?_
 refine Yc (Yb ?_)
 refine Zc (fun h8 => ?_) (fun h8 => ?_)
 try simp only [sz] at h8
 have hlt : i < ls.length := by omega
 refine Ye (Yb (Yf (Yb (Ya ?_))))
 refine AOps.v rfl rfl rfl (AVal.indexLK rfl rfl rfl rfl rfl (by omega)) ?_
 refine Z77 ?_
 refine Z7 (fun b4 => ?_)
 refine Z3 ?_
 refine Yc (Ya ?_)
 refine Z6 ?_
 refine Z16 ?_
 refine Z6 ?_
 refine Z11 ?_
 refine AOps.e rfl rfl rfl (callRow [_, _] _ (hp _ (getD_mem hlt)) rfl rfl (fun rows2 hrow => ?_) (fun hnone es2 => ?_))
 refine Yc (Ya ?_)
 refine Z19 ?_
 refine Z1 ?_
 refine Yc ?_
 refine ⟨(i + 1, rows2), ⟨by simp only; omega, by simp only; rw [← hg, drop_getD hlt, List.flatten_cons, rowPut_append, hrow]; rfl⟩, by simp only; omega, rfl, (by repeat first | exact Ym | refine Yl (.refl _) ?_), (by repeat first | exact X0 _ | apply X1 | apply X2 | exact X3 _)⟩
 refine AFin.pan (X := X) (fn := Tryz.f156) (R := (fun r L' => (∃ rows', rowPut rows ls.flatten = some rows' ∧ r = .ret (.tup []) ∧ L' = (mb, .map (encRow rows')) :: ((b1, .cells 24 [.slL ls]) :: R)) ∨ (rowPut rows ls.flatten = none ∧ ∃ es', r = .pan (.iface 202 (.agg [])) ∧ L' = (mb, .map es') :: ((b1, .cells 24 [.slL ls]) :: R)))) (L' := (mb, .map es2) :: ((b1, .cells 24 [.slL ls]) :: R)) rfl (by repeat first | exact X0 _ | apply X1 | apply X2 | exact X3 _) ?_
 refine .inr ⟨?_, _, rfl, rfl⟩
 rw [← hg, drop_getD hlt, List.flatten_cons, rowPut_append, hnone]; rfl
 try simp only [sz] at h8
 refine Yg ?_
 refine AFin.end (X := X) (fn := Tryz.f156) (R := (fun r L' => (∃ rows', rowPut rows ls.flatten = some rows' ∧ r = .ret (.tup []) ∧ L' = (mb, .map (encRow rows')) :: ((b1, .cells 24 [.slL ls]) :: R)) ∨ (rowPut rows ls.flatten = none ∧ ∃ es', r = .pan (.iface 202 (.agg [])) ∧ L' = (mb, .map es') :: ((b1, .cells 24 [.slL ls]) :: R)))) (L' := (mb, .map (encRow r)) :: ((b1, .cells 24 [.slL ls]) :: R)) rfl .nil (by repeat first | exact X0 _ | apply X1 | apply X2 | exact X3 _) (.refl _) ?_
 refine .inl ⟨r, ?_, rfl, rfl⟩
 rw [← hg, List.drop_of_length_le (by omega), List.flatten_nil, rowPut]
theorem made1_ret (b2 : Nat) (d : D) (o1 o2 : Nat × MObj) (R : Loc) : ADef X 178 [.ptr b2 0] (o1 :: o2 :: (b2, .cells 56 [d]) :: R) none (o1 :: o2 :: (b2, .cells 56 [d]) :: R) := by
 refine ADef.of_code Tryz.func178 rfl (by rfl) (Nat.le_of_ble_eq_true rfl) rfl rfl rfl ?_
 refine Yb (Ya ?_)
 refine Z1 ?_
 refine Z90 ?_
 refine Yc (ACode.condF rfl (Ye ?_))
 exact ⟨.inl rfl, rfl, (by repeat first | exact X0 _ | apply X1 | apply X2 | exact X3 _)⟩
theorem made1_pan (b2 : Nat) (d : D) (o1 o2 : Nat × MObj) (R : Loc) : ADef X 178 [.ptr b2 0] (o1 :: o2 :: (b2, .cells 56 [d]) :: R) (some (.iface 202 (.agg []))) (o1 :: o2 :: (b2, .cells 56 [.emp]) :: R) := by
 refine ADef.of_code Tryz.func178 rfl (by rfl) (Nat.le_of_ble_eq_true rfl) rfl rfl rfl ?_
 refine Yb (Ya ?_)
 refine Z1 ?_
 refine Z91 ?_
 refine Yc (ACode.condT rfl (Yb (Yb (Ya ?_))))
 refine Z1 ?_
 refine AOps.v rfl rfl rfl (AVal.assertOk rfl Tryz.underlying202 rfl) ?_
 refine Z1 ?_
 refine Z12 ?_
 refine Z12 ?_
 refine Z7 (fun b2 => ?_)
 refine Z3 ?_
 refine Z2 ?_
 refine Yc (Yb (Ya ?_))
 refine Z1 ?_
 refine Z65 ?_
 refine Yc (ACode.condF rfl (Ye (Ya ?_)))
 refine Z52 ?_
 refine Z67 ?_
 refine Yc ?_
 exact ⟨.inl rfl, rfl, (by repeat first | exact X0 _ | apply X1 | apply X2 | exact X3 _)⟩
theorem callPuts {ρ : Operand → D} {L : Loc} {dst : Option Tmp} {ty : TypeId} {pos : String} {after : Array Edge} {guard : Option (Nat × Bool)} {K Kp : D → Loc → Prop} {xs : Array Operand} {tys : Array TypeId} {g : Operand} {f : FuncId} {caps : List D} {L0 : Loc} {res : Option Rows} {mb b3 b2 : Nat} {m3 m2 : MObj}
    (H : ∀ mb, ACalls X f ([.agg [.map mb]] ++ caps) ((mb, .map []) :: L0) (fun r L' => (∃ rows', res = some rows' ∧ r = .ret (.tup []) ∧ L' = (mb, .map (encRow rows')) :: L0) ∨ (res = none ∧ ∃ es', r = .pan (.iface 202 (.agg [])) ∧ L' = (mb, .map es') :: L0))) (hg : ρ g = .func (.func f) [] caps) (ha : [] ++ xs.toList.map ρ ++ caps = [.agg [.map mb]] ++ caps)
    (hL : L = (b3, m3) :: (mb, .map []) :: (b2, m2) :: L0) (h1 : ∀ rows', res = some rows' → K (.tup []) ((b3, m3) :: (mb, .map (encRow rows')) :: (b2, m2) :: L0)) (h2 : res = none → ∀ es', Kp (.iface 202 (.agg [])) ((b3, m3) :: (mb, .map es') :: (b2, m2) :: L0)) :
    AOp X ⟨dst, .call ⟨.value g, xs, tys⟩, ty, pos, after, guard⟩ ρ L K Kp := by
  subst hL
  have perm : ∀ m : MObj, (((mb, m) :: L0) ++ [(b3, m3), (b2, m2)]).Perm ((b3, m3) :: (mb, m) :: (b2, m2) :: L0) := fun m =>
    List.perm_append_comm.trans (.cons _ (.swap _ _ _))
  refine AOp.callVQ (L0 := (mb, .map []) :: L0) (L1 := [(b3, m3), (b2, m2)]) hg (H mb) (Yn ha) (perm _).symm (fun d L' h => ?_) (fun d L' h => ?_)
  · rcases h with ⟨r, e1, e2, rfl⟩ | ⟨e1, es, e2, rfl⟩
    · cases e2; exact ⟨_, perm _, h1 r e1⟩
    · cases e2
  · rcases h with ⟨r, e1, e2, rfl⟩ | ⟨e1, es, e2, rfl⟩
    · cases e2
    · cases e2; exact ⟨_, perm _, h2 e1 es⟩
theorem made_o {f : FuncId} {caps : List D} {L0 : Loc} {res : Option Rows} (hS : SortedOk) (H : ∀ mb, ACalls X f ([.agg [.map mb]] ++ caps) ((mb, .map []) :: L0) (fun r L' => (∃ rows', res = some rows' ∧ r = .ret (.tup []) ∧ L' = (mb, .map (encRow rows')) :: L0) ∨ (res = none ∧ ∃ es', r = .pan (.iface 202 (.agg [])) ∧ L' = (mb, .map es') :: L0))) (hok : ∀ r, res = some r → RowsOk r) : ACalls X 155 [.func (.func f) [] caps] L0 (ROwn 114 (ofRows res) L0) := by
 refine ACalls.of_codeD Tryz.func155 rfl (by rfl) (Nat.le_of_ble_eq_true rfl) ?_
 refine Yb (Ya ?_)
 refine Z7 (fun b2 => ?_)
 refine Yc (Yb (Ya ?_))
 refine Z54 ?_
 refine AOps.deferP (ps := [b2]) rfl ?_
 refine Yc (Yb (Ya ?_))
 refine AOps.e rfl rfl rfl (AOp.makeMapN (fun mb => ?_))
 refine Z52 ?_
 refine Z52 ?_
 refine Z7 (fun b3 => ?_)
 refine Z3 ?_
 refine Yc (Yb (Ya ?_))
 refine Z1 ?_
 refine Z11 ?_
 refine AOps.e rfl rfl rfl (callPuts H rfl rfl rfl (fun rows2 hrow => ?_) (fun hnone es2 => ?_))
 refine Yc (Yb (Ya ?_))
 refine Z11 ?_
 refine AOps.e rfl rfl rfl (AOp.callOwn3 _ (level_o hS mb rows2 (hok _ hrow)) (Yn rfl) rfl (List.Perm.swap _ _ _) (fun hnil => ?_) (fun hne bq kq => ?_))
 refine Z34 ?_
 refine Yc (Yd ?_)
 refine AFinD.retD (X := X) (fn := Tryz.f155) (R := (ROwn 114 (ofRows res) L0)) (g := 178) (ps := [b2]) (L' := L0) (made1_ret b2 _ _ _ _) (.cons (Yi 2 rfl rfl rfl rfl) .nil) (by repeat first | exact X0 _ | apply X1 | apply X2 | exact X3 _) (.refl _) ?_
 rw [hrow]; exact .inl ⟨hnil, rfl, rfl⟩
 refine Z34 ?_
 refine Yc (Yd ?_)
 refine AFinD.retD (X := X) (fn := Tryz.f155) (R := (ROwn 114 (ofRows res) L0)) (g := 178) (ps := [b2]) (L' := (bq, .cells 114 (rowM (levelM rows2) kq)) :: L0) (made1_ret b2 _ _ _ _) (.cons (Yi 2 rfl rfl rfl rfl) .nil) (by repeat first | exact X0 _ | apply X1 | apply X2 | exact X3 _) (.refl _) ?_
 rw [hrow]; exact .inr ⟨hne, bq, kq, rfl, rfl⟩
 refine AFinD.panD (X := X) (fn := Tryz.f155) (R := (ROwn 114 (ofRows res) L0)) (g := 178) (ps := [b2]) (L' := L0) (made1_pan b2 _ _ _ _) (.cons (Yi 2 rfl rfl rfl rfl) .nil) (by repeat first | exact X0 _ | apply X1 | apply X2 | exact X3 _) (.refl _) ?_
 rw [hnone]; exact .inl ⟨rfl, rfl, rfl⟩
theorem made_c {f : FuncId} {caps : List D} {L0 : Loc} {res : Option Rows} (hS : SortedOk) (H : ∀ mb, ACalls X f ([.agg [.map mb]] ++ caps) ((mb, .map []) :: L0) (fun r L' => (∃ rows', res = some rows' ∧ r = .ret (.tup []) ∧ L' = (mb, .map (encRow rows')) :: L0) ∨ (res = none ∧ ∃ es', r = .pan (.iface 202 (.agg [])) ∧ L' = (mb, .map es') :: L0))) (hok : ∀ r, res = some r → RowsOk r) : AKeep X 155 [.func (.func f) [] caps] L0 (encL (ofRows res)) := (made_o hS H hok).frozen
theorem lof_o (hS : SortedOk) (ls : List Level) (hl : ls.length ≤ 9223372036854775807) (hp : ∀ l ∈ ls, l.length ≤ 9223372036854775807) : ACalls X 119 [.slL ls] [] (ROwn 114 (ofRows (rowPut [] ls.flatten)) []) := by
 refine Zf Tryz.func119 ?_
 refine Yb (Ya ?_)
 refine Z71 (fun b1 => ?_)
 refine Z7 (fun b2 => ?_)
 refine Yc (Yb (Ya ?_))
 refine Z54 ?_
 refine AOps.e rfl rfl rfl (AOp.callOwn [_] (made_o hS (fun mb => of1_c mb b1 [] ls _ hl hp) (fun r h => RowsOk.nil.put h)) (Yn rfl) (List.perm_append_comm (l₁ := [_])) (fun hnil => ?_) (fun hne bq kq => ?_))
 refine Z3 ?_
 refine Yc (Yd ?_)
 refine AFin.ret (X := X) (fn := Tryz.f119) (R := ROwn 114 (ofRows (rowPut [] ls.flatten)) []) (L' := []) rfl (.cons (Yi 0 rfl rfl rfl rfl) .nil) (by repeat first | exact X0 _ | apply X1 | apply X2 | exact X3 _) (.refl _) ?_
 exact .inl ⟨hnil, rfl, rfl⟩
 refine Z10 ?_
 refine Yc (Yd ?_)
 refine AFin.ret (X := X) (fn := Tryz.f119) (R := ROwn 114 (ofRows (rowPut [] ls.flatten)) []) (L' := [(bq, .cells 114 (rowM (ofRows (rowPut [] ls.flatten)) kq))]) rfl (.cons (Yi 1 rfl rfl rfl rfl) .nil) (by repeat first | exact X0 _ | apply X1 | apply X2 | exact X3 _) (.refl _) ?_
 exact .inr ⟨hne, bq, kq, rfl, rfl⟩
theorem lof_c (hS : SortedOk) (ls : List Level) (hl : ls.length ≤ 9223372036854775807) (hp : ∀ l ∈ ls, l.length ≤ 9223372036854775807) : AFn X 119 [.slL ls] (encL (ofRows (rowPut [] ls.flatten))) := (lof_o hS ls hl hp).frozen.mono (fun _ _ h => h.1)
theorem norm_o (hS : SortedOk) (l : Level) (hl : l.length ≤ 9223372036854775807) : ACalls X 69 [encL l] [] (ROwn 114 (normM l) []) := by
 have hnm : ofRows (rowPut [] [l].flatten) = normM l := by unfold normM; simp only [List.flatten_cons, List.flatten_nil, List.append_nil]
 refine Zf Tryz.func69 ?_
 refine Yb (Ya ?_)
 refine Z9 (fun b1 => ?_)
 refine Z7 (fun b2 => ?_)
 refine Yc (Yb (Ya ?_))
 refine AOps.v rfl rfl rfl (AVal.loadP (d := encL _) 1 rfl rfl rfl rfl) ?_
 refine AOps.e rfl rfl rfl (AOp.buildSliceL (ts := [_]) rfl rfl rfl rfl rfl ?_)
 refine AOps.e rfl rfl rfl (AOp.callOwn _ (lof_o hS [l] (by simp) (fun k hk => by rw [List.mem_singleton.1 hk]; exact hl)) (Yn rfl) (List.Perm.refl _) (fun hnil => ?_) (fun hne bq kq => ?_))
 refine Z3 ?_
 refine Yc (Yd ?_)
 refine AFin.ret (X := X) (fn := Tryz.f69) (R := ROwn 114 (normM l) []) (L' := []) rfl (.cons (Yi 0 rfl rfl rfl rfl) .nil) (by repeat first | exact X0 _ | apply X1 | apply X2 | exact X3 _) (.refl _) ?_
 rw [← hnm]; exact .inl ⟨hnil, rfl, rfl⟩
 refine Z10 ?_
 refine Yc (Yd ?_)
 refine AFin.ret (X := X) (fn := Tryz.f69) (R := ROwn 114 (normM l) []) (L' := [(bq, .cells 114 (rowM (ofRows (rowPut [] [l].flatten)) kq))]) rfl (.cons (Yi 1 rfl rfl rfl rfl) .nil) (by repeat first | exact X0 _ | apply X1 | apply X2 | exact X3 _) (.refl _) ?_
 rw [← hnm]; exact .inr ⟨hne, bq, kq, rfl, rfl⟩
theorem norm_c (hS : SortedOk) (l : Level) (hl : l.length ≤ 9223372036854775807) : AFn X 69 [encL l] (encL (normM l)) := (norm_o hS l hl).frozen.mono (fun _ _ h => h.1)
theorem put1L_c (hS : SortedOk) (mb pL pB : Nat) (rows : Rows) (l : Level) (by_ : List Level) (R : Loc) (hl : l.length ≤ 9223372036854775807) (hb : by_.length ≤ 9223372036854775807) (hp : ∀ x ∈ by_, x.length ≤ 9223372036854775807) : ACalls X 218 [.agg [.map mb], .ptr pL 0, .ptr pB 0] ((mb, .map (encRow rows)) :: ((pB, .cells 24 [.slL by_]) :: (pL, .cells 56 [.slP l]) :: R)) (fun r L' => (∃ rows', rowPut rows (putParts l by_) = some rows' ∧ r = .ret (.tup []) ∧ L' = (mb, .map (encRow rows')) :: ((pB, .cells 24 [.slL by_]) :: (pL, .cells 56 [.slP l]) :: R)) ∨ (rowPut rows (putParts l by_) = none ∧ ∃ es', r = .pan (.iface 202 (.agg [])) ∧ L' = (mb, .map es') :: ((pB, .cells 24 [.slL by_]) :: (pL, .cells 56 [.slP l]) :: R))) := by
 have hnl := normM_len l
 refine Zf Tryz.func218 ?_
 refine Yb (Ya ?_)
 refine Z9 (fun b3 => ?_)
 refine Yc (Yb (Ya ?_))
 refine AOps.v rfl rfl rfl (AVal.loadP (d := encL _) 3 rfl rfl rfl rfl) ?_
 refine AOps.e rfl rfl rfl (Yk (norm_c hS l hl) (Yn rfl) ?_)
 refine AOps.v rfl rfl rfl (AVal.fieldN rfl rfl (by kernel_rfl) rfl (by constructor)) ?_
 refine Z24 ?_
 refine Z1 ?_
 refine Yc (Yf ?_)
 refine Yu (γ := Nat × Rows) (fun g => [(1, .ptr pL 0), (2, .ptr pB 0), (3, .ptr b3 0), (11, .slP (normM l)), (12, .int .i64 (normM l).length), (13, .int .i64 g.1)]) (fun g => (b3, .cells 180 [.map mb]) :: (mb, .map (encRow g.2)) :: ((pB, .cells 24 [.slL by_]) :: (pL, .cells 56 [.slP l]) :: R)) (fun g => g.1 ≤ (normM l).length ∧ rowPut g.2 (((normM l).drop g.1).flatMap (fun p => (xOf1 by_ p).map (shiftP p))) = rowPut rows (putParts l by_)) (fun g => (normM l).length - g.1) (0, rows) ⟨Nat.zero_le _, rfl⟩ (by repeat first | exact Ym | refine Yl (.refl _) ?_) (by repeat first | exact X0 _ | apply X1 | apply X2 | exact X3 _) ?_
 rintro ⟨i, r⟩ ⟨hi, hg⟩ t1
 simp only at hi hg ⊢
 refine Yb (Ya ?_)
 refine Z26 ?_
 refine Yc (Yb ?_)
 refine Zc (fun h14 => ?_) (fun h14 => ?_)
 try simp only [sz] at h14
 have hlt : i < (normM l).length := by omega
 refine Ye (Yb (Yf (Yb (Ya ?_))))
 refine Z84 ?_
 refine Z87 ?_
 refine Z7 (fun b5 => ?_)
 refine Z3 ?_
 refine Yc (Yb (Ya ?_))
 refine Z52 ?_
 refine Z7 (fun b6 => ?_)
 refine Z3 ?_
 refine Yc (Yb (Yb (Ya ?_)))
 refine Z6 ?_
 refine Z16 ?_
 refine Z89 ?_
 refine Z1 ?_
 refine Zs 21 (fun h21 => ?_) (fun h21 => ?_)
 try simp only [sz] at h21
 refine Z18 ?_
 refine Z27 ?_
 refine Yp rfl rfl rfl rfl rfl rfl (AVal.loadPN 4 rfl rfl rfl rfl (by constructor)) ?_
 refine Z64 ?_
 refine Z78 ?_
 refine Z15 ?_
 refine Yc ?_
 refine Zc (fun h27 => ?_) (fun h27 => ?_)
 try simp only [sz] at h27
 refine Ya ?_
 refine Z83 ?_
 refine Z6 ?_
 refine Z16 ?_
 refine Z92 ?_
 refine Z82 ?_
 refine Z77 ?_
 refine AOps.e rfl rfl rfl (Yk (norm_c hS (by_.getD (((normM l).getD i default).v - 1).toNat default) (hp _ (getD_mem (by omega)))) (Yn rfl) ?_)
 refine Z3 ?_
 refine Yc (Yb (Yb (Ya ?_)))
 refine Z6 ?_
 refine Z11 ?_
 refine Z24 ?_
 refine Z40 ?_
 refine Yc ?_
 refine Zc (fun h38 => ?_) (fun h38 => ?_)
 try simp only [sz] at h38
 refine Ya ?_
 refine Z81 ?_
 refine Z61 ?_
 refine Z52 ?_
 refine Z3 ?_
 refine Yc (Yb (Ya ?_))
 refine Z6 ?_
 refine Z11 ?_
 refine Z24 ?_
 refine Z1 ?_
 refine Yc (Yf ?_)
 have hxo : xOf by_ ((normM l).getD i default) = normM (by_.getD (((normM l).getD i default).v - 1).toNat default) := if_pos ⟨by omega, by omega⟩
 have hx : xOf1 by_ ((normM l).getD i default) = [(⟨0, 0⟩ : Part)] := if_pos (by rw [hxo]; exact List.eq_nil_of_length_eq_zero (by omega))
 have hxl : ([(⟨0, 0⟩ : Part)] : List Part).length ≤ 1048577 := (by simp)
 refine Yu (γ := Nat × Rows) (fun g => [(1, .ptr pL 0), (2, .ptr pB 0), (3, .ptr b3 0), (5, .ptr b5 0), (6, .ptr b6 0), (11, .slP (normM l)), (12, .int .i64 (normM l).length), (13, .int .i64 i), (43, .slP [(⟨0, 0⟩ : Part)]), (44, .int .i64 ([(⟨0, 0⟩ : Part)] : List Part).length), (45, .int .i64 g.1)]) (fun g => (b6, .cells 56 [.slP [(⟨0, 0⟩ : Part)]]) :: (b5, .cells 114 (cellsP ((normM l).getD i default))) :: (b3, .cells 180 [.map mb]) :: (mb, .map (encRow g.2)) :: ((pB, .cells 24 [.slL by_]) :: (pL, .cells 56 [.slP l]) :: R)) (fun g => g.1 ≤ ([(⟨0, 0⟩ : Part)] : List Part).length ∧ rowPut g.2 ((([(⟨0, 0⟩ : Part)] : List Part).drop g.1).map (shiftP ((normM l).getD i default)) ++ ((normM l).drop (i + 1)).flatMap (fun p => (xOf1 by_ p).map (shiftP p))) = rowPut rows (putParts l by_)) (fun g => ([(⟨0, 0⟩ : Part)] : List Part).length - g.1) (0, r) ⟨Nat.zero_le _, by rw [← hg, drop_getD hlt, List.flatMap_cons, hx]; rfl⟩ (by repeat first | exact Ym | refine Yl (.refl _) ?_) (by repeat first | exact X0 _ | apply X1 | apply X2 | exact X3 _) ?_
 rintro ⟨j, r2⟩ ⟨hj, hg2⟩ t2
 simp only at hj hg2 ⊢
 refine Yb (Ya ?_)
 refine Z26 ?_
 refine Yc (Yb ?_)
 refine Zc (fun h46 => ?_) (fun h46 => ?_)
 try simp only [sz] at h46
 have hltj := Int.ofNat_lt.1 h46
 refine Ye (Yb (Yf (Yb (Ya ?_))))
 refine Z84 ?_
 refine Z87 ?_
 refine Z7 (fun b8 => ?_)
 refine Z3 ?_
 refine Yc (Ya ?_)
 refine Z6 ?_
 refine Z66 ?_
 refine Z6 ?_
 refine Z11 ?_
 refine Z6 ?_
 refine Z11 ?_
 refine Z6 ?_
 refine Z35 ?_
 refine Z63 ?_
 refine Z81 ?_
 refine Z61 ?_
 refine AOps.e rfl rfl rfl (callRow [_, _, _, _] _ (by simp) rfl rfl (fun rows2 hrow => ?_) (fun hnone es2 => ?_))
 refine Yc (Ya ?_)
 refine Z19 ?_
 refine Z1 ?_
 refine Yc ?_
 refine ⟨(j + 1, rows2), ⟨by simp only; omega, by simp only; rw [← hg2, drop_getD hltj, List.map_cons, List.cons_append]; exact (rowPut_step (show rowPut r2 [shiftP ((normM l).getD i default) (([(⟨0, 0⟩ : Part)] : List Part).getD j default)] = some rows2 from hrow)).symm⟩, by simp only; omega, rfl, (by repeat first | exact Ym | refine Yl (.refl _) ?_), (by repeat first | exact X0 _ | apply X1 | apply X2 | exact X3 _)⟩
 refine AFin.pan (X := X) (fn := Tryz.f218) (R := (fun r L' => (∃ rows', rowPut rows (putParts l by_) = some rows' ∧ r = .ret (.tup []) ∧ L' = (mb, .map (encRow rows')) :: ((pB, .cells 24 [.slL by_]) :: (pL, .cells 56 [.slP l]) :: R)) ∨ (rowPut rows (putParts l by_) = none ∧ ∃ es', r = .pan (.iface 202 (.agg [])) ∧ L' = (mb, .map es') :: ((pB, .cells 24 [.slL by_]) :: (pL, .cells 56 [.slP l]) :: R)))) (L' := (mb, .map es2) :: ((pB, .cells 24 [.slL by_]) :: (pL, .cells 56 [.slP l]) :: R)) rfl (by repeat first | exact X0 _ | apply X1 | apply X2 | exact X3 _) ?_
 refine .inr ⟨?_, _, rfl, rfl⟩
 rw [← hg2, drop_getD hltj, List.map_cons, List.cons_append]
 exact rowPut_stop (show rowPut r2 [shiftP ((normM l).getD i default) _] = none from hnone)
 try simp only [sz] at h46
 refine Yg (Ya ?_)
 refine Z19 ?_
 refine Z1 ?_
 refine Yc ?_
 refine ⟨(i + 1, r2), ⟨by simp only; omega, by simp only; rw [← hg2, List.drop_of_length_le (i := j) (by omega)]; rfl⟩, by simp only; omega, rfl, (by repeat first | exact Ym | refine Yl (.refl _) ?_), (by repeat first | exact X0 _ | apply X1 | apply X2 | exact X3 _)⟩
 try simp only [sz] at h38
 have h38 := h38
 refine Ye (Yb (Ya ?_))
 refine Z6 ?_
 refine Z11 ?_
 refine Z24 ?_
 refine Z1 ?_
 refine Yc (Yf ?_)
 have hxo : xOf by_ ((normM l).getD i default) = normM (by_.getD (((normM l).getD i default).v - 1).toNat default) := if_pos ⟨by omega, by omega⟩
 have hx : xOf1 by_ ((normM l).getD i default) = (normM (by_.getD (((normM l).getD i default).v - 1).toNat default)) := by { unfold xOf1; rw [hxo, if_neg (fun e => h38 (by rw [e]; rfl))] }
 have hxl : ((normM (by_.getD (((normM l).getD i default).v - 1).toNat default)) : List Part).length ≤ 1048577 := normM_len _
 refine Yu (γ := Nat × Rows) (fun g => [(1, .ptr pL 0), (2, .ptr pB 0), (3, .ptr b3 0), (5, .ptr b5 0), (6, .ptr b6 0), (11, .slP (normM l)), (12, .int .i64 (normM l).length), (13, .int .i64 i), (43, .slP (normM (by_.getD (((normM l).getD i default).v - 1).toNat default))), (44, .int .i64 ((normM (by_.getD (((normM l).getD i default).v - 1).toNat default)) : List Part).length), (45, .int .i64 g.1)]) (fun g => (b6, .cells 56 [.slP (normM (by_.getD (((normM l).getD i default).v - 1).toNat default))]) :: (b5, .cells 114 (cellsP ((normM l).getD i default))) :: (b3, .cells 180 [.map mb]) :: (mb, .map (encRow g.2)) :: ((pB, .cells 24 [.slL by_]) :: (pL, .cells 56 [.slP l]) :: R)) (fun g => g.1 ≤ ((normM (by_.getD (((normM l).getD i default).v - 1).toNat default)) : List Part).length ∧ rowPut g.2 ((((normM (by_.getD (((normM l).getD i default).v - 1).toNat default)) : List Part).drop g.1).map (shiftP ((normM l).getD i default)) ++ ((normM l).drop (i + 1)).flatMap (fun p => (xOf1 by_ p).map (shiftP p))) = rowPut rows (putParts l by_)) (fun g => ((normM (by_.getD (((normM l).getD i default).v - 1).toNat default)) : List Part).length - g.1) (0, r) ⟨Nat.zero_le _, by rw [← hg, drop_getD hlt, List.flatMap_cons, hx]; rfl⟩ (by repeat first | exact Ym | refine Yl (.refl _) ?_) (by repeat first | exact X0 _ | apply X1 | apply X2 | exact X3 _) ?_
 rintro ⟨j, r2⟩ ⟨hj, hg2⟩ t2
 simp only at hj hg2 ⊢
 refine Yb (Ya ?_)
 refine Z26 ?_
 refine Yc (Yb ?_)
 refine Zc (fun h46 => ?_) (fun h46 => ?_)
 try simp only [sz] at h46
 have hltj := Int.ofNat_lt.1 h46
 refine Ye (Yb (Yf (Yb (Ya ?_))))
 refine Z84 ?_
 refine Z87 ?_
 refine Z7 (fun b8 => ?_)
 refine Z3 ?_
 refine Yc (Ya ?_)
 refine Z6 ?_
 refine Z66 ?_
 refine Z6 ?_
 refine Z11 ?_
 refine Z6 ?_
 refine Z11 ?_
 refine Z6 ?_
 refine Z35 ?_
 refine Z63 ?_
 refine Z81 ?_
 refine Z61 ?_
 refine AOps.e rfl rfl rfl (callRow [_, _, _, _] _ (by simp) rfl rfl (fun rows2 hrow => ?_) (fun hnone es2 => ?_))
 refine Yc (Ya ?_)
 refine Z19 ?_
 refine Z1 ?_
 refine Yc ?_
 refine ⟨(j + 1, rows2), ⟨by simp only; omega, by simp only; rw [← hg2, drop_getD hltj, List.map_cons, List.cons_append]; exact (rowPut_step (show rowPut r2 [shiftP ((normM l).getD i default) (((normM (by_.getD (((normM l).getD i default).v - 1).toNat default)) : List Part).getD j default)] = some rows2 from hrow)).symm⟩, by simp only; omega, rfl, (by repeat first | exact Ym | refine Yl (.refl _) ?_), (by repeat first | exact X0 _ | apply X1 | apply X2 | exact X3 _)⟩
 refine AFin.pan (X := X) (fn := Tryz.f218) (R := (fun r L' => (∃ rows', rowPut rows (putParts l by_) = some rows' ∧ r = .ret (.tup []) ∧ L' = (mb, .map (encRow rows')) :: ((pB, .cells 24 [.slL by_]) :: (pL, .cells 56 [.slP l]) :: R)) ∨ (rowPut rows (putParts l by_) = none ∧ ∃ es', r = .pan (.iface 202 (.agg [])) ∧ L' = (mb, .map es') :: ((pB, .cells 24 [.slL by_]) :: (pL, .cells 56 [.slP l]) :: R)))) (L' := (mb, .map es2) :: ((pB, .cells 24 [.slL by_]) :: (pL, .cells 56 [.slP l]) :: R)) rfl (by repeat first | exact X0 _ | apply X1 | apply X2 | exact X3 _) ?_
 refine .inr ⟨?_, _, rfl, rfl⟩
 rw [← hg2, drop_getD hltj, List.map_cons, List.cons_append]
 exact rowPut_stop (show rowPut r2 [shiftP ((normM l).getD i default) _] = none from hnone)
 try simp only [sz] at h46
 refine Yg (Ya ?_)
 refine Z19 ?_
 refine Z1 ?_
 refine Yc ?_
 refine ⟨(i + 1, r2), ⟨by simp only; omega, by simp only; rw [← hg2, List.drop_of_length_le (i := j) (by omega)]; rfl⟩, by simp only; omega, rfl, (by repeat first | exact Ym | refine Yl (.refl _) ?_), (by repeat first | exact X0 _ | apply X1 | apply X2 | exact X3 _)⟩
 try simp only [sz] at h27
 refine Ye (Yb (Yb (Ya ?_)))
 refine Z6 ?_
 refine Z11 ?_
 refine Z24 ?_
 refine Z40 ?_
 refine Yc ?_
 refine Zc (fun h38 => ?_) (fun h38 => ?_)
 try simp only [sz] at h38
 refine Ya ?_
 refine Z81 ?_
 refine Z61 ?_
 refine Z52 ?_
 refine Z3 ?_
 refine Yc (Yb (Ya ?_))
 refine Z6 ?_
 refine Z11 ?_
 refine Z24 ?_
 refine Z1 ?_
 refine Yc (Yf ?_)
 have hxo : xOf by_ ((normM l).getD i default) = [] := if_neg (by omega)
 have hx : xOf1 by_ ((normM l).getD i default) = [(⟨0, 0⟩ : Part)] := if_pos hxo
 have hxl : ([(⟨0, 0⟩ : Part)] : List Part).length ≤ 1048577 := (by simp)
 refine Yu (γ := Nat × Rows) (fun g => [(1, .ptr pL 0), (2, .ptr pB 0), (3, .ptr b3 0), (5, .ptr b5 0), (6, .ptr b6 0), (11, .slP (normM l)), (12, .int .i64 (normM l).length), (13, .int .i64 i), (43, .slP [(⟨0, 0⟩ : Part)]), (44, .int .i64 ([(⟨0, 0⟩ : Part)] : List Part).length), (45, .int .i64 g.1)]) (fun g => (b6, .cells 56 [.slP [(⟨0, 0⟩ : Part)]]) :: (b5, .cells 114 (cellsP ((normM l).getD i default))) :: (b3, .cells 180 [.map mb]) :: (mb, .map (encRow g.2)) :: ((pB, .cells 24 [.slL by_]) :: (pL, .cells 56 [.slP l]) :: R)) (fun g => g.1 ≤ ([(⟨0, 0⟩ : Part)] : List Part).length ∧ rowPut g.2 ((([(⟨0, 0⟩ : Part)] : List Part).drop g.1).map (shiftP ((normM l).getD i default)) ++ ((normM l).drop (i + 1)).flatMap (fun p => (xOf1 by_ p).map (shiftP p))) = rowPut rows (putParts l by_)) (fun g => ([(⟨0, 0⟩ : Part)] : List Part).length - g.1) (0, r) ⟨Nat.zero_le _, by rw [← hg, drop_getD hlt, List.flatMap_cons, hx]; rfl⟩ (by repeat first | exact Ym | refine Yl (.refl _) ?_) (by repeat first | exact X0 _ | apply X1 | apply X2 | exact X3 _) ?_
 rintro ⟨j, r2⟩ ⟨hj, hg2⟩ t2
 simp only at hj hg2 ⊢
 refine Yb (Ya ?_)
 refine Z26 ?_
 refine Yc (Yb ?_)
 refine Zc (fun h46 => ?_) (fun h46 => ?_)
 try simp only [sz] at h46
 have hltj := Int.ofNat_lt.1 h46
 refine Ye (Yb (Yf (Yb (Ya ?_))))
 refine Z84 ?_
 refine Z87 ?_
 refine Z7 (fun b8 => ?_)
 refine Z3 ?_
 refine Yc (Ya ?_)
 refine Z6 ?_
 refine Z66 ?_
 refine Z6 ?_
 refine Z11 ?_
 refine Z6 ?_
 refine Z11 ?_
 refine Z6 ?_
 refine Z35 ?_
 refine Z63 ?_
 refine Z81 ?_
 refine Z61 ?_
 refine AOps.e rfl rfl rfl (callRow [_, _, _, _] _ (by simp) rfl rfl (fun rows2 hrow => ?_) (fun hnone es2 => ?_))
 refine Yc (Ya ?_)
 refine Z19 ?_
 refine Z1 ?_
 refine Yc ?_
 refine ⟨(j + 1, rows2), ⟨by simp only; omega, by simp only; rw [← hg2, drop_getD hltj, List.map_cons, List.cons_append]; exact (rowPut_step (show rowPut r2 [shiftP ((normM l).getD i default) (([(⟨0, 0⟩ : Part)] : List Part).getD j default)] = some rows2 from hrow)).symm⟩, by simp only; omega, rfl, (by repeat first | exact Ym | refine Yl (.refl _) ?_), (by repeat first | exact X0 _ | apply X1 | apply X2 | exact X3 _)⟩
 refine AFin.pan (X := X) (fn := Tryz.f218) (R := (fun r L' => (∃ rows', rowPut rows (putParts l by_) = some rows' ∧ r = .ret (.tup []) ∧ L' = (mb, .map (encRow rows')) :: ((pB, .cells 24 [.slL by_]) :: (pL, .cells 56 [.slP l]) :: R)) ∨ (rowPut rows (putParts l by_) = none ∧ ∃ es', r = .pan (.iface 202 (.agg [])) ∧ L' = (mb, .map es') :: ((pB, .cells 24 [.slL by_]) :: (pL, .cells 56 [.slP l]) :: R)))) (L' := (mb, .map es2) :: ((pB, .cells 24 [.slL by_]) :: (pL, .cells 56 [.slP l]) :: R)) rfl (by repeat first | exact X0 _ | apply X1 | apply X2 | exact X3 _) ?_
 refine .inr ⟨?_, _, rfl, rfl⟩
 rw [← hg2, drop_getD hltj, List.map_cons, List.cons_append]
 exact rowPut_stop (show rowPut r2 [shiftP ((normM l).getD i default) _] = none from hnone)
 try simp only [sz] at h46
 refine Yg (Ya ?_)
 refine Z19 ?_
 refine Z1 ?_
 refine Yc ?_
 refine ⟨(i + 1, r2), ⟨by simp only; omega, by simp only; rw [← hg2, List.drop_of_length_le (i := j) (by omega)]; rfl⟩, by simp only; omega, rfl, (by repeat first | exact Ym | refine Yl (.refl _) ?_), (by repeat first | exact X0 _ | apply X1 | apply X2 | exact X3 _)⟩
 try simp only [sz] at h38
 exact absurd rfl h38 --END
 try simp only [sz] at h21
 refine Z4 ?_
 refine Z4 ?_
 refine Z4 ?_
 refine Z4 ?_
 refine Z4 ?_
 refine Z13 ?_
 refine Yc (ACode.condF rfl (Ye (Yb (Yb (Ya ?_)))))
 refine Z6 ?_
 refine Z11 ?_
 refine Z24 ?_
 refine Z40 ?_
 refine Yc ?_
 refine Zc (fun h38 => ?_) (fun h38 => ?_)
 try simp only [sz] at h38
 refine Ya ?_
 refine Z81 ?_
 refine Z61 ?_
 refine Z52 ?_
 refine Z3 ?_
 refine Yc (Yb (Ya ?_))
 refine Z6 ?_
 refine Z11 ?_
 refine Z24 ?_
 refine Z1 ?_
 refine Yc (Yf ?_)
 have hxo : xOf by_ ((normM l).getD i default) = [] := if_neg (by omega)
 have hx : xOf1 by_ ((normM l).getD i default) = [(⟨0, 0⟩ : Part)] := if_pos hxo
 have hxl : ([(⟨0, 0⟩ : Part)] : List Part).length ≤ 1048577 := (by simp)
 refine Yu (γ := Nat × Rows) (fun g => [(1, .ptr pL 0), (2, .ptr pB 0), (3, .ptr b3 0), (5, .ptr b5 0), (6, .ptr b6 0), (11, .slP (normM l)), (12, .int .i64 (normM l).length), (13, .int .i64 i), (43, .slP [(⟨0, 0⟩ : Part)]), (44, .int .i64 ([(⟨0, 0⟩ : Part)] : List Part).length), (45, .int .i64 g.1)]) (fun g => (b6, .cells 56 [.slP [(⟨0, 0⟩ : Part)]]) :: (b5, .cells 114 (cellsP ((normM l).getD i default))) :: (b3, .cells 180 [.map mb]) :: (mb, .map (encRow g.2)) :: ((pB, .cells 24 [.slL by_]) :: (pL, .cells 56 [.slP l]) :: R)) (fun g => g.1 ≤ ([(⟨0, 0⟩ : Part)] : List Part).length ∧ rowPut g.2 ((([(⟨0, 0⟩ : Part)] : List Part).drop g.1).map (shiftP ((normM l).getD i default)) ++ ((normM l).drop (i + 1)).flatMap (fun p => (xOf1 by_ p).map (shiftP p))) = rowPut rows (putParts l by_)) (fun g => ([(⟨0, 0⟩ : Part)] : List Part).length - g.1) (0, r) ⟨Nat.zero_le _, by rw [← hg, drop_getD hlt, List.flatMap_cons, hx]; rfl⟩ (by repeat first | exact Ym | refine Yl (.refl _) ?_) (by repeat first | exact X0 _ | apply X1 | apply X2 | exact X3 _) ?_
 rintro ⟨j, r2⟩ ⟨hj, hg2⟩ t2
 simp only at hj hg2 ⊢
 refine Yb (Ya ?_)
 refine Z26 ?_
 refine Yc (Yb ?_)
 refine Zc (fun h46 => ?_) (fun h46 => ?_)
 try simp only [sz] at h46
 have hltj := Int.ofNat_lt.1 h46
 refine Ye (Yb (Yf (Yb (Ya ?_))))
 refine Z84 ?_
 refine Z87 ?_
 refine Z7 (fun b8 => ?_)
 refine Z3 ?_
 refine Yc (Ya ?_)
 refine Z6 ?_
 refine Z66 ?_
 refine Z6 ?_
 refine Z11 ?_
 refine Z6 ?_
 refine Z11 ?_
 refine Z6 ?_
 refine Z35 ?_
 refine Z63 ?_
 refine Z81 ?_
 refine Z61 ?_
 refine AOps.e rfl rfl rfl (callRow [_, _, _, _] _ (by simp) rfl rfl (fun rows2 hrow => ?_) (fun hnone es2 => ?_))
 refine Yc (Ya ?_)
 refine Z19 ?_
 refine Z1 ?_
 refine Yc ?_
 refine ⟨(j + 1, rows2), ⟨by simp only; omega, by simp only; rw [← hg2, drop_getD hltj, List.map_cons, List.cons_append]; exact (rowPut_step (show rowPut r2 [shiftP ((normM l).getD i default) (([(⟨0, 0⟩ : Part)] : List Part).getD j default)] = some rows2 from hrow)).symm⟩, by simp only; omega, rfl, (by repeat first | exact Ym | refine Yl (.refl _) ?_), (by repeat first | exact X0 _ | apply X1 | apply X2 | exact X3 _)⟩
 refine AFin.pan (X := X) (fn := Tryz.f218) (R := (fun r L' => (∃ rows', rowPut rows (putParts l by_) = some rows' ∧ r = .ret (.tup []) ∧ L' = (mb, .map (encRow rows')) :: ((pB, .cells 24 [.slL by_]) :: (pL, .cells 56 [.slP l]) :: R)) ∨ (rowPut rows (putParts l by_) = none ∧ ∃ es', r = .pan (.iface 202 (.agg [])) ∧ L' = (mb, .map es') :: ((pB, .cells 24 [.slL by_]) :: (pL, .cells 56 [.slP l]) :: R)))) (L' := (mb, .map es2) :: ((pB, .cells 24 [.slL by_]) :: (pL, .cells 56 [.slP l]) :: R)) rfl (by repeat first | exact X0 _ | apply X1 | apply X2 | exact X3 _) ?_
 refine .inr ⟨?_, _, rfl, rfl⟩
 rw [← hg2, drop_getD hltj, List.map_cons, List.cons_append]
 exact rowPut_stop (show rowPut r2 [shiftP ((normM l).getD i default) _] = none from hnone)
 try simp only [sz] at h46
 refine Yg (Ya ?_)
 refine Z19 ?_
 refine Z1 ?_
 refine Yc ?_
 refine ⟨(i + 1, r2), ⟨by simp only; omega, by simp only; rw [← hg2, List.drop_of_length_le (i := j) (by omega)]; rfl⟩, by simp only; omega, rfl, (by repeat first | exact Ym | refine Yl (.refl _) ?_), (by repeat first | exact X0 _ | apply X1 | apply X2 | exact X3 _)⟩
 try simp only [sz] at h38
 exact absurd rfl h38 --END
 try simp only [sz] at h14
 refine Yg ?_
 refine AFin.end (X := X) (fn := Tryz.f218) (R := (fun r L' => (∃ rows', rowPut rows (putParts l by_) = some rows' ∧ r = .ret (.tup []) ∧ L' = (mb, .map (encRow rows')) :: ((pB, .cells 24 [.slL by_]) :: (pL, .cells 56 [.slP l]) :: R)) ∨ (rowPut rows (putParts l by_) = none ∧ ∃ es', r = .pan (.iface 202 (.agg [])) ∧ L' = (mb, .map es') :: ((pB, .cells 24 [.slL by_]) :: (pL, .cells 56 [.slP l]) :: R)))) (L' := (mb, .map (encRow r)) :: ((pB, .cells 24 [.slL by_]) :: (pL, .cells 56 [.slP l]) :: R)) rfl .nil (by repeat first | exact X0 _ | apply X1 | apply X2 | exact X3 _) (.refl _) ?_
 refine .inl ⟨r, ?_, rfl, rfl⟩
 rw [← hg, List.drop_of_length_le (by omega), List.flatMap_nil, rowPut]
theorem levelPut_c (hS : SortedOk) (l : Level) (by_ : List Level) (hl : l.length ≤ 9223372036854775807) (hb : by_.length ≤ 9223372036854775807) (hp : ∀ x ∈ by_, x.length ≤ 9223372036854775807) : AFn X 213 [encL l, .slL by_] (encL (levelPutM l by_)) := by
 refine Zf Tryz.func213 ?_
 refine Yb (Ya ?_)
 refine Z9 (fun b2 => ?_)
 refine Z71 (fun b3 => ?_)
 refine Z7 (fun b4 => ?_)
 refine Yc (Yb (Ya ?_))
 refine Z54 ?_
 refine AOps.e rfl rfl rfl (AOp.callK [_] (made_c hS (fun mb => put1L_c hS mb b2 b3 [] l by_ _ hl hb hp) (fun r h => RowsOk.nil.put h)) (Yn rfl) rfl ?_)
 refine Z3 ?_
 refine Yc (Yd ?_)
 refine Yh rfl (.cons (Yi (d := encL _) 0 rfl rfl rfl rfl) .nil) ?_
 exact .refl _
end Sp

/- The walks of levels within terms; definitions. Written by a program of mine. -/
set_option linter.unusedVariables false
set_option linter.unusedSimpArgs false
set_option maxRecDepth 20000
namespace Sp
open Go Go.Proofs
theorem levels1_c (hS : SortedOk) (by_ : List Level) (b : Int) (t : Term) (F : D) (hF : F.one = true) (b3c : Nat) (R : Loc) (hf : t.fit 1099511627776) (hb : by_.length ≤ 9223372036854775807) (hp : ∀ x ∈ by_, x.length ≤ 9223372036854775807) : AKeep X 212 [.agg [.int .i64 b, F], encT t, .ptr b3c 0] ((b3c, .cells 24 [.slL by_]) :: R) (.tup [encT (levelsG by_ b t), .bool (no b t)]) := by
 refine Zf Tryz.func212 ?_
 refine Yb (Ya ?_)
 refine Z9 (fun b3 => ?_)
 refine Z9 (fun b4 => ?_)
 refine Z7 (fun b5 => ?_)
 refine Z2 ?_
 refine Yc (Yb (Ya ?_))
 refine Z6 ?_
 refine Z16 ?_
 refine Z2 ?_
 refine Yc (Yb (Ya ?_))
 refine Z6 ?_
 refine Z10 ?_
 refine Yc (Yb (Yb (Ya ?_)))
 refine Z1 ?_
 refine Z24 ?_
 refine Z1 ?_
 refine Yc (Yf ?_)
 have hlen := hf.llen
 refine Yu (γ := Nat × Nat × Nat) (fun g => [(2, .ptr b3c 0), (4, .ptr b4 0), (5, .ptr b5 0), (13, .slL t.levels), (14, .int .i64 t.levels.length), (15, .int .i64 g.1)]) (fun g => growL 56 1 g.1 g.2.1 g.2.2 (((t.levels.take g.1).map (fun l => levelPutM l by_)).map encL) ++ ((b5, .cells 27 [.int .i64 0, .int .i64 0, .int .i64 0, .emp, .emp]) :: (b4, .cells 27 [.int .i64 t.kind, .int .i64 t.num, .int .i64 t.at_, (growD g.1 g.2.1 g.2.2 (((t.levels.take g.1).map (fun l => levelPutM l by_)).map encL)), .slT t.kids]) :: (b3c, .cells 24 [.slL by_]) :: R)) (fun g => g.1 ≤ t.levels.length) (fun g => t.levels.length - g.1) (0, 0, 0) (Nat.zero_le _) (by repeat first | exact Ym | refine Yl (.refl _) ?_) (by repeat first | exact X0 _ | apply X1 | apply X2 | exact X3 _) ?_
 rintro ⟨i, bb, cap⟩ hi t1
 simp only at hi ⊢
 rcases i with _ | i
 simp only [growL, growD, List.nil_append]
 refine Yb (Ya ?_)
 refine Z26 ?_
 refine Yc (Yb ?_)
 refine Zc (fun h16 => ?_) (fun h16 => ?_)
 try simp only [sz] at h16
 have hlt : (0 : Nat) < t.levels.length := by omega
 have hmem : t.levels.getD (0) default ∈ t.levels := getD_mem hlt
 refine Ye (Yb (Yf (Yb (Ya ?_))))
 refine Z82 ?_
 refine Z77 ?_
 refine Z7 (fun b9 => ?_)
 refine Z3 ?_
 refine Yc ?_
 refine Yj [.p 0, .l 1, .l 2, .l 3, .p 4, .p 5, .e 6 [], .p 7, .e 8 []] mixed (by kernel_rfl) ?_
 refine Z8 ?_
 refine Z45 ?_
 refine ASeq.lv rfl rfl rfl rfl (Yv (d := encL _) 0 rfl rfl (.refl _)) ?_
 refine Z43 ?_
 refine ASeq.pe rfl rfl rfl rfl (fun L0 => (Yk (levelPut_c hS (t.levels.getD (0) default) by_ (by have := hf.plen hmem; omega) hb hp) (Yn rfl) ⟨rfl, rfl⟩)) ?_
 refine ASeq.pe rfl rfl rfl rfl (fun L0 => (AOp.buildSliceL (ts := [_]) rfl rfl rfl rfl rfl ⟨rfl, rfl⟩)) ?_
 refine ASeq.ee rfl rfl rfl rfl rfl (AOp.app1New rfl rfl rfl rfl rfl rfl rfl rfl (fun bq cap' => ⟨Yo, ?_⟩))
 refine Z8 ?_
 refine ASeq.ee0 rfl rfl rfl rfl (AOp.storeN 3 rfl rfl rfl (by constructor) rfl rfl rfl (by repeat constructor) (by repeat constructor) ⟨Yo, ?_⟩)
 refine ASeq.nil (Ya ?_)
 refine Z19 ?_
 refine Z1 ?_
 refine Yc ?_
 refine ⟨(0 + 1, bq, cap'), by simp only; omega, by simp only; omega, rfl, (by repeat first | exact Ym | refine Yl (.refl _) ?_), ?_⟩
 simp only [growL, growD, List.cons_append, List.nil_append, take_succ_getD hlt, List.map_append, List.map_cons, List.map_nil]
 exact (by repeat first | exact X0 _ | apply X1 | apply X2 | exact X3 _)
 try simp only [sz] at h16
 refine Yg (Yb (Ya ?_))
 refine Z16 ?_
 refine Z3 ?_
 refine Z2 ?_
 refine Yc (Yd ?_)
 refine Yr rfl (.cons (Yi 0 rfl rfl rfl rfl) (.cons rfl .nil)) (by repeat first | exact X0 _ | apply X1 | apply X2) ?_
 exact tupLe (.cons (leT' .emp (.slT _) (by unfold levelsG; rw [List.eq_nil_of_length_eq_zero (by omega : t.levels.length = 0)]; rfl)) (.cons (.refl _) .nil))
 simp only [growL, growD, List.cons_append, List.nil_append]
 refine Yb (Ya ?_)
 refine Z26 ?_
 refine Yc (Yb ?_)
 refine Zc (fun h16 => ?_) (fun h16 => ?_)
 try simp only [sz] at h16
 have hlt : (i + 1 : Nat) < t.levels.length := by omega
 have hmem : t.levels.getD (i + 1) default ∈ t.levels := getD_mem hlt
 refine Ye (Yb (Yf (Yb (Ya ?_))))
 refine Z82 ?_
 refine Z77 ?_
 refine Z7 (fun b9 => ?_)
 refine Z3 ?_
 refine Yc ?_
 refine Yj [.p 0, .l 1, .l 2, .l 3, .p 4, .p 5, .e 6 [], .p 7, .e 8 []] mixed (by kernel_rfl) ?_
 refine Z8 ?_
 refine Z43 ?_
 refine ASeq.lv rfl rfl rfl rfl (Yv (d := encL _) 0 rfl rfl (.refl _)) ?_
 refine ASeq.lv rfl rfl rfl rfl (Yv 4 rfl rfl (by constructor)) ?_
 refine ASeq.pe rfl rfl rfl rfl (fun L0 => (Yk (levelPut_c hS (t.levels.getD (i + 1) default) by_ (by have := hf.plen hmem; omega) hb hp) (Yn rfl) ⟨rfl, rfl⟩)) ?_
 refine ASeq.pe rfl rfl rfl rfl (fun L0 => (AOp.buildSliceL (ts := [_]) rfl rfl rfl rfl rfl ⟨rfl, rfl⟩)) ?_
 refine ASeq.ee rfl rfl rfl rfl rfl (AOp.app1Own 1 rfl rfl rfl rfl rfl rfl rfl rfl rfl (by simp only [List.length_map, List.length_take]; have := hf.llen; omega) rfl (by repeat constructor) (fun bq cap' => ⟨Yo, ?_⟩))
 refine Z8 ?_
 refine ASeq.ee0 rfl rfl rfl rfl (AOp.storeN 3 rfl rfl rfl (by constructor) rfl rfl rfl (by repeat constructor) (by repeat constructor) ⟨Yo, ?_⟩)
 refine ASeq.nil (Ya ?_)
 refine Z19 ?_
 refine Z1 ?_
 refine Yc ?_
 refine ⟨(i + 1 + 1, bq, cap'), by simp only; omega, by simp only; omega, rfl, (by repeat first | exact Ym | refine Yl (.refl _) ?_), ?_⟩
 simp only [growL, growD, List.cons_append, List.nil_append, take_succ_getD hlt, List.map_append, List.map_cons, List.map_nil]
 exact (by repeat first | exact X0 _ | apply X1 | apply X2 | exact X3 _)
 try simp only [sz] at h16
 refine Yg (Yb (Ya ?_))
 refine Z35 ?_
 refine Z10 ?_
 refine Z2 ?_
 refine Yc (Yd ?_)
 refine Yr rfl (.cons (Yi 1 rfl rfl rfl rfl) (.cons rfl .nil)) (by repeat first | exact X0 _ | apply X1 | apply X2) ?_
 exact tupLe (.cons (leT' (.own _ _ _) (.slT _) (by unfold levelsG; rw [List.take_of_length_le (by omega)])) (.cons (.refl _) .nil))
theorem levels_c (hS : SortedOk) (t : Term) (by_ : List Level) (hf : t.fit 1099511627776) (hs : t.sz ≤ 4611686018427387904) (hb : by_.length ≤ 9223372036854775807) (hp : ∀ x ∈ by_, x.length ≤ 9223372036854775807) : AFn X 198 [encT t, .slL by_] (encT (levelsM t by_)) := by
 refine Zf Tryz.func198 ?_
 refine Yb (Ya ?_)
 refine Z9 (fun b2 => ?_)
 refine Z71 (fun b3 => ?_)
 refine Z7 (fun b4 => ?_)
 refine Yc (Yb (Ya ?_))
 refine Z54 ?_
 refine Z52 ?_
 refine Z39 ?_
 refine AOps.e rfl rfl rfl (AOp.callK [_] (walk_c (gg := levelsG by_) (dn := no) (fun b u h0 h1 hu => levels1_c hS by_ b u _ rfl b3 _ hu hb hp) (fun b u _ _ => rfl) _ t rfl hf 0 (by omega) (by omega)) (Yn rfl) rfl ?_)
 refine Z3 ?_
 refine Yc (Yd ?_)
 refine Yh rfl (.cons (Yi (d := encT _) 0 rfl rfl rfl rfl) .nil) ?_
 exact .refl _
theorem coreAt_c (cs : List Core) (num : Int) (ls : List Level) : AFn X 197 [.slC cs, .int .i64 num, .slL ls] (.tup [encC (coreAtM cs num ls).1, .bool (coreAtM cs num ls).2]) := by
 refine Zf Tryz.func197 ?_
 refine Yb (Ya ?_)
 refine Z7 (fun b6 => ?_)
 refine Z2 ?_
 refine Yc (Yb (Yb (Ya ?_)))
 refine Z1 ?_
 refine Z85 ?_
 refine Z1 ?_
 refine Zs 10 (fun h10 => ?_) (fun h10 => ?_)
 try simp only [sz] at h10
 refine Z14 ?_
 refine Z14 ?_
 refine Z64 ?_
 refine Yp rfl rfl rfl rfl rfl rfl (AVal.lss rfl rfl) ?_
 refine Z15 ?_
 refine Z1 ?_
 refine Zs 16 (fun h16 => ?_) (fun h16 => ?_)
 try simp only [sz] at h16
 refine Z14 ?_
 refine Z14 ?_
 refine Yp rfl rfl rfl rfl rfl rfl (AVal.indexCN rfl rfl rfl rfl rfl ⟨by omega, by omega⟩) ?_
 refine Yp rfl rfl rfl rfl rfl rfl (AVal.fieldE rfl rfl) ?_
 refine Yp rfl rfl rfl rfl rfl rfl (AVal.loadEN rfl rfl rfl (by constructor)) ?_
 refine Z14 ?_
 refine Z64 ?_
 refine Z47 ?_
 refine Z15 ?_
 refine Yc ?_
 refine Zc (fun h25 => ?_) (fun h25 => ?_)
 try simp only [sz] at h25
 refine Yb (Ya ?_)
 refine Z1 ?_
 refine Z1 ?_
 refine AOps.v rfl rfl rfl (AVal.indexCN rfl rfl rfl rfl rfl ⟨by omega, by omega⟩) ?_
 refine AOps.v rfl rfl rfl (AVal.loadE (d := encC _) rfl rfl rfl) ?_
 refine Z3 ?_
 refine Z2 ?_
 refine Yc (Yd ?_)
 refine Yh rfl (.cons (Yi (d := encC _) 0 rfl rfl rfl rfl) (.cons rfl .nil)) ?_
 exact D.Le.eq (by rw [show coreAtM cs num ls = (cs.getD num.toNat default, true) from if_pos ⟨by omega, by omega, by omega⟩]; rfl)
 try simp only [sz] at h25
 refine Ye (Yb (Ya ?_))
 refine Z11 ?_
 refine Z3 ?_
 refine Z2 ?_
 refine Yc (Yd ?_)
 refine Yh rfl (.cons (Yi 0 rfl rfl rfl rfl) (.cons rfl .nil)) ?_
 exact tupLe (.cons (by rw [show coreAtM cs num ls = (C0, false) from if_neg (by omega)]; exact leC0) (.cons (D.Le.eq (by rw [show coreAtM cs num ls = (C0, false) from if_neg (by omega)]; rfl)) .nil))
 try simp only [sz] at h16
 refine Z4 ?_
 refine Z4 ?_
 refine Z4 ?_
 refine Z4 ?_
 refine Z4 ?_
 refine Z4 ?_
 refine Z4 ?_
 refine Z4 ?_
 refine Z13 ?_
 refine Yc (ACode.condF rfl (Ye (Yb (Ya ?_))))
 refine Z11 ?_
 refine Z3 ?_
 refine Z2 ?_
 refine Yc (Yd ?_)
 refine Yh rfl (.cons (Yi 0 rfl rfl rfl rfl) (.cons rfl .nil)) ?_
 exact tupLe (.cons (by rw [show coreAtM cs num ls = (C0, false) from if_neg (by omega)]; exact leC0) (.cons (D.Le.eq (by rw [show coreAtM cs num ls = (C0, false) from if_neg (by omega)]; rfl)) .nil))
 try simp only [sz] at h10
 refine Z4 ?_
 refine Z4 ?_
 refine Z4 ?_
 refine Z4 ?_
 refine Z13 ?_
 refine Z1 ?_
 refine Z4 ?_
 refine Z4 ?_
 refine Z4 ?_
 refine Z4 ?_
 refine Z4 ?_
 refine Z4 ?_
 refine Z4 ?_
 refine Z4 ?_
 refine Z13 ?_
 refine Yc (ACode.condF rfl (Ye (Yb (Ya ?_))))
 refine Z11 ?_
 refine Z3 ?_
 refine Z2 ?_
 refine Yc (Yd ?_)
 refine Yh rfl (.cons (Yi 0 rfl rfl rfl rfl) (.cons rfl .nil)) ?_
 exact tupLe (.cons (by rw [show coreAtM cs num ls = (C0, false) from if_neg (by omega)]; exact leC0) (.cons (D.Le.eq (by rw [show coreAtM cs num ls = (C0, false) from if_neg (by omega)]; rfl)) .nil))
theorem body_c (hS : SortedOk) (cs : List Core) (num : Int) (ls : List Level) (hc : ∀ c ∈ cs, c.body.fit 1099511627776 ∧ c.body.sz ≤ 4611686018427387904) (hb : ls.length ≤ 9223372036854775807) (hp : ∀ x ∈ ls, x.length ≤ 9223372036854775807) : AFn X 204 [.slC cs, .int .i64 num, .slL ls] (.tup [encT (bodyM cs num ls).1, .bool (bodyM cs num ls).2]) := by
 have hcm := coreAt_mem (S := 4611686018427387903) cs num ls hc
 refine Zf Tryz.func204 ?_
 refine Yb (Ya ?_)
 refine Z7 (fun b6 => ?_)
 refine Z2 ?_
 refine Yc (Yb (Ya ?_))
 refine Z1 ?_
 refine Z1 ?_
 refine Z1 ?_
 refine AOps.e rfl rfl rfl (Yk (coreAt_c cs num ls) (Yn rfl) ?_)
 refine Z1 ?_
 refine Z12 ?_
 refine Z12 ?_
 refine Z7 (fun b8 => ?_)
 refine Z3 ?_
 refine Z2 ?_
 refine Yc (Yb (Yb (Ya ?_)))
 refine Z1 ?_
 refine Z65 ?_
 refine Z1 ?_
 refine Zs 19 (fun h19 => ?_) (fun h19 => ?_)
 try simp only [sz] at h19
 refine Z4 ?_
 refine Z4 ?_
 refine Z4 ?_
 refine Z15 ?_
 refine Yc (ACode.condT rfl (Yb (Ya ?_)))
 refine Z52 ?_
 refine Z10 ?_
 refine Z2 ?_
 refine Yc (Yd ?_)
 refine Yh rfl (.cons (Yi 1 rfl rfl rfl rfl) (.cons rfl .nil)) ?_
 exact tupLe (.cons (by rw [bodyM, if_neg (by simp_all)]; exact leT' .emp .emp rfl) (.cons (D.Le.eq (by rw [bodyM, if_neg (by simp_all)]; rfl)) .nil))
 try simp only [sz] at h19
 refine Z18 ?_
 refine Z30 ?_
 refine Z69 ?_
 refine Z13 ?_
 refine Yc ?_
 refine Zc (fun h23 => ?_) (fun h23 => ?_)
 try simp only [sz] at h23
 refine Yb (Ya ?_)
 refine Z52 ?_
 refine Z10 ?_
 refine Z2 ?_
 refine Yc (Yd ?_)
 refine Yh rfl (.cons (Yi 1 rfl rfl rfl rfl) (.cons rfl .nil)) ?_
 exact tupLe (.cons (by rw [bodyM, if_neg (by simp_all)]; exact leT' .emp .emp rfl) (.cons (D.Le.eq (by rw [bodyM, if_neg (by simp_all)]; rfl)) .nil))
 try simp only [sz] at h23
 refine Ye (Yb (Ya ?_))
 refine Z6 ?_
 refine Z20 ?_
 refine Z1 ?_
 refine AOps.e rfl rfl rfl (Yk (levels_c hS (coreAtM cs num ls).1.body ls hcm.1 hcm.2 hb hp) (Yn rfl) ?_)
 refine Z10 ?_
 refine Z2 ?_
 refine Yc (Yd ?_)
 refine Yh rfl (.cons (Yi (d := encT _) 1 rfl rfl rfl rfl) (.cons rfl .nil)) ?_
 exact D.Le.eq (by rw [bodyM, if_pos (by simp_all)]; rfl)
end Sp

/- The walks of head: the constant, the step, the head. Written by a program of mine. -/
set_option linter.unusedVariables false
set_option linter.unusedSimpArgs false
set_option maxRecDepth 20000
namespace Sp
open Go Go.Proofs
theorem constant_c0 (b mb : Nat) (left : Int) (cs : List Core) (once dn : Bool) (hl : 0 ≤ left ∧ left ≤ 9223372036854775807) (hS : SortedOk) (t x : Term) (ht : t.fit 1099511627776) (hc : ∀ c ∈ cs, c.body.fit 1099511627776 ∧ c.body.sz ≤ 4611686018427387904) (hk : (bodyM cs t.num t.levels).2 = false) : AKeep X 183 [.ptr b 0, encT t, encT x] [(b, .cells 192 (workC (left) cs once dn mb))] (.tup [encT t, .bool false]) := by
 refine Zf Tryz.func183 ?_
 refine Yb (Ya ?_)
 refine Z9 (fun b4 => ?_)
 refine Z9 (fun b5 => ?_)
 refine Z7 (fun b6 => ?_)
 refine Z2 ?_
 refine Yc (Yb ?_)
 refine Yj [.p 0, .p 1, .p 2, .l 3, .p 4, .l 5, .p 6, .l 7, .p 8, .p 9, .p 10, .p 11, .a 12, .e 13 [], .p 14] mixed (by kernel_rfl) ?_
 refine Z5 ?_
 refine Z38 ?_
 refine Z8 ?_
 refine Z43 ?_
 refine Z8 ?_
 refine Z45 ?_
 refine Z8 ?_
 refine Z45 ?_
 refine ASeq.pe rfl rfl rfl rfl (fun L0 => (Yk (body_c hS cs t.num t.levels hc (by have := ht.llen; omega) (fun l hl => by have := ht.plen hl; omega)) (Yn rfl) ⟨rfl, rfl⟩)) ?_
 refine Z5 ?_
 refine Z29 ?_
 refine Z29 ?_
 refine Za (fun b8 => ?_)
 refine Z25 ?_
 refine Z17 ?_
 refine ASeq.nil (Yb (Yb (Ya ?_)))
 refine Z1 ?_
 refine Z65 ?_
 refine Yc ?_
 refine Zc (fun h23 => ?_) (fun h23 => ?_)
 try simp only [sz] at h23
 refine Yb (Ya ?_)
 refine AOps.v rfl rfl rfl (AVal.loadP (d := encT _) 3 rfl rfl rfl rfl) ?_
 refine Z10 ?_
 refine Z2 ?_
 refine Yc (Yd ?_)
 refine Yr rfl (.cons (Yi (d := encT _) 1 rfl rfl rfl rfl) (.cons rfl .nil)) (by repeat first | exact X0 _ | apply X1 | apply X2) ?_
 exact .refl _
 try simp only [sz] at h23
 exact absurd (by simpa using h23) (by rw [hk]; simp) --END
theorem constant_c1 (b mb : Nat) (left : Int) (cs : List Core) (once dn : Bool) (hl : 0 ≤ left ∧ left ≤ 9223372036854775807) (hS : SortedOk) (t x : Term) (ht : t.fit 1099511627776) (hc : ∀ c ∈ cs, c.body.fit 1099511627776 ∧ c.body.sz ≤ 4611686018427387904) (hk : (bodyM cs t.num t.levels).2 = true) (hz : (bodyM cs t.num t.levels).1.fit 9223372036854775807 ∧ (bodyM cs t.num t.levels).1.sz ≤ 4611686018427387904) : AMay X 183 [.ptr b 0, encT t, encT x] [(b, .cells 192 (workC (left) cs once dn mb))] (((bodyM cs t.num t.levels).1.sz : Int) ≤ left) (.tup [encT (bodyM cs t.num t.levels).1, .bool true]) [(b, .cells 192 (workC (left - (bodyM cs t.num t.levels).1.sz) cs once dn mb))] (.iface 184 (.agg [])) [(b, .cells 192 (workC (left) cs once dn mb))] := by
 refine Zf Tryz.func183 ?_
 refine Yb (Ya ?_)
 refine Z9 (fun b4 => ?_)
 refine Z9 (fun b5 => ?_)
 refine Z7 (fun b6 => ?_)
 refine Z2 ?_
 refine Yc (Yb ?_)
 refine Yj [.p 0, .p 1, .p 2, .l 3, .p 4, .l 5, .p 6, .l 7, .p 8, .p 9, .p 10, .p 11, .a 12, .e 13 [], .p 14] mixed (by kernel_rfl) ?_
 refine Z5 ?_
 refine Z38 ?_
 refine Z8 ?_
 refine Z43 ?_
 refine Z8 ?_
 refine Z45 ?_
 refine Z8 ?_
 refine Z45 ?_
 refine ASeq.pe rfl rfl rfl rfl (fun L0 => (Yk (body_c hS cs t.num t.levels hc (by have := ht.llen; omega) (fun l hl => by have := ht.plen hl; omega)) (Yn rfl) ⟨rfl, rfl⟩)) ?_
 refine Z5 ?_
 refine Z29 ?_
 refine Z29 ?_
 refine Za (fun b8 => ?_)
 refine Z25 ?_
 refine Z17 ?_
 refine ASeq.nil (Yb (Yb (Ya ?_)))
 refine Z1 ?_
 refine Z65 ?_
 refine Yc ?_
 refine Zc (fun h23 => ?_) (fun h23 => ?_)
 try simp only [sz] at h23
 exact absurd (by simpa using h23) (by rw [hk]; simp) --END
 try simp only [sz] at h23
 refine Ye (Yb (Ya ?_))
 refine Z1 ?_
 refine Z20 ?_
 refine AOps.e rfl rfl rfl (AOp.callM [_, _, _, _] (take_c b mb left cs once dn hl (bodyM cs t.num t.levels).1 hz.1 hz.2) (Yn rfl) rfl (fun hok => ?_) (fun hno => ?_))
 refine Z10 ?_
 refine Z2 ?_
 refine Yc (Yd ?_)
 refine AFin.mayRet rfl (.cons (Yi (d := encT _) 1 rfl rfl rfl rfl) (.cons rfl .nil)) (by repeat first | exact X0 _ | apply X1 | apply X2) ?_ (hok)
 exact .refl _
 exact AFin.mayPan (X := X) (fn := Tryz.f183) rfl (by repeat first | exact X0 _ | apply X1 | apply X2 | exact X3 _) (hno)
def SM (b : Nat) : List (Int × D) := [(6, .func (.func 180) [.ptr b 0] []), (14, .func (.func 181) [.ptr b 0] []), (15, .func (.func 181) [.ptr b 0] []), (7, .func (.func 182) [.ptr b 0] []), (3, .func (.func 183) [.ptr b 0] []), (18, .func (.func 184) [.ptr b 0] []), (21, .func (.func 185) [.ptr b 0] []), (24, .func (.func 186) [.ptr b 0] [])]
theorem step_in (b mb : Nat) (left left2 : Int) (cs : List Core) (once dn : Bool) (t u : Term) (is : Bool) (ok : Prop) (f : FuncId) (hlen : t.kids.length ≤ 1099511627776) (hget : mget (SM b) t.kind = some (.func (.func f) [.ptr b 0] [])) (h24 : ¬ (t.kind = 24 ∧ (spotM t).2.2 = false)) (hc : AMay X f [.ptr b 0, encT t, encT (place t)] [(b, .cells 192 (workC (left) cs once dn mb))] ok (.tup [encT u, .bool is]) [(b, .cells 192 (workC (left2) cs once dn mb))] (.iface 184 (.agg [])) [(b, .cells 192 (workC (left) cs once dn mb))]) : AMay X 190 [.ptr b 0, encT t] [(mb, .map (SM b)), (b, .cells 192 (workC (left) cs once dn mb))] ok (.tup [encT u, .bool is]) [(mb, .map (SM b)), (b, .cells 192 (workC (left2) cs once dn mb))] (.iface 184 (.agg [])) [(mb, .map (SM b)), (b, .cells 192 (workC (left) cs once dn mb))] := by
 refine Zf Tryz.func190 ?_
 refine Yb (Ya ?_)
 refine Z9 (fun b3 => ?_)
 refine Z7 (fun b4 => ?_)
 refine Z2 ?_
 refine Yc (Yb (Ya ?_))
 refine Z23 ?_
 refine AOps.e rfl rfl rfl (Yk (spot_c t hlen) (Yn rfl) ?_)
 refine Z1 ?_
 refine Z12 ?_
 refine Z12 ?_
 refine Z12 ?_
 refine Z2 ?_
 refine Z2 ?_
 refine Z2 ?_
 refine Yc (Yb ?_)
 refine Yj [.p 0, .p 1, .p 2, .l 3, .p 4, .l 5, .e 6 [], .p 7, .p 8, .p 9, .p 10, .p 11] mixed (by kernel_rfl) ?_
 refine Z5 ?_
 refine Z38 ?_
 refine Z8 ?_
 refine Z43 ?_
 refine Z8 ?_
 refine Z36 ?_
 refine ASeq.ev0 rfl rfl rfl rfl rfl Yo (AVal.lookupOk (e := 205) (d0 := .nilf) (d1 := .func (.func f) [.ptr b 0] []) (ok := true) 2 rfl rfl rfl (by kernel_rfl) (by kernel_rfl) (by rw [hget]; rfl) (by rw [hget]; rfl)) ?_
 refine Z5 ?_
 refine Z29 ?_
 refine Z29 ?_
 refine Z17 ?_
 refine Z17 ?_
 refine ASeq.nil (Yb (Yb (Ya ?_)))
 refine Z1 ?_
 refine Z65 ?_
 refine Z1 ?_
 refine Z18 ?_
 refine Z27 ?_
 refine Z47 ?_
 refine Z14 ?_
 refine Zs 34 (fun h34 => ?_) (fun h34 => ?_)
 try simp only [sz] at h34
 refine Z14 ?_
 refine Z69 ?_
 refine Z73 ?_
 refine Z13 ?_
 refine Yc ?_
 refine Zc (fun h38 => ?_) (fun h38 => ?_)
 try simp only [sz] at h38
 exact absurd ⟨h34, h38⟩ h24 --END
 try simp only [sz] at h38
 refine Ye (Yb (Ya ?_))
 refine Z7 (fun b11 => ?_)
 refine Yc (Yb (Yb (Ya ?_)))
 refine Z1 ?_
 refine Yc ?_
 refine Zc (fun h40 => ?_) (fun h40 => ?_)
 have hpl : place t = kid t (spotM t).1 := by simp [place, h40]
 rw [hpl] at hc
 refine Ya ?_
 refine Z39 ?_
 refine Z1 ?_
 refine AOps.e rfl rfl rfl (Yk (kid_c t (spotM t).1) (Yn rfl) ?_)
 refine Z3 ?_
 refine Yc (Yb (Ya ?_))
 refine Z1 ?_
 refine Z39 ?_
 refine Z20 ?_
 refine AOps.e rfl rfl rfl (AOp.callVM [_, _, _, _] rfl (hc) (LeL.cons (.refl _) (LeL.cons (.refl _) (LeL.cons (.refl _) .nil))) rfl (fun hok => ?_) (fun hno => ?_))
 refine Z12 ?_
 refine Z12 ?_
 refine Z10 ?_
 refine Z2 ?_
 refine Yc (Yd ?_)
 refine AFin.mayRet rfl (.cons (Yi (d := encT _) 1 rfl rfl rfl rfl) (.cons rfl .nil)) (by repeat first | exact X0 _ | apply X1 | apply X2) ?_ (hok)
 exact .refl _
 exact AFin.mayPan (X := X) (fn := Tryz.f190) rfl (by repeat first | exact X0 _ | apply X1 | apply X2 | exact X3 _) (hno)
 have hpl : place t = T0 := by simp [place, h40]
 rw [hpl] at hc
 refine Ye (Yb (Ya ?_))
 refine Z1 ?_
 refine Z39 ?_
 refine Z11 ?_
 refine AOps.e rfl rfl rfl (AOp.callVM [_, _, _, _] rfl (hc) (LeL.cons (.refl _) (LeL.cons (.refl _) (LeL.cons (leT' .emp .emp rfl) .nil))) rfl (fun hok => ?_) (fun hno => ?_))
 refine Z12 ?_
 refine Z12 ?_
 refine Z10 ?_
 refine Z2 ?_
 refine Yc (Yd ?_)
 refine AFin.mayRet rfl (.cons (Yi (d := encT _) 1 rfl rfl rfl rfl) (.cons rfl .nil)) (by repeat first | exact X0 _ | apply X1 | apply X2) ?_ (hok)
 exact .refl _
 exact AFin.mayPan (X := X) (fn := Tryz.f190) rfl (by repeat first | exact X0 _ | apply X1 | apply X2 | exact X3 _) (hno)
 try simp only [sz] at h34
 refine Z4 ?_
 refine Z4 ?_
 refine Z74 ?_
 refine Z13 ?_
 refine Yc (ACode.condF rfl (Ye (Yb (Ya ?_))))
 refine Z7 (fun b11 => ?_)
 refine Yc (Yb (Yb (Ya ?_)))
 refine Z1 ?_
 refine Yc ?_
 refine Zc (fun h40 => ?_) (fun h40 => ?_)
 have hpl : place t = kid t (spotM t).1 := by simp [place, h40]
 rw [hpl] at hc
 refine Ya ?_
 refine Z39 ?_
 refine Z1 ?_
 refine AOps.e rfl rfl rfl (Yk (kid_c t (spotM t).1) (Yn rfl) ?_)
 refine Z3 ?_
 refine Yc (Yb (Ya ?_))
 refine Z1 ?_
 refine Z39 ?_
 refine Z20 ?_
 refine AOps.e rfl rfl rfl (AOp.callVM [_, _, _, _] rfl (hc) (LeL.cons (.refl _) (LeL.cons (.refl _) (LeL.cons (.refl _) .nil))) rfl (fun hok => ?_) (fun hno => ?_))
 refine Z12 ?_
 refine Z12 ?_
 refine Z10 ?_
 refine Z2 ?_
 refine Yc (Yd ?_)
 refine AFin.mayRet rfl (.cons (Yi (d := encT _) 1 rfl rfl rfl rfl) (.cons rfl .nil)) (by repeat first | exact X0 _ | apply X1 | apply X2) ?_ (hok)
 exact .refl _
 exact AFin.mayPan (X := X) (fn := Tryz.f190) rfl (by repeat first | exact X0 _ | apply X1 | apply X2 | exact X3 _) (hno)
 have hpl : place t = T0 := by simp [place, h40]
 rw [hpl] at hc
 refine Ye (Yb (Ya ?_))
 refine Z1 ?_
 refine Z39 ?_
 refine Z11 ?_
 refine AOps.e rfl rfl rfl (AOp.callVM [_, _, _, _] rfl (hc) (LeL.cons (.refl _) (LeL.cons (.refl _) (LeL.cons (leT' .emp .emp rfl) .nil))) rfl (fun hok => ?_) (fun hno => ?_))
 refine Z12 ?_
 refine Z12 ?_
 refine Z10 ?_
 refine Z2 ?_
 refine Yc (Yd ?_)
 refine AFin.mayRet rfl (.cons (Yi (d := encT _) 1 rfl rfl rfl rfl) (.cons rfl .nil)) (by repeat first | exact X0 _ | apply X1 | apply X2) ?_ (hok)
 exact .refl _
 exact AFin.mayPan (X := X) (fn := Tryz.f190) rfl (by repeat first | exact X0 _ | apply X1 | apply X2 | exact X3 _) (hno)
theorem step_none (b mb : Nat) (left : Int) (cs : List Core) (once dn : Bool) (t : Term) (hlen : t.kids.length ≤ 1099511627776) (hget : mget (SM b) t.kind = none) : AKeep X 190 [.ptr b 0, encT t] [(mb, .map (SM b)), (b, .cells 192 (workC (left) cs once dn mb))] (.tup [encT t, .bool false]) := by
 refine Zf Tryz.func190 ?_
 refine Yb (Ya ?_)
 refine Z9 (fun b3 => ?_)
 refine Z7 (fun b4 => ?_)
 refine Z2 ?_
 refine Yc (Yb (Ya ?_))
 refine Z23 ?_
 refine AOps.e rfl rfl rfl (Yk (spot_c t hlen) (Yn rfl) ?_)
 refine Z1 ?_
 refine Z12 ?_
 refine Z12 ?_
 refine Z12 ?_
 refine Z2 ?_
 refine Z2 ?_
 refine Z2 ?_
 refine Yc (Yb ?_)
 refine Yj [.p 0, .p 1, .p 2, .l 3, .p 4, .l 5, .e 6 [], .p 7, .p 8, .p 9, .p 10, .p 11] mixed (by kernel_rfl) ?_
 refine Z5 ?_
 refine Z38 ?_
 refine Z8 ?_
 refine Z43 ?_
 refine Z8 ?_
 refine Z36 ?_
 refine ASeq.ev0 rfl rfl rfl rfl rfl Yo (AVal.lookupOk (e := 205) (d0 := .nilf) (d1 := .nilf) (ok := false) 2 rfl rfl rfl (by kernel_rfl) (by kernel_rfl) (by rw [hget]; rfl) (by rw [hget]; rfl)) ?_
 refine Z5 ?_
 refine Z29 ?_
 refine Z29 ?_
 refine Z17 ?_
 refine Z17 ?_
 refine ASeq.nil (Yb (Yb (Ya ?_)))
 refine Z1 ?_
 refine Z65 ?_
 refine Z1 ?_
 refine Z4 ?_
 refine Z4 ?_
 refine Z4 ?_
 refine Z4 ?_
 refine AOps.vU rfl rfl rfl rfl rfl ?_
 refine AOps.vU rfl rfl rfl rfl rfl ?_
 refine Z4 ?_
 refine Z15 ?_
 refine Yc (ACode.condT rfl (Yb (Ya ?_)))
 refine Z23 ?_
 refine Z3 ?_
 refine Z2 ?_
 refine Yc (Yd ?_)
 refine Yr rfl (.cons (Yi (d := encT _) 0 rfl rfl rfl rfl) (.cons rfl .nil)) (by repeat first | exact X0 _ | apply X1 | apply X2) ?_
 exact .refl _
theorem step_24 (b mb : Nat) (left : Int) (cs : List Core) (once dn : Bool) (t : Term) (hlen : t.kids.length ≤ 1099511627776) (h24 : t.kind = 24) (hsp : (spotM t).2.2 = false) : AKeep X 190 [.ptr b 0, encT t] [(mb, .map (SM b)), (b, .cells 192 (workC (left) cs once dn mb))] (.tup [encT t, .bool false]) := by
 have hget : mget (SM b) t.kind = some (.func (.func 186) [.ptr b 0] []) := by rw [h24]; rfl
 refine Zf Tryz.func190 ?_
 refine Yb (Ya ?_)
 refine Z9 (fun b3 => ?_)
 refine Z7 (fun b4 => ?_)
 refine Z2 ?_
 refine Yc (Yb (Ya ?_))
 refine Z23 ?_
 refine AOps.e rfl rfl rfl (Yk (spot_c t hlen) (Yn rfl) ?_)
 refine Z1 ?_
 refine Z12 ?_
 refine Z12 ?_
 refine Z12 ?_
 refine Z2 ?_
 refine Z2 ?_
 refine Z2 ?_
 refine Yc (Yb ?_)
 refine Yj [.p 0, .p 1, .p 2, .l 3, .p 4, .l 5, .e 6 [], .p 7, .p 8, .p 9, .p 10, .p 11] mixed (by kernel_rfl) ?_
 refine Z5 ?_
 refine Z38 ?_
 refine Z8 ?_
 refine Z43 ?_
 refine Z8 ?_
 refine Z36 ?_
 refine ASeq.ev0 rfl rfl rfl rfl rfl Yo (AVal.lookupOk (e := 205) (d0 := .nilf) (d1 := .func (.func 186) [.ptr b 0] []) (ok := true) 2 rfl rfl rfl (by kernel_rfl) (by kernel_rfl) (by rw [hget]; rfl) (by rw [hget]; rfl)) ?_
 refine Z5 ?_
 refine Z29 ?_
 refine Z29 ?_
 refine Z17 ?_
 refine Z17 ?_
 refine ASeq.nil (Yb (Yb (Ya ?_)))
 refine Z1 ?_
 refine Z65 ?_
 refine Z1 ?_
 refine Z18 ?_
 refine Z27 ?_
 refine Z47 ?_
 refine Z14 ?_
 refine Zs 34 (fun h34 => ?_) (fun h34 => ?_)
 try simp only [sz] at h34
 refine Z14 ?_
 refine Z69 ?_
 refine Z73 ?_
 refine Z13 ?_
 refine Yc ?_
 refine Zc (fun h38 => ?_) (fun h38 => ?_)
 try simp only [sz] at h38
 refine Yb (Ya ?_)
 refine Z23 ?_
 refine Z3 ?_
 refine Z2 ?_
 refine Yc (Yd ?_)
 refine Yr rfl (.cons (Yi (d := encT _) 0 rfl rfl rfl rfl) (.cons rfl .nil)) (by repeat first | exact X0 _ | apply X1 | apply X2) ?_
 exact .refl _
 try simp only [sz] at h38
 exact absurd h38 (by rw [hsp]; simp) --END
 try simp only [sz] at h34
 refine Z4 ?_
 refine Z4 ?_
 refine Z74 ?_
 refine Z13 ?_
 refine Yc (ACode.condF rfl ?_)
 exact absurd h24 h34 --END
end Sp

/- The walks of head: one step, the way to the head. Written by a program of mine. -/
set_option linter.unusedVariables false
set_option linter.unusedSimpArgs false
set_option maxRecDepth 20000
namespace Sp
open Go Go.Proofs
theorem hget_none {b : Nat} {k : Int} (h6 : ¬ k = 6) (h14 : ¬ (k = 14 ∨ k = 15)) (h7 : ¬ k = 7) (h3 : ¬ k = 3) (h18 : ¬ k = 18) (h21 : ¬ k = 21) (h24 : ¬ k = 24) : mget (SM b) k = none := by
  have e : mpos (SM b) k = none := by
    simp only [mpos, SM, List.findIdx?_eq_none_iff, List.mem_cons, List.not_mem_nil, or_false]
    rintro e (rfl | rfl | rfl | rfl | rfl | rfl | rfl | rfl) <;> simp only [decide_eq_false_iff_not] <;> omega
  simp only [mget, e]
theorem step_c (hS : SortedOk) (b mb : Nat) (left : Int) (cs : List Core) (once dn : Bool) (hl : 0 ≤ left ∧ left ≤ 9223372036854775807) (t : Term) (ht : t.fit 1099511627776) (hs : t.sz ≤ 268435456) (hc : CoresOk cs) :
    AMay X 190 [.ptr b 0, encT t] [(mb, .map (SM b)), (b, .cells 192 (workC (left) cs once dn mb))] (stepC cs t ≤ left) (.tup [encT (stepU cs t), .bool (ownStep cs t).isSome]) [(mb, .map (SM b)), (b, .cells 192 (workC (left - stepC cs t) cs once dn mb))] (.iface 184 (.agg [])) [(mb, .map (SM b)), (b, .cells 192 (workC (left) cs once dn mb))] := by
  have hlen := ht.len
  have hp := place_fit ht
  have hps : (place t).sz ≤ 268435456 := Nat.le_trans (place_sz t) hs
  have no : ∀ {f : FuncId}, ownStep cs t = none → AKeep X 190 [.ptr b 0, encT t] [(mb, .map (SM b)), (b, .cells 192 (workC (left) cs once dn mb))] (.tup [encT t, .bool false]) →
      AMay X 190 [.ptr b 0, encT t] [(mb, .map (SM b)), (b, .cells 192 (workC (left) cs once dn mb))] (stepC cs t ≤ left) (.tup [encT (stepU cs t), .bool (ownStep cs t).isSome]) [(mb, .map (SM b)), (b, .cells 192 (workC (left - stepC cs t) cs once dn mb))] (.iface 184 (.agg [])) [(mb, .map (SM b)), (b, .cells 192 (workC (left) cs once dn mb))] := fun {f} ho h => by
    simp only [stepU, stepC, ho, Option.isSome_none, Int.sub_zero]
    exact h.may hl.1
  have go : ∀ (k : Int) (f : FuncId), t.kind = k → mget (SM b) k = some (.func (.func f) [.ptr b 0] []) → ¬ (t.kind = 24 ∧ (spotM t).2.2 = false) →
      (ownStep cs t = none ∧ AKeep X f [.ptr b 0, encT t, encT (place t)] [(b, .cells 192 (workC (left) cs once dn mb))] (.tup [encT t, .bool false]) ∨
        ∃ u c, ownStep cs t = some (u, c) ∧ AMay X f [.ptr b 0, encT t, encT (place t)] [(b, .cells 192 (workC (left) cs once dn mb))] (c ≤ left) (.tup [encT u, .bool true]) [(b, .cells 192 (workC (left - c) cs once dn mb))] (.iface 184 (.agg [])) [(b, .cells 192 (workC (left) cs once dn mb))]) →
      AMay X 190 [.ptr b 0, encT t] [(mb, .map (SM b)), (b, .cells 192 (workC (left) cs once dn mb))] (stepC cs t ≤ left) (.tup [encT (stepU cs t), .bool (ownStep cs t).isSome]) [(mb, .map (SM b)), (b, .cells 192 (workC (left - stepC cs t) cs once dn mb))] (.iface 184 (.agg [])) [(mb, .map (SM b)), (b, .cells 192 (workC (left) cs once dn mb))] := fun k f hk hg h24 h => by
    rcases h with ⟨ho, h⟩ | ⟨u, c, ho, h⟩
    · simp only [stepU, stepC, ho, Option.isSome_none, Int.sub_zero]
      exact step_in b mb left left cs once dn t t false (0 ≤ left) f hlen (by rw [hk]; exact hg) h24 (h.may hl.1)
    · simp only [stepU, stepC, ho, Option.isSome_some]
      exact step_in b mb left (left - c) cs once dn t u true (c ≤ left) f hlen (by rw [hk]; exact hg) h24 h
  by_cases k6 : t.kind = 6
  · refine go 6 _ k6 rfl (by omega) ?_
    by_cases e : (place t).kind = 5
    · exact .inr ⟨_, _, by rw [ownStep, if_pos k6, if_pos e], app_c1 b mb left cs once dn hl t (place t) e ht hp hs hps⟩
    · exact .inl ⟨by rw [ownStep, if_pos k6, if_neg e], app_c0 b mb left cs once dn hl t (place t) e⟩
  by_cases k14 : t.kind = 14 ∨ t.kind = 15
  · have h14 : ∀ (f : FuncId), (mget (SM b) 14 = some (.func (.func f) [.ptr b 0] []) ∧ mget (SM b) 15 = some (.func (.func f) [.ptr b 0] [])) → mget (SM b) t.kind = some (.func (.func f) [.ptr b 0] []) := fun f h => by
      rcases k14 with e | e <;> rw [e]
      · exact h.1
      · exact h.2
    refine go t.kind _ rfl (h14 _ ⟨rfl, rfl⟩) (by omega) ?_
    by_cases e : (place t).kind = 13
    · exact .inr ⟨_, _, by rw [ownStep, if_neg k6, if_pos k14, if_pos e], half_c1 b mb left cs once dn hl t (place t) e ht hp hs hps⟩
    · exact .inl ⟨by rw [ownStep, if_neg k6, if_pos k14, if_neg e], half_c0 b mb left cs once dn hl t (place t) e⟩
  by_cases k7 : t.kind = 7
  · refine go 7 _ k7 rfl (by omega) ?_
    exact .inr ⟨_, _, by rw [ownStep, if_neg k6, if_neg k14, if_pos k7], let_c1 b mb left cs once dn hl t (place t) ht hp hs hps⟩
  by_cases k3 : t.kind = 3
  · refine go 3 _ k3 rfl (by omega) ?_
    have hcc : ∀ c ∈ cs, c.body.fit 1099511627776 ∧ c.body.sz ≤ 4611686018427387904 := fun c h => ⟨(hc c h).1, Nat.le_trans (hc c h).2 (by omega)⟩
    have hb := body_ok hc t.num t.levels
    by_cases e : (bodyM cs t.num t.levels).2 = true
    · exact .inr ⟨_, _, by rw [ownStep, if_neg k6, if_neg k14, if_neg k7, if_pos k3, if_pos e], constant_c1 b mb left cs once dn hl hS t (place t) ht hcc e ⟨fitX hb.1, by omega⟩⟩
    · exact .inl ⟨by rw [ownStep, if_neg k6, if_neg k14, if_neg k7, if_pos k3, if_neg e], constant_c0 b mb left cs once dn hl hS t (place t) ht hcc (by simpa using e)⟩
  by_cases k18 : t.kind = 18
  · refine go 18 _ k18 rfl (by omega) ?_
    by_cases e : (place t).kind = 17
    · exact .inr ⟨_, _, by rw [ownStep, if_neg k6, if_neg k14, if_neg k7, if_neg k3, if_pos k18, if_pos e], tree_c1 b mb left cs once dn hl t (place t) e ht hp hs hps⟩
    · exact .inl ⟨by rw [ownStep, if_neg k6, if_neg k14, if_neg k7, if_neg k3, if_pos k18, if_neg e], tree_c0 b mb left cs once dn hl t (place t) e⟩
  by_cases k21 : t.kind = 21
  · refine go 21 _ k21 rfl (by omega) ?_
    by_cases e : (place t).kind = 20
    · exact .inr ⟨_, _, by rw [ownStep, if_neg k6, if_neg k14, if_neg k7, if_neg k3, if_neg k18, if_pos k21, if_pos e], path_c1 b mb left cs once dn hl t (place t) e ht hp hs hps⟩
    · exact .inl ⟨by rw [ownStep, if_neg k6, if_neg k14, if_neg k7, if_neg k3, if_neg k18, if_pos k21, if_neg e], path_c0 b mb left cs once dn hl t (place t) e⟩
  by_cases k24 : t.kind = 24
  · cases hsp : (spotM t).2.2 with
    | false => exact no (f := 0) (by rw [ownStep, if_neg k6, if_neg k14, if_neg k7, if_neg k3, if_neg k18, if_neg k21, if_pos k24, if_neg (fun q => by rw [hsp] at q; cases q.1)]) (step_24 b mb left cs once dn t hlen k24 hsp)
    | true =>
      have hr := spot_range hsp (by omega)
      refine go 24 _ k24 rfl (by rw [hsp]; simp) ?_
      by_cases e : ((place t).kind = 23 ∧ 0 ≤ (place t).num ∧ (place t).num < t.at_)
      · exact .inr ⟨_, _, by rw [ownStep, if_neg k6, if_neg k14, if_neg k7, if_neg k3, if_neg k18, if_neg k21, if_pos k24, if_pos ⟨hsp, e⟩], branch_c1 b mb left cs once dn hl t (place t) e (by omega) ht hp hs hps⟩
      · exact .inl ⟨by rw [ownStep, if_neg k6, if_neg k14, if_neg k7, if_neg k3, if_neg k18, if_neg k21, if_pos k24, if_neg (fun q => e q.2)], branch_c0 b mb left cs once dn hl t (place t) e⟩
  · exact no (f := 0) (by rw [ownStep, if_neg k6, if_neg k14, if_neg k7, if_neg k3, if_neg k18, if_neg k21, if_neg k24]) (step_none b mb left cs once dn t hlen (hget_none k6 k14 k7 k3 k18 k21 k24))
end Sp

/- The walks of head: the way to the head, in one step and in all. Written by a program of mine. -/
set_option linter.unusedVariables false
set_option linter.unusedSimpArgs false
set_option maxRecDepth 20000
namespace Sp
open Go Go.Proofs
theorem head_c (hS : SortedOk) (b mb : Nat) (cs : List Core) (hc : CoresOk cs) : ∀ (n : Nat) (left : Int), left.toNat = n → ∀ (m : Nat) (t : Term), spz t = m → ∀ dn : Bool, 0 ≤ left → t.fit 1099511627776 → (psz t : Int) + 7 * left ≤ 268435456 → AMay X 162 [.ptr b 0, encT t] [(mb, .map (SM b)), (b, .cells 192 (workC (left) cs false dn mb))] ((multi cs t left dn).1 = true) (encT (multi cs t left dn).2.1) [(mb, .map (SM b)), (b, .cells 192 (workC ((multi cs t left dn).2.2.1) cs false (multi cs t left dn).2.2.2 mb))] (.iface 184 (.agg [])) [(mb, .map (SM b)), (b, .cells 192 (workC ((multi cs t left dn).2.2.1) cs false (multi cs t left dn).2.2.2 mb))] := by
 intro n
 induction n using Nat.strongRecOn with
 | _ n ihn =>
 intro left hn m
 induction m using Nat.strongRecOn with
 | _ m ihm =>
 intro t hm dn hl0 htf htz
 refine Zf Tryz.func162 ?_
 refine Yb (Ya ?_)
 refine Z9 (fun b3 => ?_)
 refine Z7 (fun b4 => ?_)
 refine Yc (Yf ?_)
 refine Yu (γ := Term × Int × Bool) (fun g => [(0, .ptr b 0), (3, .ptr b3 0), (4, .ptr b4 0)]) (fun g => [(b4, .cells 27 [.int .i64 0, .int .i64 0, .int .i64 0, .emp, .emp]), (b3, .cells 27 (cellsT g.1)), (mb, .map (SM b)), (b, .cells 192 (workC g.2.1 cs false g.2.2 mb))]) (fun g => multi cs g.1 g.2.1 g.2.2 = multi cs t left dn ∧ g.1.fit 1099511627776 ∧ (psz g.1 : Int) + 7 * g.2.1 ≤ 268435456 ∧ 0 ≤ g.2.1 ∧ (g.2.1 < left ∨ (g.2.1 = left ∧ spz g.1 = m))) (fun g => g.2.1.toNat) (t, left, dn) ⟨rfl, htf, htz, hl0, .inr ⟨rfl, hm⟩⟩ (by repeat first | exact Ym | refine Yl (.refl _) ?_) (by repeat first | exact X0 _ | apply X1 | apply X2 | exact X3 _) ?_
 rintro ⟨u, F, d⟩ ⟨hg, hf, hz, hF0, hord⟩ t1
 simp only at hg hf hz hF0 hord ⊢
 have hlen40 := hf.len
 have hlen : u.kids.length ≤ 4611686018427387904 := by omega
 refine Yf (Yb (Yb (Ya ?_)))
 refine Z23 ?_
 refine AOps.e rfl rfl rfl (Yk (spot_c u hlen40) (Yn rfl) ?_)
 refine Z1 ?_
 refine Z12 ?_
 refine Z12 ?_
 refine Z12 ?_
 refine Z2 ?_
 refine Z2 ?_
 refine Z2 ?_
 refine Yc (Yb (Ya ?_))
 refine Z1 ?_
 refine Yc ?_
 refine Zc (fun h16 => ?_) (fun h16 => ?_)
 have hU := behind_ok (d := d) hc hf hF0 hz h16
 have hpk := psz_kid h16 hlen
 have hsk := spz_kid h16
 have hrec : AMay X 162 [.ptr b 0, encT (kid u (spotM u).1)] [(mb, .map (SM b)), (b, .cells 192 (workC (F) cs false d mb))] ((multi cs (kid u (spotM u).1) F d).1 = true) (encT (multi cs (kid u (spotM u).1) F d).2.1) [(mb, .map (SM b)), (b, .cells 192 (workC ((multi cs (kid u (spotM u).1) F d).2.2.1) cs false (multi cs (kid u (spotM u).1) F d).2.2.2 mb))] (.iface 184 (.agg [])) [(mb, .map (SM b)), (b, .cells 192 (workC ((multi cs (kid u (spotM u).1) F d).2.2.1) cs false (multi cs (kid u (spotM u).1) F d).2.2.2 mb))] := by
   rcases hord with hlt | ⟨heq, hsp⟩
   · exact ihn F.toNat (by omega) F rfl _ (kid u (spotM u).1) rfl d hF0 (kid_fit hf _) (by omega)
   · subst heq
     exact ihm _ (by omega) (kid u (spotM u).1) rfl d hF0 (kid_fit hf _) (by omega)
 refine Yb ?_
 refine Yj [.l 0, .p 1, .l 2, .p 3, .p 4, .p 6, .p 7, .e 5 [0], .p 8, .e 9 []] mixed (by kernel_rfl) ?_
 refine Z28 ?_
 refine Z5 ?_
 refine Z28 ?_
 refine Z5 ?_
 refine ASeq.pe rfl rfl rfl rfl (fun L0 => (Yk (kid_c u (spotM u).1) (Yn rfl) ⟨rfl, rfl⟩)) ?_
 refine Z5 ?_
 refine Z5 ?_
 refine ASeq.ee rfl rfl rfl rfl rfl (AOp.callM [_, _] (hrec) (Yn rfl) rfl (fun hokR => ⟨(Keeps.cons (Yv 1 rfl rfl (.refl _)) Yo), ?_⟩) (fun hno => ?_))
 refine ASeq.pe rfl rfl rfl rfl (fun L0 => (Yk (with_c u (multi cs (kid u (spotM u).1) F d).2.1 (spotM u).1 (spotM u).2.1 (spot_many (B := 1099511627776) h16 hlen40 (by omega) (by omega))) (Yn rfl) ⟨rfl, rfl⟩)) ?_
 refine Z42 ?_
 refine ASeq.nil (Yb (Ya ?_))
 refine Z1 ?_
 refine Z44 ?_
 refine Z6 ?_
 refine Z66 ?_
 refine Z1 ?_
 refine Z4 ?_
 refine Z4 ?_
 refine Z4 ?_
 refine Z4 ?_
 refine Z13 ?_
 refine Yc (ACode.condF rfl (Ye (Yb (Ya ?_))))
 refine Z1 ?_
 refine Z23 ?_
 refine AOps.e rfl rfl rfl (AOp.callM [_, _] (step_c hS b mb (multi cs (kid u (spotM u).1) F d).2.2.1 cs false (multi cs (kid u (spotM u).1) F d).2.2.2 ⟨hU.1, by have := hU.2.1; omega⟩ (withM u (multi cs (kid u (spotM u).1) F d).2.1 (spotM u).1 (spotM u).2.1) (hU.2.2 hokR).1 (by have := (hU.2.2 hokR).2.1; have := hU.1; omega) hc) (Yn rfl) rfl (fun hok => ?_) (fun hno => ?_))
 refine Z1 ?_
 refine Z12 ?_
 refine Z12 ?_
 refine Z7 (fun b8 => ?_)
 refine Z3 ?_
 refine Z2 ?_
 refine Yc (Yb (Yb (Ya ?_)))
 refine Z1 ?_
 refine Z65 ?_
 refine Yc ?_
 refine Zc (fun h44 => ?_) (fun h44 => ?_)
 try simp only [sz] at h44
 have hm : multi cs t left dn = (true, (withM u (multi cs (kid u (spotM u).1) F d).2.1 (spotM u).1 (spotM u).2.1), (multi cs (kid u (spotM u).1) F d).2.2.1, (multi cs (kid u (spotM u).1) F d).2.2.2) := by rw [← hg, (hU.2.2 hokR).2.2]; exact rest_none h44
 rw [hm, (step_no h44).2, Int.sub_zero]
 refine Yb (Ya ?_)
 refine Z39 ?_
 refine Z10 ?_
 refine Yc (Yd ?_)
 refine AFin.mayRet rfl (.cons (Yi (d := encT _) 1 rfl rfl rfl rfl) .nil) (by repeat first | exact X0 _ | apply X1 | apply X2) ?_ (rfl)
 exact .refl _
 try simp only [sz] at h44
 obtain ⟨hUf, hUz, hUm⟩ := hU.2.2 hokR
 have hU0 := hU.1
 have hU1 := hU.2.1
 have ho := own_ok hc hUf (by omega) (step_yes h44)
 have h7 := psz_le _ (stepU cs (withM u (multi cs (kid u (spotM u).1) F d).2.1 (spotM u).1 (spotM u).2.1)) rfl ho.2.2.1
 refine Ye (Yb (Ya ?_))
 refine Z1 ?_
 refine Z20 ?_
 refine Z34 ?_
 refine Z44 ?_
 refine Z6 ?_
 refine Z68 ?_
 refine Yc (Yb (Ya ?_))
 refine Z1 ?_
 refine Z44 ?_
 refine Z6 ?_
 refine Z83 ?_
 refine Yc (ACode.condF rfl (Ye ?_))
 refine ⟨(stepU cs (withM u (multi cs (kid u (spotM u).1) F d).2.1 (spotM u).1 (spotM u).2.1), (multi cs (kid u (spotM u).1) F d).2.2.1 - stepC cs (withM u (multi cs (kid u (spotM u).1) F d).2.1 (spotM u).1 (spotM u).2.1), true), ⟨?_, ho.2.2.1, by simp only; omega, by simp only; omega, .inl (by simp only; omega)⟩, by simp only; omega, rfl, (by repeat first | exact Ym | refine Yl (.refl _) ?_), (by repeat first | exact X0 _ | apply X1 | apply X2 | exact X3 _)⟩
 show multi cs _ _ true = _
 rw [← hg, hUm]
 exact (rest_some h44 ho.1 hok).symm
 have hm : multi cs t left dn = (false, T0, (multi cs (kid u (spotM u).1) F d).2.2.1, (multi cs (kid u (spotM u).1) F d).2.2.2) := by rw [← hg, (hU.2.2 hokR).2.2]; exact rest_gone hU.1 hno
 rw [hm]
 exact AFin.mayPan (X := X) (fn := Tryz.f162) rfl (by repeat first | exact X0 _ | apply X1 | apply X2 | exact X3 _) (by simp)
 have hm : multi cs t left dn = (false, T0, (multi cs (kid u (spotM u).1) F d).2.2.1, (multi cs (kid u (spotM u).1) F d).2.2.2) := by rw [← hg, multi_T _ rfl h16 hlen, after]; rw [show (multi cs (kid u (spotM u).1) F d).1 = false by simpa using hno]; rfl
 rw [hm]
 exact AFin.mayPan (X := X) (fn := Tryz.f162) rfl (by repeat first | exact X0 _ | apply X1 | apply X2 | exact X3 _) (by simp)
 have hU : u.fit 1099511627776 ∧ (u.sz : Int) + 7 * F ≤ 268435456 ∧ multi cs u F d = rest cs u F d := ⟨hf, by rw [psz_F h16] at hz; exact hz, multi_F h16⟩
 refine Ye (Yb (Ya ?_))
 refine Z1 ?_
 refine Z23 ?_
 refine AOps.e rfl rfl rfl (AOp.callM [_, _] (step_c hS b mb F cs false d ⟨hF0, by omega⟩ u hf (by have := hU.2.1; omega) hc) (Yn rfl) rfl (fun hok => ?_) (fun hno => ?_))
 refine Z1 ?_
 refine Z12 ?_
 refine Z12 ?_
 refine Z7 (fun b8 => ?_)
 refine Z3 ?_
 refine Z2 ?_
 refine Yc (Yb (Yb (Ya ?_)))
 refine Z1 ?_
 refine Z65 ?_
 refine Yc ?_
 refine Zc (fun h44 => ?_) (fun h44 => ?_)
 try simp only [sz] at h44
 have hm : multi cs t left dn = (true, u, F, d) := by rw [← hg, (hU).2.2]; exact rest_none h44
 rw [hm, (step_no h44).2, Int.sub_zero]
 refine Yb (Ya ?_)
 refine Z39 ?_
 refine Z10 ?_
 refine Yc (Yd ?_)
 refine AFin.mayRet rfl (.cons (Yi (d := encT _) 1 rfl rfl rfl rfl) .nil) (by repeat first | exact X0 _ | apply X1 | apply X2) ?_ (rfl)
 exact .refl _
 try simp only [sz] at h44
 obtain ⟨hUf, hUz, hUm⟩ := hU
 have hU1 : F ≤ F := Int.le_refl _
 have ho := own_ok hc hUf (by omega) (step_yes h44)
 have h7 := psz_le _ (stepU cs u) rfl ho.2.2.1
 refine Ye (Yb (Ya ?_))
 refine Z1 ?_
 refine Z20 ?_
 refine Z34 ?_
 refine Z44 ?_
 refine Z6 ?_
 refine Z68 ?_
 refine Yc (Yb (Ya ?_))
 refine Z1 ?_
 refine Z44 ?_
 refine Z6 ?_
 refine Z83 ?_
 refine Yc (ACode.condF rfl (Ye ?_))
 refine ⟨(stepU cs u, F - stepC cs u, true), ⟨?_, ho.2.2.1, by simp only; omega, by simp only; omega, .inl (by simp only; omega)⟩, by simp only; omega, rfl, (by repeat first | exact Ym | refine Yl (.refl _) ?_), (by repeat first | exact X0 _ | apply X1 | apply X2 | exact X3 _)⟩
 show multi cs _ _ true = _
 rw [← hg, hUm]
 exact (rest_some h44 ho.1 hok).symm
 have hm : multi cs t left dn = (false, T0, F, d) := by rw [← hg, (hU).2.2]; exact rest_gone hF0 hno
 rw [hm]
 exact AFin.mayPan (X := X) (fn := Tryz.f162) rfl (by repeat first | exact X0 _ | apply X1 | apply X2 | exact X3 _) (by simp)
theorem at_c (cs : List Core) (left : Int) : ACalls X 161 [.slC cs, .int .i64 left] [] (fun r L' => ∃ b mb, r = .ret (.ptr b 0) ∧ L' = [(mb, .map (SM b)), (b, .cells 192 (workC left cs false false mb))]) := by
 refine Zf Tryz.func161 ?_
 refine Yb (Ya ?_)
 refine Z2 ?_
 refine Yc (Yb (Ya ?_))
 refine Z1 ?_
 refine Z52 ?_
 refine Z1 ?_
 refine Z52 ?_
 refine Z9 (fun b10 => ?_)
 refine Z2 ?_
 refine Yc (Yb (Ya ?_))
 refine Z1 ?_
 refine AOps.e rfl rfl rfl (AOp.makeMapN (fun mb => ?_))
 refine Z1 ?_
 refine Z54 ?_
 refine Z58 ?_
 refine Z1 ?_
 refine Z54 ?_
 refine Z58 ?_
 refine Z1 ?_
 refine Z54 ?_
 refine Z58 ?_
 refine Z1 ?_
 refine Z54 ?_
 refine Z58 ?_
 refine Z1 ?_
 refine Z54 ?_
 refine Z58 ?_
 refine Z1 ?_
 refine Z54 ?_
 refine Z58 ?_
 refine Z1 ?_
 refine Z54 ?_
 refine Z58 ?_
 refine Z1 ?_
 refine Z54 ?_
 refine Z58 ?_
 refine Z1 ?_
 refine Z44 ?_
 refine Z6 ?_
 refine Z10 ?_
 refine Yc (Yb (Ya ?_))
 refine Z1 ?_
 refine Z2 ?_
 refine Yc (Yd ?_)
 refine AFin.ret (X := X) (fn := Tryz.f161) (R := fun r L' => ∃ b mb, r = .ret (.ptr b 0) ∧ L' = [(mb, .map (SM b)), (b, .cells 192 (workC left cs false false mb))]) (L' := [(mb, .map (SM b10)), (b10, .cells 192 (workC left cs false false mb))]) rfl (.cons rfl .nil) (by repeat first | exact X0 _ | apply X1 | apply X2 | exact X3 _) (.refl _) ?_
 exact ⟨b10, mb, rfl, rfl⟩
end Sp

/- The walks of Whnf and Step. Written by a program of mine. -/
set_option linter.unusedVariables false
set_option linter.unusedSimpArgs false
set_option maxRecDepth 20000
namespace Sp
open Go Go.Proofs
theorem callAt {ρ : Operand → D} {L : Loc} {dst : Option Tmp} {ty : TypeId} {pos : String} {after : Array Edge} {guard : Option (Nat × Bool)} {K Kp : D → Loc → Prop} {xs : Array Operand} {tys : Array TypeId} {cs : List Core} {left : Int} (hx : xs.toList.map ρ = [.slC cs, .int .i64 left])
    (h : ∀ b mb, K (.ptr b 0) (L ++ [(mb, .map (SM b)), (b, .cells 192 (workC (left) cs false false mb))])) : AOp X ⟨dst, .call ⟨.value (.func 161), xs, tys⟩, ty, pos, after, guard⟩ ρ L K Kp :=
  AOp.callB L (at_c cs left) (Yn hx) (by simp) (fun d L' h' => by
    obtain ⟨b, mb, e, rfl⟩ := h'
    cases e; exact h b mb) (fun d L' h' => by obtain ⟨b, mb, e, _⟩ := h'; cases e)
theorem whnf1_ret (b6 b7 b8 : Nat) (d0 d1 d2 d3 d4 d5 d6 : D) (R : Loc) : ADef X 160 [.ptr b6 0, .ptr b7 0, .ptr b8 0] ((b8, .cells 30 [d6]) :: (b7, .cells 3 [d5]) :: (b6, .cells 27 [d0, d1, d2, d3, d4]) :: R) none ((b8, .cells 30 [d6]) :: (b7, .cells 3 [d5]) :: (b6, .cells 27 [d0, d1, d2, d3, d4]) :: R) := by
 refine ADef.of_code Tryz.func160 rfl (by rfl) (Nat.le_of_ble_eq_true rfl) rfl rfl rfl ?_
 refine Yb (Ya ?_)
 refine Z1 ?_
 refine Z90 ?_
 refine Yc (ACode.condF rfl (Ye ?_))
 exact ⟨.inl rfl, rfl, (by repeat first | exact X0 _ | apply X1 | apply X2 | exact X3 _)⟩
theorem whnf1_pan (b6 b7 b8 : Nat) (d0 d1 d2 d3 d4 d5 d6 : D) (R : Loc) : ADef X 160 [.ptr b6 0, .ptr b7 0, .ptr b8 0] ((b8, .cells 30 [d6]) :: (b7, .cells 3 [d5]) :: (b6, .cells 27 [d0, d1, d2, d3, d4]) :: R) (some (.iface 184 (.agg []))) ((b8, .cells 30 [.int .i64 5]) :: (b7, .cells 3 [.int .i64 0]) :: (b6, .cells 27 [.int .i64 0, .int .i64 0, .int .i64 0, .emp, .emp]) :: R) := by
 refine ADef.of_code Tryz.func160 rfl (by rfl) (Nat.le_of_ble_eq_true rfl) rfl rfl rfl ?_
 refine Yb (Ya ?_)
 refine Z1 ?_
 refine Z91 ?_
 refine Yc (ACode.condT rfl (Yb (Yb (Ya ?_))))
 refine Z1 ?_
 refine AOps.v rfl rfl rfl (AVal.assertOk rfl Tryz.underlying184 rfl) ?_
 refine Z1 ?_
 refine Z12 ?_
 refine Z12 ?_
 refine Z7 (fun b4 => ?_)
 refine Z3 ?_
 refine Z2 ?_
 refine Yc (Yb (Ya ?_))
 refine Z1 ?_
 refine Z65 ?_
 refine Yc (ACode.condF rfl (Ye (Ya ?_)))
 refine Z52 ?_
 refine Z67 ?_
 refine Z34 ?_
 refine Z10 ?_
 refine Yc ?_
 exact ⟨.inl rfl, rfl, (by repeat first | exact X0 _ | apply X1 | apply X2 | exact X3 _)⟩
theorem whnf_c {t : Term} {fuel : Int} (hS : SortedOk) (cs : List Core) (hc : 0 ≤ fuel ∧ fuel ≤ 1073741824 → CoresOk cs ∧ t.fit 1099511627776 ∧ (psz t : Int) + 7 * fuel ≤ 268435456) : AFn X 125 [.slC cs, encT t, .int .i64 fuel] (.tup [encT (whnfM cs t fuel).1, .int .i64 (whnfM cs t fuel).2.1, .int .i64 (whnfM cs t fuel).2.2]) := by
 refine ACalls.of_codeD Tryz.func125 rfl (by rfl) (Nat.le_of_ble_eq_true rfl) ?_
 refine Yb (Ya ?_)
 refine Z9 (fun b4 => ?_)
 refine Z7 (fun b6 => ?_)
 refine Z7 (fun b7 => ?_)
 refine Z7 (fun b8 => ?_)
 refine Yc (Yb (Yb (Ya ?_)))
 refine Z1 ?_
 refine Z26 ?_
 refine Z1 ?_
 refine Zs 12 (fun h12 => ?_) (fun h12 => ?_)
 try simp only [sz] at h12
 refine Z4 ?_
 refine Z4 ?_
 refine Z15 ?_
 refine Yc (ACode.condT rfl (Yb (Ya ?_)))
 refine Z35 ?_
 refine Z34 ?_
 refine Z10 ?_
 refine Z3 ?_
 refine Yc (Yd ?_)
 refine AFinD.ret0 (X := X) (fn := Tryz.f125) (R := fun r _ => r = .ret (.tup [encT (whnfM cs t fuel).1, .int .i64 (whnfM cs t fuel).2.1, .int .i64 (whnfM cs t fuel).2.2])) (.cons (Yi 2 rfl rfl rfl rfl) (.cons (by first  | exact Yi 0 rfl rfl rfl rfl | exact Yi 1 rfl rfl rfl rfl | exact Yi 2 rfl rfl rfl rfl) (.cons (by first  | exact Yi 0 rfl rfl rfl rfl | exact Yi 1 rfl rfl rfl rfl | exact Yi 2 rfl rfl rfl rfl) .nil))) (List.nil_sublist _) ?_ rfl
 rw [whnfM_arg (by omega)]
 exact tupLe (.cons (leT' .emp .emp rfl) (.cons (.refl _) (.cons (.refl _) .nil)))
 try simp only [sz] at h12
 refine Z14 ?_
 refine Z59 ?_
 refine Z13 ?_
 refine Yc ?_
 refine Zc (fun h15 => ?_) (fun h15 => ?_)
 try simp only [sz] at h15
 refine Yb (Ya ?_)
 refine Z35 ?_
 refine Z34 ?_
 refine Z10 ?_
 refine Z3 ?_
 refine Yc (Yd ?_)
 refine AFinD.ret0 (X := X) (fn := Tryz.f125) (R := fun r _ => r = .ret (.tup [encT (whnfM cs t fuel).1, .int .i64 (whnfM cs t fuel).2.1, .int .i64 (whnfM cs t fuel).2.2])) (.cons (Yi 2 rfl rfl rfl rfl) (.cons (by first  | exact Yi 0 rfl rfl rfl rfl | exact Yi 1 rfl rfl rfl rfl | exact Yi 2 rfl rfl rfl rfl) (.cons (by first  | exact Yi 0 rfl rfl rfl rfl | exact Yi 1 rfl rfl rfl rfl | exact Yi 2 rfl rfl rfl rfl) .nil))) (List.nil_sublist _) ?_ rfl
 rw [whnfM_arg (by omega)]
 exact tupLe (.cons (leT' .emp .emp rfl) (.cons (.refl _) (.cons (.refl _) .nil)))
 try simp only [sz] at h15
 obtain ⟨hC, hF, hZ⟩ := hc (by omega)
 have hR := multi_ok hC _ t fuel false rfl hF (by omega) hZ
 refine Ye (Yb (Ya ?_))
 refine Z54 ?_
 refine AOps.deferP (ps := [b6, b7, b8]) rfl ?_
 refine Yc (Yb (Ya ?_))
 refine Z1 ?_
 refine Z1 ?_
 refine AOps.e rfl rfl rfl (callAt (cs := cs) (left := fuel) rfl (fun b mb => ?_))
 simp only [List.cons_append, List.nil_append]
 refine Z2 ?_
 refine Yc (Yb (Ya ?_))
 refine Z1 ?_
 refine AOps.v rfl rfl rfl (AVal.loadP (d := encT _) 3 rfl rfl rfl rfl) ?_
 refine AOps.e rfl rfl rfl (AOp.callM [_, _, _, _] (head_c hS b mb cs hC _ fuel rfl _ t rfl false (by omega) hF hZ) (Yn rfl) rfl (fun hokR => ?_) (fun hno => ?_))
 refine AOps.e rfl rfl rfl (Yk (lift_c _ 0 0 (hR.2.2 hokR).1 (by have := (hR.2.2 hokR).2; omega)) (Yn rfl) ?_)
 refine Z34 ?_
 refine Yc (Yb ?_)
 refine Yj [.l 0, .p 1, .p 2, .p 3, .p 4, .l 5, .e 6 [5], .e 7 [], .e 8 []] mixed (by kernel_rfl) ?_
 refine Z55 ?_
 refine Z5 ?_
 refine Z38 ?_
 refine Z8 ?_
 refine Z8 ?_
 refine ASeq.lv rfl rfl rfl rfl (Yv 5 rfl rfl (by constructor)) ?_
 refine ASeq.ee0 rfl rfl rfl rfl (AOp.storeN 2 rfl rfl rfl (by constructor) rfl rfl rfl (by repeat constructor) (by repeat constructor) ⟨(Keeps.cons (Yv 5 rfl rfl (.refl _)) Yo), ?_⟩)
 refine Z42 ?_
 refine Z25 ?_
 refine ASeq.nil (Yd ?_)
 refine AFinD.retD (X := X) (fn := Tryz.f125) (R := fun r _ => r = .ret (.tup [encT (whnfM cs t fuel).1, .int .i64 (whnfM cs t fuel).2.1, .int .i64 (whnfM cs t fuel).2.2])) (g := 160) (ps := [b6, b7, b8]) (whnf1_ret b6 b7 b8 _ _ _ _ _ _ _ _) (.cons (Yi (d := encT _) 2 rfl rfl rfl rfl) (.cons (by first  | exact Yi 0 rfl rfl rfl rfl | exact Yi 1 rfl rfl rfl rfl | exact Yi 2 rfl rfl rfl rfl) (.cons (by first  | exact Yi 0 rfl rfl rfl rfl | exact Yi 1 rfl rfl rfl rfl | exact Yi 2 rfl rfl rfl rfl) .nil))) (List.nil_sublist _) (D.Le.eq ?_) rfl
 rw [whnfM_ok (by omega) hokR, lift00 (hR.2.2 hokR).1]; rfl
 refine AFinD.panD (X := X) (fn := Tryz.f125) (R := fun r _ => r = .ret (.tup [encT (whnfM cs t fuel).1, .int .i64 (whnfM cs t fuel).2.1, .int .i64 (whnfM cs t fuel).2.2])) (g := 160) (ps := [b6, b7, b8]) (whnf1_pan b6 b7 b8 _ _ _ _ _ _ _ _) (.cons (Yi 2 rfl rfl rfl rfl) (.cons (by first  | exact Yi 0 rfl rfl rfl rfl | exact Yi 1 rfl rfl rfl rfl | exact Yi 2 rfl rfl rfl rfl) (.cons (by first  | exact Yi 0 rfl rfl rfl rfl | exact Yi 1 rfl rfl rfl rfl | exact Yi 2 rfl rfl rfl rfl) .nil))) (List.nil_sublist _) ?_ rfl
 rw [whnfM_gone (by omega) hno]
 exact tupLe (.cons (leT' .emp .emp rfl) (.cons (.refl _) (.cons (.refl _) .nil)))
end Sp
