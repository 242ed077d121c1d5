/- Walks of the program's functions and what they compute: contracts of calls; no condition beyond those that each theorem names. -/
import Derived.Test.YtbnknhpebkcpmaaGreatDoorBe
import Derived.Test.YtbnknhpebkcpmaaGreatDoorKc
import Derived.Test.YtbnknhpebkcpmaaGreatDoorKd
/- The walks of infer: the table, infer and check. Written by a program of mine. -/
set_option linter.unusedVariables false
set_option linter.unusedSimpArgs false
set_option maxRecDepth 20000
namespace Sp
open Go Go.Proofs
def RI : List (Int × D) := [(1, .func (.func 135) [] []), (2, .func (.func 136) [] []), (3, .func (.func 137) [] []), (4, .func (.func 138) [] []), (12, .func (.func 138) [] []), (16, .func (.func 138) [] []), (5, .func (.func 139) [] []), (6, .func (.func 140) [] []), (7, .func (.func 141) [] []), (14, .func (.func 142) [] []), (15, .func (.func 142) [] []), (18, .func (.func 143) [] []), (19, .func (.func 144) [] []), (21, .func (.func 145) [] []), (22, .func (.func 146) [] []), (23, .func (.func 147) [] []), (24, .func (.func 148) [] [])]
theorem irules_c  : ACalls X 98 [] [] (fun r L' => ∃ b, r = .ret (.map b) ∧ L' = [(b, .map RI)]) := by
 refine Zf Tryz.func98 ?_
 refine Yb (Ya ?_)
 refine Z2 ?_
 refine Yc (Yb (Ya ?_))
 refine AOps.e rfl rfl rfl (AOp.makeMapN (fun mb => ?_))
 refine Z37 ?_
 refine Z37 ?_
 refine Z37 ?_
 refine Z37 ?_
 refine Z37 ?_
 refine Z37 ?_
 refine Z37 ?_
 refine Z37 ?_
 refine Z37 ?_
 refine Z37 ?_
 refine Z37 ?_
 refine Z37 ?_
 refine Z37 ?_
 refine Z37 ?_
 refine Z37 ?_
 refine Z37 ?_
 refine Z37 ?_
 refine Z1 ?_
 refine Z2 ?_
 refine Yc (Yd ?_)
 refine AFin.ret (X := X) (fn := Tryz.f98) (R := fun r L' => ∃ b, r = .ret (.map b) ∧ L' = [(b, .map RI)]) (L' := [(mb, .map RI)]) rfl (.cons rfl .nil) (by repeat first | exact X0 _ | apply X1 | apply X2 | exact X3 _) (.refl _) ⟨mb, rfl, rfl⟩
theorem infer_in (b bm : Nat) (cs : List Core) (nl : Int) (RM : List (Int × D)) (F : Int) (c : List Term) (t : Term) (h1 : F ≤ 1073741824) (f : FuncId) (r : RS Term) (hget : mget RM t.kind = some (.func (.func f) [] [])) (hc : 1 ≤ F → ARs X f [.ptr b 0, .slT c, encT t] 30 (fun F => [(b, .cells 136 [.int .i64 (F), .slC cs, .int .i64 nl, .map bm]), (bm, .map RM)]) (F - 1) encT r) : ARs X 51 [.ptr b 0, .slT c, encT t] 30 (fun F => [(b, .cells 136 [.int .i64 (F), .slC cs, .int .i64 nl, .map bm]), (bm, .map RM)]) F encT (if 1 ≤ F then r else .er 5) := by
 refine Zf Tryz.func51 ?_
 refine Yb (Ya ?_)
 refine Z9 (fun b5 => ?_)
 refine Z7 (fun b6 => ?_)
 refine Yc (Yb (Ya ?_))
 refine Z1 ?_
 refine Z44 ?_
 refine Z6 ?_
 refine AOps.e rfl rfl rfl (AOp.callR [_, _] (iburn_c b bm cs nl RM F 1 (by omega) h1) (Yn rfl) rfl (fun u G he => ?_) (fun er Ge he => ?_))
 obtain ⟨b1, rfl⟩ := burn_inv he
 refine Yc (Yb ?_)
 refine Yj [.p 0, .p 1, .p 2, .l 3, .p 4, .l 5, .e 6 [], .p 7, .p 8, .p 9, .p 10, .p 11] mixed (by kernel_rfl) ?_
 refine Z5 ?_
 refine Z38 ?_
 refine Z8 ?_
 refine Z45 ?_
 refine Z8 ?_
 refine Z36 ?_
 refine ASeq.ev0 rfl rfl rfl rfl rfl Yo (AVal.lookupOk (e := 140) (d0 := .nilf) (d1 := .func (.func f) [] []) (ok := true) 3 rfl rfl rfl (by kernel_rfl) (by kernel_rfl) (by rw [hget]; rfl) (by rw [hget]; rfl)) ?_
 refine Z5 ?_
 refine Z29 ?_
 refine Z29 ?_
 refine Z17 ?_
 refine Z17 ?_
 refine ASeq.nil (Yb (Ya ?_))
 refine Z1 ?_
 refine AOps.e rfl rfl rfl (AOp.callME (imust_c true 14) (Yn rfl) (fun hok => ?_) (fun hno => ?_))
 refine Yc (Yb (Ya ?_))
 refine Z1 ?_
 refine Z1 ?_
 refine Z1 ?_
 refine Z23 ?_
 refine AOps.e rfl rfl rfl (AOp.callVR [_, _] rfl (hc b1) (Yn rfl) rfl (fun x G2 he2 => ?_) (fun er Ge he2 => ?_))
 refine Z3 ?_
 refine Yc (Yd ?_)
 refine AFin.rRet (x) (G2) rfl (.cons (Yi (d := encT _) 0 rfl rfl rfl rfl) .nil) (by repeat first | exact X0 _ | apply X1 | apply X2) ?_ ((if_pos b1).trans he2)
 exact .refl _
 exact AFin.rPan (X := X) (fn := Tryz.f51) (Ge) rfl (by repeat first | exact X0 _ | apply X1 | apply X2 | exact X3 _) ((if_pos b1).trans he2)
 exact absurd rfl hno
 exact AFin.rPan (X := X) (fn := Tryz.f51) (Ge) rfl (by repeat first | exact X0 _ | apply X1 | apply X2 | exact X3 _) ((if_neg (burn_er he).1).trans (by rw [(burn_er he).2]))
theorem infer_none (b bm : Nat) (cs : List Core) (nl : Int) (RM : List (Int × D)) (F : Int) (c : List Term) (t : Term) (h1 : F ≤ 1073741824) (hget : mget RM t.kind = none) : ARs X 51 [.ptr b 0, .slT c, encT t] 30 (fun F => [(b, .cells 136 [.int .i64 (F), .slC cs, .int .i64 nl, .map bm]), (bm, .map RM)]) F encT (if 1 ≤ F then .er 14 else .er 5) := by
 refine Zf Tryz.func51 ?_
 refine Yb (Ya ?_)
 refine Z9 (fun b5 => ?_)
 refine Z7 (fun b6 => ?_)
 refine Yc (Yb (Ya ?_))
 refine Z1 ?_
 refine Z44 ?_
 refine Z6 ?_
 refine AOps.e rfl rfl rfl (AOp.callR [_, _] (iburn_c b bm cs nl RM F 1 (by omega) h1) (Yn rfl) rfl (fun u G he => ?_) (fun er Ge he => ?_))
 obtain ⟨b1, rfl⟩ := burn_inv he
 refine Yc (Yb ?_)
 refine Yj [.p 0, .p 1, .p 2, .l 3, .p 4, .l 5, .e 6 [], .p 7, .p 8, .p 9, .p 10, .p 11] mixed (by kernel_rfl) ?_
 refine Z5 ?_
 refine Z38 ?_
 refine Z8 ?_
 refine Z45 ?_
 refine Z8 ?_
 refine Z36 ?_
 refine ASeq.ev0 rfl rfl rfl rfl rfl Yo (AVal.lookupOk (e := 140) (d0 := .nilf) (d1 := .nilf) (ok := false) 3 rfl rfl rfl (by kernel_rfl) (by kernel_rfl) (by rw [hget]; rfl) (by rw [hget]; rfl)) ?_
 refine Z5 ?_
 refine Z29 ?_
 refine Z29 ?_
 refine Z17 ?_
 refine Z17 ?_
 refine ASeq.nil (Yb (Ya ?_))
 refine Z1 ?_
 refine AOps.e rfl rfl rfl (AOp.callME (imust_c false 14) (Yn rfl) (fun hok => absurd hok (by simp)) (fun hno => ?_))
 exact AFin.rPan (X := X) (fn := Tryz.f51) (F - 1) rfl (by repeat first | exact X0 _ | apply X1 | apply X2 | exact X3 _) (if_pos b1)
 exact AFin.rPan (X := X) (fn := Tryz.f51) (Ge) rfl (by repeat first | exact X0 _ | apply X1 | apply X2 | exact X3 _) ((if_neg (burn_er he).1).trans (by rw [(burn_er he).2]))
set_option maxHeartbeats 8000000 in
theorem check_in (b bm : Nat) (cs : List Core) (nl : Int) (RM : List (Int × D)) (F : Int) (hS : SortedOk) (hC : CoresOk cs) {cn : List Int} {inf : List Term → Term → Int → RS Term} {chk : List Term → Term → Term → Int → RS Unit} {n : Int} (hn : n ≤ 1073741824) (K : Known nl cn inf chk n) (HI : ∀ c t F, CtxOk c F → AskOk nl cn c t F → 0 ≤ F → F ≤ n → ARs X 51 [.ptr b 0, .slT c, encT t] 30 (fun F => [(b, .cells 136 [.int .i64 (F), .slC cs, .int .i64 nl, .map bm]), (bm, .map RM)]) F encT (inf c t F)) (HC : ∀ c t ty F, CtxOk c F → AskOk nl cn c t F → TyOk ty F → 0 ≤ F → F ≤ n → ARs X 60 [.ptr b 0, .slT c, encT t, encT ty] 30 (fun F => [(b, .cells 136 [.int .i64 (F), .slC cs, .int .i64 nl, .map bm]), (bm, .map RM)]) F (fun _ => D.tup []) (chk c t ty F)) (c : List Term) (t ty : Term) (hc : CtxOk c F) (ht : AskOk nl cn c t F) (hy : TyOk ty F) (h0 : 0 ≤ F) (h1 : F ≤ n + 1) (hn2 : F ≤ 1073741824) : ARs X 60 [.ptr b 0, .slT c, encT t, encT ty] 30 (fun F => [(b, .cells 136 [.int .i64 (F), .slC cs, .int .i64 nl, .map bm]), (bm, .map RM)]) F (fun _ => D.tup []) ((burnI 1 F).bind fun _ F => checkI cs inf chk c t ty F) := by
 obtain ⟨Fz, rfl⟩ : ∃ Fz, F = Fz + 1 := ⟨F - 1, by omega⟩
 have ht1 : AskOk nl cn c t Fz := ht.mono (by omega)
 have hyz := hy.2
 have hcl := hc.1
 refine Zf Tryz.func60 ?_
 refine Yb (Ya ?_)
 refine Z9 (fun b6 => ?_)
 refine Z9 (fun b7 => ?_)
 refine Yc (Yb (Ya ?_))
 refine Z1 ?_
 refine Z44 ?_
 refine Z6 ?_
 refine AOps.e rfl rfl rfl (AOp.callR [_, _] (iburn_c b bm cs nl RM (Fz + 1) 1 (by omega) hn2) (Yn rfl) rfl (fun u G he => ?_) (fun er Ge he => ?_))
 obtain ⟨b1, hG⟩ := burn_inv he
 obtain rfl : Fz = G := by omega
 have g0 : 0 ≤ Fz := by omega
 refine Yc (Yb (Ya ?_))
 refine Z6 ?_
 refine Z16 ?_
 refine Yc (Yf (Yb (Ya ?_)))
 refine Z40 ?_
 refine Z2 ?_
 refine Yc ?_
 refine Zc (fun h53 => ?_) (fun h53 => ?_)
 try simp only [sz] at h53
 have hk : t.kind = 5 := h53
 have htz := ht1.2.2
 have hl : (t.kids.length : Int) = 2 := by have e := hk; exact len_at ht1.1 e (fun _ _ _ _ _ _ _ _ => rfl)
 have hb0 : binds t.kind 0 = false := by have e := hk; (rw [e]; rfl)
 have hb1 : binds t.kind 1 = true := by have e := hk; (rw [e]; rfl)
 rcases t with ⟨k0, n0, a0, ls, ks⟩
 obtain ⟨x0, x1, rfl⟩ : ∃ x0 x1, ks = [x0, x1] := by
   have hl2 : ks.length = 2 := by have h : (ks.length : Int) = _ := hl; omega
   match ks, hl2 with
   | [x0, x1], _ => exact ⟨x0, x1, rfl⟩
 have hx0 : fsz x0 ≤ fsz (.mk k0 n0 a0 ls [x0, x1]) := fsz_kid (.mk k0 n0 a0 ls [x0, x1]) 0
 have x0f : x0.fit 1099511627776 := kid_fit ht1.2.1 0
 have hx1 : fsz x1 ≤ fsz (.mk k0 n0 a0 ls [x0, x1]) := fsz_kid (.mk k0 n0 a0 ls [x0, x1]) 1
 have x1f : x1.fit 1099511627776 := kid_fit ht1.2.1 1
 refine Yb (Ya ?_)
 refine Z1 ?_
 refine Z20 ?_
 refine AOps.e rfl rfl rfl (AOp.callR [_, _] (ias_c b bm cs nl RM Fz hS hC ty 4 8 g0 (by omega) ⟨hy.1, by omega⟩) (Yn rfl) rfl (fun ab G2 he2 => ?_) (fun er Ge he2 => ?_))
 obtain ⟨g2, g3, af, bf, az, bz⟩ := asI_ok hC g0 (by omega) ⟨hy.1, by omega⟩ he2
 refine Z1 ?_
 refine Z12 ?_
 refine Z12 ?_
 refine Z7 (fun b8 => ?_)
 refine Z7 (fun b9 => ?_)
 refine Z10 ?_
 refine Z3 ?_
 refine Yc (Yb (Ya ?_))
 refine Z1 ?_
 refine Z1 ?_
 refine Z6 ?_
 refine Z66 ?_
 refine Z75 ?_
 refine Z41 ?_
 refine AOps.e rfl rfl rfl (AOp.callR [_, _, _, _] (isort_c b bm cs nl RM G2 hS hC hn K HI HC c x0 (hc.mono (by omega)) (ht1.kidR (i := 0) (by omega) hb0 (by omega) (by omega)) g2 (by omega)) (Yn rfl) rfl (fun l G3 he3 => ?_) (fun er Ge he3 => ?_))
 obtain ⟨g4, g5, _⟩ := sortI_ok K hC hn (hc.mono (by omega)) (ht1.kidR (i := 0) (by omega) hb0 (by omega) (by omega)) g2 (by omega) he3
 refine Yc (Yb ?_)
 refine Yj [.p 0, .p 1, .l 2, .p 3, .p 4, .l 5, .e 6 []] mixed (by kernel_rfl) ?_
 refine Z5 ?_
 refine Z8 ?_
 refine Z43 ?_
 refine Z22 ?_
 refine Z21 ?_
 refine Z28 ?_
 refine ASeq.ee rfl rfl rfl rfl rfl (AOp.callR [_, _, _, _] (ione_c b bm cs nl RM G3 hS hC x0 ab.1 13 g4 (by omega) ⟨x0f, by omega⟩ ⟨af, by omega⟩) (Yn rfl) rfl (fun v2 G4 he4 => ⟨Yo, ?_⟩) (fun er Ge he4 => ?_))
 obtain ⟨g6, g7⟩ := oneI_ok hC g4 (by omega) ⟨x0f, by omega⟩ ⟨af, by omega⟩ he4
 refine ASeq.nil ?_
 refine Yj [.p 0, .p 1, .p 2, .l 3, .p 4, .p 5, .p 6, .p 7, .p 8, .l 9, .p 10, .p 11, .l 12, .e 13 []] mixed (by kernel_rfl) ?_
 refine Z5 ?_
 refine Z5 ?_
 refine Z8 ?_
 refine Z43 ?_
 refine Z22 ?_
 refine Z21 ?_
 refine Z57 ?_
 refine ASeq.pe rfl rfl rfl rfl (fun L0 => (Yk (ibelow_c c x0 (by omega)) (Yn rfl) ⟨rfl, rfl⟩)) ?_
 refine Z8 ?_
 refine Z43 ?_
 refine Z22 ?_
 refine Z21 ?_
 refine Z31 ?_
 refine ASeq.ee rfl rfl rfl rfl rfl (AOp.callR [_, _, _, _] (HC (c ++ [x0]) x1 ab.2 G4 (hc.put ht1 g0 (by omega) 0) (ht1.kidB (i := 1) (by omega) hb1 (by omega) (by omega)) ⟨bf, by omega⟩ g6 (by omega)) (Yn rfl) rfl (fun v3 G5 he5 => ⟨Yo, ?_⟩) (fun er Ge he5 => ?_))
 refine ASeq.nil ?_
 refine AFin.rEnd (()) (G5) rfl .nil (by repeat first | exact X0 _ | apply X1 | apply X2) ?_ ((Ys he).trans ((check_lam hk).trans ((Ys he2).trans ((Ys he3).trans ((Ys he4).trans (he5))))))
 exact .refl _
 exact AFin.rPan (X := X) (fn := Tryz.f60) (Ge) rfl (by repeat first | exact X0 _ | apply X1 | apply X2 | exact X3 _) ((Ys he).trans ((check_lam hk).trans ((Ys he2).trans ((Ys he3).trans ((Ys he4).trans (he5))))))
 exact AFin.rPan (X := X) (fn := Tryz.f60) (Ge) rfl (by repeat first | exact X0 _ | apply X1 | apply X2 | exact X3 _) ((Ys he).trans ((check_lam hk).trans ((Ys he2).trans ((Ys he3).trans (RS.bind_er he4)))))
 exact AFin.rPan (X := X) (fn := Tryz.f60) (Ge) rfl (by repeat first | exact X0 _ | apply X1 | apply X2 | exact X3 _) ((Ys he).trans ((check_lam hk).trans ((Ys he2).trans (RS.bind_er he3))))
 exact AFin.rPan (X := X) (fn := Tryz.f60) (Ge) rfl (by repeat first | exact X0 _ | apply X1 | apply X2 | exact X3 _) ((Ys he).trans ((check_lam hk).trans (RS.bind_er he2)))
 try simp only [sz] at h53
 refine Yb (Ya ?_)
 refine Z40 ?_
 refine Z2 ?_
 refine Yc ?_
 refine Zc (fun h89 => ?_) (fun h89 => ?_)
 try simp only [sz] at h89
 have hk : t.kind = 13 := h89
 have htz := ht1.2.2
 have hl : (t.kids.length : Int) = 2 := by have e := hk; exact len_at ht1.1 e (fun _ _ _ _ _ _ _ _ => rfl)
 have hb0 : binds t.kind 0 = false := by have e := hk; (rw [e]; rfl)
 have hb1 : binds t.kind 1 = false := by have e := hk; (rw [e]; rfl)
 rcases t with ⟨k0, n0, a0, ls, ks⟩
 obtain ⟨x0, x1, rfl⟩ : ∃ x0 x1, ks = [x0, x1] := by
   have hl2 : ks.length = 2 := by have h : (ks.length : Int) = _ := hl; omega
   match ks, hl2 with
   | [x0, x1], _ => exact ⟨x0, x1, rfl⟩
 have hx0 : fsz x0 ≤ fsz (.mk k0 n0 a0 ls [x0, x1]) := fsz_kid (.mk k0 n0 a0 ls [x0, x1]) 0
 have x0f : x0.fit 1099511627776 := kid_fit ht1.2.1 0
 have hx1 : fsz x1 ≤ fsz (.mk k0 n0 a0 ls [x0, x1]) := fsz_kid (.mk k0 n0 a0 ls [x0, x1]) 1
 have x1f : x1.fit 1099511627776 := kid_fit ht1.2.1 1
 refine Yb (Ya ?_)
 refine Z1 ?_
 refine Z20 ?_
 refine AOps.e rfl rfl rfl (AOp.callR [_, _] (ias_c b bm cs nl RM Fz hS hC ty 12 9 g0 (by omega) ⟨hy.1, by omega⟩) (Yn rfl) rfl (fun ab G2 he2 => ?_) (fun er Ge he2 => ?_))
 obtain ⟨g2, g3, af, bf, az, bz⟩ := asI_ok hC g0 (by omega) ⟨hy.1, by omega⟩ he2
 refine Z1 ?_
 refine Z12 ?_
 refine Z12 ?_
 refine Z7 (fun b10 => ?_)
 refine Z7 (fun b11 => ?_)
 refine Z10 ?_
 refine Z3 ?_
 refine Yc (Yb ?_)
 refine Yj [.p 0, .p 1, .p 2, .l 3, .p 4, .p 5, .l 6, .e 7 []] mixed (by kernel_rfl) ?_
 refine Z5 ?_
 refine Z5 ?_
 refine Z8 ?_
 refine Z43 ?_
 refine Z22 ?_
 refine Z21 ?_
 refine Z28 ?_
 refine ASeq.ee rfl rfl rfl rfl rfl (AOp.callR [_, _, _, _] (HC c x0 ab.1 G2 (hc.mono (by omega)) (ht1.kidR (i := 0) (by omega) hb0 (by omega) (by omega)) ⟨af, by omega⟩ g2 (by omega)) (Yn rfl) rfl (fun v G3 he3 => ⟨Yo, ?_⟩) (fun er Ge he3 => ?_))
 obtain ⟨g4, g5⟩ := K.chk c x0 ab.1 G2 v G3 (hc.mono (by omega)) (ht1.kidR (i := 0) (by omega) hb0 (by omega) (by omega)) ⟨af, by omega⟩ g2 (by omega) he3
 refine ASeq.nil ?_
 refine Yj [.p 0, .p 1, .p 2, .l 3, .p 4, .p 5, .p 6, .l 7, .p 8, .l 9, .p 10, .p 11, .e 12 [3], .e 13 []] mixed (by kernel_rfl) ?_
 refine Z5 ?_
 refine Z5 ?_
 refine Z8 ?_
 refine Z43 ?_
 refine Z22 ?_
 refine Z21 ?_
 refine Z5 ?_
 refine Z31 ?_
 refine Z8 ?_
 refine Z43 ?_
 refine Z22 ?_
 refine Z21 ?_
 refine ASeq.ee rfl rfl rfl rfl rfl (AOp.callR [_, _, _, _] (iput_c b bm cs nl RM G3 ab.2 x0 g4 (by omega) bf x0f (by have := sz_le_fsz ab.2; omega) (by have := sz_le_fsz x0; omega)) (Yn rfl) rfl (fun y G4 he4 => ⟨(Keeps.cons (Yv 3 rfl rfl (.refl _)) Yo), ?_⟩) (fun er Ge he4 => ?_))
 obtain ⟨_, g6, g7, yf, yz⟩ := putI_ok bf x0f he4
 refine ASeq.ee rfl rfl rfl rfl rfl (AOp.callR [_, _, _, _] (HC c x1 y G4 (hc.mono (by omega)) (ht1.kidR (i := 1) (by omega) hb1 (by omega) (by omega)) ⟨yf, by omega⟩ g6 (by omega)) (Yn rfl) rfl (fun v3 G5 he5 => ⟨Yo, ?_⟩) (fun er Ge he5 => ?_))
 refine ASeq.nil ?_
 refine AFin.rEnd (()) (G5) rfl .nil (by repeat first | exact X0 _ | apply X1 | apply X2) ?_ ((Ys he).trans ((check_pair hk).trans ((Ys he2).trans ((Ys he3).trans ((Ys he4).trans (he5))))))
 exact .refl _
 exact AFin.rPan (X := X) (fn := Tryz.f60) (Ge) rfl (by repeat first | exact X0 _ | apply X1 | apply X2 | exact X3 _) ((Ys he).trans ((check_pair hk).trans ((Ys he2).trans ((Ys he3).trans ((Ys he4).trans (he5))))))
 exact AFin.rPan (X := X) (fn := Tryz.f60) (Ge) rfl (by repeat first | exact X0 _ | apply X1 | apply X2 | exact X3 _) ((Ys he).trans ((check_pair hk).trans ((Ys he2).trans ((Ys he3).trans (RS.bind_er he4)))))
 exact AFin.rPan (X := X) (fn := Tryz.f60) (Ge) rfl (by repeat first | exact X0 _ | apply X1 | apply X2 | exact X3 _) ((Ys he).trans ((check_pair hk).trans ((Ys he2).trans (RS.bind_er he3))))
 exact AFin.rPan (X := X) (fn := Tryz.f60) (Ge) rfl (by repeat first | exact X0 _ | apply X1 | apply X2 | exact X3 _) ((Ys he).trans ((check_pair hk).trans (RS.bind_er he2)))
 try simp only [sz] at h89
 refine Yb (Ya ?_)
 refine Z40 ?_
 refine Z2 ?_
 refine Yc ?_
 refine Zc (fun h119 => ?_) (fun h119 => ?_)
 try simp only [sz] at h119
 have hk : t.kind = 17 := h119
 have htz := ht1.2.2
 have hl : (t.kids.length : Int) = 2 := by have e := hk; exact len_at ht1.1 e (fun _ _ _ _ _ _ _ _ => rfl)
 have hb0 : binds t.kind 0 = false := by have e := hk; (rw [e]; rfl)
 have hb1 : binds t.kind 1 = false := by have e := hk; (rw [e]; rfl)
 rcases t with ⟨k0, n0, a0, ls, ks⟩
 obtain ⟨x0, x1, rfl⟩ : ∃ x0 x1, ks = [x0, x1] := by
   have hl2 : ks.length = 2 := by have h : (ks.length : Int) = _ := hl; omega
   match ks, hl2 with
   | [x0, x1], _ => exact ⟨x0, x1, rfl⟩
 have hx0 : fsz x0 ≤ fsz (.mk k0 n0 a0 ls [x0, x1]) := fsz_kid (.mk k0 n0 a0 ls [x0, x1]) 0
 have x0f : x0.fit 1099511627776 := kid_fit ht1.2.1 0
 have hx1 : fsz x1 ≤ fsz (.mk k0 n0 a0 ls [x0, x1]) := fsz_kid (.mk k0 n0 a0 ls [x0, x1]) 1
 have x1f : x1.fit 1099511627776 := kid_fit ht1.2.1 1
 refine Yb (Ya ?_)
 refine Z1 ?_
 refine Z20 ?_
 refine AOps.e rfl rfl rfl (AOp.callR [_, _] (ias_c b bm cs nl RM Fz hS hC ty 16 10 g0 (by omega) ⟨hy.1, by omega⟩) (Yn rfl) rfl (fun ab G2 he2 => ?_) (fun er Ge he2 => ?_))
 obtain ⟨g2, g3, af, bf, az, bz⟩ := asI_ok hC g0 (by omega) ⟨hy.1, by omega⟩ he2
 have abz := asI_two hC g0 (by omega) ⟨hy.1, by omega⟩ he2
 refine Z1 ?_
 refine Z12 ?_
 refine Z12 ?_
 refine Z7 (fun b12 => ?_)
 refine Z7 (fun b13 => ?_)
 refine Z10 ?_
 refine Z3 ?_
 refine Yc (Yb ?_)
 refine Yj [.p 0, .p 1, .p 2, .l 3, .p 4, .p 5, .l 6, .e 7 []] mixed (by kernel_rfl) ?_
 refine Z5 ?_
 refine Z5 ?_
 refine Z8 ?_
 refine Z43 ?_
 refine Z22 ?_
 refine Z21 ?_
 refine Z28 ?_
 refine ASeq.ee rfl rfl rfl rfl rfl (AOp.callR [_, _, _, _] (HC c x0 ab.1 G2 (hc.mono (by omega)) (ht1.kidR (i := 0) (by omega) hb0 (by omega) (by omega)) ⟨af, by omega⟩ g2 (by omega)) (Yn rfl) rfl (fun v G3 he3 => ⟨Yo, ?_⟩) (fun er Ge he3 => ?_))
 obtain ⟨g4, g5⟩ := K.chk c x0 ab.1 G2 v G3 (hc.mono (by omega)) (ht1.kidR (i := 0) (by omega) hb0 (by omega) (by omega)) ⟨af, by omega⟩ g2 (by omega) he3
 refine ASeq.nil ?_
 refine Yj [.p 0, .p 1, .p 2, .l 3, .p 4, .p 5, .p 6, .l 7, .p 8, .l 9, .p 10, .p 11, .l 13, .l 15, .e 12 [3, 13, 15], .p 14, .p 16, .p 17, .p 18, .p 19, .p 20, .e 21 []] mixed (by kernel_rfl) ?_
 refine Z5 ?_
 refine Z5 ?_
 refine Z8 ?_
 refine Z43 ?_
 refine Z22 ?_
 refine Z21 ?_
 refine Z5 ?_
 refine Z31 ?_
 refine Z8 ?_
 refine Z43 ?_
 refine Z22 ?_
 refine Z21 ?_
 refine Z28 ?_
 refine Z31 ?_
 refine ASeq.ee rfl rfl rfl rfl rfl (AOp.callR [_, _, _, _] (iput_c b bm cs nl RM G3 ab.2 x0 g4 (by omega) bf x0f (by have := sz_le_fsz ab.2; omega) (by have := sz_le_fsz x0; omega)) (Yn rfl) rfl (fun y G4 he4 => ⟨(Keeps.cons (Yv 0 rfl rfl (.refl _)) (Keeps.cons (Yv 1 rfl rfl (.refl _)) (Keeps.cons (Yv 3 rfl rfl (.refl _)) Yo))), ?_⟩) (fun er Ge he4 => ?_))
 obtain ⟨_, g6, g7, yf, yz⟩ := putI_ok bf x0f he4
 have tyo := supTy_ok (x := y) (ab := ab) yf af bf
 refine ASeq.pe rfl rfl rfl rfl (fun L0 => (Yk (iup_c ab.1 1 af (by have := sz_le_fsz ab.1; omega)) (Yn rfl) ⟨rfl, rfl⟩)) ?_
 refine ASeq.pe rfl rfl rfl rfl (fun L0 => (Yk (lift_c ab.2 1 1 bf (by have := sz_le_fsz ab.2; omega)) (Yn rfl) ⟨rfl, rfl⟩)) ?_
 refine Z32 ?_
 refine ASeq.pe rfl rfl rfl rfl (fun L0 => (Yk (iof_c 16 [_, _]) (Yn rfl) ⟨rfl, rfl⟩)) ?_
 refine Z32 ?_
 refine ASeq.pe rfl rfl rfl rfl (fun L0 => (Yk (iof_c 4 [_, _]) (Yn rfl) ⟨rfl, rfl⟩)) ?_
 refine ASeq.ee rfl rfl rfl rfl rfl (AOp.callR [_, _, _, _] (HC c x1 (ofT 4 [y, ofT 16 [lift ab.1 1 0, lift ab.2 1 1]]) G4 (hc.mono (by omega)) (ht1.kidR (i := 1) (by omega) hb1 (by omega) (by omega)) ⟨tyo.1, by rw [tyo.2]; push_cast; omega⟩ g6 (by omega)) (Yn rfl) rfl (fun v3 G5 he5 => ⟨Yo, ?_⟩) (fun er Ge he5 => ?_))
 refine ASeq.nil ?_
 refine AFin.rEnd (()) (G5) rfl .nil (by repeat first | exact X0 _ | apply X1 | apply X2) ?_ ((Ys he).trans ((check_sup hk).trans ((Ys he2).trans ((Ys he3).trans ((Ys he4).trans (he5))))))
 exact .refl _
 exact AFin.rPan (X := X) (fn := Tryz.f60) (Ge) rfl (by repeat first | exact X0 _ | apply X1 | apply X2 | exact X3 _) ((Ys he).trans ((check_sup hk).trans ((Ys he2).trans ((Ys he3).trans ((Ys he4).trans (he5))))))
 exact AFin.rPan (X := X) (fn := Tryz.f60) (Ge) rfl (by repeat first | exact X0 _ | apply X1 | apply X2 | exact X3 _) ((Ys he).trans ((check_sup hk).trans ((Ys he2).trans ((Ys he3).trans (RS.bind_er he4)))))
 exact AFin.rPan (X := X) (fn := Tryz.f60) (Ge) rfl (by repeat first | exact X0 _ | apply X1 | apply X2 | exact X3 _) ((Ys he).trans ((check_sup hk).trans ((Ys he2).trans (RS.bind_er he3))))
 exact AFin.rPan (X := X) (fn := Tryz.f60) (Ge) rfl (by repeat first | exact X0 _ | apply X1 | apply X2 | exact X3 _) ((Ys he).trans ((check_sup hk).trans (RS.bind_er he2)))
 try simp only [sz] at h119
 refine Yb (Ya ?_)
 refine Z40 ?_
 refine Z2 ?_
 refine Yc ?_
 refine Zc (fun h157 => ?_) (fun h157 => ?_)
 try simp only [sz] at h157
 have hk : t.kind = 20 := h157
 refine Yb (Ya ?_)
 refine Z1 ?_
 refine Z20 ?_
 refine AOps.e rfl rfl rfl (AOp.callR [_, _] (ihead_c b bm cs nl RM Fz hS hC ty g0 (by omega) ⟨hy.1, by omega⟩) (Yn rfl) rfl (fun x G2 he2 => ?_) (fun er Ge he2 => ?_))
 obtain ⟨xf, g2, g3, xz⟩ := headI_w hC g0 (by omega) ⟨hy.1, by omega⟩ he2
 have xk1 := fsz_kid x 1
 have xk2 := fsz_kid x 2
 refine Z7 (fun b14 => ?_)
 refine Z3 ?_
 refine Yc (Yb (Ya ?_))
 refine Z6 ?_
 refine Z11 ?_
 refine Z40 ?_
 refine AOps.e rfl rfl rfl (AOp.callME (imust_c _ 11) (Yn rfl) (fun hok => ?_) (fun hno => ?_))
 refine Yc ?_
 refine Yj [.p 0, .l 1, .p 2, .l 3, .p 4, .e 5 []] mixed (by kernel_rfl) ?_
 refine Z5 ?_
 refine Z31 ?_
 refine ASeq.pe rfl rfl rfl rfl (fun L0 => (Yk (ikid_c x 1 (by omega)) (Yn rfl) ⟨rfl, rfl⟩)) ?_
 refine Z31 ?_
 refine ASeq.pe rfl rfl rfl rfl (fun L0 => (Yk (ikid_c x 2 (by omega)) (Yn rfl) ⟨rfl, rfl⟩)) ?_
 refine ASeq.ee rfl rfl rfl rfl rfl (AOp.callR [_, _, _] (ione_c b bm cs nl RM G2 hS hC (kid x 1) (kid x 2) 11 g2 (by omega) ⟨kid_fit xf _, by omega⟩ ⟨kid_fit xf _, by omega⟩) (Yn rfl) rfl (fun v G3 he3 => ⟨Yo, ?_⟩) (fun er Ge he3 => ?_))
 refine ASeq.nil ?_
 refine AFin.rEnd (()) (G3) rfl .nil (by repeat first | exact X0 _ | apply X1 | apply X2) ?_ ((Ys he).trans ((check_refl hk).trans ((Ys he2).trans ((if_pos (by simpa using hok)).trans (he3)))))
 exact .refl _
 exact AFin.rPan (X := X) (fn := Tryz.f60) (Ge) rfl (by repeat first | exact X0 _ | apply X1 | apply X2 | exact X3 _) ((Ys he).trans ((check_refl hk).trans ((Ys he2).trans ((if_pos (by simpa using hok)).trans (he3)))))
 exact AFin.rPan (X := X) (fn := Tryz.f60) (G2) rfl (by repeat first | exact X0 _ | apply X1 | apply X2 | exact X3 _) ((Ys he).trans ((check_refl hk).trans ((Ys he2).trans (if_neg (by simpa using hno)))))
 exact AFin.rPan (X := X) (fn := Tryz.f60) (Ge) rfl (by repeat first | exact X0 _ | apply X1 | apply X2 | exact X3 _) ((Ys he).trans ((check_refl hk).trans (RS.bind_er he2)))
 try simp only [sz] at h157
 refine Yb (Ya ?_)
 refine Z40 ?_
 refine Z2 ?_
 refine Yc ?_
 refine Zc (fun h172 => ?_) (fun h172 => ?_)
 try simp only [sz] at h172
 have hk : t.kind = 7 := h172
 refine Yj [.p 0, .p 1, .p 2, .p 3, .l 4, .l 6, .e 5 [6], .e 7 []] mixed (by kernel_rfl) ?_
 refine Z5 ?_
 refine Z5 ?_
 refine Z5 ?_
 refine Z5 ?_
 refine Z28 ?_
 refine Z31 ?_
 refine ASeq.ee rfl rfl rfl rfl rfl (AOp.callR [_, _] (ilet_c b bm cs nl RM Fz hS hC hn K HI HC c t hc ht1 g0 (by omega) hk) (Yn rfl) rfl (fun y G2 he2 => ⟨(Keeps.cons (Yv 0 rfl rfl (.refl _)) Yo), ?_⟩) (fun er Ge he2 => ?_))
 obtain ⟨yo, g2, g3⟩ := lettI_ok K hC hn hc ht1 hk g0 (by omega) he2
 refine ASeq.ee rfl rfl rfl rfl rfl (AOp.callR [_, _] (HC c y ty G2 (hc.mono (by omega)) yo ⟨hy.1, by omega⟩ g2 (by omega)) (Yn rfl) rfl (fun v G3 he3 => ⟨Yo, ?_⟩) (fun er Ge he3 => ?_))
 refine ASeq.nil ?_
 refine AFin.rEnd (()) (G3) rfl .nil (by repeat first | exact X0 _ | apply X1 | apply X2) ?_ ((Ys he).trans ((check_let hk).trans ((Ys he2).trans (he3))))
 exact .refl _
 exact AFin.rPan (X := X) (fn := Tryz.f60) (Ge) rfl (by repeat first | exact X0 _ | apply X1 | apply X2 | exact X3 _) ((Ys he).trans ((check_let hk).trans ((Ys he2).trans (he3))))
 exact AFin.rPan (X := X) (fn := Tryz.f60) (Ge) rfl (by repeat first | exact X0 _ | apply X1 | apply X2 | exact X3 _) ((Ys he).trans ((check_let hk).trans (RS.bind_er he2)))
 try simp only [sz] at h172
 refine Yb (Ya ?_)
 refine Z1 ?_
 refine Z1 ?_
 refine Z23 ?_
 refine AOps.e rfl rfl rfl (AOp.callR [_, _] (HI c t Fz (hc.mono (by omega)) ht1 g0 (by omega)) (Yn rfl) rfl (fun x G2 he2 => ?_) (fun er Ge he2 => ?_))
 have htz := ht1.2.2
 obtain ⟨xf, g2, g3, xz⟩ := K.inf c t Fz x G2 (hc.mono (by omega)) ht1 g0 (by omega) he2
 refine Z7 (fun b15 => ?_)
 refine Z3 ?_
 refine Yc (Yb ?_)
 refine Yj [.p 0, .p 1, .p 2, .l 3, .l 4, .l 5, .p 6, .p 7, .p 8, .p 9, .l 10, .p 11, .p 12, .p 13, .p 14, .p 15, .p 16, .p 17, .p 18] mixed (by kernel_rfl) ?_
 refine Z5 ?_
 refine Z38 ?_
 refine Z8 ?_
 refine Z43 ?_
 refine Z31 ?_
 refine Z28 ?_
 refine Z5 ?_
 refine Z38 ?_
 refine Z8 ?_
 refine Z8 ?_
 refine Z43 ?_
 refine ASeq.pe rfl rfl rfl rfl (fun L0 => (Yk (leqTop_c hS cs x ty G2 (fun _ => ⟨hC, ⟨xf, by omega⟩, ⟨hy.1, by omega⟩⟩)) (Yn rfl) ⟨rfl, rfl⟩)) ?_
 refine Z5 ?_
 refine Z29 ?_
 refine Z29 ?_
 refine Z29 ?_
 refine Z17 ?_
 refine Z17 ?_
 refine Z17 ?_
 refine ASeq.nil (Yb (Ya ?_))
 refine Z1 ?_
 refine Z44 ?_
 refine Z6 ?_
 refine Z1 ?_
 refine Z1 ?_
 refine AOps.e rfl rfl rfl (AOp.callR [_, _, _] (ispend_c b bm cs nl RM G2 (leqM cs G2 x ty).2.1 (leqM cs G2 x ty).2.2) (Yn rfl) rfl (fun v G3 he3 => ?_) (fun er Ge he3 => ?_))
 refine Yc (Ya ?_)
 refine Z1 ?_
 refine AOps.e rfl rfl rfl (AOp.callME (imust_c _ 13) (Yn rfl) (fun hok => ?_) (fun hno => ?_))
 refine Yc ?_
 refine AFin.rEnd (()) (G3) rfl .nil (by repeat first | exact X0 _ | apply X1 | apply X2) ?_ ((Ys he).trans ((check_inf h53 h89 h119 h157 h172).trans ((Ys he2).trans ((if_pos (spend_ok he3).1).trans ((if_pos (by simpa using hok)).trans (by rw [(spend_ok he3).2]))))))
 exact .refl _
 exact AFin.rPan (X := X) (fn := Tryz.f60) (G3) rfl (by repeat first | exact X0 _ | apply X1 | apply X2 | exact X3 _) ((Ys he).trans ((check_inf h53 h89 h119 h157 h172).trans ((Ys he2).trans ((if_pos (spend_ok he3).1).trans (if_neg (by simpa using hno))))))
 exact AFin.rPan (X := X) (fn := Tryz.f60) (Ge) rfl (by repeat first | exact X0 _ | apply X1 | apply X2 | exact X3 _) ((Ys he).trans ((check_inf h53 h89 h119 h157 h172).trans ((Ys he2).trans ((if_neg (spend_er he3).1).trans (by rw [(spend_er he3).2])))))
 exact AFin.rPan (X := X) (fn := Tryz.f60) (Ge) rfl (by repeat first | exact X0 _ | apply X1 | apply X2 | exact X3 _) ((Ys he).trans ((check_inf h53 h89 h119 h157 h172).trans (RS.bind_er he2)))
 exact AFin.rPan (X := X) (fn := Tryz.f60) (Ge) rfl (by repeat first | exact X0 _ | apply X1 | apply X2 | exact X3 _) (RS.bind_er he)
end Sp

/- The walks of infer: what is told. Written by a program of mine. -/
set_option linter.unusedVariables false
set_option linter.unusedSimpArgs false
set_option maxRecDepth 20000
namespace Sp
open Go Go.Proofs
theorem consts_c (cs : List Core) (hl : cs.length ≤ 1099511627775) : AFn X 15 [.slC cs] (.slc ((cs.map (·.levels)).map (D.int .i64))) := by
 refine Zf Tryz.func15 ?_
 refine Yb (Ya ?_)
 refine Z2 ?_
 refine Yc (Yb (Ya ?_))
 refine Z2 ?_
 refine Yc (Yb (Yb (Ya ?_)))
 refine Z1 ?_
 refine Z24 ?_
 refine Z1 ?_
 refine Yc (Yf ?_)
 refine Yu (γ := Nat × Nat × Nat) (fun g => [(6, .slC cs), (7, .int .i64 cs.length), (8, .int .i64 g.1), (3, growD g.1 g.2.1 g.2.2 (((cs.take g.1).map (·.levels)).map (D.int .i64)))]) (fun g => growL 3 1 g.1 g.2.1 g.2.2 (((cs.take g.1).map (·.levels)).map (D.int .i64))) (fun g => g.1 ≤ cs.length) (fun g => cs.length - g.1) (0, 0, 0) (Nat.zero_le _) (by repeat first | exact Ym | refine Yl (.refl _) ?_) (by repeat first | exact X0 _ | apply X1 | apply X2 | exact X3 _) ?_
 rintro ⟨i, bb, cap⟩ hi t1
 simp only at hi ⊢
 rcases i with _ | i
 simp only [growL, growD]
 refine Yb (Ya ?_)
 refine Z26 ?_
 refine Yc (Yb ?_)
 refine Zc (fun h9 => ?_) (fun h9 => ?_)
 try simp only [sz] at h9
 have hlt : (0 : Nat) < cs.length := by omega
 refine Ye (Yb (Yf (Yb (Ya ?_))))
 refine AOps.v rfl rfl rfl (AVal.indexCN rfl rfl rfl rfl rfl ⟨by omega, by omega⟩) ?_
 refine AOps.v rfl rfl rfl (AVal.loadE (d := encC _) rfl rfl rfl) ?_
 refine Z7 (fun b5 => ?_)
 refine Z3 ?_
 refine Yc (Ya ?_)
 refine Z1 ?_
 refine Z6 ?_
 refine Z11 ?_
 refine AOps.e rfl rfl rfl (AOp.buildSlice (es := [.int .i64 _]) rfl rfl rfl rfl rfl ?_)
 refine AOps.e rfl rfl rfl (AOp.app1New rfl rfl rfl rfl rfl rfl rfl rfl (fun bq cap' => ?_))
 refine Z2 ?_
 refine Yc (Ya ?_)
 refine Z19 ?_
 refine Z1 ?_
 refine Yc ?_
 refine ⟨(0 + 1, bq, cap'), by simp only; omega, by simp only; omega, rfl, ?_, ?_⟩
 · refine Yl (.refl _) (Yl (.refl _) (Yl (.refl _) (Yl (D.Le.eq ?_) Ym)))
   simp only [growD, take_succ_getD hlt, List.map_append, List.map_cons, List.map_nil]
   rfl
 · simp only [growL, take_succ_getD hlt, List.map_append, List.map_cons, List.map_nil]
   exact (by repeat first | exact X0 _ | apply X1 | apply X2 | exact X3 _)
 try simp only [sz] at h9
 refine Yg (Yb (Ya ?_))
 refine Z1 ?_
 refine Z2 ?_
 refine Yc (Yd ?_)
 refine Yh rfl (.cons rfl .nil) ?_
 exact .emp _ (by rw [List.eq_nil_of_length_eq_zero (by omega : cs.length = 0)]; rfl)
 simp only [growL, growD]
 refine Yb (Ya ?_)
 refine Z26 ?_
 refine Yc (Yb ?_)
 refine Zc (fun h9 => ?_) (fun h9 => ?_)
 try simp only [sz] at h9
 have hlt : (i + 1 : Nat) < cs.length := by omega
 refine Ye (Yb (Yf (Yb (Ya ?_))))
 refine AOps.v rfl rfl rfl (AVal.indexCN rfl rfl rfl rfl rfl ⟨by omega, by omega⟩) ?_
 refine AOps.v rfl rfl rfl (AVal.loadE (d := encC _) rfl rfl rfl) ?_
 refine Z7 (fun b5 => ?_)
 refine Z3 ?_
 refine Yc (Ya ?_)
 refine Z1 ?_
 refine Z6 ?_
 refine Z11 ?_
 refine AOps.e rfl rfl rfl (AOp.buildSlice (es := [.int .i64 _]) rfl rfl rfl rfl rfl ?_)
 refine AOps.e rfl rfl rfl (AOp.app1Own 1 rfl rfl rfl rfl rfl rfl rfl rfl rfl (by simp only [List.length_map, List.length_take]; omega) rfl (by repeat constructor) (fun bq cap' => ?_))
 refine Z2 ?_
 refine Yc (Ya ?_)
 refine Z19 ?_
 refine Z1 ?_
 refine Yc ?_
 refine ⟨(i + 1 + 1, bq, cap'), by simp only; omega, by simp only; omega, rfl, ?_, ?_⟩
 · refine Yl (.refl _) (Yl (.refl _) (Yl (.refl _) (Yl (D.Le.eq ?_) Ym)))
   simp only [growD, take_succ_getD hlt, List.map_append, List.map_cons, List.map_nil]
   rfl
 · simp only [growL, take_succ_getD hlt, List.map_append, List.map_cons, List.map_nil]
   exact (by repeat first | exact X0 _ | apply X1 | apply X2 | exact X3 _)
 try simp only [sz] at h9
 refine Yg (Yb (Ya ?_))
 refine Z1 ?_
 refine Z2 ?_
 refine Yc (Yd ?_)
 refine Yh rfl (.cons rfl .nil) ?_
 exact .own _ _ _ _ (by rw [List.take_of_length_le (by omega)]; rfl)
set_option maxHeartbeats 4000000 in
theorem ic_c (hS : SortedOk) (b bm : Nat) (cs : List Core) (nl : Int) {cn : List Int} (hC : CoresOk cs) (hT : TypsOk cs) (m : Nat) : (m : Int) ≤ 1073741824 →
    (∀ c t F, CtxOk c F → AskOk nl cn c t F → 0 ≤ F → F ≤ (m : Int) - 1 → ARs X 51 [.ptr b 0, .slT c, encT t] 30 (fun F => [(b, .cells 136 [.int .i64 F, .slC cs, .int .i64 nl, .map bm]), (bm, .map RI)]) F encT ((IC cs nl m).1 c t F)) ∧
    (∀ c t ty F, CtxOk c F → AskOk nl cn c t F → TyOk ty F → 0 ≤ F → F ≤ (m : Int) - 1 → ARs X 60 [.ptr b 0, .slT c, encT t, encT ty] 30 (fun F => [(b, .cells 136 [.int .i64 F, .slC cs, .int .i64 nl, .map bm]), (bm, .map RI)]) F (fun _ => D.tup []) ((IC cs nl m).2 c t ty F)) := by
  induction m with
  | zero => exact fun _ => ⟨fun c t F _ _ h0 h1 => by exfalso; omega, fun c t ty F _ _ _ h0 h1 => by exfalso; omega⟩
  | succ m ih =>
  intro hm
  have hm1 : ((m + 1 : Nat) : Int) = (m : Int) + 1 := Int.natCast_succ m
  rw [hm1] at hm ⊢
  obtain ⟨HI, HC⟩ := ih (by omega)
  have K := known_IC (nl := nl) (cn := cn) hC hT m (by omega)
  have hn : (m : Int) - 1 ≤ 1073741824 := by omega
  refine ⟨fun c t F hc ht h0 h1 => ?_, fun c t ty F hc ht hy h0 h1 => ?_⟩
  · have hc1 : CtxOk c (F - 1 + 1) := by rw [Int.sub_add_cancel]; exact hc
    have go : ∀ (f : FuncId) (r : RS Term), mget RI t.kind = some (.func (.func f) [] []) → (1 ≤ F → ARs X f [.ptr b 0, .slT c, encT t] 30 (fun F => [(b, .cells 136 [.int .i64 F, .slC cs, .int .i64 nl, .map bm]), (bm, .map RI)]) (F - 1) encT r) → ruleI cs nl (IC cs nl m).1 (IC cs nl m).2 c t (F - 1) = r →
        ARs X 51 [.ptr b 0, .slT c, encT t] 30 (fun F => [(b, .cells 136 [.int .i64 F, .slC cs, .int .i64 nl, .map bm]), (bm, .map RI)]) F encT ((IC cs nl (m + 1)).1 c t F) := fun f r hg hcl hr =>
      (infer_in b bm cs nl RI F c t (by omega) f r hg hcl).iff (by rw [IC_inf, hr])
    by_cases k : t.kind = 1
    · exact go _ _ (by rw [k]; rfl) (fun h1F => ivar_c b bm cs nl RI (F - 1) c t hc1 (ht.mono (by omega)) (by omega) k) (by simp [ruleI, k])
    have k1 : ¬ t.kind = 1 := k
    clear k
    by_cases k : t.kind = 2
    · exact go _ _ (by rw [k]; rfl) (fun h1F => iuniverse_c b bm cs nl RI (F - 1) hS c t (sort_lv ht.1 k) (fun l hl => by have := ht.2.1.plen hl; omega)) (by simp [ruleI, k])
    have k2 : ¬ t.kind = 2 := k
    clear k
    by_cases k : t.kind = 3
    · exact go _ _ (by rw [k]; rfl) (fun h1F => iconst_c b bm cs nl RI (F - 1) hS (fun c hc => ⟨(hT c hc).1, by have := (hT c hc).2; omega⟩) c t ht.2.1) (by simp [ruleI, k])
    have k3 : ¬ t.kind = 3 := k
    clear k
    by_cases k : t.kind = 4
    · exact go _ _ (by rw [k]; rfl) (fun h1F => iformer_c b bm cs nl RI (F - 1) hS hC hn K HI HC c t hc1 (ht.mono (by omega)) (by omega) (by omega) (.inl k)) (by simp [ruleI, k])
    have k4 : ¬ t.kind = 4 := k
    clear k
    by_cases k : t.kind = 12
    · exact go _ _ (by rw [k]; rfl) (fun h1F => iformer_c b bm cs nl RI (F - 1) hS hC hn K HI HC c t hc1 (ht.mono (by omega)) (by omega) (by omega) (.inr (.inl k))) (by simp [ruleI, k])
    have k12 : ¬ t.kind = 12 := k
    clear k
    by_cases k : t.kind = 16
    · exact go _ _ (by rw [k]; rfl) (fun h1F => iformer_c b bm cs nl RI (F - 1) hS hC hn K HI HC c t hc1 (ht.mono (by omega)) (by omega) (by omega) (.inr (.inr k))) (by simp [ruleI, k])
    have k16 : ¬ t.kind = 16 := k
    clear k
    by_cases k : t.kind = 5
    · exact go _ _ (by rw [k]; rfl) (fun h1F => ilam_c b bm cs nl RI (F - 1) hS hC hn K HI HC c t hc1 (ht.mono (by omega)) (by omega) (by omega) (k)) (by simp [ruleI, k])
    have k5 : ¬ t.kind = 5 := k
    clear k
    by_cases k : t.kind = 6
    · exact go _ _ (by rw [k]; rfl) (fun h1F => iapp_c b bm cs nl RI (F - 1) hS hC hn K HI HC c t hc1 (ht.mono (by omega)) (by omega) (by omega) (k)) (by simp [ruleI, k])
    have k6 : ¬ t.kind = 6 := k
    clear k
    by_cases k : t.kind = 7
    · exact go _ _ (by rw [k]; rfl) (fun h1F => iwithin_c b bm cs nl RI (F - 1) hS hC hn K HI HC c t hc1 (ht.mono (by omega)) (by omega) (by omega) (k)) (by simp [ruleI, k])
    have k7 : ¬ t.kind = 7 := k
    clear k
    by_cases k : t.kind = 14
    · exact go _ _ (by rw [k]; rfl) (fun h1F => ihalf_c b bm cs nl RI (F - 1) hS hC hn K HI HC c t hc1 (ht.mono (by omega)) (by omega) (by omega) (.inl k)) (by simp [ruleI, k])
    have k14 : ¬ t.kind = 14 := k
    clear k
    by_cases k : t.kind = 15
    · exact go _ _ (by rw [k]; rfl) (fun h1F => ihalf_c b bm cs nl RI (F - 1) hS hC hn K HI HC c t hc1 (ht.mono (by omega)) (by omega) (by omega) (.inr k)) (by simp [ruleI, k])
    have k15 : ¬ t.kind = 15 := k
    clear k
    by_cases k : t.kind = 18
    · exact go _ _ (by rw [k]; rfl) (fun h1F => irec_c b bm cs nl RI (F - 1) hS hC hn K HI HC c t hc1 (ht.mono (by omega)) (by omega) (by omega) (k)) (by simp [ruleI, k])
    have k18 : ¬ t.kind = 18 := k
    clear k
    by_cases k : t.kind = 19
    · exact go _ _ (by rw [k]; rfl) (fun h1F => iid_c b bm cs nl RI (F - 1) hS hC hn K HI HC c t hc1 (ht.mono (by omega)) (by omega) (by omega) (k)) (by simp [ruleI, k])
    have k19 : ¬ t.kind = 19 := k
    clear k
    by_cases k : t.kind = 21
    · exact go _ _ (by rw [k]; rfl) (fun h1F => ipath_c b bm cs nl RI (F - 1) hS hC hn K HI HC c t hc1 (ht.mono (by omega)) (by omega) (by omega) (k)) (by simp [ruleI, k])
    have k21 : ¬ t.kind = 21 := k
    clear k
    by_cases k : t.kind = 22
    · exact go _ _ (by rw [k]; rfl) (fun h1F => ifin_c b bm cs nl RI (F - 1) c t) (by simp [ruleI, k])
    have k22 : ¬ t.kind = 22 := k
    clear k
    by_cases k : t.kind = 23
    · exact go _ _ (by rw [k]; rfl) (fun h1F => ielem_c b bm cs nl RI (F - 1) c t) (by simp [ruleI, k])
    have k23 : ¬ t.kind = 23 := k
    clear k
    by_cases k : t.kind = 24
    · exact go _ _ (by rw [k]; rfl) (fun h1F => ibranch_c b bm cs nl RI (F - 1) hS hC hn K HI HC c t hc1 (ht.mono (by omega)) (by omega) (by omega) k) (by simp [ruleI, k])
    have k24 : ¬ t.kind = 24 := k
    clear k
    have hget : mget RI t.kind = none := by
      have e : mpos RI t.kind = none := by
        simp only [mpos, RI, List.findIdx?_eq_none_iff, List.mem_cons, List.not_mem_nil, or_false]
        rintro e (rfl | rfl | rfl | rfl | rfl | rfl | rfl | rfl | rfl | rfl | rfl | rfl | rfl | rfl | rfl | rfl | rfl) <;> simp only [decide_eq_false_iff_not] <;> omega
      simp only [mget, e]
    exact (infer_none b bm cs nl RI F c t (by omega) hget).iff (by
      rw [IC_inf, show ruleI cs nl (IC cs nl m).1 (IC cs nl m).2 c t (F - 1) = .er 14 by simp [ruleI, k1, k2, k3, k4, k12, k16, k5, k6, k7, k14, k15, k18, k19, k21, k22, k23, k24]])
  · exact (check_in b bm cs nl RI F hS hC hn K HI HC c t ty hc ht hy h0 (by omega) (by omega)).iff IC_chk.symm
theorem rightTop_eq {nl nt : Int} {cn : List Int} {t : Term} (h0 : 0 ≤ nl) (h1 : 0 ≤ nt) : rightTop nl nt cn t = rightM nl cn nt t := by
  simp [rightTop, h0, h1]
theorem callRulesF {ρ : Operand → D} {L : Loc} {dst : Option Tmp} {ty : TypeId} {pos : String} {after : Array Edge} {guard : Option (Nat × Bool)} {K Kp : D → Loc → Prop} {xs : Array Operand} {tys : Array TypeId} (hx : xs.toList.map ρ = [])
    (h : ∀ b, K (.map b) ((b, .map RI) :: L)) : AOp X ⟨dst, .call ⟨.value (.func 98), xs, tys⟩, ty, pos, after, guard⟩ ρ L K Kp :=
  AOp.call (L0 := []) (L1 := L) irules_c (Yn hx) (List.Perm.refl _) (fun d L' h' => by
    obtain ⟨b, e, rfl⟩ := h'
    cases e; exact h b) (fun d L' h' => by obtain ⟨b, e, _⟩ := h'; cases e)
theorem itold1_bool_ret (b12 b13 b14 : Nat) (d0 d5 d6 : D) (R : Loc) : ADef X 104 [.ptr b14 0, .ptr b12 0, .ptr b13 0] ((b14, .cells 30 [d6]) :: (b13, .cells 3 [d5]) :: (b12, .cells 4 [d0]) :: R) none ((b14, .cells 30 [d6]) :: (b13, .cells 3 [d5]) :: (b12, .cells 4 [d0]) :: R) := by
 refine ADef.of_code Tryz.func104 rfl (by rfl) (Nat.le_of_ble_eq_true rfl) rfl rfl rfl ?_
 refine Yb (Ya ?_)
 refine Z1 ?_
 refine Z90 ?_
 refine Yc (ACode.condF rfl (Ye ?_))
 exact ⟨.inl rfl, rfl, (by repeat first | exact X0 _ | apply X1 | apply X2 | exact X3 _)⟩
theorem itold1_bool_pan (b12 b13 b14 : Nat) (d0 d5 d6 : D) (e : Int) (R : Loc) : ADef X 104 [.ptr b14 0, .ptr b12 0, .ptr b13 0] ((b14, .cells 30 [d6]) :: (b13, .cells 3 [d5]) :: (b12, .cells 4 [d0]) :: R) (some (.iface 30 (.int .i64 e))) ((b14, .cells 30 [.int .i64 e]) :: (b13, .cells 3 [.int .i64 0]) :: (b12, .cells 4 [.bool false]) :: R) := by
 refine ADef.of_code Tryz.func104 rfl (by rfl) (Nat.le_of_ble_eq_true rfl) rfl rfl rfl ?_
 refine Yb (Ya ?_)
 refine Z1 ?_
 refine Z91 ?_
 refine Yc (ACode.condT rfl (Yb (Ya ?_)))
 refine Z2 ?_
 refine Yc (Yb (Yb (Ya ?_)))
 refine Z1 ?_
 refine AOps.v rfl rfl rfl (AVal.assertOk rfl Tryz.underlying30 rfl) ?_
 refine Z1 ?_
 refine Z12 ?_
 refine Z12 ?_
 refine Z3 ?_
 refine Z2 ?_
 refine Yc (Yb (Ya ?_))
 refine Z1 ?_
 refine Z65 ?_
 refine Yc (ACode.condF rfl (Ye (Yb (Ya ?_))))
 refine Z2 ?_
 refine Yc (Ya ?_)
 refine Z1 ?_
 refine Z34 ?_
 refine Z10 ?_
 refine Yc ?_
 exact ⟨.inl rfl, rfl, (by repeat first | exact X0 _ | apply X1 | apply X2 | exact X3 _)⟩
theorem itold_bool_c {f : FuncId} {caps : List D} {L0 : Loc} {r : RS Bool} (cs : List Core) (nl : Int) (ctx : List Term) (most : Int) (ts : List Term) (hl : cs.length ≤ 1099511627775) (hx : ∀ t ∈ ctx, t.fit 9223372036854775807 ∧ t.sz ≤ 1099511627776) (hxl : ctx.length ≤ 1099511627776) (hts : ∀ t ∈ ts, t.fit 9223372036854775807 ∧ t.sz ≤ 1099511627776) (htl : ts.length ≤ 1099511627776) (H : ArgI nl most → scopeI nl (cs.map (·.levels)) ctx ts = true → ∀ b bm, ARs X f ([.ptr b 0] ++ caps) 30 (fun F => L0 ++ [(b, .cells 136 [.int .i64 F, .slC cs, .int .i64 nl, .map bm]), (bm, .map RI)]) most D.bool r) : AKeep X 58 [.slC cs, .int .i64 nl, .slT ctx, .int .i64 most, .func (.func f) [] caps, .slT ts] L0 (.tup [D.bool (toldI false nl (cs.map (·.levels)) ctx most ts r).1, .int .i64 (toldI false nl (cs.map (·.levels)) ctx most ts r).2.1, .int .i64 (toldI false nl (cs.map (·.levels)) ctx most ts r).2.2]) := by
 refine ACalls.of_codeD Tryz.func58 rfl (by rfl) (Nat.le_of_ble_eq_true rfl) ?_
 refine Yb (Ya ?_)
 refine Z7 (fun b12 => ?_)
 refine Z7 (fun b13 => ?_)
 refine Z7 (fun b14 => ?_)
 refine Yc (Yb (Ya ?_))
 refine Z54 ?_
 refine AOps.deferP (ps := [b14, b12, b13]) rfl ?_
 refine Yc (Yb (Ya ?_))
 refine Z1 ?_
 refine Z85 ?_
 refine Z1 ?_
 refine Zs 24 (fun h24 => ?_) (fun h24 => ?_)
 try simp only [sz] at h24
 refine Z14 ?_
 refine Z78 ?_
 refine Z15 ?_
 refine Z1 ?_
 refine Zs 28 (fun h28 => ?_) (fun h28 => ?_)
 try simp only [sz] at h28
 refine Z14 ?_
 refine Yp rfl rfl rfl rfl rfl rfl (AVal.geq rfl rfl) ?_
 refine Z15 ?_
 refine Z1 ?_
 refine Zs 32 (fun h32 => ?_) (fun h32 => ?_)
 try simp only [sz] at h32
 refine Z14 ?_
 refine Z78 ?_
 refine Z15 ?_
 refine AOps.e rfl rfl rfl (AOp.callME (imust_c _ 2) (Yn rfl) (fun hok => ?_) (fun hno => ?_))
 have harg : ArgI nl most := ⟨by omega, by omega, by omega, by simpa using hok⟩
 refine Yc (Yb (Ya ?_))
 refine Z1 ?_
 refine AOps.e rfl rfl rfl (Yk (consts_c cs hl) (Yn rfl) ?_)
 refine Z2 ?_
 refine Yc (Yb (Yb (Ya ?_)))
 refine Z1 ?_
 refine Z24 ?_
 refine Z1 ?_
 refine Yc (Yf ?_)
 refine Yu (γ := Nat) (fun g => [(0, .slC cs), (1, .int .i64 nl), (2, .slT ctx), (3, .int .i64 most), (4, .func (.func f) [] caps), (5, .slT ts), (12, .ptr b12 0), (13, .ptr b13 0), (14, .ptr b14 0), (15, .slc ((cs.map (·.levels)).map (D.int .i64))), (39, .slT ctx), (40, .int .i64 ctx.length), (41, .int .i64 g)]) (fun g => ((b14, .cells 30 [.int .i64 0]) :: (b13, .cells 3 [.int .i64 0]) :: (b12, .cells 4 [.bool false]) :: L0)) (fun g => g ≤ ctx.length ∧ ctxR nl (cs.map (·.levels)) 0 (ctx.take g) = true) (fun g => ctx.length - g) 0 ⟨Nat.zero_le _, by simp [ctxR]⟩ (by repeat first | exact Ym | refine Yl (.refl _) ?_) (by repeat first | exact X0 _ | apply X1 | apply X2 | exact X3 _) ?_
 rintro i ⟨hi, hg⟩ t1
 refine Yb (Ya ?_)
 refine Z26 ?_
 refine Yc (Yb ?_)
 refine Zc (fun h42 => ?_) (fun h42 => ?_)
 try simp only [sz] at h42
 have hlt : i < ctx.length := by omega
 refine Ye (Yb (Yf (Yb (Ya ?_))))
 refine Z1 ?_
 refine Z88 ?_
 refine Z41 ?_
 refine Z7 (fun b17 => ?_)
 refine Z2 ?_
 refine Z3 ?_
 refine Yc (Ya ?_)
 refine Z1 ?_
 refine Z1 ?_
 refine Z1 ?_
 refine Z20 ?_
 refine AOps.e rfl rfl rfl (Yk (coreRight_c nl i (cs.map (·.levels)) (ctx.getD i default) (hx _ (getD_mem hlt)).1 (by rw [List.length_map]; omega) (by omega) (by have := (hx _ (getD_mem hlt)).2; omega)) (Yn rfl) ?_)
 refine AOps.e rfl rfl rfl (AOp.callME (imust_c _ 6) (Yn rfl) (fun hok => ?_) (fun hno => ?_))
 refine Yc (Ya ?_)
 refine Z19 ?_
 refine Z1 ?_
 refine Yc ?_
 refine ⟨i + 1, ⟨by omega, by rw [ctxR_take ctx 0 i hlt, hg, Bool.true_and, ← rightTop_eq harg.1 (by omega), Int.zero_add]; simpa using hok⟩, by omega, rfl, (by repeat first | exact Ym | refine Yl (.refl _) ?_), (by repeat first | exact X0 _ | apply X1 | apply X2 | exact X3 _)⟩
 have hsc : scopeI nl (cs.map (·.levels)) ctx ts = false := by
   unfold scopeI
   rw [ctxR_fall ctx 0 i hlt (by rw [← rightTop_eq (nt := 0 + (i : Int)) harg.1 (by omega)]; rw [Int.zero_add]; simpa using hno)]; rfl
 refine AFinD.panD (X := X) (fn := Tryz.f58) (R := fun x L2 => x = .ret (.tup [D.bool (toldI false nl (cs.map (·.levels)) ctx most ts r).1, .int .i64 (toldI false nl (cs.map (·.levels)) ctx most ts r).2.1, .int .i64 (toldI false nl (cs.map (·.levels)) ctx most ts r).2.2]) ∧ L2 = L0) (g := 104) (ps := [b14, b12, b13]) (ADef.drop (by repeat first | exact X0 _ | apply X2) (itold1_bool_pan b12 b13 b14 _ _ _ _ _)) (.cons (Yi 2 rfl rfl rfl rfl) (.cons (Yi 1 rfl rfl rfl rfl) (.cons (Yi 0 rfl rfl rfl rfl) .nil))) (by repeat first | exact X0 _ | apply X2) ?_ ⟨rfl, rfl⟩
 rw [told_scope harg hsc]; exact tupLe (.cons (.refl _) (.cons (.refl _) (.cons (.refl _) .nil)))
 try simp only [sz] at h42
 refine Yg (Yb (Yb (Ya ?_)))
 refine Z1 ?_
 refine Z24 ?_
 refine Z1 ?_
 refine Yc (Yf ?_)
 have hx1 : ctxR nl (cs.map (·.levels)) 0 ctx = true := by rw [List.take_of_length_le (by omega)] at hg; exact hg
 clear hg hi
 refine Yu (γ := Nat) (fun g => [(0, .slC cs), (1, .int .i64 nl), (2, .slT ctx), (3, .int .i64 most), (4, .func (.func f) [] caps), (5, .slT ts), (12, .ptr b12 0), (13, .ptr b13 0), (14, .ptr b14 0), (15, .slc ((cs.map (·.levels)).map (D.int .i64))), (53, .slT ts), (54, .int .i64 ts.length), (55, .int .i64 g)]) (fun g => ((b14, .cells 30 [.int .i64 0]) :: (b13, .cells 3 [.int .i64 0]) :: (b12, .cells 4 [.bool false]) :: L0)) (fun g => g ≤ ts.length ∧ (ts.take g).all (rightM nl (cs.map (·.levels)) ctx.length) = true) (fun g => ts.length - g) 0 ⟨Nat.zero_le _, by simp⟩ (by repeat first | exact Ym | refine Yl (.refl _) ?_) (by repeat first | exact X0 _ | apply X1 | apply X2 | exact X3 _) ?_
 clear h42
 rintro i ⟨hi, hg⟩ t2
 refine Yb (Ya ?_)
 refine Z26 ?_
 refine Yc (Yb ?_)
 refine Zc (fun h56 => ?_) (fun h56 => ?_)
 try simp only [sz] at h56
 have hlt : i < ts.length := by omega
 refine Ye (Yb (Yf (Yb (Ya ?_))))
 refine Z88 ?_
 refine Z41 ?_
 refine Z7 (fun b19 => ?_)
 refine Z3 ?_
 refine Yc (Ya ?_)
 refine Z1 ?_
 refine Z1 ?_
 refine Z24 ?_
 refine Z1 ?_
 refine Z20 ?_
 refine AOps.e rfl rfl rfl (Yk (coreRight_c nl ctx.length (cs.map (·.levels)) (ts.getD i default) (hts _ (getD_mem hlt)).1 (by rw [List.length_map]; omega) (by omega) (by have := (hts _ (getD_mem hlt)).2; omega)) (Yn rfl) ?_)
 refine AOps.e rfl rfl rfl (AOp.callME (imust_c _ 6) (Yn rfl) (fun hok => ?_) (fun hno => ?_))
 refine Yc (Ya ?_)
 refine Z19 ?_
 refine Z1 ?_
 refine Yc ?_
 refine ⟨i + 1, ⟨by omega, by rw [all_take ts i hlt, hg, Bool.true_and, ← rightTop_eq (nt := (ctx.length : Int)) harg.1 (by omega)]; simpa using hok⟩, by omega, rfl, (by repeat first | exact Ym | refine Yl (.refl _) ?_), (by repeat first | exact X0 _ | apply X1 | apply X2 | exact X3 _)⟩
 have hsc : scopeI nl (cs.map (·.levels)) ctx ts = false := by
   unfold scopeI
   rw [all_fall ts i hlt (by rw [← rightTop_eq (nt := (ctx.length : Int)) harg.1 (by omega)]; simpa using hno), Bool.and_false]
 refine AFinD.panD (X := X) (fn := Tryz.f58) (R := fun x L2 => x = .ret (.tup [D.bool (toldI false nl (cs.map (·.levels)) ctx most ts r).1, .int .i64 (toldI false nl (cs.map (·.levels)) ctx most ts r).2.1, .int .i64 (toldI false nl (cs.map (·.levels)) ctx most ts r).2.2]) ∧ L2 = L0) (g := 104) (ps := [b14, b12, b13]) (ADef.drop (by repeat first | exact X0 _ | apply X2) (itold1_bool_pan b12 b13 b14 _ _ _ _ _)) (.cons (Yi 2 rfl rfl rfl rfl) (.cons (Yi 1 rfl rfl rfl rfl) (.cons (Yi 0 rfl rfl rfl rfl) .nil))) (by repeat first | exact X0 _ | apply X2) ?_ ⟨rfl, rfl⟩
 rw [told_scope harg hsc]; exact tupLe (.cons (.refl _) (.cons (.refl _) (.cons (.refl _) .nil)))
 try simp only [sz] at h56
 have hsc : scopeI nl (cs.map (·.levels)) ctx ts = true := by unfold scopeI; rw [hx1, Bool.true_and]; rw [List.take_of_length_le (by omega)] at hg; exact hg
 refine Yg (Yb (Ya ?_))
 refine Z1 ?_
 refine Z52 ?_
 refine Z1 ?_
 refine Z1 ?_
 refine AOps.e rfl rfl rfl (callRulesF rfl (fun bm => ?_))
 refine Z52 ?_
 refine Z9 (fun b73 => ?_)
 refine Z2 ?_
 refine Yc (Yb (Ya ?_))
 refine Z1 ?_
 refine Z1 ?_
 refine AOps.e rfl rfl rfl (AOp.callToldI (W1 := fun F => (b73, .cells 136 [.int .i64 F, .slC cs, .int .i64 nl, .map bm])) (W2 := fun F => (bm, .map RI)) rfl (H harg hsc b73 bm) rfl rfl (fun x G he => ?_) (fun er Ge he => ?_))
 refine Z68 ?_
 refine Yc (Yb ?_)
 refine Yj [.l 0, .p 1, .p 2, .p 3, .p 4, .l 5, .e 6 [5], .e 7 [], .e 8 []] mixed (by kernel_rfl) ?_
 refine ASeq.lv rfl rfl rfl rfl (Yv 4 rfl rfl (by constructor)) ?_
 refine Z5 ?_
 refine Z38 ?_
 refine Z8 ?_
 refine Z8 ?_
 refine Z50 ?_
 refine ASeq.ee0 rfl rfl rfl rfl (AOp.storeN 4 rfl rfl rfl (by constructor) rfl rfl rfl (by repeat constructor) (by repeat constructor) ⟨(Keeps.cons (Yv 0 rfl rfl (.refl _)) Yo), ?_⟩)
 refine ASeq.ee0 rfl rfl rfl rfl (AOp.storeN 3 rfl rfl rfl (by constructor) rfl rfl rfl (by repeat constructor) (by repeat constructor) ⟨Yo, ?_⟩)
 refine Z46 ?_
 refine ASeq.nil (Yd ?_)
 refine AFinD.retD (X := X) (fn := Tryz.f58) (R := fun x L2 => x = .ret (.tup [D.bool (toldI false nl (cs.map (·.levels)) ctx most ts r).1, .int .i64 (toldI false nl (cs.map (·.levels)) ctx most ts r).2.1, .int .i64 (toldI false nl (cs.map (·.levels)) ctx most ts r).2.2]) ∧ L2 = L0) (g := 104) (ps := [b14, b12, b13]) (ADef.drop (by repeat first | exact X0 _ | apply X2) (itold1_bool_ret b12 b13 b14 _ _ _ _)) (.cons (Yi 2 rfl rfl rfl rfl) (.cons (Yi 1 rfl rfl rfl rfl) (.cons (Yi 0 rfl rfl rfl rfl) .nil))) (by repeat first | exact X0 _ | apply X2) ?_ ⟨rfl, rfl⟩
 rw [told_ok harg hsc he]; exact .refl _
 skip
 refine AFinD.panD (X := X) (fn := Tryz.f58) (R := fun x L2 => x = .ret (.tup [D.bool (toldI false nl (cs.map (·.levels)) ctx most ts r).1, .int .i64 (toldI false nl (cs.map (·.levels)) ctx most ts r).2.1, .int .i64 (toldI false nl (cs.map (·.levels)) ctx most ts r).2.2]) ∧ L2 = L0) (g := 104) (ps := [b14, b12, b13]) (ADef.drop (by repeat first | exact X0 _ | apply X2) (itold1_bool_pan b12 b13 b14 _ _ _ _ _)) (.cons (Yi 2 rfl rfl rfl rfl) (.cons (Yi 1 rfl rfl rfl rfl) (.cons (Yi 0 rfl rfl rfl rfl) .nil))) (by repeat first | exact X0 _ | apply X2) ?_ ⟨rfl, rfl⟩
 rw [told_er harg hsc he]; exact tupLe (.cons (.refl _) (.cons (.refl _) (.cons (.refl _) .nil)))
 have hna : ¬ ArgI nl most := by unfold ArgI; rintro ⟨q1, q2, q3, q4⟩; simp_all
 refine AFinD.panD (X := X) (fn := Tryz.f58) (R := fun x L2 => x = .ret (.tup [D.bool (toldI false nl (cs.map (·.levels)) ctx most ts r).1, .int .i64 (toldI false nl (cs.map (·.levels)) ctx most ts r).2.1, .int .i64 (toldI false nl (cs.map (·.levels)) ctx most ts r).2.2]) ∧ L2 = L0) (g := 104) (ps := [b14, b12, b13]) (ADef.drop (by repeat first | exact X0 _ | apply X2) (itold1_bool_pan b12 b13 b14 _ _ _ _ _)) (.cons (Yi 2 rfl rfl rfl rfl) (.cons (Yi 1 rfl rfl rfl rfl) (.cons (Yi 0 rfl rfl rfl rfl) .nil))) (by repeat first | exact X0 _ | apply X2) ?_ ⟨rfl, rfl⟩
 rw [told_arg hna]; exact tupLe (.cons (.refl _) (.cons (.refl _) (.cons (.refl _) .nil)))
 try simp only [sz] at h32
 refine Z4 ?_
 refine Z4 ?_
 refine Z13 ?_
 refine AOps.e rfl rfl rfl (AOp.callME (imust_c _ 2) (Yn rfl) (fun hok => ?_) (fun hno => ?_))
 exact absurd hok (by simp) --END
 have hna : ¬ ArgI nl most := by unfold ArgI; rintro ⟨q1, q2, q3, q4⟩; simp_all
 refine AFinD.panD (X := X) (fn := Tryz.f58) (R := fun x L2 => x = .ret (.tup [D.bool (toldI false nl (cs.map (·.levels)) ctx most ts r).1, .int .i64 (toldI false nl (cs.map (·.levels)) ctx most ts r).2.1, .int .i64 (toldI false nl (cs.map (·.levels)) ctx most ts r).2.2]) ∧ L2 = L0) (g := 104) (ps := [b14, b12, b13]) (ADef.drop (by repeat first | exact X0 _ | apply X2) (itold1_bool_pan b12 b13 b14 _ _ _ _ _)) (.cons (Yi 2 rfl rfl rfl rfl) (.cons (Yi 1 rfl rfl rfl rfl) (.cons (Yi 0 rfl rfl rfl rfl) .nil))) (by repeat first | exact X0 _ | apply X2) ?_ ⟨rfl, rfl⟩
 rw [told_arg hna]; exact tupLe (.cons (.refl _) (.cons (.refl _) (.cons (.refl _) .nil)))
 try simp only [sz] at h28
 refine Z4 ?_
 refine Z4 ?_
 refine Z13 ?_
 refine Z1 ?_
 refine Z4 ?_
 refine Z4 ?_
 refine Z13 ?_
 refine AOps.e rfl rfl rfl (AOp.callME (imust_c _ 2) (Yn rfl) (fun hok => ?_) (fun hno => ?_))
 exact absurd hok (by simp) --END
 have hna : ¬ ArgI nl most := by unfold ArgI; rintro ⟨q1, q2, q3, q4⟩; simp_all
 refine AFinD.panD (X := X) (fn := Tryz.f58) (R := fun x L2 => x = .ret (.tup [D.bool (toldI false nl (cs.map (·.levels)) ctx most ts r).1, .int .i64 (toldI false nl (cs.map (·.levels)) ctx most ts r).2.1, .int .i64 (toldI false nl (cs.map (·.levels)) ctx most ts r).2.2]) ∧ L2 = L0) (g := 104) (ps := [b14, b12, b13]) (ADef.drop (by repeat first | exact X0 _ | apply X2) (itold1_bool_pan b12 b13 b14 _ _ _ _ _)) (.cons (Yi 2 rfl rfl rfl rfl) (.cons (Yi 1 rfl rfl rfl rfl) (.cons (Yi 0 rfl rfl rfl rfl) .nil))) (by repeat first | exact X0 _ | apply X2) ?_ ⟨rfl, rfl⟩
 rw [told_arg hna]; exact tupLe (.cons (.refl _) (.cons (.refl _) (.cons (.refl _) .nil)))
 try simp only [sz] at h24
 refine Z4 ?_
 refine Z4 ?_
 refine Z13 ?_
 refine Z1 ?_
 refine Z4 ?_
 refine Z4 ?_
 refine Z13 ?_
 refine Z1 ?_
 refine Z4 ?_
 refine Z4 ?_
 refine Z13 ?_
 refine AOps.e rfl rfl rfl (AOp.callME (imust_c _ 2) (Yn rfl) (fun hok => ?_) (fun hno => ?_))
 exact absurd hok (by simp) --END
 have hna : ¬ ArgI nl most := by unfold ArgI; rintro ⟨q1, q2, q3, q4⟩; simp_all
 refine AFinD.panD (X := X) (fn := Tryz.f58) (R := fun x L2 => x = .ret (.tup [D.bool (toldI false nl (cs.map (·.levels)) ctx most ts r).1, .int .i64 (toldI false nl (cs.map (·.levels)) ctx most ts r).2.1, .int .i64 (toldI false nl (cs.map (·.levels)) ctx most ts r).2.2]) ∧ L2 = L0) (g := 104) (ps := [b14, b12, b13]) (ADef.drop (by repeat first | exact X0 _ | apply X2) (itold1_bool_pan b12 b13 b14 _ _ _ _ _)) (.cons (Yi 2 rfl rfl rfl rfl) (.cons (Yi 1 rfl rfl rfl rfl) (.cons (Yi 0 rfl rfl rfl rfl) .nil))) (by repeat first | exact X0 _ | apply X2) ?_ ⟨rfl, rfl⟩
 rw [told_arg hna]; exact tupLe (.cons (.refl _) (.cons (.refl _) (.cons (.refl _) .nil)))
theorem itold1_level_ret (b12 b13 b14 : Nat) (d0 d5 d6 : D) (R : Loc) : ADef X 118 [.ptr b14 0, .ptr b12 0, .ptr b13 0] ((b14, .cells 30 [d6]) :: (b13, .cells 3 [d5]) :: (b12, .cells 56 [d0]) :: R) none ((b14, .cells 30 [d6]) :: (b13, .cells 3 [d5]) :: (b12, .cells 56 [d0]) :: R) := by
 refine ADef.of_code Tryz.func118 rfl (by rfl) (Nat.le_of_ble_eq_true rfl) rfl rfl rfl ?_
 refine Yb (Ya ?_)
 refine Z1 ?_
 refine Z90 ?_
 refine Yc (ACode.condF rfl (Ye ?_))
 exact ⟨.inl rfl, rfl, (by repeat first | exact X0 _ | apply X1 | apply X2 | exact X3 _)⟩
theorem itold1_level_pan (b12 b13 b14 : Nat) (d0 d5 d6 : D) (e : Int) (R : Loc) : ADef X 118 [.ptr b14 0, .ptr b12 0, .ptr b13 0] ((b14, .cells 30 [d6]) :: (b13, .cells 3 [d5]) :: (b12, .cells 56 [d0]) :: R) (some (.iface 30 (.int .i64 e))) ((b14, .cells 30 [.int .i64 e]) :: (b13, .cells 3 [.int .i64 0]) :: (b12, .cells 56 [.emp]) :: R) := by
 refine ADef.of_code Tryz.func118 rfl (by rfl) (Nat.le_of_ble_eq_true rfl) rfl rfl rfl ?_
 refine Yb (Ya ?_)
 refine Z1 ?_
 refine Z91 ?_
 refine Yc (ACode.condT rfl (Yb (Ya ?_)))
 refine Z2 ?_
 refine Yc (Yb (Yb (Ya ?_)))
 refine Z1 ?_
 refine AOps.v rfl rfl rfl (AVal.assertOk rfl Tryz.underlying30 rfl) ?_
 refine Z1 ?_
 refine Z12 ?_
 refine Z12 ?_
 refine Z3 ?_
 refine Z2 ?_
 refine Yc (Yb (Ya ?_))
 refine Z1 ?_
 refine Z65 ?_
 refine Yc (ACode.condF rfl (Ye (Yb (Ya ?_))))
 refine Z7 (fun b5 => ?_)
 refine Yc (Ya ?_)
 refine Z11 ?_
 refine Z67 ?_
 refine Z34 ?_
 refine Yc ?_
 exact ⟨.inl rfl, rfl, (by repeat first | exact X0 _ | apply X1 | apply X2 | exact X3 _)⟩
theorem itold_level_c {f : FuncId} {caps : List D} {L0 : Loc} {r : RS Level} (cs : List Core) (nl : Int) (ctx : List Term) (most : Int) (ts : List Term) (hl : cs.length ≤ 1099511627775) (hx : ∀ t ∈ ctx, t.fit 9223372036854775807 ∧ t.sz ≤ 1099511627776) (hxl : ctx.length ≤ 1099511627776) (hts : ∀ t ∈ ts, t.fit 9223372036854775807 ∧ t.sz ≤ 1099511627776) (htl : ts.length ≤ 1099511627776) (H : ArgI nl most → scopeI nl (cs.map (·.levels)) ctx ts = true → ∀ b bm, ARs X f ([.ptr b 0] ++ caps) 30 (fun F => L0 ++ [(b, .cells 136 [.int .i64 F, .slC cs, .int .i64 nl, .map bm]), (bm, .map RI)]) most encL r) : AKeep X 67 [.slC cs, .int .i64 nl, .slT ctx, .int .i64 most, .func (.func f) [] caps, .slT ts] L0 (.tup [encL (toldI [] nl (cs.map (·.levels)) ctx most ts r).1, .int .i64 (toldI [] nl (cs.map (·.levels)) ctx most ts r).2.1, .int .i64 (toldI [] nl (cs.map (·.levels)) ctx most ts r).2.2]) := by
 refine ACalls.of_codeD Tryz.func67 rfl (by rfl) (Nat.le_of_ble_eq_true rfl) ?_
 refine Yb (Ya ?_)
 refine Z7 (fun b12 => ?_)
 refine Z7 (fun b13 => ?_)
 refine Z7 (fun b14 => ?_)
 refine Yc (Yb (Ya ?_))
 refine Z54 ?_
 refine AOps.deferP (ps := [b14, b12, b13]) rfl ?_
 refine Yc (Yb (Ya ?_))
 refine Z1 ?_
 refine Z85 ?_
 refine Z1 ?_
 refine Zs 24 (fun h24 => ?_) (fun h24 => ?_)
 try simp only [sz] at h24
 refine Z14 ?_
 refine Z78 ?_
 refine Z15 ?_
 refine Z1 ?_
 refine Zs 28 (fun h28 => ?_) (fun h28 => ?_)
 try simp only [sz] at h28
 refine Z14 ?_
 refine Yp rfl rfl rfl rfl rfl rfl (AVal.geq rfl rfl) ?_
 refine Z15 ?_
 refine Z1 ?_
 refine Zs 32 (fun h32 => ?_) (fun h32 => ?_)
 try simp only [sz] at h32
 refine Z14 ?_
 refine Z78 ?_
 refine Z15 ?_
 refine AOps.e rfl rfl rfl (AOp.callME (imust_c _ 2) (Yn rfl) (fun hok => ?_) (fun hno => ?_))
 have harg : ArgI nl most := ⟨by omega, by omega, by omega, by simpa using hok⟩
 refine Yc (Yb (Ya ?_))
 refine Z1 ?_
 refine AOps.e rfl rfl rfl (Yk (consts_c cs hl) (Yn rfl) ?_)
 refine Z2 ?_
 refine Yc (Yb (Yb (Ya ?_)))
 refine Z1 ?_
 refine Z24 ?_
 refine Z1 ?_
 refine Yc (Yf ?_)
 refine Yu (γ := Nat) (fun g => [(0, .slC cs), (1, .int .i64 nl), (2, .slT ctx), (3, .int .i64 most), (4, .func (.func f) [] caps), (5, .slT ts), (12, .ptr b12 0), (13, .ptr b13 0), (14, .ptr b14 0), (15, .slc ((cs.map (·.levels)).map (D.int .i64))), (39, .slT ctx), (40, .int .i64 ctx.length), (41, .int .i64 g)]) (fun g => ((b14, .cells 30 [.int .i64 0]) :: (b13, .cells 3 [.int .i64 0]) :: (b12, .cells 56 [.emp]) :: L0)) (fun g => g ≤ ctx.length ∧ ctxR nl (cs.map (·.levels)) 0 (ctx.take g) = true) (fun g => ctx.length - g) 0 ⟨Nat.zero_le _, by simp [ctxR]⟩ (by repeat first | exact Ym | refine Yl (.refl _) ?_) (by repeat first | exact X0 _ | apply X1 | apply X2 | exact X3 _) ?_
 rintro i ⟨hi, hg⟩ t1
 refine Yb (Ya ?_)
 refine Z26 ?_
 refine Yc (Yb ?_)
 refine Zc (fun h42 => ?_) (fun h42 => ?_)
 try simp only [sz] at h42
 have hlt : i < ctx.length := by omega
 refine Ye (Yb (Yf (Yb (Ya ?_))))
 refine Z1 ?_
 refine Z88 ?_
 refine Z41 ?_
 refine Z7 (fun b17 => ?_)
 refine Z2 ?_
 refine Z3 ?_
 refine Yc (Ya ?_)
 refine Z1 ?_
 refine Z1 ?_
 refine Z1 ?_
 refine Z20 ?_
 refine AOps.e rfl rfl rfl (Yk (coreRight_c nl i (cs.map (·.levels)) (ctx.getD i default) (hx _ (getD_mem hlt)).1 (by rw [List.length_map]; omega) (by omega) (by have := (hx _ (getD_mem hlt)).2; omega)) (Yn rfl) ?_)
 refine AOps.e rfl rfl rfl (AOp.callME (imust_c _ 6) (Yn rfl) (fun hok => ?_) (fun hno => ?_))
 refine Yc (Ya ?_)
 refine Z19 ?_
 refine Z1 ?_
 refine Yc ?_
 refine ⟨i + 1, ⟨by omega, by rw [ctxR_take ctx 0 i hlt, hg, Bool.true_and, ← rightTop_eq harg.1 (by omega), Int.zero_add]; simpa using hok⟩, by omega, rfl, (by repeat first | exact Ym | refine Yl (.refl _) ?_), (by repeat first | exact X0 _ | apply X1 | apply X2 | exact X3 _)⟩
 have hsc : scopeI nl (cs.map (·.levels)) ctx ts = false := by
   unfold scopeI
   rw [ctxR_fall ctx 0 i hlt (by rw [← rightTop_eq (nt := 0 + (i : Int)) harg.1 (by omega)]; rw [Int.zero_add]; simpa using hno)]; rfl
 refine AFinD.panD (X := X) (fn := Tryz.f67) (R := fun x L2 => x = .ret (.tup [encL (toldI [] nl (cs.map (·.levels)) ctx most ts r).1, .int .i64 (toldI [] nl (cs.map (·.levels)) ctx most ts r).2.1, .int .i64 (toldI [] nl (cs.map (·.levels)) ctx most ts r).2.2]) ∧ L2 = L0) (g := 118) (ps := [b14, b12, b13]) (ADef.drop (by repeat first | exact X0 _ | apply X2) (itold1_level_pan b12 b13 b14 _ _ _ _ _)) (.cons (Yi 2 rfl rfl rfl rfl) (.cons (Yi 1 rfl rfl rfl rfl) (.cons (Yi 0 rfl rfl rfl rfl) .nil))) (by repeat first | exact X0 _ | apply X2) ?_ ⟨rfl, rfl⟩
 rw [told_scope harg hsc]; exact tupLe (.cons (leP0 rfl) (.cons (.refl _) (.cons (.refl _) .nil)))
 try simp only [sz] at h42
 refine Yg (Yb (Yb (Ya ?_)))
 refine Z1 ?_
 refine Z24 ?_
 refine Z1 ?_
 refine Yc (Yf ?_)
 have hx1 : ctxR nl (cs.map (·.levels)) 0 ctx = true := by rw [List.take_of_length_le (by omega)] at hg; exact hg
 clear hg hi
 refine Yu (γ := Nat) (fun g => [(0, .slC cs), (1, .int .i64 nl), (2, .slT ctx), (3, .int .i64 most), (4, .func (.func f) [] caps), (5, .slT ts), (12, .ptr b12 0), (13, .ptr b13 0), (14, .ptr b14 0), (15, .slc ((cs.map (·.levels)).map (D.int .i64))), (53, .slT ts), (54, .int .i64 ts.length), (55, .int .i64 g)]) (fun g => ((b14, .cells 30 [.int .i64 0]) :: (b13, .cells 3 [.int .i64 0]) :: (b12, .cells 56 [.emp]) :: L0)) (fun g => g ≤ ts.length ∧ (ts.take g).all (rightM nl (cs.map (·.levels)) ctx.length) = true) (fun g => ts.length - g) 0 ⟨Nat.zero_le _, by simp⟩ (by repeat first | exact Ym | refine Yl (.refl _) ?_) (by repeat first | exact X0 _ | apply X1 | apply X2 | exact X3 _) ?_
 clear h42
 rintro i ⟨hi, hg⟩ t2
 refine Yb (Ya ?_)
 refine Z26 ?_
 refine Yc (Yb ?_)
 refine Zc (fun h56 => ?_) (fun h56 => ?_)
 try simp only [sz] at h56
 have hlt : i < ts.length := by omega
 refine Ye (Yb (Yf (Yb (Ya ?_))))
 refine Z88 ?_
 refine Z41 ?_
 refine Z7 (fun b19 => ?_)
 refine Z3 ?_
 refine Yc (Ya ?_)
 refine Z1 ?_
 refine Z1 ?_
 refine Z24 ?_
 refine Z1 ?_
 refine Z20 ?_
 refine AOps.e rfl rfl rfl (Yk (coreRight_c nl ctx.length (cs.map (·.levels)) (ts.getD i default) (hts _ (getD_mem hlt)).1 (by rw [List.length_map]; omega) (by omega) (by have := (hts _ (getD_mem hlt)).2; omega)) (Yn rfl) ?_)
 refine AOps.e rfl rfl rfl (AOp.callME (imust_c _ 6) (Yn rfl) (fun hok => ?_) (fun hno => ?_))
 refine Yc (Ya ?_)
 refine Z19 ?_
 refine Z1 ?_
 refine Yc ?_
 refine ⟨i + 1, ⟨by omega, by rw [all_take ts i hlt, hg, Bool.true_and, ← rightTop_eq (nt := (ctx.length : Int)) harg.1 (by omega)]; simpa using hok⟩, by omega, rfl, (by repeat first | exact Ym | refine Yl (.refl _) ?_), (by repeat first | exact X0 _ | apply X1 | apply X2 | exact X3 _)⟩
 have hsc : scopeI nl (cs.map (·.levels)) ctx ts = false := by
   unfold scopeI
   rw [all_fall ts i hlt (by rw [← rightTop_eq (nt := (ctx.length : Int)) harg.1 (by omega)]; simpa using hno), Bool.and_false]
 refine AFinD.panD (X := X) (fn := Tryz.f67) (R := fun x L2 => x = .ret (.tup [encL (toldI [] nl (cs.map (·.levels)) ctx most ts r).1, .int .i64 (toldI [] nl (cs.map (·.levels)) ctx most ts r).2.1, .int .i64 (toldI [] nl (cs.map (·.levels)) ctx most ts r).2.2]) ∧ L2 = L0) (g := 118) (ps := [b14, b12, b13]) (ADef.drop (by repeat first | exact X0 _ | apply X2) (itold1_level_pan b12 b13 b14 _ _ _ _ _)) (.cons (Yi 2 rfl rfl rfl rfl) (.cons (Yi 1 rfl rfl rfl rfl) (.cons (Yi 0 rfl rfl rfl rfl) .nil))) (by repeat first | exact X0 _ | apply X2) ?_ ⟨rfl, rfl⟩
 rw [told_scope harg hsc]; exact tupLe (.cons (leP0 rfl) (.cons (.refl _) (.cons (.refl _) .nil)))
 try simp only [sz] at h56
 have hsc : scopeI nl (cs.map (·.levels)) ctx ts = true := by unfold scopeI; rw [hx1, Bool.true_and]; rw [List.take_of_length_le (by omega)] at hg; exact hg
 refine Yg (Yb (Ya ?_))
 refine Z1 ?_
 refine Z52 ?_
 refine Z1 ?_
 refine Z1 ?_
 refine AOps.e rfl rfl rfl (callRulesF rfl (fun bm => ?_))
 refine Z52 ?_
 refine Z9 (fun b73 => ?_)
 refine Z2 ?_
 refine Yc (Yb (Ya ?_))
 refine Z1 ?_
 refine Z1 ?_
 refine AOps.e rfl rfl rfl (AOp.callToldI (W1 := fun F => (b73, .cells 136 [.int .i64 F, .slC cs, .int .i64 nl, .map bm])) (W2 := fun F => (bm, .map RI)) rfl (H harg hsc b73 bm) rfl rfl (fun x G he => ?_) (fun er Ge he => ?_))
 refine Z68 ?_
 refine Yc (Yb ?_)
 refine Yj [.l 0, .p 1, .p 2, .p 3, .p 4, .l 5, .e 6 [5], .e 7 [], .e 8 []] mixed (by kernel_rfl) ?_
 refine ASeq.lv rfl rfl rfl rfl (Yv (d := encL _) 4 rfl rfl (.refl _)) ?_
 refine Z5 ?_
 refine Z38 ?_
 refine Z8 ?_
 refine Z8 ?_
 refine Z50 ?_
 refine ASeq.ee0 rfl rfl rfl rfl (AOp.storeN 4 rfl rfl rfl (by constructor) rfl rfl rfl (by repeat constructor) (by repeat constructor) ⟨(Keeps.cons (Yv 0 rfl rfl (.refl _)) Yo), ?_⟩)
 refine ASeq.ee0 rfl rfl rfl rfl (AOp.storeN 3 rfl rfl rfl (by constructor) rfl rfl rfl (by repeat constructor) (by repeat constructor) ⟨Yo, ?_⟩)
 refine Z46 ?_
 refine ASeq.nil (Yd ?_)
 refine AFinD.retD (X := X) (fn := Tryz.f67) (R := fun x L2 => x = .ret (.tup [encL (toldI [] nl (cs.map (·.levels)) ctx most ts r).1, .int .i64 (toldI [] nl (cs.map (·.levels)) ctx most ts r).2.1, .int .i64 (toldI [] nl (cs.map (·.levels)) ctx most ts r).2.2]) ∧ L2 = L0) (g := 118) (ps := [b14, b12, b13]) (ADef.drop (by repeat first | exact X0 _ | apply X2) (itold1_level_ret b12 b13 b14 _ _ _ _)) (.cons (Yi 2 rfl rfl rfl rfl) (.cons (Yi 1 rfl rfl rfl rfl) (.cons (Yi 0 rfl rfl rfl rfl) .nil))) (by repeat first | exact X0 _ | apply X2) ?_ ⟨rfl, rfl⟩
 rw [told_ok harg hsc he]; exact .refl _
 skip
 refine AFinD.panD (X := X) (fn := Tryz.f67) (R := fun x L2 => x = .ret (.tup [encL (toldI [] nl (cs.map (·.levels)) ctx most ts r).1, .int .i64 (toldI [] nl (cs.map (·.levels)) ctx most ts r).2.1, .int .i64 (toldI [] nl (cs.map (·.levels)) ctx most ts r).2.2]) ∧ L2 = L0) (g := 118) (ps := [b14, b12, b13]) (ADef.drop (by repeat first | exact X0 _ | apply X2) (itold1_level_pan b12 b13 b14 _ _ _ _ _)) (.cons (Yi 2 rfl rfl rfl rfl) (.cons (Yi 1 rfl rfl rfl rfl) (.cons (Yi 0 rfl rfl rfl rfl) .nil))) (by repeat first | exact X0 _ | apply X2) ?_ ⟨rfl, rfl⟩
 rw [told_er harg hsc he]; exact tupLe (.cons (leP0 rfl) (.cons (.refl _) (.cons (.refl _) .nil)))
 have hna : ¬ ArgI nl most := by unfold ArgI; rintro ⟨q1, q2, q3, q4⟩; simp_all
 refine AFinD.panD (X := X) (fn := Tryz.f67) (R := fun x L2 => x = .ret (.tup [encL (toldI [] nl (cs.map (·.levels)) ctx most ts r).1, .int .i64 (toldI [] nl (cs.map (·.levels)) ctx most ts r).2.1, .int .i64 (toldI [] nl (cs.map (·.levels)) ctx most ts r).2.2]) ∧ L2 = L0) (g := 118) (ps := [b14, b12, b13]) (ADef.drop (by repeat first | exact X0 _ | apply X2) (itold1_level_pan b12 b13 b14 _ _ _ _ _)) (.cons (Yi 2 rfl rfl rfl rfl) (.cons (Yi 1 rfl rfl rfl rfl) (.cons (Yi 0 rfl rfl rfl rfl) .nil))) (by repeat first | exact X0 _ | apply X2) ?_ ⟨rfl, rfl⟩
 rw [told_arg hna]; exact tupLe (.cons (leP0 rfl) (.cons (.refl _) (.cons (.refl _) .nil)))
 try simp only [sz] at h32
 refine Z4 ?_
 refine Z4 ?_
 refine Z13 ?_
 refine AOps.e rfl rfl rfl (AOp.callME (imust_c _ 2) (Yn rfl) (fun hok => ?_) (fun hno => ?_))
 exact absurd hok (by simp) --END
 have hna : ¬ ArgI nl most := by unfold ArgI; rintro ⟨q1, q2, q3, q4⟩; simp_all
 refine AFinD.panD (X := X) (fn := Tryz.f67) (R := fun x L2 => x = .ret (.tup [encL (toldI [] nl (cs.map (·.levels)) ctx most ts r).1, .int .i64 (toldI [] nl (cs.map (·.levels)) ctx most ts r).2.1, .int .i64 (toldI [] nl (cs.map (·.levels)) ctx most ts r).2.2]) ∧ L2 = L0) (g := 118) (ps := [b14, b12, b13]) (ADef.drop (by repeat first | exact X0 _ | apply X2) (itold1_level_pan b12 b13 b14 _ _ _ _ _)) (.cons (Yi 2 rfl rfl rfl rfl) (.cons (Yi 1 rfl rfl rfl rfl) (.cons (Yi 0 rfl rfl rfl rfl) .nil))) (by repeat first | exact X0 _ | apply X2) ?_ ⟨rfl, rfl⟩
 rw [told_arg hna]; exact tupLe (.cons (leP0 rfl) (.cons (.refl _) (.cons (.refl _) .nil)))
 try simp only [sz] at h28
 refine Z4 ?_
 refine Z4 ?_
 refine Z13 ?_
 refine Z1 ?_
 refine Z4 ?_
 refine Z4 ?_
 refine Z13 ?_
 refine AOps.e rfl rfl rfl (AOp.callME (imust_c _ 2) (Yn rfl) (fun hok => ?_) (fun hno => ?_))
 exact absurd hok (by simp) --END
 have hna : ¬ ArgI nl most := by unfold ArgI; rintro ⟨q1, q2, q3, q4⟩; simp_all
 refine AFinD.panD (X := X) (fn := Tryz.f67) (R := fun x L2 => x = .ret (.tup [encL (toldI [] nl (cs.map (·.levels)) ctx most ts r).1, .int .i64 (toldI [] nl (cs.map (·.levels)) ctx most ts r).2.1, .int .i64 (toldI [] nl (cs.map (·.levels)) ctx most ts r).2.2]) ∧ L2 = L0) (g := 118) (ps := [b14, b12, b13]) (ADef.drop (by repeat first | exact X0 _ | apply X2) (itold1_level_pan b12 b13 b14 _ _ _ _ _)) (.cons (Yi 2 rfl rfl rfl rfl) (.cons (Yi 1 rfl rfl rfl rfl) (.cons (Yi 0 rfl rfl rfl rfl) .nil))) (by repeat first | exact X0 _ | apply X2) ?_ ⟨rfl, rfl⟩
 rw [told_arg hna]; exact tupLe (.cons (leP0 rfl) (.cons (.refl _) (.cons (.refl _) .nil)))
 try simp only [sz] at h24
 refine Z4 ?_
 refine Z4 ?_
 refine Z13 ?_
 refine Z1 ?_
 refine Z4 ?_
 refine Z4 ?_
 refine Z13 ?_
 refine Z1 ?_
 refine Z4 ?_
 refine Z4 ?_
 refine Z13 ?_
 refine AOps.e rfl rfl rfl (AOp.callME (imust_c _ 2) (Yn rfl) (fun hok => ?_) (fun hno => ?_))
 exact absurd hok (by simp) --END
 have hna : ¬ ArgI nl most := by unfold ArgI; rintro ⟨q1, q2, q3, q4⟩; simp_all
 refine AFinD.panD (X := X) (fn := Tryz.f67) (R := fun x L2 => x = .ret (.tup [encL (toldI [] nl (cs.map (·.levels)) ctx most ts r).1, .int .i64 (toldI [] nl (cs.map (·.levels)) ctx most ts r).2.1, .int .i64 (toldI [] nl (cs.map (·.levels)) ctx most ts r).2.2]) ∧ L2 = L0) (g := 118) (ps := [b14, b12, b13]) (ADef.drop (by repeat first | exact X0 _ | apply X2) (itold1_level_pan b12 b13 b14 _ _ _ _ _)) (.cons (Yi 2 rfl rfl rfl rfl) (.cons (Yi 1 rfl rfl rfl rfl) (.cons (Yi 0 rfl rfl rfl rfl) .nil))) (by repeat first | exact X0 _ | apply X2) ?_ ⟨rfl, rfl⟩
 rw [told_arg hna]; exact tupLe (.cons (leP0 rfl) (.cons (.refl _) (.cons (.refl _) .nil)))
end Sp

/- The walks of infer: Sort and Check. Written by a program of mine. -/
set_option linter.unusedVariables false
set_option linter.unusedSimpArgs false
set_option maxRecDepth 20000
namespace Sp
open Go Go.Proofs
theorem sortAsk_c (b bm : Nat) (cs : List Core) (nl : Int) (F : Int) (b7 b8 : Nat) (hS : SortedOk) (ctx : List Term) (t : Term) (hC : CoresOk cs) (hT : TypsOk cs) (hc : CtxOk ctx F) (ht : AskOk nl (lvs cs) ctx t F) (h0 : 0 ≤ F) : ARs X 68 [.ptr b 0, .ptr b7 0, .ptr b8 0] 30 (fun F => [(b8, .cells 27 (cellsT t)), (b7, .cells 25 [.slT ctx]), (b, .cells 136 [.int .i64 F, .slC cs, .int .i64 nl, .map bm]), (bm, .map RI)]) F encL (sortR cs nl ctx t F) := by
 have hF := ht.2.2
 have hm : ((F.toNat + 1 : Nat) : Int) ≤ 1073741824 := by omega
 have K := known_IC (nl := nl) (cn := lvs cs) hC hT (F.toNat + 1) hm
 obtain ⟨HI, HC⟩ := ic_c hS b bm cs nl (cn := lvs cs) hC hT (F.toNat + 1) hm
 refine Zf Tryz.func68 ?_
 refine Yb (Ya ?_)
 refine Z7 (fun b4 => ?_)
 refine Yc (Yb (Ya ?_))
 refine Z1 ?_
 refine Z35 ?_
 refine Z23 ?_
 refine AOps.e rfl rfl rfl (AOp.callR [_, _, _] (isort_c b bm cs nl RI F hS hC (by omega) K HI HC ctx t hc ht h0 (by omega)) (Yn rfl) rfl (fun l G he => ?_) (fun er Ge he => ?_))
 refine AOps.e rfl rfl rfl (Yk (norm_c hS l (sortI_ok K hC (by omega) hc ht h0 (by omega) he).2.2) (Yn rfl) ?_)
 refine Z3 ?_
 refine Yc (Yd ?_)
 refine AFin.rRet (normM l) (G) rfl (.cons (Yi (d := encL _) 0 rfl rfl rfl rfl) .nil) (by repeat first | exact X0 _ | apply X1 | apply X2) ?_ (by unfold sortR; rw [Ys he])
 exact .refl _
 exact AFin.rPan (X := X) (fn := Tryz.f68) (Ge) rfl (by repeat first | exact X0 _ | apply X1 | apply X2 | exact X3 _) (by unfold sortR; rw [RS.bind_er he])
theorem checkAsk_c (b bm : Nat) (cs : List Core) (nl : Int) (F : Int) (b8 b9 b10 : Nat) (hS : SortedOk) (ctx : List Term) (t ty : Term) (hC : CoresOk cs) (hT : TypsOk cs) (hc : CtxOk ctx F) (ht : AskOk nl (lvs cs) ctx t F) (h0 : 0 ≤ F) (hy : TyOk ty F) : ARs X 59 [.ptr b 0, .ptr b8 0, .ptr b9 0, .ptr b10 0] 30 (fun F => [(b10, .cells 27 (cellsT ty)), (b9, .cells 27 (cellsT t)), (b8, .cells 25 [.slT ctx]), (b, .cells 136 [.int .i64 F, .slC cs, .int .i64 nl, .map bm]), (bm, .map RI)]) F D.bool (checkR cs nl ctx t ty F) := by
 have hF := ht.2.2
 have hm : ((F.toNat + 1 : Nat) : Int) ≤ 1073741824 := by omega
 have K := known_IC (nl := nl) (cn := lvs cs) hC hT (F.toNat + 1) hm
 obtain ⟨HI, HC⟩ := ic_c hS b bm cs nl (cn := lvs cs) hC hT (F.toNat + 1) hm
 refine Zf Tryz.func59 ?_
 refine Yb (Ya ?_)
 refine Z2 ?_
 refine Yc (Yb (Ya ?_))
 refine Z1 ?_
 refine Z35 ?_
 refine Z23 ?_
 refine Z20 ?_
 refine AOps.e rfl rfl rfl (AOp.callR [_, _, _] (HC ctx t ty F hc ht hy h0 (by omega)) (Yn rfl) rfl (fun u G he => ?_) (fun er Ge he => ?_))
 refine Yc (Yb (Ya ?_))
 refine Z2 ?_
 refine Yc (Yd ?_)
 refine AFin.rRet (true) (G) rfl (.cons rfl .nil) (by repeat first | exact X0 _ | apply X1 | apply X2) ?_ (by unfold checkR; rw [Ys he])
 exact .refl _
 exact AFin.rPan (X := X) (fn := Tryz.f59) (Ge) rfl (by repeat first | exact X0 _ | apply X1 | apply X2 | exact X3 _) (by unfold checkR; rw [RS.bind_er he])
theorem sortTop_c (hS : SortedOk) (cs : List Core) (nl : Int) (ctx : List Term) (t : Term) (most : Int) (hl : cs.length ≤ 1099511627775) (hxl : ctx.length ≤ 1099511627776) (hx : ∀ t ∈ ctx, t.fit 1099511627776 ∧ t.sz ≤ 1099511627776) (htf : t.fit 1099511627776) (hts : t.sz ≤ 1099511627776) (hsm : ArgI nl most → Small cs ctx [t] most) : AFn X 25 [.slC cs, .int .i64 nl, .slT ctx, encT t, .int .i64 most] (.tup [encL (sortM cs nl ctx t most).1, .int .i64 (sortM cs nl ctx t most).2.1, .int .i64 (sortM cs nl ctx t most).2.2]) := by
 refine Zf Tryz.func25 ?_
 refine Yb (Ya ?_)
 refine Z71 (fun b7 => ?_)
 refine Z9 (fun b8 => ?_)
 refine Z7 (fun b10 => ?_)
 refine Z2 ?_
 refine Z2 ?_
 refine Yc (Yb (Ya ?_))
 refine Z1 ?_
 refine Z1 ?_
 refine Z35 ?_
 refine Z1 ?_
 refine Z54 ?_
 refine Z23 ?_
 refine Z62 ?_
 refine AOps.e rfl rfl rfl (AOp.callK [_] (itold_level_c (r := sortR cs nl ctx t most) (L0 := [(b8, .cells 27 (cellsT t)), (b7, .cells 25 [.slT ctx])]) cs nl ctx most [t] hl (fun u hu => ⟨fitMax (hx u hu).1, (hx u hu).2⟩) hxl (fun u hu => by simp at hu; rcases hu with rfl <;> exact ⟨fitMax (by assumption), by assumption⟩) (by simp) (fun ha hs b bm => sortAsk_c b bm cs nl most b7 b8 hS ctx t (hsm ha).1 (hsm ha).2.1 (hsm ha).2.2.1 ⟨scope_at hs (by simp), htf, (hsm ha).2.2.2 _ (by simp)⟩ ha.2.2.1)) (Yn rfl) rfl ?_)
 refine Z12 ?_
 refine Z12 ?_
 refine Z12 ?_
 refine Z3 ?_
 refine Z2 ?_
 refine Z2 ?_
 refine Yc (Yd ?_)
 refine Yh rfl (.cons (Yi (d := encL _) 0 rfl rfl rfl rfl) (.cons rfl (.cons rfl .nil))) ?_
 exact .refl _
theorem checkTop_c (hS : SortedOk) (cs : List Core) (nl : Int) (ctx : List Term) (t ty : Term) (most : Int) (hl : cs.length ≤ 1099511627775) (hxl : ctx.length ≤ 1099511627776) (hx : ∀ t ∈ ctx, t.fit 1099511627776 ∧ t.sz ≤ 1099511627776) (htf : t.fit 1099511627776) (hts : t.sz ≤ 1099511627776) (htyf : ty.fit 1099511627776) (htys : ty.sz ≤ 1099511627776) (hsm : ArgI nl most → Small cs ctx [t, ty] most) : AFn X 20 [.slC cs, .int .i64 nl, .slT ctx, encT t, encT ty, .int .i64 most] (.tup [.int .i64 (checkM cs nl ctx t ty most).2.1, .int .i64 (checkM cs nl ctx t ty most).2.2]) := by
 refine Zf Tryz.func20 ?_
 refine Yb (Ya ?_)
 refine Z71 (fun b8 => ?_)
 refine Z9 (fun b9 => ?_)
 refine Z9 (fun b10 => ?_)
 refine Z2 ?_
 refine Z2 ?_
 refine Yc (Yb (Ya ?_))
 refine Z1 ?_
 refine Z1 ?_
 refine Z35 ?_
 refine Z1 ?_
 refine Z54 ?_
 refine Z23 ?_
 refine Z20 ?_
 refine AOps.e rfl rfl rfl (AOp.buildSliceT (ts := [_, _]) rfl rfl rfl rfl rfl ?_)
 refine AOps.e rfl rfl rfl (AOp.callK [] (itold_bool_c (r := checkR cs nl ctx t ty most) (L0 := [(b10, .cells 27 (cellsT ty)), (b9, .cells 27 (cellsT t)), (b8, .cells 25 [.slT ctx])]) cs nl ctx most [t, ty] hl (fun u hu => ⟨fitMax (hx u hu).1, (hx u hu).2⟩) hxl (fun u hu => by simp at hu; rcases hu with rfl | rfl <;> exact ⟨fitMax (by assumption), by assumption⟩) (by simp) (fun ha hs b bm => checkAsk_c b bm cs nl most b8 b9 b10 hS ctx t ty (hsm ha).1 (hsm ha).2.1 (hsm ha).2.2.1 ⟨scope_at hs (by simp), htf, (hsm ha).2.2.2 _ (by simp)⟩ ha.2.2.1 ⟨htyf, by have := (hsm ha).2.2.2 ty (by simp); omega⟩)) (Yn rfl) rfl ?_)
 refine Z1 ?_
 refine Z12 ?_
 refine Z12 ?_
 refine Z12 ?_
 refine Z2 ?_
 refine Z2 ?_
 refine Z2 ?_
 refine Yc (Yb (Ya ?_))
 refine Z1 ?_
 refine Z1 ?_
 refine Z2 ?_
 refine Z2 ?_
 refine Yc (Yd ?_)
 refine Yh rfl (.cons rfl (.cons rfl .nil)) ?_
 exact .refl _
end Sp
