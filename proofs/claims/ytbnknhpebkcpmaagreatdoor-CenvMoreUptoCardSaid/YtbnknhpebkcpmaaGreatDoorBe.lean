/- Walks of the program's functions and what they compute: contracts of calls; no condition beyond those that each theorem names. -/
import Derived.Test.YtbnknhpebkcpmaaGreatDoorBd
import Derived.Test.YtbnknhpebkcpmaaGreatDoorKc
import Derived.Test.YtbnknhpebkcpmaaGreatDoorKd
/- The walks of infer: the rules, over what is known of the rounds within. Written by a program of mine. -/
set_option linter.unusedVariables false
set_option linter.unusedSimpArgs false
set_option maxRecDepth 20000
namespace Sp
open Go Go.Proofs
theorem isort_c (b bm : Nat) (cs : List Core) (nl : Int) (RM : List (Int × D)) (F : Int) (hS : SortedOk) (hC : CoresOk cs) {cn : List Int} {inf : List Term → Term → Int → RS Term} {chk : List Term → Term → Term → Int → RS Unit} {n : Int} (hn : n ≤ 1073741824) (K : Known nl cn inf chk n) (HI : ∀ c t F, CtxOk c F → AskOk nl cn c t F → 0 ≤ F → F ≤ n → ARs X 51 [.ptr b 0, .slT c, encT t] 30 (fun F => [(b, .cells 136 [.int .i64 (F), .slC cs, .int .i64 nl, .map bm]), (bm, .map RM)]) F encT (inf c t F)) (HC : ∀ c t ty F, CtxOk c F → AskOk nl cn c t F → TyOk ty F → 0 ≤ F → F ≤ n → ARs X 60 [.ptr b 0, .slT c, encT t, encT ty] 30 (fun F => [(b, .cells 136 [.int .i64 (F), .slC cs, .int .i64 nl, .map bm]), (bm, .map RM)]) F (fun _ => D.tup []) (chk c t ty F)) (c : List Term) (t : Term) (hc : CtxOk c F) (ht : AskOk nl cn c t F) (h0 : 0 ≤ F) (h1 : F ≤ n) : ARs X 70 [.ptr b 0, .slT c, encT t] 30 (fun F => [(b, .cells 136 [.int .i64 (F), .slC cs, .int .i64 nl, .map bm]), (bm, .map RM)]) F encL (sortI cs inf c t F) := by
 refine Zf Tryz.func70 ?_
 refine Yb (Ya ?_)
 refine Z9 (fun b5 => ?_)
 refine Z7 (fun b6 => ?_)
 refine Yc (Yb (Ya ?_))
 refine Z1 ?_
 refine Z1 ?_
 refine Z1 ?_
 refine Z23 ?_
 refine AOps.e rfl rfl rfl (AOp.callR [_, _] (HI c t F hc ht h0 h1) (Yn rfl) rfl (fun x G he => ?_) (fun er Ge he => ?_))
 obtain ⟨xf, g0, g1, xz⟩ := K.inf c t F x G hc ht h0 h1 he
 have htz := ht.2.2
 refine AOps.e rfl rfl rfl (AOp.callR [_, _] (ilevel_c b bm cs nl RM G hS hC x g0 (by omega) ⟨xf, by omega⟩) (Yn rfl) rfl (fun l G2 he2 => ?_) (fun er Ge he2 => ?_))
 refine Z3 ?_
 refine Yc (Yd ?_)
 refine AFin.rRet (l) (G2) rfl (.cons (Yi (d := encL _) 0 rfl rfl rfl rfl) .nil) (by repeat first | exact X0 _ | apply X1 | apply X2) ?_ (by unfold sortI; rw [Ys he]; exact he2)
 exact .refl _
 exact AFin.rPan (X := X) (fn := Tryz.f70) (Ge) rfl (by repeat first | exact X0 _ | apply X1 | apply X2 | exact X3 _) (by unfold sortI; rw [Ys he]; exact he2)
 exact AFin.rPan (X := X) (fn := Tryz.f70) (Ge) rfl (by repeat first | exact X0 _ | apply X1 | apply X2 | exact X3 _) (by unfold sortI; rw [RS.bind_er he])
theorem lmax_c (hS : SortedOk) (ls : List Level) (hl : ls.length ≤ 9223372036854775807) (hp : ∀ l ∈ ls, l.length ≤ 9223372036854775807) : AFn X 172 [.slL ls] (encL (maxL ls)) := by
 refine Zf Tryz.func172 ?_
 refine Yb (Ya ?_)
 refine Z7 (fun b2 => ?_)
 refine Yc (Yb (Ya ?_))
 refine Z1 ?_
 refine AOps.e rfl rfl rfl (Yk (lof_c hS ls hl hp) (Yn rfl) ?_)
 refine Z3 ?_
 refine Yc (Yd ?_)
 refine Yh rfl (.cons (Yi (d := encL _) 0 rfl rfl rfl rfl) .nil) ?_
 exact .refl _
theorem iformer_c (b bm : Nat) (cs : List Core) (nl : Int) (RM : List (Int × D)) (F : Int) (hS : SortedOk) (hC : CoresOk cs) {cn : List Int} {inf : List Term → Term → Int → RS Term} {chk : List Term → Term → Term → Int → RS Unit} {n : Int} (hn : n ≤ 1073741824) (K : Known nl cn inf chk n) (HI : ∀ c t F, CtxOk c F → AskOk nl cn c t F → 0 ≤ F → F ≤ n → ARs X 51 [.ptr b 0, .slT c, encT t] 30 (fun F => [(b, .cells 136 [.int .i64 (F), .slC cs, .int .i64 nl, .map bm]), (bm, .map RM)]) F encT (inf c t F)) (HC : ∀ c t ty F, CtxOk c F → AskOk nl cn c t F → TyOk ty F → 0 ≤ F → F ≤ n → ARs X 60 [.ptr b 0, .slT c, encT t, encT ty] 30 (fun F => [(b, .cells 136 [.int .i64 (F), .slC cs, .int .i64 nl, .map bm]), (bm, .map RM)]) F (fun _ => D.tup []) (chk c t ty F)) (c : List Term) (t : Term) (hc : CtxOk c (F + 1)) (ht : AskOk nl cn c t F) (h0 : 0 ≤ F) (h1 : F ≤ n) (hk : t.kind = 4 ∨ t.kind = 12 ∨ t.kind = 16) : ARs X 138 [.ptr b 0, .slT c, encT t] 30 (fun F => [(b, .cells 136 [.int .i64 (F), .slC cs, .int .i64 nl, .map bm]), (bm, .map RM)]) F encT (formerI cs inf c t F) := by
 have hl : (t.kids.length : Int) = 2 := by rcases hk with e | e | e <;> exact len_at ht.1 e (fun _ _ _ _ _ _ _ _ => rfl)
 have hb0 : binds t.kind 0 = false := by rcases hk with e | e | e <;> rw [e] <;> rfl
 have hb1 : binds t.kind 1 = true := by rcases hk with e | e | e <;> rw [e] <;> rfl
 rcases t with ⟨k0, n0, a0, ls, ks⟩
 obtain ⟨x0, x1, rfl⟩ : ∃ x0 x1, ks = [x0, x1] := by
   have hl2 : ks.length = 2 := by have h : (ks.length : Int) = _ := hl; omega
   match ks, hl2 with
   | [x0, x1], _ => exact ⟨x0, x1, rfl⟩
 refine Zf Tryz.func138 ?_
 refine Yb (Ya ?_)
 refine Z9 (fun b5 => ?_)
 refine Z7 (fun b6 => ?_)
 refine Yc (Yb (Ya ?_))
 refine Z1 ?_
 refine Z1 ?_
 refine Z6 ?_
 refine Z16 ?_
 refine Z75 ?_
 refine Z41 ?_
 refine AOps.e rfl rfl rfl (AOp.callR [_, _] (isort_c b bm cs nl RM F hS hC hn K HI HC c x0 (hc.mono (by omega)) (ht.kidR (i := 0) (Int.le_refl _) hb0 (by omega) (by omega)) h0 h1) (Yn rfl) rfl (fun l G he => ?_) (fun er Ge he => ?_))
 obtain ⟨g0, g1, lz⟩ := sortI_ok K hC hn (hc.mono (by omega)) (ht.kidR (i := 0) (Int.le_refl _) hb0 (by omega) (by omega)) h0 h1 he
 refine Z7 (fun b7 => ?_)
 refine Z3 ?_
 refine Yc (Yb ?_)
 refine Yj [.l 0, .p 1, .p 2, .p 3, .l 4, .p 5, .p 6, .p 7, .p 8, .p 9, .l 10, .p 11, .p 12, .e 13 [0], .p 14, .p 15, .p 16, .e 17 []] mixed (by kernel_rfl) ?_
 refine ASeq.lv rfl rfl rfl rfl (Yv (d := encL _) 0 rfl rfl (.refl _)) ?_
 refine Z5 ?_
 refine Z5 ?_
 refine Z8 ?_
 refine Z45 ?_
 refine Z22 ?_
 refine Z21 ?_
 refine Z57 ?_
 refine ASeq.pe rfl rfl rfl rfl (fun L0 => (Yk (ibelow_c c x0 (by have := hc.1; omega)) (Yn rfl) ⟨rfl, rfl⟩)) ?_
 refine Z8 ?_
 refine Z45 ?_
 refine Z22 ?_
 refine Z21 ?_
 refine ASeq.ee rfl rfl rfl rfl rfl (AOp.callR [_, _, _] (isort_c b bm cs nl RM G hS hC hn K HI HC (c ++ [x0]) x1 (hc.put ht h0 (by omega) 0) (ht.kidB (i := 1) (by omega) hb1 (by omega) (by omega)) g0 (by omega)) (Yn rfl) rfl (fun l2 G2 he2 => ⟨(Keeps.cons (Yv 0 rfl rfl (.refl _)) Yo), ?_⟩) (fun er Ge he2 => ?_))
 obtain ⟨g2, g3, lz2⟩ := sortI_ok K hC hn (hc.put ht h0 (by omega) 0) (ht.kidB (i := 1) (by omega) hb1 (by omega) (by omega)) g0 (by omega) he2
 refine ASeq.pe rfl rfl rfl rfl (fun L0 => (AOp.buildSliceL (ts := [_, _]) rfl rfl rfl rfl rfl ⟨rfl, rfl⟩)) ?_
 refine ASeq.pe rfl rfl rfl rfl (fun L0 => (Yk (lmax_c hS [l, l2] (by simp) (fun x hx => by simp at hx; rcases hx with rfl | rfl <;> assumption)) (Yn rfl) ⟨rfl, rfl⟩)) ?_
 refine ASeq.pe rfl rfl rfl rfl (fun L0 => (Yk (iuniv_c (maxL [l, l2])) (Yn rfl) ⟨rfl, rfl⟩)) ?_
 refine Z42 ?_
 refine ASeq.nil (Yd ?_)
 refine AFin.rRet (un (maxL [l, l2])) (G2) rfl (.cons (Yi (d := encT _) 1 rfl rfl rfl rfl) .nil) (by repeat first | exact X0 _ | apply X1 | apply X2) ?_ ((Ys he).trans ((Ys he2).trans rfl))
 exact .refl _
 exact AFin.rPan (X := X) (fn := Tryz.f138) (Ge) rfl (by repeat first | exact X0 _ | apply X1 | apply X2 | exact X3 _) ((Ys he).trans (RS.bind_er he2))
 exact AFin.rPan (X := X) (fn := Tryz.f138) (Ge) rfl (by repeat first | exact X0 _ | apply X1 | apply X2 | exact X3 _) (RS.bind_er he)
theorem ilam_c (b bm : Nat) (cs : List Core) (nl : Int) (RM : List (Int × D)) (F : Int) (hS : SortedOk) (hC : CoresOk cs) {cn : List Int} {inf : List Term → Term → Int → RS Term} {chk : List Term → Term → Term → Int → RS Unit} {n : Int} (hn : n ≤ 1073741824) (K : Known nl cn inf chk n) (HI : ∀ c t F, CtxOk c F → AskOk nl cn c t F → 0 ≤ F → F ≤ n → ARs X 51 [.ptr b 0, .slT c, encT t] 30 (fun F => [(b, .cells 136 [.int .i64 (F), .slC cs, .int .i64 nl, .map bm]), (bm, .map RM)]) F encT (inf c t F)) (HC : ∀ c t ty F, CtxOk c F → AskOk nl cn c t F → TyOk ty F → 0 ≤ F → F ≤ n → ARs X 60 [.ptr b 0, .slT c, encT t, encT ty] 30 (fun F => [(b, .cells 136 [.int .i64 (F), .slC cs, .int .i64 nl, .map bm]), (bm, .map RM)]) F (fun _ => D.tup []) (chk c t ty F)) (c : List Term) (t : Term) (hc : CtxOk c (F + 1)) (ht : AskOk nl cn c t F) (h0 : 0 ≤ F) (h1 : F ≤ n) (hk : t.kind = 5) : ARs X 139 [.ptr b 0, .slT c, encT t] 30 (fun F => [(b, .cells 136 [.int .i64 (F), .slC cs, .int .i64 nl, .map bm]), (bm, .map RM)]) F encT (lamI cs inf c t F) := by
 have hl : (t.kids.length : Int) = 2 := by have e := hk; exact len_at ht.1 e (fun _ _ _ _ _ _ _ _ => rfl)
 have hb0 : binds t.kind 0 = false := by have e := hk; (rw [e]; rfl)
 have hb1 : binds t.kind 1 = true := by have e := hk; (rw [e]; rfl)
 rcases t with ⟨k0, n0, a0, ls, ks⟩
 obtain ⟨x0, x1, rfl⟩ : ∃ x0 x1, ks = [x0, x1] := by
   have hl2 : ks.length = 2 := by have h : (ks.length : Int) = _ := hl; omega
   match ks, hl2 with
   | [x0, x1], _ => exact ⟨x0, x1, rfl⟩
 refine Zf Tryz.func139 ?_
 refine Yb (Ya ?_)
 refine Z9 (fun b5 => ?_)
 refine Z7 (fun b6 => ?_)
 refine Yc (Yb (Ya ?_))
 refine Z1 ?_
 refine Z1 ?_
 refine Z6 ?_
 refine Z16 ?_
 refine Z75 ?_
 refine Z41 ?_
 refine AOps.e rfl rfl rfl (AOp.callR [_, _] (isort_c b bm cs nl RM F hS hC hn K HI HC c x0 (hc.mono (by omega)) (ht.kidR (i := 0) (Int.le_refl _) hb0 (by omega) (by omega)) h0 h1) (Yn rfl) rfl (fun l G he => ?_) (fun er Ge he => ?_))
 obtain ⟨g0, g1, lz⟩ := sortI_ok K hC hn (hc.mono (by omega)) (ht.kidR (i := 0) (Int.le_refl _) hb0 (by omega) (by omega)) h0 h1 he
 refine Yc (Yb ?_)
 refine Yj [.p 0, .l 1, .p 2, .p 3, .p 4, .p 5, .p 6, .l 7, .p 8, .p 9, .p 10, .p 11, .p 12, .l 13, .p 14, .e 15 [1, 7], .e 16 [1], .p 17, .p 18, .e 19 []] mixed (by kernel_rfl) ?_
 refine Z8 ?_
 refine Z36 ?_
 refine Z22 ?_
 refine Z21 ?_
 refine Z5 ?_
 refine Z5 ?_
 refine Z8 ?_
 refine Z36 ?_
 refine Z22 ?_
 refine Z21 ?_
 refine Z57 ?_
 refine ASeq.pe rfl rfl rfl rfl (fun L0 => (Yk (ibelow_c c x0 (by have := hc.1; omega)) (Yn rfl) ⟨rfl, rfl⟩)) ?_
 refine Z8 ?_
 refine Z36 ?_
 refine Z22 ?_
 refine ASeq.ev0 rfl rfl rfl rfl rfl (Keeps.cons (Yv 1 rfl rfl (.refl _)) (Keeps.cons (Yv 1 rfl rfl (.refl _)) Yo)) (AVal.loadE (d := encT _) rfl rfl rfl) ?_
 refine ASeq.ee rfl rfl rfl rfl rfl (AOp.callR [_, _] (HI (c ++ [x0]) x1 G (hc.put ht h0 (by omega) 0) (ht.kidB (i := 1) (by omega) hb1 (by omega) (by omega)) g0 (by omega)) (Yn rfl) rfl (fun y G2 he2 => ⟨(Keeps.cons (Yv 1 rfl rfl (.refl _)) Yo), ?_⟩) (fun er Ge he2 => ?_))
 refine Z32 ?_
 refine ASeq.pe rfl rfl rfl rfl (fun L0 => (Yk (iof_c 4 [x0, y]) (Yn rfl) ⟨rfl, rfl⟩)) ?_
 refine Z25 ?_
 refine ASeq.nil (Yd ?_)
 refine AFin.rRet (ofT 4 [x0, y]) (G2) rfl (.cons (Yi (d := encT _) 0 rfl rfl rfl rfl) .nil) (by repeat first | exact X0 _ | apply X1 | apply X2) ?_ ((Ys he).trans ((Ys he2).trans rfl))
 exact .refl _
 exact AFin.rPan (X := X) (fn := Tryz.f139) (Ge) rfl (by repeat first | exact X0 _ | apply X1 | apply X2 | exact X3 _) ((Ys he).trans (RS.bind_er he2))
 exact AFin.rPan (X := X) (fn := Tryz.f139) (Ge) rfl (by repeat first | exact X0 _ | apply X1 | apply X2 | exact X3 _) (RS.bind_er he)
theorem iapp_c (b bm : Nat) (cs : List Core) (nl : Int) (RM : List (Int × D)) (F : Int) (hS : SortedOk) (hC : CoresOk cs) {cn : List Int} {inf : List Term → Term → Int → RS Term} {chk : List Term → Term → Term → Int → RS Unit} {n : Int} (hn : n ≤ 1073741824) (K : Known nl cn inf chk n) (HI : ∀ c t F, CtxOk c F → AskOk nl cn c t F → 0 ≤ F → F ≤ n → ARs X 51 [.ptr b 0, .slT c, encT t] 30 (fun F => [(b, .cells 136 [.int .i64 (F), .slC cs, .int .i64 nl, .map bm]), (bm, .map RM)]) F encT (inf c t F)) (HC : ∀ c t ty F, CtxOk c F → AskOk nl cn c t F → TyOk ty F → 0 ≤ F → F ≤ n → ARs X 60 [.ptr b 0, .slT c, encT t, encT ty] 30 (fun F => [(b, .cells 136 [.int .i64 (F), .slC cs, .int .i64 nl, .map bm]), (bm, .map RM)]) F (fun _ => D.tup []) (chk c t ty F)) (c : List Term) (t : Term) (hc : CtxOk c (F + 1)) (ht : AskOk nl cn c t F) (h0 : 0 ≤ F) (h1 : F ≤ n) (hk : t.kind = 6) : ARs X 140 [.ptr b 0, .slT c, encT t] 30 (fun F => [(b, .cells 136 [.int .i64 (F), .slC cs, .int .i64 nl, .map bm]), (bm, .map RM)]) F encT (appI cs inf chk c t F) := by
 have hl : (t.kids.length : Int) = 2 := by have e := hk; exact len_at ht.1 e (fun _ _ _ _ _ _ _ _ => rfl)
 have hb0 : binds t.kind 0 = false := by have e := hk; (rw [e]; rfl)
 have hb1 : binds t.kind 1 = false := by have e := hk; (rw [e]; rfl)
 rcases t with ⟨k0, n0, a0, ls, ks⟩
 obtain ⟨x0, x1, rfl⟩ : ∃ x0 x1, ks = [x0, x1] := by
   have hl2 : ks.length = 2 := by have h : (ks.length : Int) = _ := hl; omega
   match ks, hl2 with
   | [x0, x1], _ => exact ⟨x0, x1, rfl⟩
 refine Zf Tryz.func140 ?_
 refine Yb (Ya ?_)
 refine Z9 (fun b5 => ?_)
 refine Z7 (fun b6 => ?_)
 refine Yc (Yb (Ya ?_))
 refine Z1 ?_
 refine Z1 ?_
 refine Z1 ?_
 refine Z6 ?_
 refine Z16 ?_
 refine Z75 ?_
 refine Z41 ?_
 refine AOps.e rfl rfl rfl (AOp.callR [_, _] (HI c x0 F (hc.mono (by omega)) (ht.kidR (i := 0) (Int.le_refl _) hb0 (by omega) (by omega)) h0 h1) (Yn rfl) rfl (fun y G he => ?_) (fun er Ge he => ?_))
 have htz := ht.2.2
 obtain ⟨yf, g0, g1, yz⟩ := K.inf c x0 F y G (hc.mono (by omega)) (ht.kidR (i := 0) (Int.le_refl _) hb0 (by omega) (by omega)) h0 h1 he
 have hx0 : fsz x0 ≤ fsz _ := fsz_kid (.mk k0 n0 a0 ls [x0, x1]) 0
 have hx1 : fsz x1 ≤ fsz _ := fsz_kid (.mk k0 n0 a0 ls [x0, x1]) 1
 have x1f : x1.fit 1099511627776 := kid_fit ht.2.1 1
 refine AOps.e rfl rfl rfl (AOp.callR [_, _] (ias_c b bm cs nl RM G hS hC y 4 8 g0 (by omega) ⟨yf, by omega⟩) (Yn rfl) rfl (fun ab G2 he2 => ?_) (fun er Ge he2 => ?_))
 obtain ⟨g2, g3, af, bf, az, bz⟩ := asI_ok hC g0 (by omega) ⟨yf, by omega⟩ he2
 refine Z1 ?_
 refine Z12 ?_
 refine Z12 ?_
 refine Z7 (fun b7 => ?_)
 refine Z7 (fun b8 => ?_)
 refine Z10 ?_
 refine Z3 ?_
 refine Yc (Yb ?_)
 refine Yj [.p 0, .p 1, .p 2, .l 3, .p 4, .p 5, .l 6, .e 7 []] mixed (by kernel_rfl) ?_
 refine Z5 ?_
 refine Z5 ?_
 refine Z8 ?_
 refine Z43 ?_
 refine Z22 ?_
 refine Z21 ?_
 refine Z28 ?_
 refine ASeq.ee rfl rfl rfl rfl rfl (AOp.callR [_, _, _, _] (HC c x1 ab.1 G2 (hc.mono (by omega)) (ht.kidR (i := 1) (by omega) hb1 (by omega) (by omega)) ⟨af, by omega⟩ g2 (by omega)) (Yn rfl) rfl (fun u G3 he3 => ⟨Yo, ?_⟩) (fun er Ge he3 => ?_))
 obtain ⟨g4, g5⟩ := K.chk c x1 ab.1 G2 u G3 (hc.mono (by omega)) (ht.kidR (i := 1) (by omega) hb1 (by omega) (by omega)) ⟨af, by omega⟩ g2 (by omega) he3
 refine ASeq.nil (Yb ?_)
 refine Yj [.p 0, .l 1, .p 2, .l 3, .p 4, .p 5, .e 6 [], .e 7 []] mixed (by kernel_rfl) ?_
 refine Z5 ?_
 refine Z31 ?_
 refine Z8 ?_
 refine Z43 ?_
 refine Z22 ?_
 refine Z21 ?_
 refine ASeq.ee rfl rfl rfl rfl rfl (AOp.callR [_, _, _, _] (iput_c b bm cs nl RM G3 ab.2 x1 g4 (by omega) bf x1f (by have := sz_le_fsz ab.2; omega) (by have := sz_le_fsz x1; omega)) (Yn rfl) rfl (fun z G4 he4 => ⟨Yo, ?_⟩) (fun er Ge he4 => ?_))
 refine Z46 ?_
 refine ASeq.nil (Yd ?_)
 refine AFin.rRet (z) (G4) rfl (.cons (Yi (d := encT _) 2 rfl rfl rfl rfl) .nil) (by repeat first | exact X0 _ | apply X1 | apply X2) ?_ ((Ys he).trans ((Ys he2).trans ((Ys he3).trans he4)))
 exact .refl _
 exact AFin.rPan (X := X) (fn := Tryz.f140) (Ge) rfl (by repeat first | exact X0 _ | apply X1 | apply X2 | exact X3 _) ((Ys he).trans ((Ys he2).trans ((Ys he3).trans he4)))
 exact AFin.rPan (X := X) (fn := Tryz.f140) (Ge) rfl (by repeat first | exact X0 _ | apply X1 | apply X2 | exact X3 _) ((Ys he).trans ((Ys he2).trans (RS.bind_er he3)))
 exact AFin.rPan (X := X) (fn := Tryz.f140) (Ge) rfl (by repeat first | exact X0 _ | apply X1 | apply X2 | exact X3 _) ((Ys he).trans (RS.bind_er he2))
 exact AFin.rPan (X := X) (fn := Tryz.f140) (Ge) rfl (by repeat first | exact X0 _ | apply X1 | apply X2 | exact X3 _) (RS.bind_er he)
theorem imotive_c (b bm : Nat) (cs : List Core) (nl : Int) (RM : List (Int × D)) (F : Int) (hS : SortedOk) (hC : CoresOk cs) {cn : List Int} {inf : List Term → Term → Int → RS Term} {chk : List Term → Term → Term → Int → RS Unit} {n : Int} (hn : n ≤ 1073741824) (K : Known nl cn inf chk n) (HI : ∀ c t F, CtxOk c F → AskOk nl cn c t F → 0 ≤ F → F ≤ n → ARs X 51 [.ptr b 0, .slT c, encT t] 30 (fun F => [(b, .cells 136 [.int .i64 (F), .slC cs, .int .i64 nl, .map bm]), (bm, .map RM)]) F encT (inf c t F)) (HC : ∀ c t ty F, CtxOk c F → AskOk nl cn c t F → TyOk ty F → 0 ≤ F → F ≤ n → ARs X 60 [.ptr b 0, .slT c, encT t, encT ty] 30 (fun F => [(b, .cells 136 [.int .i64 (F), .slC cs, .int .i64 nl, .map bm]), (bm, .map RM)]) F (fun _ => D.tup []) (chk c t ty F)) (c : List Term) (p t : Term) (hc : CtxOk c F) (hp : AskOk nl cn c p F) (ht : TyOk t F) (h0 : 0 ≤ F) (h1 : F ≤ n) : ARs X 173 [.ptr b 0, .slT c, encT p, encT t] 30 (fun F => [(b, .cells 136 [.int .i64 (F), .slC cs, .int .i64 nl, .map bm]), (bm, .map RM)]) F (fun _ => D.tup []) (motivI cs inf c p t F) := by
 refine Zf Tryz.func173 ?_
 refine Yb (Ya ?_)
 refine Z9 (fun b6 => ?_)
 refine Z9 (fun b7 => ?_)
 refine Yc (Yb (Ya ?_))
 refine Z1 ?_
 refine Z1 ?_
 refine Z1 ?_
 refine Z23 ?_
 refine AOps.e rfl rfl rfl (AOp.callR [_, _] (HI c p F hc hp h0 h1) (Yn rfl) rfl (fun y G he => ?_) (fun er Ge he => ?_))
 have hpz := hp.2.2
 have htz := ht.2
 obtain ⟨yf, g0, g1, yz⟩ := K.inf c p F y G hc hp h0 h1 he
 refine AOps.e rfl rfl rfl (AOp.callR [_, _] (ias_c b bm cs nl RM G hS hC y 4 8 g0 (by omega) ⟨yf, by omega⟩) (Yn rfl) rfl (fun ab G2 he2 => ?_) (fun er Ge he2 => ?_))
 obtain ⟨g2, g3, af, bf, az, bz⟩ := asI_ok hC g0 (by omega) ⟨yf, by omega⟩ he2
 refine Z1 ?_
 refine Z12 ?_
 refine Z12 ?_
 refine Z7 (fun b8 => ?_)
 refine Z7 (fun b9 => ?_)
 refine Z10 ?_
 refine Z3 ?_
 refine Yc (Yb (Ya ?_))
 refine Z1 ?_
 refine Z23 ?_
 refine Z39 ?_
 refine AOps.e rfl rfl rfl (AOp.callR [_, _, _, _] (ione_c b bm cs nl RM G2 hS hC ab.1 t 13 g2 (by omega) ⟨af, by omega⟩ ⟨ht.1, by omega⟩) (Yn rfl) rfl (fun u G3 he3 => ?_) (fun er Ge he3 => ?_))
 obtain ⟨g4, g5⟩ := oneI_ok hC g2 (by omega) ⟨af, by omega⟩ ⟨ht.1, by omega⟩ he3
 refine Yc (Ya ?_)
 refine Z1 ?_
 refine Z20 ?_
 refine AOps.e rfl rfl rfl (AOp.callR [_, _, _, _] (ilevel_c b bm cs nl RM G3 hS hC ab.2 g4 (by omega) ⟨bf, by omega⟩) (Yn rfl) rfl (fun l G4 he4 => ?_) (fun er Ge he4 => ?_))
 refine Yc ?_
 refine AFin.rEnd (()) (G4) rfl .nil (by repeat first | exact X0 _ | apply X1 | apply X2) ?_ ((Ys he).trans ((Ys he2).trans ((Ys he3).trans ((Ys he4).trans rfl))))
 exact .refl _
 exact AFin.rPan (X := X) (fn := Tryz.f173) (Ge) rfl (by repeat first | exact X0 _ | apply X1 | apply X2 | exact X3 _) ((Ys he).trans ((Ys he2).trans ((Ys he3).trans (RS.bind_er he4))))
 exact AFin.rPan (X := X) (fn := Tryz.f173) (Ge) rfl (by repeat first | exact X0 _ | apply X1 | apply X2 | exact X3 _) ((Ys he).trans ((Ys he2).trans (RS.bind_er he3)))
 exact AFin.rPan (X := X) (fn := Tryz.f173) (Ge) rfl (by repeat first | exact X0 _ | apply X1 | apply X2 | exact X3 _) ((Ys he).trans (RS.bind_er he2))
 exact AFin.rPan (X := X) (fn := Tryz.f173) (Ge) rfl (by repeat first | exact X0 _ | apply X1 | apply X2 | exact X3 _) (RS.bind_er he)
theorem ilet_c (b bm : Nat) (cs : List Core) (nl : Int) (RM : List (Int × D)) (F : Int) (hS : SortedOk) (hC : CoresOk cs) {cn : List Int} {inf : List Term → Term → Int → RS Term} {chk : List Term → Term → Term → Int → RS Unit} {n : Int} (hn : n ≤ 1073741824) (K : Known nl cn inf chk n) (HI : ∀ c t F, CtxOk c F → AskOk nl cn c t F → 0 ≤ F → F ≤ n → ARs X 51 [.ptr b 0, .slT c, encT t] 30 (fun F => [(b, .cells 136 [.int .i64 (F), .slC cs, .int .i64 nl, .map bm]), (bm, .map RM)]) F encT (inf c t F)) (HC : ∀ c t ty F, CtxOk c F → AskOk nl cn c t F → TyOk ty F → 0 ≤ F → F ≤ n → ARs X 60 [.ptr b 0, .slT c, encT t, encT ty] 30 (fun F => [(b, .cells 136 [.int .i64 (F), .slC cs, .int .i64 nl, .map bm]), (bm, .map RM)]) F (fun _ => D.tup []) (chk c t ty F)) (c : List Term) (t : Term) (hc : CtxOk c (F + 1)) (ht : AskOk nl cn c t F) (h0 : 0 ≤ F) (h1 : F ≤ n) (hk : t.kind = 7) : ARs X 112 [.ptr b 0, .slT c, encT t] 30 (fun F => [(b, .cells 136 [.int .i64 (F), .slC cs, .int .i64 nl, .map bm]), (bm, .map RM)]) F encT (lettI cs inf chk c t F) := by
 have hl : (t.kids.length : Int) = 3 := by have e := hk; exact len_at ht.1 e (fun _ _ _ _ _ _ _ _ => rfl)
 have hb0 : binds t.kind 0 = false := by have e := hk; (rw [e]; rfl)
 have hb1 : binds t.kind 1 = false := by have e := hk; (rw [e]; rfl)
 have hb2 : binds t.kind 2 = true := by have e := hk; (rw [e]; rfl)
 rcases t with ⟨k0, n0, a0, ls, ks⟩
 obtain ⟨x0, x1, x2, rfl⟩ : ∃ x0 x1 x2, ks = [x0, x1, x2] := by
   have hl2 : ks.length = 3 := by have h : (ks.length : Int) = _ := hl; omega
   match ks, hl2 with
   | [x0, x1, x2], _ => exact ⟨x0, x1, x2, rfl⟩
 have hx0 : fsz x0 ≤ fsz (.mk k0 n0 a0 ls [x0, x1, x2]) := fsz_kid (.mk k0 n0 a0 ls [x0, x1, x2]) 0
 have x0f : x0.fit 1099511627776 := kid_fit ht.2.1 0
 have hx1 : fsz x1 ≤ fsz (.mk k0 n0 a0 ls [x0, x1, x2]) := fsz_kid (.mk k0 n0 a0 ls [x0, x1, x2]) 1
 have x1f : x1.fit 1099511627776 := kid_fit ht.2.1 1
 have hx2 : fsz x2 ≤ fsz (.mk k0 n0 a0 ls [x0, x1, x2]) := fsz_kid (.mk k0 n0 a0 ls [x0, x1, x2]) 2
 have x2f : x2.fit 1099511627776 := kid_fit ht.2.1 2
 have htz := ht.2.2
 refine Zf Tryz.func112 ?_
 refine Yb (Ya ?_)
 refine Z9 (fun b5 => ?_)
 refine Z7 (fun b6 => ?_)
 refine Yc (Yb (Ya ?_))
 refine Z1 ?_
 refine Z1 ?_
 refine Z6 ?_
 refine Z16 ?_
 refine Z75 ?_
 refine Z41 ?_
 refine AOps.e rfl rfl rfl (AOp.callR [_, _] (isort_c b bm cs nl RM F hS hC hn K HI HC c x0 (hc.mono (by omega)) (ht.kidR (i := 0) (Int.le_refl _) hb0 (by omega) (by omega)) h0 h1) (Yn rfl) rfl (fun l G he => ?_) (fun er Ge he => ?_))
 obtain ⟨g0, g1, lz⟩ := sortI_ok K hC hn (hc.mono (by omega)) (ht.kidR (i := 0) (Int.le_refl _) hb0 (by omega) (by omega)) h0 h1 he
 refine Yc (Yb ?_)
 refine Yj [.p 0, .p 1, .p 2, .l 3, .p 4, .p 5, .p 6, .l 7, .p 8, .p 9, .e 10 []] mixed (by kernel_rfl) ?_
 refine Z5 ?_
 refine Z5 ?_
 refine Z8 ?_
 refine Z36 ?_
 refine Z22 ?_
 refine Z21 ?_
 refine Z8 ?_
 refine Z36 ?_
 refine Z22 ?_
 refine Z21 ?_
 refine ASeq.ee rfl rfl rfl rfl rfl (AOp.callR [_, _] (HC c x1 x0 G (hc.mono (by omega)) (ht.kidR (i := 1) (by omega) hb1 (by omega) (by omega)) ⟨x0f, by omega⟩ g0 (by omega)) (Yn rfl) rfl (fun u G2 he2 => ⟨Yo, ?_⟩) (fun er Ge he2 => ?_))
 obtain ⟨g2, g3⟩ := K.chk c x1 x0 G u G2 (hc.mono (by omega)) (ht.kidR (i := 1) (by omega) hb1 (by omega) (by omega)) ⟨x0f, by omega⟩ g0 (by omega) he2
 refine ASeq.nil (Yb ?_)
 refine Yj [.p 0, .p 1, .l 2, .p 3, .p 4, .p 5, .l 6, .p 7, .p 8, .e 9 [], .e 10 []] mixed (by kernel_rfl) ?_
 refine Z5 ?_
 refine Z8 ?_
 refine Z36 ?_
 refine Z22 ?_
 refine Z21 ?_
 refine Z8 ?_
 refine Z36 ?_
 refine Z22 ?_
 refine Z21 ?_
 refine ASeq.ee rfl rfl rfl rfl rfl (AOp.callR [_, _] (iput_c b bm cs nl RM G2 x2 x1 g2 (by omega) x2f x1f (by have := sz_le_fsz x2; omega) (by have := sz_le_fsz x1; omega)) (Yn rfl) rfl (fun z G3 he3 => ⟨Yo, ?_⟩) (fun er Ge he3 => ?_))
 refine Z25 ?_
 refine ASeq.nil (Yd ?_)
 refine AFin.rRet (z) (G3) rfl (.cons (Yi (d := encT _) 0 rfl rfl rfl rfl) .nil) (by repeat first | exact X0 _ | apply X1 | apply X2) ?_ ((Ys he).trans ((Ys he2).trans he3))
 exact .refl _
 exact AFin.rPan (X := X) (fn := Tryz.f112) (Ge) rfl (by repeat first | exact X0 _ | apply X1 | apply X2 | exact X3 _) ((Ys he).trans ((Ys he2).trans he3))
 exact AFin.rPan (X := X) (fn := Tryz.f112) (Ge) rfl (by repeat first | exact X0 _ | apply X1 | apply X2 | exact X3 _) ((Ys he).trans (RS.bind_er he2))
 exact AFin.rPan (X := X) (fn := Tryz.f112) (Ge) rfl (by repeat first | exact X0 _ | apply X1 | apply X2 | exact X3 _) (RS.bind_er he)
theorem iwithin_c (b bm : Nat) (cs : List Core) (nl : Int) (RM : List (Int × D)) (F : Int) (hS : SortedOk) (hC : CoresOk cs) {cn : List Int} {inf : List Term → Term → Int → RS Term} {chk : List Term → Term → Term → Int → RS Unit} {n : Int} (hn : n ≤ 1073741824) (K : Known nl cn inf chk n) (HI : ∀ c t F, CtxOk c F → AskOk nl cn c t F → 0 ≤ F → F ≤ n → ARs X 51 [.ptr b 0, .slT c, encT t] 30 (fun F => [(b, .cells 136 [.int .i64 (F), .slC cs, .int .i64 nl, .map bm]), (bm, .map RM)]) F encT (inf c t F)) (HC : ∀ c t ty F, CtxOk c F → AskOk nl cn c t F → TyOk ty F → 0 ≤ F → F ≤ n → ARs X 60 [.ptr b 0, .slT c, encT t, encT ty] 30 (fun F => [(b, .cells 136 [.int .i64 (F), .slC cs, .int .i64 nl, .map bm]), (bm, .map RM)]) F (fun _ => D.tup []) (chk c t ty F)) (c : List Term) (t : Term) (hc : CtxOk c (F + 1)) (ht : AskOk nl cn c t F) (h0 : 0 ≤ F) (h1 : F ≤ n) (hk : t.kind = 7) : ARs X 141 [.ptr b 0, .slT c, encT t] 30 (fun F => [(b, .cells 136 [.int .i64 (F), .slC cs, .int .i64 nl, .map bm]), (bm, .map RM)]) F encT ((lettI cs inf chk c t F).bind fun x F => inf c x F) := by
 refine Zf Tryz.func141 ?_
 refine Yb (Ya ?_)
 refine Z9 (fun b5 => ?_)
 refine Z7 (fun b6 => ?_)
 refine Yc (Yb (Ya ?_))
 refine Z1 ?_
 refine Z1 ?_
 refine Z1 ?_
 refine Z1 ?_
 refine Z23 ?_
 refine AOps.e rfl rfl rfl (AOp.callR [_, _] (ilet_c b bm cs nl RM F hS hC hn K HI HC c t hc ht h0 h1 hk) (Yn rfl) rfl (fun y G he => ?_) (fun er Ge he => ?_))
 have hy := lettI_ok K hC hn hc ht hk h0 h1 he
 refine AOps.e rfl rfl rfl (AOp.callR [_, _] (HI c y G (hc.mono (by omega)) hy.1 hy.2.1 (by omega)) (Yn rfl) rfl (fun z G2 he2 => ?_) (fun er Ge he2 => ?_))
 refine Z3 ?_
 refine Yc (Yd ?_)
 refine AFin.rRet (z) (G2) rfl (.cons (Yi (d := encT _) 0 rfl rfl rfl rfl) .nil) (by repeat first | exact X0 _ | apply X1 | apply X2) ?_ ((Ys he).trans he2)
 exact .refl _
 exact AFin.rPan (X := X) (fn := Tryz.f141) (Ge) rfl (by repeat first | exact X0 _ | apply X1 | apply X2 | exact X3 _) ((Ys he).trans he2)
 exact AFin.rPan (X := X) (fn := Tryz.f141) (Ge) rfl (by repeat first | exact X0 _ | apply X1 | apply X2 | exact X3 _) (RS.bind_er he)
theorem iid_c (b bm : Nat) (cs : List Core) (nl : Int) (RM : List (Int × D)) (F : Int) (hS : SortedOk) (hC : CoresOk cs) {cn : List Int} {inf : List Term → Term → Int → RS Term} {chk : List Term → Term → Term → Int → RS Unit} {n : Int} (hn : n ≤ 1073741824) (K : Known nl cn inf chk n) (HI : ∀ c t F, CtxOk c F → AskOk nl cn c t F → 0 ≤ F → F ≤ n → ARs X 51 [.ptr b 0, .slT c, encT t] 30 (fun F => [(b, .cells 136 [.int .i64 (F), .slC cs, .int .i64 nl, .map bm]), (bm, .map RM)]) F encT (inf c t F)) (HC : ∀ c t ty F, CtxOk c F → AskOk nl cn c t F → TyOk ty F → 0 ≤ F → F ≤ n → ARs X 60 [.ptr b 0, .slT c, encT t, encT ty] 30 (fun F => [(b, .cells 136 [.int .i64 (F), .slC cs, .int .i64 nl, .map bm]), (bm, .map RM)]) F (fun _ => D.tup []) (chk c t ty F)) (c : List Term) (t : Term) (hc : CtxOk c (F + 1)) (ht : AskOk nl cn c t F) (h0 : 0 ≤ F) (h1 : F ≤ n) (hk : t.kind = 19) : ARs X 144 [.ptr b 0, .slT c, encT t] 30 (fun F => [(b, .cells 136 [.int .i64 (F), .slC cs, .int .i64 nl, .map bm]), (bm, .map RM)]) F encT (idI cs inf chk c t F) := by
 have hl : (t.kids.length : Int) = 3 := by have e := hk; exact len_at ht.1 e (fun _ _ _ _ _ _ _ _ => rfl)
 have hb0 : binds t.kind 0 = false := by have e := hk; (rw [e]; rfl)
 have hb1 : binds t.kind 1 = false := by have e := hk; (rw [e]; rfl)
 have hb2 : binds t.kind 2 = false := by have e := hk; (rw [e]; rfl)
 rcases t with ⟨k0, n0, a0, ls, ks⟩
 obtain ⟨x0, x1, x2, rfl⟩ : ∃ x0 x1 x2, ks = [x0, x1, x2] := by
   have hl2 : ks.length = 3 := by have h : (ks.length : Int) = _ := hl; omega
   match ks, hl2 with
   | [x0, x1, x2], _ => exact ⟨x0, x1, x2, rfl⟩
 have hx0 : fsz x0 ≤ fsz (.mk k0 n0 a0 ls [x0, x1, x2]) := fsz_kid (.mk k0 n0 a0 ls [x0, x1, x2]) 0
 have x0f : x0.fit 1099511627776 := kid_fit ht.2.1 0
 have htz := ht.2.2
 refine Zf Tryz.func144 ?_
 refine Yb (Ya ?_)
 refine Z9 (fun b5 => ?_)
 refine Z7 (fun b6 => ?_)
 refine Yc (Yb (Ya ?_))
 refine Z1 ?_
 refine Z1 ?_
 refine Z6 ?_
 refine Z16 ?_
 refine Z75 ?_
 refine Z41 ?_
 refine AOps.e rfl rfl rfl (AOp.callR [_, _] (isort_c b bm cs nl RM F hS hC hn K HI HC c x0 (hc.mono (by omega)) (ht.kidR (i := 0) (Int.le_refl _) hb0 (by omega) (by omega)) h0 h1) (Yn rfl) rfl (fun l G he => ?_) (fun er Ge he => ?_))
 obtain ⟨g0, g1, lz⟩ := sortI_ok K hC hn (hc.mono (by omega)) (ht.kidR (i := 0) (Int.le_refl _) hb0 (by omega) (by omega)) h0 h1 he
 refine Z7 (fun b7 => ?_)
 refine Z3 ?_
 refine Yc (Yb ?_)
 refine Yj [.p 0, .p 1, .p 2, .l 3, .p 4, .p 5, .p 6, .l 7, .p 8, .p 9, .e 10 []] mixed (by kernel_rfl) ?_
 refine Z5 ?_
 refine Z5 ?_
 refine Z8 ?_
 refine Z45 ?_
 refine Z22 ?_
 refine Z21 ?_
 refine Z8 ?_
 refine Z45 ?_
 refine Z22 ?_
 refine Z21 ?_
 refine ASeq.ee rfl rfl rfl rfl rfl (AOp.callR [_, _, _] (HC c x1 x0 G (hc.mono (by omega)) (ht.kidR (i := 1) (by omega) hb1 (by omega) (by omega)) ⟨x0f, by omega⟩ g0 (by omega)) (Yn rfl) rfl (fun u G2 he2 => ⟨Yo, ?_⟩) (fun er Ge he2 => ?_))
 obtain ⟨g2, g3⟩ := K.chk c x1 x0 G u G2 (hc.mono (by omega)) (ht.kidR (i := 1) (by omega) hb1 (by omega) (by omega)) ⟨x0f, by omega⟩ g0 (by omega) he2
 refine ASeq.nil (Yb ?_)
 refine Yj [.p 0, .p 1, .p 2, .l 3, .p 4, .p 5, .p 6, .l 7, .p 8, .p 9, .e 10 []] mixed (by kernel_rfl) ?_
 refine Z5 ?_
 refine Z5 ?_
 refine Z8 ?_
 refine Z45 ?_
 refine Z22 ?_
 refine Z21 ?_
 refine Z8 ?_
 refine Z45 ?_
 refine Z22 ?_
 refine Z21 ?_
 refine ASeq.ee rfl rfl rfl rfl rfl (AOp.callR [_, _, _] (HC c x2 x0 G2 (hc.mono (by omega)) (ht.kidR (i := 2) (by omega) hb2 (by omega) (by omega)) ⟨x0f, by omega⟩ g2 (by omega)) (Yn rfl) rfl (fun u2 G3 he3 => ⟨Yo, ?_⟩) (fun er Ge he3 => ?_))
 refine ASeq.nil (Yb (Ya ?_))
 refine AOps.v rfl rfl rfl (AVal.loadP (d := encL _) 0 rfl rfl rfl rfl) ?_
 refine AOps.e rfl rfl rfl (Yk (iuniv_c l) (Yn rfl) ?_)
 refine Z10 ?_
 refine Yc (Yd ?_)
 refine AFin.rRet (un l) (G3) rfl (.cons (Yi (d := encT _) 1 rfl rfl rfl rfl) .nil) (by repeat first | exact X0 _ | apply X1 | apply X2) ?_ ((Ys he).trans ((Ys he2).trans ((Ys he3).trans rfl)))
 exact .refl _
 exact AFin.rPan (X := X) (fn := Tryz.f144) (Ge) rfl (by repeat first | exact X0 _ | apply X1 | apply X2 | exact X3 _) ((Ys he).trans ((Ys he2).trans (RS.bind_er he3)))
 exact AFin.rPan (X := X) (fn := Tryz.f144) (Ge) rfl (by repeat first | exact X0 _ | apply X1 | apply X2 | exact X3 _) ((Ys he).trans (RS.bind_er he2))
 exact AFin.rPan (X := X) (fn := Tryz.f144) (Ge) rfl (by repeat first | exact X0 _ | apply X1 | apply X2 | exact X3 _) (RS.bind_er he)
theorem ihalf_c (b bm : Nat) (cs : List Core) (nl : Int) (RM : List (Int × D)) (F : Int) (hS : SortedOk) (hC : CoresOk cs) {cn : List Int} {inf : List Term → Term → Int → RS Term} {chk : List Term → Term → Term → Int → RS Unit} {n : Int} (hn : n ≤ 1073741824) (K : Known nl cn inf chk n) (HI : ∀ c t F, CtxOk c F → AskOk nl cn c t F → 0 ≤ F → F ≤ n → ARs X 51 [.ptr b 0, .slT c, encT t] 30 (fun F => [(b, .cells 136 [.int .i64 (F), .slC cs, .int .i64 nl, .map bm]), (bm, .map RM)]) F encT (inf c t F)) (HC : ∀ c t ty F, CtxOk c F → AskOk nl cn c t F → TyOk ty F → 0 ≤ F → F ≤ n → ARs X 60 [.ptr b 0, .slT c, encT t, encT ty] 30 (fun F => [(b, .cells 136 [.int .i64 (F), .slC cs, .int .i64 nl, .map bm]), (bm, .map RM)]) F (fun _ => D.tup []) (chk c t ty F)) (c : List Term) (t : Term) (hc : CtxOk c (F + 1)) (ht : AskOk nl cn c t F) (h0 : 0 ≤ F) (h1 : F ≤ n) (hk : t.kind = 14 ∨ t.kind = 15) : ARs X 142 [.ptr b 0, .slT c, encT t] 30 (fun F => [(b, .cells 136 [.int .i64 (F), .slC cs, .int .i64 nl, .map bm]), (bm, .map RM)]) F encT (halfI cs inf c t F) := by
 have hl : (t.kids.length : Int) = 1 := by rcases hk with e | e <;> exact len_at ht.1 e (fun _ _ _ _ _ _ _ _ => rfl)
 have hb0 : binds t.kind 0 = false := by rcases hk with e | e <;> (rw [e]; rfl)
 rcases t with ⟨k0, n0, a0, ls, ks⟩
 obtain ⟨x0, rfl⟩ : ∃ x0, ks = [x0] := by
   have hl2 : ks.length = 1 := by have h : (ks.length : Int) = _ := hl; omega
   match ks, hl2 with
   | [x0], _ => exact ⟨x0, rfl⟩
 have hx0 : fsz x0 ≤ fsz (.mk k0 n0 a0 ls [x0]) := fsz_kid (.mk k0 n0 a0 ls [x0]) 0
 have x0f : x0.fit 1099511627776 := kid_fit ht.2.1 0
 have htz := ht.2.2
 refine Zf Tryz.func142 ?_
 refine Yb (Ya ?_)
 refine Z9 (fun b5 => ?_)
 refine Z7 (fun b6 => ?_)
 refine Yc (Yb (Ya ?_))
 refine Z1 ?_
 refine Z1 ?_
 refine Z1 ?_
 refine Z6 ?_
 refine Z16 ?_
 refine Z75 ?_
 refine Z41 ?_
 refine AOps.e rfl rfl rfl (AOp.callR [_, _] (HI c x0 F (hc.mono (by omega)) (ht.kidR (i := 0) (Int.le_refl _) hb0 (by omega) (by omega)) h0 h1) (Yn rfl) rfl (fun y G he => ?_) (fun er Ge he => ?_))
 obtain ⟨yf, g0, g1, yz⟩ := K.inf c x0 F y G (hc.mono (by omega)) (ht.kidR (i := 0) (Int.le_refl _) hb0 (by omega) (by omega)) h0 h1 he
 refine AOps.e rfl rfl rfl (AOp.callR [_, _] (ias_c b bm cs nl RM G hS hC y 12 9 g0 (by omega) ⟨yf, by omega⟩) (Yn rfl) rfl (fun ab G2 he2 => ?_) (fun er Ge he2 => ?_))
 obtain ⟨g2, g3, af, bf, az, bz⟩ := asI_ok hC g0 (by omega) ⟨yf, by omega⟩ he2
 refine Z1 ?_
 refine Z12 ?_
 refine Z12 ?_
 refine Z7 (fun b7 => ?_)
 refine Z7 (fun b8 => ?_)
 refine Z10 ?_
 refine Z3 ?_
 refine Yc (Yb (Yb (Ya ?_)))
 refine Z6 ?_
 refine Z66 ?_
 refine Z40 ?_
 refine Yc ?_
 refine Zc (fun h23 => ?_) (fun h23 => ?_)
 try simp only [sz] at h23
 refine Yb (Ya ?_)
 refine Z23 ?_
 refine Z34 ?_
 refine Yc (Yd ?_)
 refine AFin.rRet (ab.1) (G2) rfl (.cons (Yi (d := encT _) 2 rfl rfl rfl rfl) .nil) (by repeat first | exact X0 _ | apply X1 | apply X2) ?_ ((Ys he).trans ((Ys he2).trans (if_pos h23)))
 exact .refl _
 try simp only [sz] at h23
 refine Ye (Yb ?_)
 refine Yj [.p 0, .l 1, .p 2, .l 3, .p 4, .p 5, .p 6, .p 7, .e 8 [], .e 9 []] mixed (by kernel_rfl) ?_
 refine Z5 ?_
 refine Z31 ?_
 refine Z8 ?_
 refine Z43 ?_
 refine Z22 ?_
 refine Z21 ?_
 refine Z57 ?_
 refine ASeq.pe rfl rfl rfl rfl (fun L0 => (Yk (iof_c 14 [x0]) (Yn rfl) ⟨rfl, rfl⟩)) ?_
 refine ASeq.ee rfl rfl rfl rfl rfl (AOp.callR [_, _, _, _] (iput_c b bm cs nl RM G2 ab.2 (ofT 14 [x0]) g2 (by omega) bf (mk_fit (by simp) (fun u hu => by rw [List.mem_singleton.1 hu]; exact x0f) (by omega)) (by have := sz_le_fsz ab.2; omega) (by have := sz_le_fsz x0; simp only [Term.sz, Term.szs]; omega)) (Yn rfl) rfl (fun z G3 he3 => ⟨Yo, ?_⟩) (fun er Ge he3 => ?_))
 refine Z46 ?_
 refine ASeq.nil (Yd ?_)
 refine AFin.rRet (z) (G3) rfl (.cons (Yi (d := encT _) 2 rfl rfl rfl rfl) .nil) (by repeat first | exact X0 _ | apply X1 | apply X2) ?_ ((Ys he).trans ((Ys he2).trans ((if_neg h23).trans he3)))
 exact .refl _
 exact AFin.rPan (X := X) (fn := Tryz.f142) (Ge) rfl (by repeat first | exact X0 _ | apply X1 | apply X2 | exact X3 _) ((Ys he).trans ((Ys he2).trans ((if_neg h23).trans he3)))
 exact AFin.rPan (X := X) (fn := Tryz.f142) (Ge) rfl (by repeat first | exact X0 _ | apply X1 | apply X2 | exact X3 _) ((Ys he).trans (RS.bind_er he2))
 exact AFin.rPan (X := X) (fn := Tryz.f142) (Ge) rfl (by repeat first | exact X0 _ | apply X1 | apply X2 | exact X3 _) (RS.bind_er he)
theorem ivar_c (b bm : Nat) (cs : List Core) (nl : Int) (RM : List (Int × D)) (F : Int) {cn : List Int} (c : List Term) (t : Term) (hc : CtxOk c (F + 1)) (ht : AskOk nl cn c t F) (h0 : 0 ≤ F) (hk : t.kind = 1) : ARs X 135 [.ptr b 0, .slT c, encT t] 30 (fun F => [(b, .cells 136 [.int .i64 (F), .slC cs, .int .i64 nl, .map bm]), (bm, .map RM)]) F encT (.ok (lift (c.getD ((c.length : Int) - 1 - t.num).toNat default) (t.num + 1) 0) F) := by
 have hv := (right_iff.1 ht.1).1
 rw [asks_var hk] at hv
 obtain ⟨v0, v1, _⟩ := varB_iff.1 hv
 have hcl := hc.1
 have hm : c.getD ((c.length : Int) - 1 - t.num).toNat default ∈ c := getD_mem (by omega)
 obtain ⟨ef, ez⟩ := hc.2 _ hm
 refine Zf Tryz.func135 ?_
 refine Yb (Ya ?_)
 refine Z9 (fun b5 => ?_)
 refine Z7 (fun b6 => ?_)
 refine Yc (Yb ?_)
 refine Yj [.p 0, .p 1, .p 2, .p 3, .p 4, .l 5, .p 6, .p 7, .p 8, .p 9, .l 10, .p 11, .p 12, .e 13 []] mixed (by kernel_rfl) ?_
 refine Z5 ?_
 refine Z5 ?_
 refine Yt rfl rfl rfl rfl (fun L0 => (AVal.len rfl rfl rfl)) ?_
 refine Yt rfl rfl rfl rfl (fun L0 => (AVal.subn rfl rfl (by omega))) ?_
 refine Z8 ?_
 refine Z36 ?_
 refine Yt rfl rfl rfl rfl (fun L0 => (AVal.subn rfl rfl (by omega))) ?_
 refine Z86 ?_
 refine Z21 ?_
 refine Z8 ?_
 refine Z36 ?_
 refine Yt rfl rfl rfl rfl (fun L0 => (AVal.addn rfl rfl (by omega))) ?_
 refine ASeq.pe rfl rfl rfl rfl (fun L0 => (Yk (iup_c _ (t.num + 1) ef (by have := sz_le_fsz (c.getD ((c.length : Int) - 1 - t.num).toNat default); omega)) (Yn rfl) ⟨rfl, rfl⟩)) ?_
 refine Z25 ?_
 refine ASeq.nil (Yd ?_)
 refine AFin.rRet (lift (c.getD ((c.length : Int) - 1 - t.num).toNat default) (t.num + 1) 0) (F) rfl (.cons (Yi (d := encT _) 0 rfl rfl rfl rfl) .nil) (by repeat first | exact X0 _ | apply X1 | apply X2) ?_ (rfl)
 exact .refl _
theorem ifin_c (b bm : Nat) (cs : List Core) (nl : Int) (RM : List (Int × D)) (F : Int) (c : List Term) (t : Term) : ARs X 146 [.ptr b 0, .slT c, encT t] 30 (fun F => [(b, .cells 136 [.int .i64 (F), .slC cs, .int .i64 nl, .map bm]), (bm, .map RM)]) F encT (.ok (un []) F) := by
 refine Zf Tryz.func146 ?_
 refine Yb (Ya ?_)
 refine Z9 (fun b5 => ?_)
 refine Z7 (fun b6 => ?_)
 refine Yc (Yb (Ya ?_))
 refine Z52 ?_
 refine AOps.e rfl rfl rfl (Yk (iuniv_c []) (LeL.cons (leP0 rfl) .nil) ?_)
 refine Z3 ?_
 refine Yc (Yd ?_)
 refine AFin.rRet (un []) (F) rfl (.cons (Yi (d := encT _) 0 rfl rfl rfl rfl) .nil) (by repeat first | exact X0 _ | apply X1 | apply X2) ?_ (rfl)
 exact .refl _
theorem ielem_c (b bm : Nat) (cs : List Core) (nl : Int) (RM : List (Int × D)) (F : Int) (c : List Term) (t : Term) : ARs X 147 [.ptr b 0, .slT c, encT t] 30 (fun F => [(b, .cells 136 [.int .i64 (F), .slC cs, .int .i64 nl, .map bm]), (bm, .map RM)]) F encT (.ok (.mk 22 t.at_ 0 [] []) F) := by
 refine Zf Tryz.func147 ?_
 refine Yb (Ya ?_)
 refine Z9 (fun b5 => ?_)
 refine Z7 (fun b6 => ?_)
 refine Yc (Yb (Ya ?_))
 refine Z6 ?_
 refine Z16 ?_
 refine Z48 ?_
 refine Z3 ?_
 refine Yc (Yd ?_)
 refine AFin.rRet (.mk 22 t.at_ 0 [] []) (F) rfl (.cons (Yi (d := encT _) 0 rfl rfl rfl rfl) .nil) (by repeat first | exact X0 _ | apply X1 | apply X2) ?_ (rfl)
 exact .refl _
theorem istep_c (a b p : Term) (ha : a.fit 1099511627776) (hb : b.fit 1099511627776) (hp : p.fit 1099511627776) (hsa : a.sz ≤ 268435456) (hsb : b.sz ≤ 268435456) (hsp : p.sz ≤ 268435456) : AFn X 174 [encT a, encT b, encT p] (encT (stepTy a b p)) := by
 refine Zf Tryz.func174 ?_
 refine Yb (Ya ?_)
 refine Z9 (fun b3 => ?_)
 refine Z9 (fun b4 => ?_)
 refine Z9 (fun b5 => ?_)
 refine Z7 (fun b6 => ?_)
 refine Yc (Yb (Ya ?_))
 refine Z23 ?_
 refine AOps.e rfl rfl rfl (Yk (iup_c p 3 hp (by omega)) (Yn rfl) ?_)
 refine Z10 ?_
 refine Yc (Yb ?_)
 refine Yj [.l 0, .l 1, .p 2, .l 3, .p 4, .p 5, .p 6, .p 7, .p 8, .a 9, .e 10 []] mixed (by kernel_rfl) ?_
 refine Z55 ?_
 refine Z76 ?_
 refine ASeq.pe rfl rfl rfl rfl (fun L0 => (Yk (iup_c a 2 ha (by omega)) (Yn rfl) ⟨rfl, rfl⟩)) ?_
 refine Z55 ?_
 refine ASeq.pe rfl rfl rfl rfl (fun L0 => (Yk (lift_c b 2 1 hb (by omega)) (Yn rfl) ⟨rfl, rfl⟩)) ?_
 refine Z32 ?_
 refine ASeq.pe rfl rfl rfl rfl (fun L0 => (Yk (iof_c 16 [_, _]) (Yn rfl) ⟨rfl, rfl⟩)) ?_
 refine Z32 ?_
 refine ASeq.pe rfl rfl rfl rfl (fun L0 => (Yk (iof_c 4 [_, _]) (Yn rfl) ⟨rfl, rfl⟩)) ?_
 refine Za (fun b7 => ?_)
 refine Z25 ?_
 refine ASeq.nil (Yb ?_)
 refine Yj [.l 0, .p 1, .l 2, .p 3, .p 4, .p 5, .p 6, .p 7, .p 8, .p 9, .p 10, .a 11, .e 12 []] mixed (by kernel_rfl) ?_
 refine Z76 ?_
 refine ASeq.pe rfl rfl rfl rfl (fun L0 => (Yk (iup_c b 1 hb (by omega)) (Yn rfl) ⟨rfl, rfl⟩)) ?_
 refine Z55 ?_
 refine ASeq.pe rfl rfl rfl rfl (fun L0 => (Yk (iv_c 1) (Yn rfl) ⟨rfl, rfl⟩)) ?_
 refine ASeq.pe rfl rfl rfl rfl (fun L0 => (Yk (iv_c 0) (Yn rfl) ⟨rfl, rfl⟩)) ?_
 refine Z32 ?_
 refine ASeq.pe rfl rfl rfl rfl (fun L0 => (Yk (iof_c 6 [_, _]) (Yn rfl) ⟨rfl, rfl⟩)) ?_
 refine Z32 ?_
 refine ASeq.pe rfl rfl rfl rfl (fun L0 => (Yk (iof_c 6 [_, _]) (Yn rfl) ⟨rfl, rfl⟩)) ?_
 refine Z32 ?_
 refine ASeq.pe rfl rfl rfl rfl (fun L0 => (Yk (iof_c 4 [_, _]) (Yn rfl) ⟨rfl, rfl⟩)) ?_
 refine Za (fun b8 => ?_)
 refine Z25 ?_
 refine ASeq.nil (Yb ?_)
 refine Yj [.l 0, .l 1, .l 2, .l 3, .p 4, .p 5, .p 6, .p 7, .p 8, .p 9, .p 10, .p 11, .p 12, .p 13, .p 14, .p 15, .e 16 []] mixed (by kernel_rfl) ?_
 refine ASeq.lv rfl rfl rfl rfl (Yv (d := encT _) 5 rfl rfl (.refl _)) ?_
 refine Z28 ?_
 refine Z31 ?_
 refine Z76 ?_
 refine ASeq.pe rfl rfl rfl rfl (fun L0 => (Yk (iv_c 2) (Yn rfl) ⟨rfl, rfl⟩)) ?_
 refine ASeq.pe rfl rfl rfl rfl (fun L0 => (Yk (iv_c 1) (Yn rfl) ⟨rfl, rfl⟩)) ?_
 refine Z32 ?_
 refine ASeq.pe rfl rfl rfl rfl (fun L0 => (Yk (iof_c 17 [_, _]) (Yn rfl) ⟨rfl, rfl⟩)) ?_
 refine Z32 ?_
 refine ASeq.pe rfl rfl rfl rfl (fun L0 => (Yk (iof_c 6 [_, _]) (Yn rfl) ⟨rfl, rfl⟩)) ?_
 refine Z32 ?_
 refine ASeq.pe rfl rfl rfl rfl (fun L0 => (Yk (iof_c 4 [_, _]) (Yn rfl) ⟨rfl, rfl⟩)) ?_
 refine Z32 ?_
 refine ASeq.pe rfl rfl rfl rfl (fun L0 => (Yk (iof_c 4 [_, _]) (Yn rfl) ⟨rfl, rfl⟩)) ?_
 refine Z32 ?_
 refine ASeq.pe rfl rfl rfl rfl (fun L0 => (Yk (iof_c 4 [_, _]) (Yn rfl) ⟨rfl, rfl⟩)) ?_
 refine Z46 ?_
 refine ASeq.nil (Yd ?_)
 refine Yh rfl (.cons (Yi (d := encT _) 2 rfl rfl rfl rfl) .nil) ?_
 exact .refl _
theorem type_c (hS : SortedOk) (cs : List Core) (num : Int) (ls : List Level) (hc : ∀ c ∈ cs, c.typ.fit 1099511627776 ∧ c.typ.sz ≤ 4611686018427387904) (hb : ls.length ≤ 9223372036854775807) (hp : ∀ x ∈ ls, x.length ≤ 9223372036854775807) : AFn X 171 [.slC cs, .int .i64 num, .slL ls] (.tup [encT (typeM cs num ls), .bool (coreAtM cs num ls).2]) := by
 have hcm : (coreAtM cs num ls).1.typ.fit 1099511627776 ∧ (coreAtM cs num ls).1.typ.sz ≤ 4611686018427387904 := by
   unfold coreAtM
   split
   · exact hc _ (getD_mem (by omega))
   · exact ⟨T0_fit, by simp [C0, T0, Term.sz, Term.szs]⟩
 refine Zf Tryz.func171 ?_
 refine Yb (Ya ?_)
 refine Z7 (fun b6 => ?_)
 refine Z2 ?_
 refine Yc (Yb (Ya ?_))
 refine Z1 ?_
 refine Z1 ?_
 refine Z1 ?_
 refine AOps.e rfl rfl rfl (Yk (coreAt_c cs num ls) (Yn rfl) ?_)
 refine Z1 ?_
 refine Z12 ?_
 refine Z12 ?_
 refine Z7 (fun b8 => ?_)
 refine Z3 ?_
 refine Z2 ?_
 refine Yc (Yb (Yb (Ya ?_)))
 refine Z1 ?_
 refine Z65 ?_
 refine Yc ?_
 refine Zc (fun h18 => ?_) (fun h18 => ?_)
 try simp only [sz] at h18
 refine Yb (Ya ?_)
 refine Z52 ?_
 refine Z10 ?_
 refine Z2 ?_
 refine Yc (Yd ?_)
 refine Yh rfl (.cons (Yi 1 rfl rfl rfl rfl) (.cons rfl .nil)) ?_
 exact tupLe (.cons (by rw [typeM, if_neg (by rw [h18]; simp)]; exact leT' .emp .emp rfl) (.cons (D.Le.eq (by rw [h18]; rfl)) .nil))
 try simp only [sz] at h18
 refine Ye (Yb (Ya ?_))
 refine Z6 ?_
 refine Z20 ?_
 refine Z1 ?_
 refine AOps.e rfl rfl rfl (Yk (levels_c hS (coreAtM cs num ls).1.typ ls hcm.1 hcm.2 hb hp) (Yn rfl) ?_)
 refine Z10 ?_
 refine Z2 ?_
 refine Yc (Yd ?_)
 refine Yh rfl (.cons (Yi (d := encT _) 1 rfl rfl rfl rfl) (.cons rfl .nil)) ?_
 exact D.Le.eq (by rw [typeM, if_pos h18, h18]; rfl)
end Sp

/- The walks of infer: recursion. Written by a program of mine. -/
set_option linter.unusedVariables false
set_option linter.unusedSimpArgs false
set_option maxRecDepth 20000
namespace Sp
open Go Go.Proofs
theorem treeTy_ok {x y : Term} {F : Int} (hx : x.fit 1099511627776) (hy : y.fit 1099511627776) (h1 : (fsz x : Int) + 7 * F ≤ 16777216) (h2 : (fsz y : Int) + 7 * F ≤ 16777216) (h0 : 0 ≤ F) : TyOk (ofT 16 [x, y]) F := by
  refine ⟨two_fit hx hy, ?_⟩
  rw [fsz_two (by simp [lack, spotOf])]
  push_cast; omega
theorem irec_c (b bm : Nat) (cs : List Core) (nl : Int) (RM : List (Int × D)) (F : Int) (hS : SortedOk) (hC : CoresOk cs) {cn : List Int} {inf : List Term → Term → Int → RS Term} {chk : List Term → Term → Term → Int → RS Unit} {n : Int} (hn : n ≤ 1073741824) (K : Known nl cn inf chk n) (HI : ∀ c t F, CtxOk c F → AskOk nl cn c t F → 0 ≤ F → F ≤ n → ARs X 51 [.ptr b 0, .slT c, encT t] 30 (fun F => [(b, .cells 136 [.int .i64 (F), .slC cs, .int .i64 nl, .map bm]), (bm, .map RM)]) F encT (inf c t F)) (HC : ∀ c t ty F, CtxOk c F → AskOk nl cn c t F → TyOk ty F → 0 ≤ F → F ≤ n → ARs X 60 [.ptr b 0, .slT c, encT t, encT ty] 30 (fun F => [(b, .cells 136 [.int .i64 (F), .slC cs, .int .i64 nl, .map bm]), (bm, .map RM)]) F (fun _ => D.tup []) (chk c t ty F)) (c : List Term) (t : Term) (hc : CtxOk c (F + 1)) (ht : AskOk nl cn c t F) (h0 : 0 ≤ F) (h1 : F ≤ n) (hk : t.kind = 18) : ARs X 143 [.ptr b 0, .slT c, encT t] 30 (fun F => [(b, .cells 136 [.int .i64 (F), .slC cs, .int .i64 nl, .map bm]), (bm, .map RM)]) F encT (recI cs inf chk c t F) := by
 have hl : (t.kids.length : Int) = 5 := by have e := hk; exact len_at ht.1 e (fun _ _ _ _ _ _ _ _ => rfl)
 have hb0 : binds t.kind 0 = false := by have e := hk; (rw [e]; rfl)
 have hb1 : binds t.kind 1 = true := by have e := hk; (rw [e]; rfl)
 have hb2 : binds t.kind 2 = false := by have e := hk; (rw [e]; rfl)
 have hb3 : binds t.kind 3 = false := by have e := hk; (rw [e]; rfl)
 have hb4 : binds t.kind 4 = false := by have e := hk; (rw [e]; rfl)
 rcases t with ⟨k0, n0, a0, ls, ks⟩
 obtain ⟨x0, x1, x2, x3, x4, rfl⟩ : ∃ x0 x1 x2 x3 x4, ks = [x0, x1, x2, x3, x4] := by
   have hl2 : ks.length = 5 := by have h : (ks.length : Int) = _ := hl; omega
   match ks, hl2 with
   | [x0, x1, x2, x3, x4], _ => exact ⟨x0, x1, x2, x3, x4, rfl⟩
 have hx0 : fsz x0 ≤ fsz (.mk k0 n0 a0 ls [x0, x1, x2, x3, x4]) := fsz_kid (.mk k0 n0 a0 ls [x0, x1, x2, x3, x4]) 0
 have x0f : x0.fit 1099511627776 := kid_fit ht.2.1 0
 have hx1 : fsz x1 ≤ fsz (.mk k0 n0 a0 ls [x0, x1, x2, x3, x4]) := fsz_kid (.mk k0 n0 a0 ls [x0, x1, x2, x3, x4]) 1
 have x1f : x1.fit 1099511627776 := kid_fit ht.2.1 1
 have hx2 : fsz x2 ≤ fsz (.mk k0 n0 a0 ls [x0, x1, x2, x3, x4]) := fsz_kid (.mk k0 n0 a0 ls [x0, x1, x2, x3, x4]) 2
 have x2f : x2.fit 1099511627776 := kid_fit ht.2.1 2
 have hx3 : fsz x3 ≤ fsz (.mk k0 n0 a0 ls [x0, x1, x2, x3, x4]) := fsz_kid (.mk k0 n0 a0 ls [x0, x1, x2, x3, x4]) 3
 have x3f : x3.fit 1099511627776 := kid_fit ht.2.1 3
 have hx4 : fsz x4 ≤ fsz (.mk k0 n0 a0 ls [x0, x1, x2, x3, x4]) := fsz_kid (.mk k0 n0 a0 ls [x0, x1, x2, x3, x4]) 4
 have x4f : x4.fit 1099511627776 := kid_fit ht.2.1 4
 have htz := ht.2.2
 obtain ⟨sf, sz⟩ := stepTy_ok x0f x1f x2f
 refine Zf Tryz.func143 ?_
 refine Yb (Ya ?_)
 refine Z9 (fun b5 => ?_)
 refine Z7 (fun b6 => ?_)
 refine Yc (Yb ?_)
 refine Yj [.p 0, .l 1, .p 2, .p 3, .p 4, .l 5, .p 6, .p 7, .p 8, .l 9, .p 10, .p 11, .a 12, .a 13, .a 14, .e 15 [5, 9], .e 16 [9], .e 17 []] mixed (by kernel_rfl) ?_
 refine Z8 ?_
 refine Z36 ?_
 refine Z22 ?_
 refine Z21 ?_
 refine Z8 ?_
 refine Z36 ?_
 refine Z22 ?_
 refine Z21 ?_
 refine Z8 ?_
 refine Z36 ?_
 refine Z22 ?_
 refine Z21 ?_
 refine Za (fun b7 => ?_)
 refine Za (fun b8 => ?_)
 refine Za (fun b9 => ?_)
 refine ASeq.ee0 rfl rfl rfl rfl (AOp.storeN 2 rfl rfl rfl (by constructor) rfl rfl rfl (by repeat constructor) (by repeat constructor) ⟨(Keeps.cons (Yv 4 rfl rfl (.refl _)) (Keeps.cons (Yv 4 rfl rfl (.refl _)) Yo)), ?_⟩)
 refine ASeq.ee0 rfl rfl rfl rfl (AOp.storeN 1 rfl rfl rfl (by constructor) rfl rfl rfl (by repeat constructor) (by repeat constructor) ⟨(Keeps.cons (Yv 4 rfl rfl (.refl _)) Yo), ?_⟩)
 refine Z25 ?_
 refine ASeq.nil (Yb (Ya ?_))
 refine Z1 ?_
 refine Z1 ?_
 refine Z39 ?_
 refine AOps.e rfl rfl rfl (AOp.callR [_, _, _, _, _] (isort_c b bm cs nl RM F hS hC hn K HI HC c x0 (hc.mono (by omega)) (ht.kidR (i := 0) (Int.le_refl _) hb0 (by omega) (by omega)) h0 h1) (Yn rfl) rfl (fun l G he => ?_) (fun er Ge he => ?_))
 obtain ⟨g0, g1, lz⟩ := sortI_ok K hC hn (hc.mono (by omega)) (ht.kidR (i := 0) (Int.le_refl _) hb0 (by omega) (by omega)) h0 h1 he
 refine Yc (Yb ?_)
 refine Yj [.p 0, .p 1, .l 2, .p 3, .p 4, .l 5, .e 6 []] mixed (by kernel_rfl) ?_
 refine Z5 ?_
 refine Z5 ?_
 refine Z55 ?_
 refine Z57 ?_
 refine ASeq.pe rfl rfl rfl rfl (fun L0 => (Yk (ibelow_c c x0 (by have := hc.1; omega)) (Yn rfl) ⟨rfl, rfl⟩)) ?_
 refine Z28 ?_
 refine ASeq.ee rfl rfl rfl rfl rfl (AOp.callR [_, _, _, _, _] (isort_c b bm cs nl RM G hS hC hn K HI HC (c ++ [x0]) x1 (hc.put ht h0 (by omega) 0) (ht.kidB (i := 1) (by omega) hb1 (by omega) (by omega)) g0 (by omega)) (Yn rfl) rfl (fun l2 G2 he2 => ⟨Yo, ?_⟩) (fun er Ge he2 => ?_))
 obtain ⟨g2, g3, lz2⟩ := sortI_ok K hC hn (hc.put ht h0 (by omega) 0) (ht.kidB (i := 1) (by omega) hb1 (by omega) (by omega)) g0 (by omega) he2
 refine ASeq.nil (Yb (Ya ?_))
 refine Z39 ?_
 refine Z23 ?_
 refine AOps.e rfl rfl rfl (AOp.buildSliceT (ts := [_, _]) rfl rfl rfl rfl rfl ?_)
 refine AOps.e rfl rfl rfl (Yk (iof_c 16 [x0, x1]) (Yn rfl) ?_)
 refine Z7 (fun b10 => ?_)
 refine Z3 ?_
 refine Yc (Yb ?_)
 refine Yj [.p 0, .p 1, .p 2, .l 3, .p 4, .p 5, .l 6, .e 7 []] mixed (by kernel_rfl) ?_
 refine Z5 ?_
 refine Z5 ?_
 refine Z8 ?_
 refine ASeq.lv rfl rfl rfl rfl (Yv 5 rfl rfl (by constructor)) ?_
 refine Z22 ?_
 refine Z21 ?_
 refine Z31 ?_
 refine ASeq.ee rfl rfl rfl rfl rfl (AOp.callR [_, _, _, _, _, _] (HC c x4 (ofT 16 [x0, x1]) G2 (hc.mono (by omega)) (ht.kidR (i := 4) (by omega) hb4 (by omega) (by omega)) (treeTy_ok x0f x1f (by omega) (by omega) (by omega)) g2 (by omega)) (Yn rfl) rfl (fun u G3 he3 => ⟨Yo, ?_⟩) (fun er Ge he3 => ?_))
 obtain ⟨g4, g5⟩ := K.chk c x4 (ofT 16 [x0, x1]) G2 u G3 (hc.mono (by omega)) (ht.kidR (i := 4) (by omega) hb4 (by omega) (by omega)) (treeTy_ok x0f x1f (by omega) (by omega) (by omega)) g2 (by omega) he3
 refine ASeq.nil (Yb (Ya ?_))
 refine Z1 ?_
 refine Z1 ?_
 refine Z23 ?_
 refine Z20 ?_
 refine AOps.e rfl rfl rfl (AOp.callR [_, _, _, _, _, _] (imotive_c b bm cs nl RM G3 hS hC hn K HI HC c x2 (ofT 16 [x0, x1]) (hc.mono (by omega)) (ht.kidR (i := 2) (by omega) hb2 (by omega) (by omega)) (treeTy_ok x0f x1f (by omega) (by omega) (by omega)) g4 (by omega)) (Yn rfl) rfl (fun u2 G4 he4 => ?_) (fun er Ge he4 => ?_))
 obtain ⟨g6, g7⟩ := motivI_ok K hC hn (hc.mono (by omega)) (ht.kidR (i := 2) (by omega) hb2 (by omega) (by omega)) (treeTy_ok x0f x1f (by omega) (by omega) (by omega)) g4 (by omega) he4
 refine Yc (Yb ?_)
 refine Yj [.p 0, .p 1, .p 2, .l 3, .p 4, .p 5, .l 6, .l 7, .l 8, .p 9, .e 10 []] mixed (by kernel_rfl) ?_
 refine Z5 ?_
 refine Z5 ?_
 refine Z8 ?_
 refine ASeq.lv rfl rfl rfl rfl (Yv 5 rfl rfl (by constructor)) ?_
 refine Z22 ?_
 refine Z21 ?_
 refine Z76 ?_
 refine Z55 ?_
 refine Z28 ?_
 refine ASeq.pe rfl rfl rfl rfl (fun L0 => (Yk (istep_c x0 x1 x2 x0f x1f x2f (by have := sz_le_fsz x0; omega) (by have := sz_le_fsz x1; omega) (by have := sz_le_fsz x2; omega)) (Yn rfl) ⟨rfl, rfl⟩)) ?_
 refine ASeq.ee rfl rfl rfl rfl rfl (AOp.callR [_, _, _, _, _, _] (HC c x3 (stepTy x0 x1 x2) G4 (hc.mono (by omega)) (ht.kidR (i := 3) (by omega) hb3 (by omega) (by omega)) ⟨sf, by omega⟩ g6 (by omega)) (Yn rfl) rfl (fun u3 G5 he5 => ⟨Yo, ?_⟩) (fun er Ge he5 => ?_))
 refine ASeq.nil (Yb ?_)
 refine Yj [.l 0, .p 1, .l 2, .p 3, .p 4, .p 5, .p 6, .e 7 []] mixed (by kernel_rfl) ?_
 refine Z28 ?_
 refine Z8 ?_
 refine ASeq.lv rfl rfl rfl rfl (Yv 5 rfl rfl (by constructor)) ?_
 refine Z22 ?_
 refine Z21 ?_
 refine Z32 ?_
 refine ASeq.pe rfl rfl rfl rfl (fun L0 => (Yk (iof_c 6 [x2, x4]) (Yn rfl) ⟨rfl, rfl⟩)) ?_
 refine ASeq.ee0 rfl rfl rfl rfl (AOp.storeN 4 rfl rfl rfl (by constructor) rfl rfl rfl (by repeat constructor) (by repeat constructor) ⟨Yo, ?_⟩)
 refine ASeq.nil (Yd ?_)
 refine AFin.rRet (ofT 6 [x2, x4]) (G5) rfl (.cons (Yi (d := encT _) 4 rfl rfl rfl rfl) .nil) (by repeat first | exact X0 _ | apply X1 | apply X2) ?_ ((Ys he).trans ((Ys he2).trans ((Ys he3).trans ((Ys he4).trans ((Ys he5).trans (rfl))))))
 exact .refl _
 exact AFin.rPan (X := X) (fn := Tryz.f143) (Ge) rfl (by repeat first | exact X0 _ | apply X1 | apply X2 | exact X3 _) ((Ys he).trans ((Ys he2).trans ((Ys he3).trans ((Ys he4).trans (RS.bind_er he5)))))
 exact AFin.rPan (X := X) (fn := Tryz.f143) (Ge) rfl (by repeat first | exact X0 _ | apply X1 | apply X2 | exact X3 _) ((Ys he).trans ((Ys he2).trans ((Ys he3).trans (RS.bind_er he4))))
 exact AFin.rPan (X := X) (fn := Tryz.f143) (Ge) rfl (by repeat first | exact X0 _ | apply X1 | apply X2 | exact X3 _) ((Ys he).trans ((Ys he2).trans (RS.bind_er he3)))
 exact AFin.rPan (X := X) (fn := Tryz.f143) (Ge) rfl (by repeat first | exact X0 _ | apply X1 | apply X2 | exact X3 _) ((Ys he).trans (RS.bind_er he2))
 exact AFin.rPan (X := X) (fn := Tryz.f143) (Ge) rfl (by repeat first | exact X0 _ | apply X1 | apply X2 | exact X3 _) (RS.bind_er he)
end Sp

/- The walks of infer: paths. Written by a program of mine. -/
set_option linter.unusedVariables false
set_option linter.unusedSimpArgs false
set_option maxRecDepth 20000
namespace Sp
open Go Go.Proofs
theorem three_ok {k : Int} (hl : lack k 0 3 = 0) {x y z : Term} (hx : x.fit 1099511627776) (hy : y.fit 1099511627776) (hz : z.fit 1099511627776) : (ofT k [x, y, z]).fit 1099511627776 ∧ fsz (ofT k [x, y, z]) = 1 + fsz x + fsz y + fsz z := by
  refine ⟨mk_fit (by simp) (fun u hu => by simp at hu; rcases hu with rfl | rfl | rfl <;> assumption) (by omega), ?_⟩
  have h' : lack k 0 (0 + 1 + 1 + 1) = 0 := hl
  simp only [fsz, fszs, List.length_cons, List.length_nil, h']; omega
theorem refl_ok : (ofT 20 []).fit 1099511627776 ∧ fsz (ofT 20 []) = 1 := by
  refine ⟨mk_fit (by simp) (fun u hu => by cases hu) (by omega), ?_⟩
  have h : lack 20 0 0 = 0 := by simp [lack, spotOf]
  simp only [fsz, fszs, List.length_nil, h]
set_option maxHeartbeats 4000000 in
theorem ipath_c (b bm : Nat) (cs : List Core) (nl : Int) (RM : List (Int × D)) (F : Int) (hS : SortedOk) (hC : CoresOk cs) {cn : List Int} {inf : List Term → Term → Int → RS Term} {chk : List Term → Term → Term → Int → RS Unit} {n : Int} (hn : n ≤ 1073741824) (K : Known nl cn inf chk n) (HI : ∀ c t F, CtxOk c F → AskOk nl cn c t F → 0 ≤ F → F ≤ n → ARs X 51 [.ptr b 0, .slT c, encT t] 30 (fun F => [(b, .cells 136 [.int .i64 (F), .slC cs, .int .i64 nl, .map bm]), (bm, .map RM)]) F encT (inf c t F)) (HC : ∀ c t ty F, CtxOk c F → AskOk nl cn c t F → TyOk ty F → 0 ≤ F → F ≤ n → ARs X 60 [.ptr b 0, .slT c, encT t, encT ty] 30 (fun F => [(b, .cells 136 [.int .i64 (F), .slC cs, .int .i64 nl, .map bm]), (bm, .map RM)]) F (fun _ => D.tup []) (chk c t ty F)) (c : List Term) (t : Term) (hc : CtxOk c (F + 1)) (ht : AskOk nl cn c t F) (h0 : 0 ≤ F) (h1 : F ≤ n) (hk : t.kind = 21) : ARs X 145 [.ptr b 0, .slT c, encT t] 30 (fun F => [(b, .cells 136 [.int .i64 (F), .slC cs, .int .i64 nl, .map bm]), (bm, .map RM)]) F encT (pathI cs inf chk c t F) := by
 have hl : (t.kids.length : Int) = 6 := by have e := hk; exact len_at ht.1 e (fun _ _ _ _ _ _ _ _ => rfl)
 have hb0 : binds t.kind 0 = false := by have e := hk; (rw [e]; rfl)
 have hb1 : binds t.kind 1 = false := by have e := hk; (rw [e]; rfl)
 have hb2 : binds t.kind 2 = false := by have e := hk; (rw [e]; rfl)
 have hb3 : binds t.kind 3 = false := by have e := hk; (rw [e]; rfl)
 have hb4 : binds t.kind 4 = false := by have e := hk; (rw [e]; rfl)
 have hb5 : binds t.kind 5 = false := by have e := hk; (rw [e]; rfl)
 rcases t with ⟨k0, n0, a0, ls, ks⟩
 obtain ⟨x0, x1, x2, x3, x4, x5, rfl⟩ : ∃ x0 x1 x2 x3 x4 x5, ks = [x0, x1, x2, x3, x4, x5] := by
   have hl2 : ks.length = 6 := by have h : (ks.length : Int) = _ := hl; omega
   match ks, hl2 with
   | [x0, x1, x2, x3, x4, x5], _ => exact ⟨x0, x1, x2, x3, x4, x5, rfl⟩
 have hx0 : fsz x0 ≤ fsz (.mk k0 n0 a0 ls [x0, x1, x2, x3, x4, x5]) := fsz_kid (.mk k0 n0 a0 ls [x0, x1, x2, x3, x4, x5]) 0
 have x0f : x0.fit 1099511627776 := kid_fit ht.2.1 0
 have hx1 : fsz x1 ≤ fsz (.mk k0 n0 a0 ls [x0, x1, x2, x3, x4, x5]) := fsz_kid (.mk k0 n0 a0 ls [x0, x1, x2, x3, x4, x5]) 1
 have x1f : x1.fit 1099511627776 := kid_fit ht.2.1 1
 have hx2 : fsz x2 ≤ fsz (.mk k0 n0 a0 ls [x0, x1, x2, x3, x4, x5]) := fsz_kid (.mk k0 n0 a0 ls [x0, x1, x2, x3, x4, x5]) 2
 have x2f : x2.fit 1099511627776 := kid_fit ht.2.1 2
 have hx3 : fsz x3 ≤ fsz (.mk k0 n0 a0 ls [x0, x1, x2, x3, x4, x5]) := fsz_kid (.mk k0 n0 a0 ls [x0, x1, x2, x3, x4, x5]) 3
 have x3f : x3.fit 1099511627776 := kid_fit ht.2.1 3
 have hx4 : fsz x4 ≤ fsz (.mk k0 n0 a0 ls [x0, x1, x2, x3, x4, x5]) := fsz_kid (.mk k0 n0 a0 ls [x0, x1, x2, x3, x4, x5]) 4
 have x4f : x4.fit 1099511627776 := kid_fit ht.2.1 4
 have hx5 : fsz x5 ≤ fsz (.mk k0 n0 a0 ls [x0, x1, x2, x3, x4, x5]) := fsz_kid (.mk k0 n0 a0 ls [x0, x1, x2, x3, x4, x5]) 5
 have x5f : x5.fit 1099511627776 := kid_fit ht.2.1 5
 have htz := ht.2.2
 obtain ⟨if_, iz⟩ := three_ok (k := 19) (by simp [lack, spotOf]) x0f x1f x4f
 obtain ⟨lf, lz0⟩ := three_ok (k := 19) (by simp [lack, spotOf]) (lift_fit x0f 1 0) (lift_fit x1f 1 0) (tv_fit 0 (by omega))
 rw [lift_fsz, lift_fsz, tv_fsz] at lz0
 have apf : (ofT 6 [ofT 6 [x2, x1], ofT 20 []]).fit 1099511627776 := two_fit (two_fit x2f x1f) refl_ok.1
 have apz : fsz (ofT 6 [ofT 6 [x2, x1], ofT 20 []]) = 1 + (1 + fsz x2 + fsz x1) + 1 := by rw [fsz_two (by simp [lack, spotOf]), fsz_two (by simp [lack, spotOf]), refl_ok.2]
 refine Zf Tryz.func145 ?_
 refine Yb (Ya ?_)
 refine Z9 (fun b5 => ?_)
 refine Z7 (fun b6 => ?_)
 refine Yc (Yb ?_)
 refine Yj [.p 0, .l 1, .p 2, .p 3, .p 4, .l 5, .p 6, .p 7, .p 8, .l 9, .p 10, .p 11, .p 12, .l 13, .p 14, .p 15, .p 16, .l 17, .p 18, .p 19, .a 20, .a 21, .a 22, .a 23, .a 24, .e 25 [5, 9, 13, 17], .e 26 [9, 13, 17], .e 27 [13, 17], .e 28 [17], .e 29 []] mixed (by kernel_rfl) ?_
 refine Z8 ?_
 refine Z36 ?_
 refine Z22 ?_
 refine Z21 ?_
 refine Z8 ?_
 refine Z36 ?_
 refine Z22 ?_
 refine Z21 ?_
 refine Z8 ?_
 refine Z36 ?_
 refine Z22 ?_
 refine Z21 ?_
 refine Z8 ?_
 refine Z36 ?_
 refine Z22 ?_
 refine Z21 ?_
 refine Z8 ?_
 refine Z36 ?_
 refine Z22 ?_
 refine Z21 ?_
 refine Za (fun b7 => ?_)
 refine Za (fun b8 => ?_)
 refine Za (fun b9 => ?_)
 refine Za (fun b10 => ?_)
 refine Za (fun b11 => ?_)
 refine ASeq.ee0 rfl rfl rfl rfl (AOp.storeN 4 rfl rfl rfl (by constructor) rfl rfl rfl (by repeat constructor) (by repeat constructor) ⟨(Keeps.cons (Yv 6 rfl rfl (.refl _)) (Keeps.cons (Yv 6 rfl rfl (.refl _)) (Keeps.cons (Yv 6 rfl rfl (.refl _)) (Keeps.cons (Yv 6 rfl rfl (.refl _)) Yo)))), ?_⟩)
 refine ASeq.ee0 rfl rfl rfl rfl (AOp.storeN 3 rfl rfl rfl (by constructor) rfl rfl rfl (by repeat constructor) (by repeat constructor) ⟨(Keeps.cons (Yv 6 rfl rfl (.refl _)) (Keeps.cons (Yv 6 rfl rfl (.refl _)) (Keeps.cons (Yv 6 rfl rfl (.refl _)) Yo))), ?_⟩)
 refine ASeq.ee0 rfl rfl rfl rfl (AOp.storeN 2 rfl rfl rfl (by constructor) rfl rfl rfl (by repeat constructor) (by repeat constructor) ⟨(Keeps.cons (Yv 6 rfl rfl (.refl _)) (Keeps.cons (Yv 6 rfl rfl (.refl _)) Yo)), ?_⟩)
 refine ASeq.ee0 rfl rfl rfl rfl (AOp.storeN 1 rfl rfl rfl (by constructor) rfl rfl rfl (by repeat constructor) (by repeat constructor) ⟨(Keeps.cons (Yv 6 rfl rfl (.refl _)) Yo), ?_⟩)
 refine Z25 ?_
 refine ASeq.nil (Yb (Ya ?_))
 refine Z1 ?_
 refine Z1 ?_
 refine AOps.v rfl rfl rfl (AVal.loadP (d := encT _) 4 rfl rfl rfl rfl) ?_
 refine AOps.e rfl rfl rfl (AOp.callR [_, _, _, _, _, _, _] (isort_c b bm cs nl RM F hS hC hn K HI HC c x0 (hc.mono (by omega)) (ht.kidR (i := 0) (Int.le_refl _) hb0 (by omega) (by omega)) h0 h1) (Yn rfl) rfl (fun l G he => ?_) (fun er Ge he => ?_))
 obtain ⟨g0, g1, lz⟩ := sortI_ok K hC hn (hc.mono (by omega)) (ht.kidR (i := 0) (Int.le_refl _) hb0 (by omega) (by omega)) h0 h1 he
 refine Yc (Yb (Ya ?_))
 refine Z1 ?_
 refine Z1 ?_
 refine AOps.v rfl rfl rfl (AVal.loadP (d := encT _) 3 rfl rfl rfl rfl) ?_
 refine AOps.v rfl rfl rfl (AVal.loadP (d := encT _) 4 rfl rfl rfl rfl) ?_
 refine AOps.e rfl rfl rfl (AOp.callR [_, _, _, _, _, _, _] (HC c x1 x0 G (hc.mono (by omega)) (ht.kidR (i := 1) (by omega) hb1 (by omega) (by omega)) ⟨x0f, by omega⟩ g0 (by omega)) (Yn rfl) rfl (fun u G2 he2 => ?_) (fun er Ge he2 => ?_))
 obtain ⟨g2, g3⟩ := K.chk c x1 x0 G u G2 (hc.mono (by omega)) (ht.kidR (i := 1) (by omega) hb1 (by omega) (by omega)) ⟨x0f, by omega⟩ g0 (by omega) he2
 refine Yc (Yb (Ya ?_))
 refine Z1 ?_
 refine Z1 ?_
 refine Z23 ?_
 refine AOps.v rfl rfl rfl (AVal.loadP (d := encT _) 4 rfl rfl rfl rfl) ?_
 refine AOps.e rfl rfl rfl (AOp.callR [_, _, _, _, _, _, _] (HC c x4 x0 G2 (hc.mono (by omega)) (ht.kidR (i := 4) (by omega) hb4 (by omega) (by omega)) ⟨x0f, by omega⟩ g2 (by omega)) (Yn rfl) rfl (fun u2 G3 he3 => ?_) (fun er Ge he3 => ?_))
 obtain ⟨g4, g5⟩ := K.chk c x4 x0 G2 u2 G3 (hc.mono (by omega)) (ht.kidR (i := 4) (by omega) hb4 (by omega) (by omega)) ⟨x0f, by omega⟩ g2 (by omega) he3
 refine Yc (Yb ?_)
 refine Yj [.p 0, .p 1, .l 2, .l 3, .l 4, .l 5, .p 6, .p 7, .e 8 []] mixed (by kernel_rfl) ?_
 refine Z5 ?_
 refine Z5 ?_
 refine Z31 ?_
 refine ASeq.lv rfl rfl rfl rfl (Yv (d := encT _) 4 rfl rfl (.refl _)) ?_
 refine Z76 ?_
 refine Z28 ?_
 refine ASeq.pe rfl rfl rfl rfl (fun L0 => (AOp.buildSliceT (ts := [_, _, _]) rfl rfl rfl rfl rfl ⟨rfl, rfl⟩)) ?_
 refine ASeq.pe rfl rfl rfl rfl (fun L0 => (Yk (iof_c 19 [x0, x1, x4]) (Yn rfl) ⟨rfl, rfl⟩)) ?_
 refine ASeq.ee rfl rfl rfl rfl rfl (AOp.callR [_, _, _, _, _, _, _] (HC c x5 (ofT 19 [x0, x1, x4]) G3 (hc.mono (by omega)) (ht.kidR (i := 5) (by omega) hb5 (by omega) (by omega)) ⟨if_, by omega⟩ g4 (by omega)) (Yn rfl) rfl (fun u3 G4 he4 => ⟨Yo, ?_⟩) (fun er Ge he4 => ?_))
 obtain ⟨g6, g7⟩ := K.chk c x5 (ofT 19 [x0, x1, x4]) G3 u3 G4 (hc.mono (by omega)) (ht.kidR (i := 5) (by omega) hb5 (by omega) (by omega)) ⟨if_, by omega⟩ g4 (by omega) he4
 refine ASeq.nil (Yb (Ya ?_))
 refine Z1 ?_
 refine Z1 ?_
 refine Z1 ?_
 refine Z39 ?_
 refine AOps.e rfl rfl rfl (AOp.callR [_, _, _, _, _, _, _] (HI c x2 G4 (hc.mono (by omega)) (ht.kidR (i := 2) (by omega) hb2 (by omega) (by omega)) g6 (by omega)) (Yn rfl) rfl (fun y G5 he5 => ?_) (fun er Ge he5 => ?_))
 obtain ⟨yf, g8, g9, yz⟩ := K.inf c x2 G4 y G5 (hc.mono (by omega)) (ht.kidR (i := 2) (by omega) hb2 (by omega) (by omega)) g6 (by omega) he5
 refine AOps.e rfl rfl rfl (AOp.callR [_, _, _, _, _, _, _] (ias_c b bm cs nl RM G5 hS hC y 4 8 g8 (by omega) ⟨yf, by omega⟩) (Yn rfl) rfl (fun ab G6 he6 => ?_) (fun er Ge he6 => ?_))
 obtain ⟨g10, g11, af, bf, az, bz⟩ := asI_ok hC g8 (by omega) ⟨yf, by omega⟩ he6
 refine Z1 ?_
 refine Z12 ?_
 refine Z12 ?_
 refine Z7 (fun b12 => ?_)
 refine Z7 (fun b13 => ?_)
 refine Z10 ?_
 refine Z3 ?_
 refine Yc (Yb (Ya ?_))
 refine Z1 ?_
 refine Z23 ?_
 refine AOps.v rfl rfl rfl (AVal.loadP (d := encT _) 6 rfl rfl rfl rfl) ?_
 refine AOps.e rfl rfl rfl (AOp.callR [_, _, _, _, _, _, _, _, _] (ione_c b bm cs nl RM G6 hS hC ab.1 x0 13 g10 (by omega) ⟨af, by omega⟩ ⟨x0f, by omega⟩) (Yn rfl) rfl (fun u4 G7 he7 => ?_) (fun er Ge he7 => ?_))
 obtain ⟨g12, g13⟩ := oneI_ok hC g10 (by omega) ⟨af, by omega⟩ ⟨x0f, by omega⟩ he7
 refine Yc (Yb (Ya ?_))
 refine Z1 ?_
 refine Z20 ?_
 refine AOps.e rfl rfl rfl (AOp.callR [_, _, _, _, _, _, _, _, _] (ias_c b bm cs nl RM G7 hS hC ab.2 4 8 g12 (by omega) ⟨bf, by omega⟩) (Yn rfl) rfl (fun pe G8 he8 => ?_) (fun er Ge he8 => ?_))
 obtain ⟨g14, g15, pf, ef, pz, ez⟩ := asI_ok hC g12 (by omega) ⟨bf, by omega⟩ he8
 refine Z1 ?_
 refine Z12 ?_
 refine Z12 ?_
 refine Z7 (fun b14 => ?_)
 refine Z7 (fun b15 => ?_)
 refine Z10 ?_
 refine Z3 ?_
 refine Yc (Yb ?_)
 refine Yj [.p 0, .l 1, .l 2, .p 3, .l 4, .p 5, .p 6, .p 7, .p 8, .e 9 []] mixed (by kernel_rfl) ?_
 refine Z5 ?_
 refine Z28 ?_
 refine ASeq.lv rfl rfl rfl rfl (Yv (d := encT _) 8 rfl rfl (.refl _)) ?_
 refine ASeq.pe rfl rfl rfl rfl (fun L0 => (Yk (iup_c x0 1 x0f (by have := sz_le_fsz x0; omega)) (Yn rfl) ⟨rfl, rfl⟩)) ?_
 refine ASeq.lv rfl rfl rfl rfl (Yv (d := encT _) 7 rfl rfl (.refl _)) ?_
 refine ASeq.pe rfl rfl rfl rfl (fun L0 => (Yk (iup_c x1 1 x1f (by have := sz_le_fsz x1; omega)) (Yn rfl) ⟨rfl, rfl⟩)) ?_
 refine ASeq.pe rfl rfl rfl rfl (fun L0 => (Yk (iv_c 0) (Yn rfl) ⟨rfl, rfl⟩)) ?_
 refine ASeq.pe rfl rfl rfl rfl (fun L0 => (AOp.buildSliceT (ts := [_, _, _]) rfl rfl rfl rfl rfl ⟨rfl, rfl⟩)) ?_
 refine ASeq.pe rfl rfl rfl rfl (fun L0 => (Yk (iof_c 19 [_, _, _]) (Yn rfl) ⟨rfl, rfl⟩)) ?_
 refine ASeq.ee rfl rfl rfl rfl rfl (AOp.callR [_, _, _, _, _, _, _, _, _, _, _] (ione_c b bm cs nl RM G8 hS hC pe.1 (ofT 19 [lift x0 1 0, lift x1 1 0, tv 0]) 13 g14 (by omega) ⟨pf, by omega⟩ ⟨lf, by omega⟩) (Yn rfl) rfl (fun u5 G9 he9 => ⟨Yo, ?_⟩) (fun er Ge he9 => ?_))
 obtain ⟨g16, g17⟩ := oneI_ok hC g14 (by omega) ⟨pf, by omega⟩ ⟨lf, by omega⟩ he9
 refine ASeq.nil (Yb (Ya ?_))
 refine Z1 ?_
 refine Z20 ?_
 refine AOps.e rfl rfl rfl (AOp.callR [_, _, _, _, _, _, _, _, _, _, _] (ilevel_c b bm cs nl RM G9 hS hC pe.2 g16 (by omega) ⟨ef, by omega⟩) (Yn rfl) rfl (fun l2 G10 he10 => ?_) (fun er Ge he10 => ?_))
 obtain ⟨g18, g19, _⟩ := levelI_ok hC g16 (by omega) ⟨ef, by omega⟩ he10
 refine Yc (Yb ?_)
 refine Yj [.p 0, .p 1, .p 2, .l 3, .p 4, .p 5, .l 6, .l 7, .p 8, .p 9, .p 10, .p 11, .p 12, .e 13 []] mixed (by kernel_rfl) ?_
 refine Z5 ?_
 refine Z5 ?_
 refine Z8 ?_
 refine ASeq.lv rfl rfl rfl rfl (Yv 10 rfl rfl (by constructor)) ?_
 refine Z22 ?_
 refine Z21 ?_
 refine ASeq.lv rfl rfl rfl rfl (Yv (d := encT _) 6 rfl rfl (.refl _)) ?_
 refine ASeq.lv rfl rfl rfl rfl (Yv (d := encT _) 7 rfl rfl (.refl _)) ?_
 refine Z32 ?_
 refine ASeq.pe rfl rfl rfl rfl (fun L0 => (Yk (iof_c 6 [x2, x1]) (Yn rfl) ⟨rfl, rfl⟩)) ?_
 refine ASeq.pe rfl rfl rfl rfl (fun L0 => (Yk (iof_c 20 []) (LeL.cons (.refl _) (LeL.cons (.emp _ rfl) .nil)) ⟨rfl, rfl⟩)) ?_
 refine Z32 ?_
 refine ASeq.pe rfl rfl rfl rfl (fun L0 => (Yk (iof_c 6 [_, _]) (Yn rfl) ⟨rfl, rfl⟩)) ?_
 refine ASeq.ee rfl rfl rfl rfl rfl (AOp.callR [_, _, _, _, _, _, _, _, _, _, _] (HC c x3 (ofT 6 [ofT 6 [x2, x1], ofT 20 []]) G10 (hc.mono (by omega)) (ht.kidR (i := 3) (by omega) hb3 (by omega) (by omega)) ⟨apf, by omega⟩ g18 (by omega)) (Yn rfl) rfl (fun u6 G11 he11 => ⟨Yo, ?_⟩) (fun er Ge he11 => ?_))
 refine ASeq.nil (Yb ?_)
 refine Yj [.l 0, .l 1, .p 2, .p 3, .l 4, .p 5, .p 6, .e 7 []] mixed (by kernel_rfl) ?_
 refine ASeq.lv rfl rfl rfl rfl (Yv (d := encT _) 6 rfl rfl (.refl _)) ?_
 refine ASeq.lv rfl rfl rfl rfl (Yv (d := encT _) 5 rfl rfl (.refl _)) ?_
 refine Z32 ?_
 refine ASeq.pe rfl rfl rfl rfl (fun L0 => (Yk (iof_c 6 [x2, x4]) (Yn rfl) ⟨rfl, rfl⟩)) ?_
 refine ASeq.lv rfl rfl rfl rfl (Yv (d := encT _) 4 rfl rfl (.refl _)) ?_
 refine Z32 ?_
 refine ASeq.pe rfl rfl rfl rfl (fun L0 => (Yk (iof_c 6 [_, x5]) (Yn rfl) ⟨rfl, rfl⟩)) ?_
 refine ASeq.ee0 rfl rfl rfl rfl (AOp.storeN 9 rfl rfl rfl (by constructor) rfl rfl rfl (by repeat constructor) (by repeat constructor) ⟨Yo, ?_⟩)
 refine ASeq.nil (Yd ?_)
 refine AFin.rRet (ofT 6 [ofT 6 [x2, x4], x5]) (G11) rfl (.cons (Yi (d := encT _) 9 rfl rfl rfl rfl) .nil) (by repeat first | exact X0 _ | apply X1 | apply X2) ?_ ((Ys he).trans ((Ys he2).trans ((Ys he3).trans ((Ys he4).trans ((Ys he5).trans ((Ys he6).trans ((Ys he7).trans ((Ys he8).trans ((Ys he9).trans ((Ys he10).trans ((Ys he11).trans (rfl))))))))))))
 exact .refl _
 exact AFin.rPan (X := X) (fn := Tryz.f145) (Ge) rfl (by repeat first | exact X0 _ | apply X1 | apply X2 | exact X3 _) ((Ys he).trans ((Ys he2).trans ((Ys he3).trans ((Ys he4).trans ((Ys he5).trans ((Ys he6).trans ((Ys he7).trans ((Ys he8).trans ((Ys he9).trans ((Ys he10).trans (RS.bind_er he11)))))))))))
 exact AFin.rPan (X := X) (fn := Tryz.f145) (Ge) rfl (by repeat first | exact X0 _ | apply X1 | apply X2 | exact X3 _) ((Ys he).trans ((Ys he2).trans ((Ys he3).trans ((Ys he4).trans ((Ys he5).trans ((Ys he6).trans ((Ys he7).trans ((Ys he8).trans ((Ys he9).trans (RS.bind_er he10))))))))))
 exact AFin.rPan (X := X) (fn := Tryz.f145) (Ge) rfl (by repeat first | exact X0 _ | apply X1 | apply X2 | exact X3 _) ((Ys he).trans ((Ys he2).trans ((Ys he3).trans ((Ys he4).trans ((Ys he5).trans ((Ys he6).trans ((Ys he7).trans ((Ys he8).trans (RS.bind_er he9)))))))))
 exact AFin.rPan (X := X) (fn := Tryz.f145) (Ge) rfl (by repeat first | exact X0 _ | apply X1 | apply X2 | exact X3 _) ((Ys he).trans ((Ys he2).trans ((Ys he3).trans ((Ys he4).trans ((Ys he5).trans ((Ys he6).trans ((Ys he7).trans (RS.bind_er he8))))))))
 exact AFin.rPan (X := X) (fn := Tryz.f145) (Ge) rfl (by repeat first | exact X0 _ | apply X1 | apply X2 | exact X3 _) ((Ys he).trans ((Ys he2).trans ((Ys he3).trans ((Ys he4).trans ((Ys he5).trans ((Ys he6).trans (RS.bind_er he7)))))))
 exact AFin.rPan (X := X) (fn := Tryz.f145) (Ge) rfl (by repeat first | exact X0 _ | apply X1 | apply X2 | exact X3 _) ((Ys he).trans ((Ys he2).trans ((Ys he3).trans ((Ys he4).trans ((Ys he5).trans (RS.bind_er he6))))))
 exact AFin.rPan (X := X) (fn := Tryz.f145) (Ge) rfl (by repeat first | exact X0 _ | apply X1 | apply X2 | exact X3 _) ((Ys he).trans ((Ys he2).trans ((Ys he3).trans ((Ys he4).trans (RS.bind_er he5)))))
 exact AFin.rPan (X := X) (fn := Tryz.f145) (Ge) rfl (by repeat first | exact X0 _ | apply X1 | apply X2 | exact X3 _) ((Ys he).trans ((Ys he2).trans ((Ys he3).trans (RS.bind_er he4))))
 exact AFin.rPan (X := X) (fn := Tryz.f145) (Ge) rfl (by repeat first | exact X0 _ | apply X1 | apply X2 | exact X3 _) ((Ys he).trans ((Ys he2).trans (RS.bind_er he3)))
 exact AFin.rPan (X := X) (fn := Tryz.f145) (Ge) rfl (by repeat first | exact X0 _ | apply X1 | apply X2 | exact X3 _) ((Ys he).trans (RS.bind_er he2))
 exact AFin.rPan (X := X) (fn := Tryz.f145) (Ge) rfl (by repeat first | exact X0 _ | apply X1 | apply X2 | exact X3 _) (RS.bind_er he)
theorem iconst_c (b bm : Nat) (cs : List Core) (nl : Int) (RM : List (Int × D)) (F : Int) (hS : SortedOk) (hty : ∀ c ∈ cs, c.typ.fit 1099511627776 ∧ c.typ.sz ≤ 4611686018427387904) (c : List Term) (t : Term) (ht : t.fit 1099511627776) : ARs X 137 [.ptr b 0, .slT c, encT t] 30 (fun F => [(b, .cells 136 [.int .i64 (F), .slC cs, .int .i64 nl, .map bm]), (bm, .map RM)]) F encT (.ok (typeM cs t.num t.levels) F) := by
 refine Zf Tryz.func137 ?_
 refine Yb (Ya ?_)
 refine Z9 (fun b5 => ?_)
 refine Z7 (fun b6 => ?_)
 refine Yc (Yb ?_)
 refine Yj [.p 0, .p 1, .p 2, .l 3, .p 4, .l 5, .p 6, .l 7, .p 8, .p 9, .p 10, .p 11, .a 12, .e 13 [], .p 14] mixed (by kernel_rfl) ?_
 refine Z5 ?_
 refine Z38 ?_
 refine Z8 ?_
 refine Z45 ?_
 refine Z8 ?_
 refine Z36 ?_
 refine Z8 ?_
 refine Z36 ?_
 refine ASeq.pe rfl rfl rfl rfl (fun L0 => (Yk (type_c hS cs t.num t.levels hty (by have := ht.llen; omega) (fun l hl => by have := ht.plen hl; omega)) (Yn rfl) ⟨rfl, rfl⟩)) ?_
 refine Z5 ?_
 refine Z29 ?_
 refine Z29 ?_
 refine Za (fun b7 => ?_)
 refine Z25 ?_
 refine Z17 ?_
 refine ASeq.nil (Yb (Ya ?_))
 refine Z20 ?_
 refine Z10 ?_
 refine Yc (Yd ?_)
 refine AFin.rRet (typeM cs t.num t.levels) (F) rfl (.cons (Yi (d := encT _) 1 rfl rfl rfl rfl) .nil) (by repeat first | exact X0 _ | apply X1 | apply X2) ?_ (rfl)
 exact .refl _
end Sp

/- The walks of infer: universes, branches. Written by a program of mine. -/
set_option linter.unusedVariables false
set_option linter.unusedSimpArgs false
set_option maxRecDepth 20000
namespace Sp
open Go Go.Proofs
theorem lpart_c (hS : SortedOk) (v p : Int) : AFn X 211 [.int .i64 v, .int .i64 p] (encL (ofRows (rowPut [] [⟨v, p⟩]))) := by
 refine Zf Tryz.func211 ?_
 refine Yb (Ya ?_)
 refine Z7 (fun b4 => ?_)
 refine Yc (Yb (Ya ?_))
 refine Z1 ?_
 refine Z1 ?_
 refine Z81 ?_
 refine Z61 ?_
 refine Z52 ?_
 refine AOps.e rfl rfl rfl (AOp.buildSliceL (ts := [_]) rfl rfl rfl rfl rfl ?_)
 refine AOps.e rfl rfl rfl (Yk (lof_c hS [[⟨v, p⟩]] (by simp) (by simp)) (Yn rfl) ?_)
 refine Z3 ?_
 refine Yc (Yd ?_)
 refine Yh rfl (.cons (Yi (d := encL _) 0 rfl rfl rfl rfl) .nil) ?_
 exact .refl _
theorem lnum_c (hS : SortedOk) (n : Int) : AFn X 196 [.int .i64 n] (encL (numL n)) := by
 refine Zf Tryz.func196 ?_
 refine Yb (Ya ?_)
 refine Z7 (fun b2 => ?_)
 refine Yc (Yb (Ya ?_))
 refine Z1 ?_
 refine AOps.e rfl rfl rfl (Yk (lpart_c hS 0 n) (Yn rfl) ?_)
 refine Z3 ?_
 refine Yc (Yd ?_)
 refine Yh rfl (.cons (Yi (d := encL _) 0 rfl rfl rfl rfl) .nil) ?_
 exact .refl _
theorem lsucc_c (hS : SortedOk) (l : Level) (hl : l.length ≤ 9223372036854775807) : AFn X 169 [encL l] (encL (succL l)) := by
 have hnl := normM_len l
 refine Zf Tryz.func169 ?_
 refine Yb (Ya ?_)
 refine Z9 (fun b1 => ?_)
 refine Z7 (fun b2 => ?_)
 refine Yc (Yb (Ya ?_))
 refine AOps.v rfl rfl rfl (AVal.loadP (d := encL _) 1 rfl rfl rfl rfl) ?_
 refine AOps.e rfl rfl rfl (AOp.callOwn _ (norm_o hS l hl) (Yn rfl) (List.Perm.refl _) (fun hnil => ?_) (fun hne bq kq => ?_))
 refine Z10 ?_
 refine Yc (Yb (Yb (Ya ?_)))
 refine Z6 ?_
 refine Z16 ?_
 refine Z24 ?_
 refine Z40 ?_
 refine Yc ?_
 refine Zc (fun h9 => ?_) (fun h9 => ?_)
 try simp only [sz] at h9
 skip
 refine Yb (Ya ?_)
 refine AOps.e rfl rfl rfl (Yk (lnum_c hS 1) (Yn rfl) ?_)
 refine Z3 ?_
 refine Yc (Yd ?_)
 refine Yh rfl (.cons (Yi (d := encL _) 0 rfl rfl rfl rfl) .nil) ?_
 exact D.Le.eq (by unfold succL; rw [if_pos hnil]; rfl)
 try simp only [sz] at h9
 exact absurd rfl h9 --END
 refine Z34 ?_
 refine Yc (Yb (Yb (Ya ?_)))
 refine Z6 ?_
 refine Z35 ?_
 refine Z24 ?_
 refine Z40 ?_
 refine Yc ?_
 refine Zc (fun h9 => ?_) (fun h9 => ?_)
 try simp only [sz] at h9
 exact absurd (List.eq_nil_of_length_eq_zero (by omega)) hne --END
 try simp only [sz] at h9
 skip
 refine Ye (Yb (Yb (Ya ?_)))
 refine Z6 ?_
 refine Z35 ?_
 refine Z24 ?_
 refine Z1 ?_
 refine Yc (Yf ?_)
 refine Yu (γ := Nat) (fun g => [(1, .ptr b1 0), (2, .ptr b2 0), (13, .int .i64 (normM l).length), (14, .int .i64 g)]) (fun g => [(bq, .cells 114 (rowM (bumpN g (normM l)) kq)), (b2, .cells 56 [.emp]), (b1, .cells 56 [.sl bq 0 (normM l).length])]) (fun g => g ≤ (normM l).length) (fun g => (normM l).length - g) 0 (Nat.zero_le _) (by repeat first | exact Ym | refine Yl (.refl _) ?_) (by rw [bumpN_zero]; exact (by repeat first | exact X0 _ | apply X1 | apply X2 | exact X3 _)) ?_
 intro i hi t1
 refine Yb (Ya ?_)
 refine Z26 ?_
 refine Yc (Yb ?_)
 refine Zc (fun h15 => ?_) (fun h15 => ?_)
 try simp only [sz] at h15
 have hlt : i < (normM l).length := by omega
 refine Ye (Yb (Yf (Yb (Ya ?_))))
 refine Z1 ?_
 refine Z2 ?_
 refine Yc (Ya ?_)
 refine Z6 ?_
 refine Z35 ?_
 refine Z1 ?_
 refine AOps.v rfl rfl rfl (AVal.indexSN (p := 2 * i) rfl rfl rfl rfl (by omega) (by show 0 + (i : Int).toNat * 2 = 2 * i; omega)) ?_
 refine Z6 ?_
 refine AOps.v rfl rfl rfl (AVal.loadP (d := .int .i64 ((normM l).getD i default).p) 0 rfl rfl rfl (rowM_load rfl hlt)) ?_
 refine Z63 ?_
 refine AOps.v rfl rfl rfl (AVal.indexSN (p := 2 * i) rfl rfl rfl rfl (by omega) (by show 0 + (i : Int).toNat * 2 = 2 * i; omega)) ?_
 refine Z6 ?_
 refine AOps.e0 rfl rfl (AOp.storeBump 0 rfl rfl rfl rfl rfl rfl hlt rfl ?_)
 refine Yc (Ya ?_)
 refine Z19 ?_
 refine Z1 ?_
 refine Yc ?_
 refine ⟨i + 1, by omega, by omega, rfl, (by repeat first | exact Ym | refine Yl (.refl _) ?_), (by repeat first | exact X0 _ | apply X1 | apply X2 | exact X3 _)⟩
 try simp only [sz] at h15
 refine Yg (Yb (Ya ?_))
 refine Z35 ?_
 refine AOps.e rfl rfl rfl (AOp.callConv rfl (Conv.parts' (ps := bumpN i (normM l)) 0 rfl (bumpN_len _ _) rfl) (norm_c hS _ (by rw [bumpN_len]; omega)) ?_)
 refine Z3 ?_
 refine Yc (Yd ?_)
 refine Yh rfl (.cons (Yi (d := encL _) 0 rfl rfl rfl rfl) .nil) ?_
 exact D.Le.eq (by rw [succL_cons hne, bumpN_all (by omega)]; rfl)
theorem iuniverse_c (b bm : Nat) (cs : List Core) (nl : Int) (RM : List (Int × D)) (F : Int) (hS : SortedOk) (c : List Term) (t : Term) (hl : t.levels.length = 1) (hp : ∀ l ∈ t.levels, l.length ≤ 9223372036854775807) : ARs X 136 [.ptr b 0, .slT c, encT t] 30 (fun F => [(b, .cells 136 [.int .i64 (F), .slC cs, .int .i64 nl, .map bm]), (bm, .map RM)]) F encT (if lvRight nl (succL (t.levels.getD 0 default)) = true then .ok (un (succL (t.levels.getD 0 default))) F else .er 15) := by
 have hsl : (succL (t.levels.getD 0 default)).length ≤ 1048577 := by
   unfold succL numL
   split
   · exact ofRows_len _
   · exact normM_len _
 refine Zf Tryz.func136 ?_
 refine Yb (Ya ?_)
 refine Z9 (fun b5 => ?_)
 refine Z7 (fun b6 => ?_)
 refine Yc (Yb (Ya ?_))
 refine Z6 ?_
 refine Z16 ?_
 refine Z82 ?_
 refine Z77 ?_
 refine AOps.e rfl rfl rfl (Yk (lsucc_c hS (t.levels.getD 0 default) (hp _ (getD_mem (by omega)))) (Yn rfl) ?_)
 refine Z7 (fun b7 => ?_)
 refine Z3 ?_
 refine Yc (Yb ?_)
 refine Yj [.l 0, .p 1, .p 2, .p 3, .l 4, .p 5, .e 6 []] mixed (by kernel_rfl) ?_
 refine ASeq.lv rfl rfl rfl rfl (Yv (d := encL _) 0 rfl rfl (.refl _)) ?_
 refine Z5 ?_
 refine Z38 ?_
 refine Z8 ?_
 refine Z43 ?_
 refine ASeq.pe rfl rfl rfl rfl (fun L0 => (Yk (lvRight_c (succL (t.levels.getD 0 default)) nl (by omega)) (Yn rfl) ⟨rfl, rfl⟩)) ?_
 refine ASeq.ee rfl rfl rfl rfl rfl (AOp.callME (imust_c _ 15) (Yn rfl) (fun hok => ⟨Yo, ?_⟩) (fun hno => ?_))
 refine ASeq.nil (Yb (Ya ?_))
 refine AOps.v rfl rfl rfl (AVal.loadP (d := encL _) 0 rfl rfl rfl rfl) ?_
 refine AOps.e rfl rfl rfl (Yk (iuniv_c _) (Yn rfl) ?_)
 refine Z10 ?_
 refine Yc (Yd ?_)
 refine AFin.rRet (un (succL (t.levels.getD 0 default))) (F) rfl (.cons (Yi (d := encT _) 1 rfl rfl rfl rfl) .nil) (by repeat first | exact X0 _ | apply X1 | apply X2) ?_ (if_pos (by simpa using hok))
 exact .refl _
 exact AFin.rPan (X := X) (fn := Tryz.f136) (F) rfl (by repeat first | exact X0 _ | apply X1 | apply X2 | exact X3 _) (if_neg (by simpa using hno))
theorem ibranch_c (b bm : Nat) (cs : List Core) (nl : Int) (RM : List (Int × D)) (F : Int) (hS : SortedOk) (hC : CoresOk cs) {cn : List Int} {inf : List Term → Term → Int → RS Term} {chk : List Term → Term → Term → Int → RS Unit} {n : Int} (hn : n ≤ 1073741824) (K : Known nl cn inf chk n) (HI : ∀ c t F, CtxOk c F → AskOk nl cn c t F → 0 ≤ F → F ≤ n → ARs X 51 [.ptr b 0, .slT c, encT t] 30 (fun F => [(b, .cells 136 [.int .i64 (F), .slC cs, .int .i64 nl, .map bm]), (bm, .map RM)]) F encT (inf c t F)) (HC : ∀ c t ty F, CtxOk c F → AskOk nl cn c t F → TyOk ty F → 0 ≤ F → F ≤ n → ARs X 60 [.ptr b 0, .slT c, encT t, encT ty] 30 (fun F => [(b, .cells 136 [.int .i64 (F), .slC cs, .int .i64 nl, .map bm]), (bm, .map RM)]) F (fun _ => D.tup []) (chk c t ty F)) (c : List Term) (t : Term) (hc : CtxOk c (F + 1)) (ht : AskOk nl cn c t F) (h0 : 0 ≤ F) (h1 : F ≤ n) (hk : t.kind = 24) : ARs X 148 [.ptr b 0, .slT c, encT t] 30 (fun F => [(b, .cells 136 [.int .i64 (F), .slC cs, .int .i64 nl, .map bm]), (bm, .map RM)]) F encT (branchI cs inf chk c t F) := by
 obtain ⟨hl, ha0⟩ := case_len ht.1 ht.2.1 hk
 have ha := ht.2.1.atr
 have hlen := ht.2.1.len
 have htz := ht.2.2
 have hr : ∀ (i G : Int), G ≤ F → 0 ≤ i → i < t.kids.length → AskOk nl cn c (t.kids.getD i.toNat default) G := fun i G hG h0 h5 => by
   have := ht.kidR (i := i) hG (by rw [hk]; exact binds24 i) h0 h5
   rwa [kid_at h0 h5] at this
 obtain ⟨lf, lz⟩ := leaf_ok 22 t.at_ 0 (by simp [lack, spotOf]) (by omega) (by omega)
 have hty : ∀ G : Int, 0 ≤ G → G ≤ F → TyOk (.mk 22 t.at_ 0 [] []) G := fun G a b => ⟨lf, by rw [lz]; push_cast; omega⟩
 have hbl : ((t.kids.take (t.at_ + 1).toNat).drop 1).length = t.at_.toNat := by rw [List.length_drop, List.length_take]; omega
 have hbr : branchI cs inf chk c t F = (chk c (t.kids.getD (t.at_ + 1).toNat default) (.mk 22 t.at_ 0 [] []) F).bind fun _ F => (motivI cs inf c (t.kids.getD 0 default) (.mk 22 t.at_ 0 [] []) F).bind fun _ F => (casesI chk c (t.kids.getD 0 default) t.at_ 0 ((t.kids.take (t.at_ + 1).toNat).drop 1) F).bind fun _ F => .ok (ofT 6 [(t.kids.getD 0 default), (t.kids.getD (t.at_ + 1).toNat default)]) F := by
   unfold branchI
   rw [kid_at (t := t) (i := t.at_ + 1) (by omega) (by omega), kid_at (t := t) (i := 0) (by omega) (by omega), List.drop_take, show (t.at_ + 1).toNat - 1 = t.at_.toNat by omega]
   rfl
 have hpf : (t.kids.getD 0 default).fit 1099511627776 := ht.2.1.kid (getD_mem (by omega))
 have hpz : fsz (t.kids.getD 0 default) ≤ fsz t := by have := fsz_kid' (getD_mem (l := t.kids) (i := 0) (by omega)); omega
 rw [hbr]
 refine Zf Tryz.func148 ?_
 refine Yb (Ya ?_)
 refine Z9 (fun b5 => ?_)
 refine Z7 (fun b6 => ?_)
 refine Yc (Yb ?_)
 refine Yj [.p 0, .l 1, .p 2, .p 3, .p 4, .l 5, .p 6, .l 7, .p 8, .p 9, .p 10, .p 11, .l 12, .p 13, .a 14, .a 15, .a 16, .e 17 [5, 7, 12], .e 18 [12], .e 19 []] mixed (by kernel_rfl) ?_
 refine Z8 ?_
 refine Z36 ?_
 refine Z86 ?_
 refine Z21 ?_
 refine Z8 ?_
 refine Z36 ?_
 refine Z8 ?_
 refine Z36 ?_
 refine Yt rfl rfl rfl rfl (fun L0 => (AVal.addn rfl rfl (by omega))) ?_
 refine Z86 ?_
 refine Z21 ?_
 refine Z8 ?_
 refine Z36 ?_
 refine Yt rfl rfl rfl rfl (fun L0 => (AVal.buildT rfl rfl rfl (by constructor) (by constructor))) ?_
 refine Za (fun b7 => ?_)
 refine Za (fun b8 => ?_)
 refine Za (fun b9 => ?_)
 refine ASeq.ee0 rfl rfl rfl rfl (AOp.storeN 2 rfl rfl rfl (by constructor) rfl rfl rfl (by repeat constructor) (by repeat constructor) ⟨(Keeps.cons (Yv 4 rfl rfl (.refl _)) (Keeps.cons (Yv 4 rfl rfl (.refl _)) (Keeps.cons (Yv 4 rfl rfl (.refl _)) Yo))), ?_⟩)
 refine ASeq.ee0 rfl rfl rfl rfl (AOp.storeN 1 rfl rfl rfl (by constructor) rfl rfl rfl (by repeat constructor) (by repeat constructor) ⟨(Keeps.cons (Yv 4 rfl rfl (.refl _)) Yo), ?_⟩)
 refine Z25 ?_
 refine ASeq.nil (Yb (Ya ?_))
 refine Z1 ?_
 refine Z1 ?_
 refine Z23 ?_
 refine Z20 ?_
 refine AOps.e rfl rfl rfl (AOp.callR [_, _, _, _, _] (HC c (t.kids.getD (t.at_ + 1).toNat default) (.mk 22 t.at_ 0 [] []) F (hc.mono (by omega)) (hr (t.at_ + 1) F (by omega) (by omega) (by omega)) (hty F h0 (by omega)) h0 h1) (Yn rfl) rfl (fun u G he => ?_) (fun er Ge he => ?_))
 obtain ⟨g0, g1⟩ := K.chk c _ _ F u G (hc.mono (by omega)) (hr (t.at_ + 1) F (by omega) (by omega) (by omega)) (hty F h0 (by omega)) h0 h1 he
 refine Yc (Yb (Ya ?_))
 refine Z1 ?_
 refine Z1 ?_
 refine Z39 ?_
 refine Z20 ?_
 refine AOps.e rfl rfl rfl (AOp.callR [_, _, _, _, _] (imotive_c b bm cs nl RM G hS hC hn K HI HC c (t.kids.getD 0 default) (.mk 22 t.at_ 0 [] []) (hc.mono (by omega)) (hr 0 G (by omega) (by omega) (by omega)) (hty G g0 (by omega)) g0 (by omega)) (Yn rfl) rfl (fun u2 G2 he2 => ?_) (fun er Ge he2 => ?_))
 obtain ⟨g2, g3⟩ := motivI_ok K hC hn (hc.mono (by omega)) (hr 0 G (by omega) (by omega) (by omega)) (hty G g0 (by omega)) g0 (by omega) he2
 refine Yc (Yb (Yb (Ya ?_)))
 refine Z6 ?_
 refine Z83 ?_
 refine Z6 ?_
 refine Z83 ?_
 refine Z19 ?_
 refine AOps.v rfl rfl rfl (AVal.sliceLH (d' := .slT ((t.kids.take (t.at_ + 1).toNat).drop 1)) rfl rfl rfl rfl rfl rfl (by omega) (by omega) (by (rw [List.length_map]; omega)) rfl (fun e he => by obtain ⟨u, _, rfl⟩ := List.mem_map.1 he; rfl)) ?_
 refine Z24 ?_
 refine Z1 ?_
 refine Yc (Yf ?_)
 have hbi : ∀ (i : Nat) (H : Int), i < ((t.kids.take (t.at_ + 1).toNat).drop 1).length → H ≤ G2 → AskOk nl cn c (((t.kids.take (t.at_ + 1).toNat).drop 1).getD i default) H := fun i H hi hH => by
   have := hr ((i : Int) + 1) H (by omega) (by omega) (by omega)
   have e : ((t.kids.take (t.at_ + 1).toNat).drop 1).getD i default = t.kids.getD ((i : Int) + 1).toNat default := by
     rw [List.getD_eq_getElem?_getD, List.getD_eq_getElem?_getD, List.getElem?_drop, List.getElem?_take_of_lt (by omega), show 1 + i = ((i : Int) + 1).toNat by omega]
   rw [e]; exact this
 have hti : ∀ (i : Nat) (H : Int), i < ((t.kids.take (t.at_ + 1).toNat).drop 1).length → 0 ≤ H → H ≤ G2 → TyOk (ofT 6 [(t.kids.getD 0 default), .mk 23 i t.at_ [] []]) H := fun i H hi h0 hH => by
   obtain ⟨ef, ez⟩ := leaf_ok 23 i t.at_ (by simp [lack, spotOf]) (by omega) ha
   exact ⟨two_fit hpf ef, by rw [fsz_two (by simp [lack, spotOf]), ez]; push_cast; omega⟩
 refine Yu (γ := Nat × Int) (fun g => [(0, .ptr b 0), (1, .slT c), (5, .ptr b5 0), (6, .ptr b6 0), (7, .ptr b7 0), (8, .ptr b8 0), (41, .slT ((t.kids.take (t.at_ + 1).toNat).drop 1)), (42, .int .i64 ((t.kids.take (t.at_ + 1).toNat).drop 1).length), (43, .int .i64 g.1)]) (fun g => [(b9, .cells 27 (cellsT (.mk 22 t.at_ 0 [] []))), (b8, .cells 27 (cellsT (t.kids.getD (t.at_ + 1).toNat default))), (b7, .cells 27 (cellsT (t.kids.getD 0 default))), (b6, .cells 27 [.int .i64 0, .int .i64 0, .int .i64 0, .emp, .emp]), (b5, .cells 27 (cellsT t))] ++ [(b, .cells 136 [.int .i64 g.2, .slC cs, .int .i64 nl, .map bm]), (bm, .map RM)]) (fun g => g.1 ≤ ((t.kids.take (t.at_ + 1).toNat).drop 1).length ∧ 0 ≤ g.2 ∧ g.2 ≤ G2 ∧ casesI chk c (t.kids.getD 0 default) t.at_ 0 ((t.kids.take (t.at_ + 1).toNat).drop 1) G2 = casesI chk c (t.kids.getD 0 default) t.at_ g.1 (((t.kids.take (t.at_ + 1).toNat).drop 1).drop g.1) g.2) (fun g => ((t.kids.take (t.at_ + 1).toNat).drop 1).length - g.1) (0, G2) ⟨Nat.zero_le _, g2, Int.le_refl _, rfl⟩ (by repeat first | exact Ym | refine Yl (.refl _) ?_) (by repeat first | exact X0 _ | apply X1 | apply X2 | exact X3 _) ?_
 rintro ⟨i, H⟩ ⟨hi0, hH0, hH1, hcs⟩ t1
 simp only at hi0 hH0 hH1 hcs ⊢
 refine Yb (Ya ?_)
 refine Z26 ?_
 refine Yc (Yb ?_)
 refine Zc (fun h44 => ?_) (fun h44 => ?_)
 try simp only [sz] at h44
 have hi : i < ((t.kids.take (t.at_ + 1).toNat).drop 1).length := by omega
 refine Ye (Yb (Yf (Yb (Ya ?_))))
 refine Z1 ?_
 refine Z53 ?_
 refine Z41 ?_
 refine Z7 (fun b11 => ?_)
 refine Z2 ?_
 refine Z3 ?_
 refine Yc ?_
 refine Yj [.p 0, .p 1, .l 2, .l 3, .p 4, .p 5, .l 6, .p 7, .p 8, .p 9, .e 10 []] mixed (by kernel_rfl) ?_
 refine Z5 ?_
 refine Z5 ?_
 refine Z31 ?_
 refine Z76 ?_
 refine Z5 ?_
 refine Z8 ?_
 refine ASeq.lv rfl rfl rfl rfl (Yv 5 rfl rfl (by constructor)) ?_
 refine Yt rfl rfl rfl rfl (fun L0 => (AVal.buildT rfl rfl rfl (by constructor) (by constructor))) ?_
 refine Z32 ?_
 refine ASeq.pe rfl rfl rfl rfl (fun L0 => (Yk (iof_c 6 [_, _]) (Yn rfl) ⟨rfl, rfl⟩)) ?_
 refine ASeq.ee rfl rfl rfl rfl rfl (AOp.callR [_, _, _, _, _, _] (HC c (((t.kids.take (t.at_ + 1).toNat).drop 1).getD i default) (ofT 6 [(t.kids.getD 0 default), .mk 23 i t.at_ [] []]) H (hc.mono (by omega)) (hbi i H hi hH1) (hti i H hi hH0 hH1) hH0 (by omega)) (Yn rfl) rfl (fun u3 H2 he3 => ⟨Yo, ?_⟩) (fun er Ge he3 => ?_))
 obtain ⟨hh0, hh1⟩ := K.chk c _ _ H u3 H2 (hc.mono (by omega)) (hbi i H hi hH1) (hti i H hi hH0 hH1) hH0 (by omega) he3
 refine ASeq.nil (Ya ?_)
 refine Z19 ?_
 refine Z1 ?_
 refine Yc ?_
 refine ⟨(i + 1, H2), ⟨by simp only; omega, hh0, by simp only; omega, by simp only; rw [hcs, drop_getD hi, casesI, Ys he3]; rfl⟩, by simp only; omega, rfl, (by repeat first | exact Ym | refine Yl (.refl _) ?_), (by repeat first | exact X0 _ | apply X1 | apply X2 | exact X3 _)⟩
 exact AFin.rPan (X := X) (fn := Tryz.f148) (Ge) rfl (by repeat first | exact X0 _ | apply X1 | apply X2 | exact X3 _) ((Ys he).trans ((Ys he2).trans (RS.bind_er (hcs.trans (by rw [drop_getD hi, casesI]; exact RS.bind_er he3)))))
 try simp only [sz] at h44
 refine Yg (Yb (Ya ?_))
 refine Z39 ?_
 refine Z23 ?_
 refine AOps.e rfl rfl rfl (AOp.buildSliceT (ts := [_, _]) rfl rfl rfl rfl rfl ?_)
 refine AOps.e rfl rfl rfl (Yk (iof_c 6 [_, _]) (Yn rfl) ?_)
 refine Z67 ?_
 refine Yc (Yd ?_)
 refine AFin.rRet (ofT 6 [(t.kids.getD 0 default), (t.kids.getD (t.at_ + 1).toNat default)]) (H) rfl (.cons (Yi (d := encT _) 3 rfl rfl rfl rfl) .nil) (by repeat first | exact X0 _ | apply X1 | apply X2) ?_ ((Ys he).trans ((Ys he2).trans ((Ys (show (casesI chk c (t.kids.getD 0 default) t.at_ 0 ((t.kids.take (t.at_ + 1).toNat).drop 1) G2) = .ok () H by rw [hcs, List.drop_of_length_le (by omega)]; rfl)).trans (rfl))))
 exact .refl _
 exact AFin.rPan (X := X) (fn := Tryz.f148) (Ge) rfl (by repeat first | exact X0 _ | apply X1 | apply X2 | exact X3 _) ((Ys he).trans (RS.bind_er he2))
 exact AFin.rPan (X := X) (fn := Tryz.f148) (Ge) rfl (by repeat first | exact X0 _ | apply X1 | apply X2 | exact X3 _) (RS.bind_er he)
end Sp
