/- Walks of the program's functions and what they compute: contracts of calls; no condition beyond those that each theorem names. -/
import Derived.Test.YtbnknhpebkcpmaaGreatDoorBf
import Derived.Test.YtbnknhpebkcpmaaGreatDoorKc
import Derived.Test.YtbnknhpebkcpmaaGreatDoorKd
/- The walks of cenv: what is asked of one declaration. Written by a program of mine. -/
set_option linter.unusedVariables false
set_option linter.unusedSimpArgs false
set_option maxRecDepth 20000
namespace Sp
open Go Go.Proofs
abbrev AD (F : Int) (l : List Core) (c : Core) : List D := [.int .i64 F, .slC l, .int .i64 c.levels, .int .i64 c.typ.kind, .int .i64 c.typ.num, .int .i64 c.typ.at_, .slL c.typ.levels, .slT c.typ.kids, .bool c.has,
   .int .i64 c.body.kind, .int .i64 c.body.num, .int .i64 c.body.at_, .slL c.body.levels, .slT c.body.kids]
abbrev ADX (F : Int) (d : D) (c : Nat → D) : List D := [.int .i64 F, d, c 0, c 1, c 2, c 3, c 4, c 5, c 6, c 7, c 8, c 9, c 10, c 11]
theorem cespend_c (b : Nat) (l : List Core) (c : Core) (F : Int) (G e : Int) : ARs X 154 [.ptr b 0, .int .i64 G, .int .i64 e] 30 (fun F => [(b, .cells 105 [.int .i64 F, .slC l, .int .i64 c.levels, .int .i64 c.typ.kind, .int .i64 c.typ.num, .int .i64 c.typ.at_, .slL c.typ.levels, .slT c.typ.kids, .bool c.has, .int .i64 c.body.kind, .int .i64 c.body.num, .int .i64 c.body.at_, .slL c.body.levels, .slT c.body.kids])]) F (fun _ => D.tup []) (if e = 0 then .ok () G else .er e) := by
 refine Zf Tryz.func154 ?_
 refine Yb (Ya ?_)
 refine Z1 ?_
 refine Z1 ?_
 refine Z44 ?_
 refine Z6 ?_
 refine Z3 ?_
 refine Yc (Yb (Ya ?_))
 refine Z1 ?_
 refine Z60 ?_
 refine Yc ?_
 refine Zc (fun h11 => ?_) (fun h11 => ?_)
 try simp only [sz] at h11
 refine Ya ?_
 refine Z1 ?_
 refine Z51 ?_
 refine AOps.e0 rfl rfl (AOp.panic rfl ?_)
 exact AFin.rPan (X := X) (fn := Tryz.f154) (G) rfl (by repeat first | exact X0 _ | apply X1 | apply X2 | exact X3 _) (if_neg (by simpa using h11))
 try simp only [sz] at h11
 refine Ye ?_
 refine AFin.rEnd (()) (G) rfl .nil (by repeat first | exact X0 _ | apply X1 | apply X2) ?_ (if_pos (by simpa using h11))
 exact .refl _
theorem ashape_c (b : Nat) (l : List Core) (c : Core) (F : Int) (hc : CoreS c) : ARs X 115 [.ptr b 0] 30 (fun F => [(b, .cells 105 [.int .i64 F, .slC l, .int .i64 c.levels, .int .i64 c.typ.kind, .int .i64 c.typ.num, .int .i64 c.typ.at_, .slL c.typ.levels, .slT c.typ.kids, .bool c.has, .int .i64 c.body.kind, .int .i64 c.body.num, .int .i64 c.body.at_, .slL c.body.levels, .slT c.body.kids])]) F (fun _ => D.tup []) (shapeI c F) := by
 have hq1 := hc.2.2.1.llen
 have hq2 := hc.2.2.1.len
 refine Zf Tryz.func115 ?_
 refine Yb (Ya ?_)
 refine Z1 ?_
 refine Z44 ?_
 refine Z6 ?_
 refine Z6 ?_
 refine Z20 ?_
 refine Z7 (fun b2 => ?_)
 refine Z3 ?_
 refine Yc (Yb (Ya ?_))
 refine Z6 ?_
 refine Z11 ?_
 refine Z40 ?_
 refine Z1 ?_
 refine Zs 12 (fun h12 => ?_) (fun h12 => ?_)
 try simp only [sz] at h12
 refine Z18 ?_
 refine Z30 ?_
 refine Z47 ?_
 refine Z15 ?_
 refine Z1 ?_
 refine Zs 17 (fun h17 => ?_) (fun h17 => ?_)
 try simp only [sz] at h17
 refine Z18 ?_
 refine Z30 ?_
 refine Z47 ?_
 refine Z15 ?_
 refine Z1 ?_
 refine Zs 22 (fun h22 => ?_) (fun h22 => ?_)
 try simp only [sz] at h22
 refine Z18 ?_
 refine Z30 ?_
 refine Z64 ?_
 refine Z18 ?_
 refine Z30 ?_
 refine Z64 ?_
 refine Yp rfl rfl rfl rfl rfl rfl (AVal.addn rfl rfl (by omega)) ?_
 refine Z47 ?_
 refine Z15 ?_
 refine Z2 ?_
 refine Yc (Yb (Ya ?_))
 refine Z1 ?_
 refine Z44 ?_
 refine Z6 ?_
 refine Z6 ?_
 refine Z16 ?_
 refine Z26 ?_
 refine Z1 ?_
 refine Zs 38 (fun h38 => ?_) (fun h38 => ?_)
 try simp only [sz] at h38
 refine Z4 ?_
 refine Z4 ?_
 refine Z4 ?_
 refine Z4 ?_
 refine Z4 ?_
 refine Z4 ?_
 refine Z15 ?_
 refine Z1 ?_
 refine Z4 ?_
 refine Z4 ?_
 refine Z4 ?_
 refine Z4 ?_
 refine Z4 ?_
 refine Z4 ?_
 refine Z4 ?_
 refine AOps.vU rfl rfl rfl rfl rfl ?_
 refine AOps.vU rfl rfl rfl rfl rfl ?_
 refine Z4 ?_
 refine Z15 ?_
 refine Yc (ACode.condT rfl (Ya ?_))
 refine Z51 ?_
 refine AOps.e0 rfl rfl (AOp.panic rfl ?_)
 exact AFin.rPan (X := X) (fn := Tryz.f115) (F) rfl (by repeat first | exact X0 _ | apply X1 | apply X2 | exact X3 _) (by unfold shapeI bareC; first | rw [if_pos (by simp_all)] | rw [if_pos (by simp_all; omega)] | rw [if_pos (by omega)])
 try simp only [sz] at h38
 refine Z14 ?_
 refine Yp rfl rfl rfl rfl rfl rfl (AVal.nilCheckP rfl) ?_
 refine Z18 ?_
 refine Z18 ?_
 refine Z27 ?_
 refine Z59 ?_
 refine Z13 ?_
 refine Z1 ?_
 refine Zs 46 (fun h46 => ?_) (fun h46 => ?_)
 try simp only [sz] at h46
 refine Z4 ?_
 refine Z4 ?_
 refine Z4 ?_
 refine Z4 ?_
 refine Z4 ?_
 refine Z4 ?_
 refine Z4 ?_
 refine AOps.vU rfl rfl rfl rfl rfl ?_
 refine AOps.vU rfl rfl rfl rfl rfl ?_
 refine Z4 ?_
 refine Z15 ?_
 refine Yc (ACode.condT rfl (Ya ?_))
 refine Z51 ?_
 refine AOps.e0 rfl rfl (AOp.panic rfl ?_)
 exact AFin.rPan (X := X) (fn := Tryz.f115) (F) rfl (by repeat first | exact X0 _ | apply X1 | apply X2 | exact X3 _) (by unfold shapeI bareC; first | rw [if_pos (by simp_all)] | rw [if_pos (by simp_all; omega)] | rw [if_pos (by omega)])
 try simp only [sz] at h46
 refine Z14 ?_
 refine Yp rfl rfl rfl rfl rfl rfl (AVal.nilCheckP rfl) ?_
 refine Z18 ?_
 refine Z18 ?_
 refine Z27 ?_
 refine Z69 ?_
 refine Z14 ?_
 refine Zs 53 (fun h53 => ?_) (fun h53 => ?_)
 try simp only [sz] at h53
 refine Z14 ?_
 refine Z69 ?_
 refine Z73 ?_
 refine Z13 ?_
 refine Yc ?_
 refine Zc (fun h57 => ?_) (fun h57 => ?_)
 try simp only [sz] at h57
 refine Ya ?_
 refine Z51 ?_
 refine AOps.e0 rfl rfl (AOp.panic rfl ?_)
 exact AFin.rPan (X := X) (fn := Tryz.f115) (F) rfl (by repeat first | exact X0 _ | apply X1 | apply X2 | exact X3 _) (by unfold shapeI bareC; first | rw [if_pos (by simp_all)] | rw [if_pos (by simp_all; omega)] | rw [if_pos (by omega)])
 try simp only [sz] at h57
 refine Ye ?_
 refine AFin.rEnd (()) (F) rfl .nil (by repeat first | exact X0 _ | apply X1 | apply X2) ?_ (by unfold shapeI bareC; first | rw [if_neg (by simp_all)] | rw [if_neg (by simp_all; omega)] | rw [if_neg (by omega)])
 exact .refl _
 try simp only [sz] at h53
 refine Z4 ?_
 refine Z4 ?_
 refine Z74 ?_
 refine Z13 ?_
 refine Yc (ACode.condF rfl (Ye ?_))
 refine AFin.rEnd (()) (F) rfl .nil (by repeat first | exact X0 _ | apply X1 | apply X2) ?_ (by unfold shapeI bareC; first | rw [if_neg (by simp_all)] | rw [if_neg (by simp_all; omega)] | rw [if_neg (by omega)])
 exact .refl _
 try simp only [sz] at h22
 refine Z4 ?_
 refine Z4 ?_
 refine Z4 ?_
 refine Z4 ?_
 refine Z4 ?_
 refine Z4 ?_
 refine Z4 ?_
 refine Z4 ?_
 refine Z13 ?_
 refine Z2 ?_
 refine Yc (Yb (Ya ?_))
 refine Z1 ?_
 refine Z44 ?_
 refine Z6 ?_
 refine Z6 ?_
 refine Z16 ?_
 refine Z26 ?_
 refine Z1 ?_
 refine Zs 38 (fun h38 => ?_) (fun h38 => ?_)
 try simp only [sz] at h38
 refine Z4 ?_
 refine Z4 ?_
 refine Z4 ?_
 refine Z4 ?_
 refine Z4 ?_
 refine Z4 ?_
 refine Z15 ?_
 refine Z1 ?_
 refine Z4 ?_
 refine Z4 ?_
 refine Z4 ?_
 refine Z4 ?_
 refine Z4 ?_
 refine Z4 ?_
 refine Z4 ?_
 refine AOps.vU rfl rfl rfl rfl rfl ?_
 refine AOps.vU rfl rfl rfl rfl rfl ?_
 refine Z4 ?_
 refine Z15 ?_
 refine Yc (ACode.condT rfl (Ya ?_))
 refine Z51 ?_
 refine AOps.e0 rfl rfl (AOp.panic rfl ?_)
 exact AFin.rPan (X := X) (fn := Tryz.f115) (F) rfl (by repeat first | exact X0 _ | apply X1 | apply X2 | exact X3 _) (by unfold shapeI bareC; first | rw [if_pos (by simp_all)] | rw [if_pos (by simp_all; omega)] | rw [if_pos (by omega)])
 try simp only [sz] at h38
 refine Z14 ?_
 refine Yp rfl rfl rfl rfl rfl rfl (AVal.nilCheckP rfl) ?_
 refine Z18 ?_
 refine Z18 ?_
 refine Z27 ?_
 refine Z59 ?_
 refine Z13 ?_
 refine Z1 ?_
 refine Zs 46 (fun h46 => ?_) (fun h46 => ?_)
 try simp only [sz] at h46
 refine Z4 ?_
 refine Z4 ?_
 refine Z4 ?_
 refine Z4 ?_
 refine Z4 ?_
 refine Z4 ?_
 refine Z4 ?_
 refine AOps.vU rfl rfl rfl rfl rfl ?_
 refine AOps.vU rfl rfl rfl rfl rfl ?_
 refine Z4 ?_
 refine Z15 ?_
 refine Yc (ACode.condT rfl (Ya ?_))
 refine Z51 ?_
 refine AOps.e0 rfl rfl (AOp.panic rfl ?_)
 exact AFin.rPan (X := X) (fn := Tryz.f115) (F) rfl (by repeat first | exact X0 _ | apply X1 | apply X2 | exact X3 _) (by unfold shapeI bareC; first | rw [if_pos (by simp_all)] | rw [if_pos (by simp_all; omega)] | rw [if_pos (by omega)])
 try simp only [sz] at h46
 refine Z14 ?_
 refine Yp rfl rfl rfl rfl rfl rfl (AVal.nilCheckP rfl) ?_
 refine Z18 ?_
 refine Z18 ?_
 refine Z27 ?_
 refine Z69 ?_
 refine Z14 ?_
 refine Zs 53 (fun h53 => ?_) (fun h53 => ?_)
 try simp only [sz] at h53
 refine Z14 ?_
 refine Z69 ?_
 refine Z73 ?_
 refine Z13 ?_
 refine Yc (ACode.condT rfl (Ya ?_))
 refine Z51 ?_
 refine AOps.e0 rfl rfl (AOp.panic rfl ?_)
 exact AFin.rPan (X := X) (fn := Tryz.f115) (F) rfl (by repeat first | exact X0 _ | apply X1 | apply X2 | exact X3 _) (by unfold shapeI bareC; first | rw [if_pos (by simp_all)] | rw [if_pos (by simp_all; omega)] | rw [if_pos (by omega)])
 try simp only [sz] at h53
 refine Z4 ?_
 refine Z4 ?_
 refine Z74 ?_
 refine Z13 ?_
 refine Yc (ACode.condF rfl (Ye ?_))
 refine AFin.rEnd (()) (F) rfl .nil (by repeat first | exact X0 _ | apply X1 | apply X2) ?_ (by unfold shapeI bareC; first | rw [if_neg (by simp_all)] | rw [if_neg (by simp_all; omega)] | rw [if_neg (by omega)])
 exact .refl _
 try simp only [sz] at h17
 refine Z4 ?_
 refine Z4 ?_
 refine Z4 ?_
 refine Z13 ?_
 refine Z1 ?_
 refine Z4 ?_
 refine Z4 ?_
 refine Z4 ?_
 refine Z4 ?_
 refine Z4 ?_
 refine Z4 ?_
 refine Z4 ?_
 refine Z4 ?_
 refine Z13 ?_
 refine Z2 ?_
 refine Yc (Yb (Ya ?_))
 refine Z1 ?_
 refine Z44 ?_
 refine Z6 ?_
 refine Z6 ?_
 refine Z16 ?_
 refine Z26 ?_
 refine Z1 ?_
 refine Zs 38 (fun h38 => ?_) (fun h38 => ?_)
 try simp only [sz] at h38
 refine Z4 ?_
 refine Z4 ?_
 refine Z4 ?_
 refine Z4 ?_
 refine Z4 ?_
 refine Z4 ?_
 refine Z15 ?_
 refine Z1 ?_
 refine Z4 ?_
 refine Z4 ?_
 refine Z4 ?_
 refine Z4 ?_
 refine Z4 ?_
 refine Z4 ?_
 refine Z4 ?_
 refine AOps.vU rfl rfl rfl rfl rfl ?_
 refine AOps.vU rfl rfl rfl rfl rfl ?_
 refine Z4 ?_
 refine Z15 ?_
 refine Yc (ACode.condT rfl (Ya ?_))
 refine Z51 ?_
 refine AOps.e0 rfl rfl (AOp.panic rfl ?_)
 exact AFin.rPan (X := X) (fn := Tryz.f115) (F) rfl (by repeat first | exact X0 _ | apply X1 | apply X2 | exact X3 _) (by unfold shapeI bareC; first | rw [if_pos (by simp_all)] | rw [if_pos (by simp_all; omega)] | rw [if_pos (by omega)])
 try simp only [sz] at h38
 refine Z14 ?_
 refine Yp rfl rfl rfl rfl rfl rfl (AVal.nilCheckP rfl) ?_
 refine Z18 ?_
 refine Z18 ?_
 refine Z27 ?_
 refine Z59 ?_
 refine Z13 ?_
 refine Z1 ?_
 refine Zs 46 (fun h46 => ?_) (fun h46 => ?_)
 try simp only [sz] at h46
 refine Z4 ?_
 refine Z4 ?_
 refine Z4 ?_
 refine Z4 ?_
 refine Z4 ?_
 refine Z4 ?_
 refine Z4 ?_
 refine AOps.vU rfl rfl rfl rfl rfl ?_
 refine AOps.vU rfl rfl rfl rfl rfl ?_
 refine Z4 ?_
 refine Z15 ?_
 refine Yc (ACode.condT rfl (Ya ?_))
 refine Z51 ?_
 refine AOps.e0 rfl rfl (AOp.panic rfl ?_)
 exact AFin.rPan (X := X) (fn := Tryz.f115) (F) rfl (by repeat first | exact X0 _ | apply X1 | apply X2 | exact X3 _) (by unfold shapeI bareC; first | rw [if_pos (by simp_all)] | rw [if_pos (by simp_all; omega)] | rw [if_pos (by omega)])
 try simp only [sz] at h46
 refine Z14 ?_
 refine Yp rfl rfl rfl rfl rfl rfl (AVal.nilCheckP rfl) ?_
 refine Z18 ?_
 refine Z18 ?_
 refine Z27 ?_
 refine Z69 ?_
 refine Z14 ?_
 refine Zs 53 (fun h53 => ?_) (fun h53 => ?_)
 try simp only [sz] at h53
 refine Z14 ?_
 refine Z69 ?_
 refine Z73 ?_
 refine Z13 ?_
 refine Yc (ACode.condT rfl (Ya ?_))
 refine Z51 ?_
 refine AOps.e0 rfl rfl (AOp.panic rfl ?_)
 exact AFin.rPan (X := X) (fn := Tryz.f115) (F) rfl (by repeat first | exact X0 _ | apply X1 | apply X2 | exact X3 _) (by unfold shapeI bareC; first | rw [if_pos (by simp_all)] | rw [if_pos (by simp_all; omega)] | rw [if_pos (by omega)])
 try simp only [sz] at h53
 refine Z4 ?_
 refine Z4 ?_
 refine Z74 ?_
 refine Z13 ?_
 refine Yc (ACode.condF rfl (Ye ?_))
 refine AFin.rEnd (()) (F) rfl .nil (by repeat first | exact X0 _ | apply X1 | apply X2) ?_ (by unfold shapeI bareC; first | rw [if_neg (by simp_all)] | rw [if_neg (by simp_all; omega)] | rw [if_neg (by omega)])
 exact .refl _
 try simp only [sz] at h12
 refine Z4 ?_
 refine Z4 ?_
 refine Z4 ?_
 refine Z13 ?_
 refine Z1 ?_
 refine Z4 ?_
 refine Z4 ?_
 refine Z4 ?_
 refine Z13 ?_
 refine Z1 ?_
 refine Z4 ?_
 refine Z4 ?_
 refine Z4 ?_
 refine Z4 ?_
 refine Z4 ?_
 refine Z4 ?_
 refine Z4 ?_
 refine Z4 ?_
 refine Z13 ?_
 refine Z2 ?_
 refine Yc (Yb (Ya ?_))
 refine Z1 ?_
 refine Z44 ?_
 refine Z6 ?_
 refine Z6 ?_
 refine Z16 ?_
 refine Z26 ?_
 refine Z1 ?_
 refine Zs 38 (fun h38 => ?_) (fun h38 => ?_)
 try simp only [sz] at h38
 refine Z4 ?_
 refine Z4 ?_
 refine Z4 ?_
 refine Z4 ?_
 refine Z4 ?_
 refine Z4 ?_
 refine Z15 ?_
 refine Z1 ?_
 refine Z4 ?_
 refine Z4 ?_
 refine Z4 ?_
 refine Z4 ?_
 refine Z4 ?_
 refine Z4 ?_
 refine Z4 ?_
 refine AOps.vU rfl rfl rfl rfl rfl ?_
 refine AOps.vU rfl rfl rfl rfl rfl ?_
 refine Z4 ?_
 refine Z15 ?_
 refine Yc (ACode.condT rfl (Ya ?_))
 refine Z51 ?_
 refine AOps.e0 rfl rfl (AOp.panic rfl ?_)
 exact AFin.rPan (X := X) (fn := Tryz.f115) (F) rfl (by repeat first | exact X0 _ | apply X1 | apply X2 | exact X3 _) (by unfold shapeI bareC; first | rw [if_pos (by simp_all)] | rw [if_pos (by simp_all; omega)] | rw [if_pos (by omega)])
 try simp only [sz] at h38
 refine Z14 ?_
 refine Yp rfl rfl rfl rfl rfl rfl (AVal.nilCheckP rfl) ?_
 refine Z18 ?_
 refine Z18 ?_
 refine Z27 ?_
 refine Z59 ?_
 refine Z13 ?_
 refine Z1 ?_
 refine Zs 46 (fun h46 => ?_) (fun h46 => ?_)
 try simp only [sz] at h46
 refine Z4 ?_
 refine Z4 ?_
 refine Z4 ?_
 refine Z4 ?_
 refine Z4 ?_
 refine Z4 ?_
 refine Z4 ?_
 refine AOps.vU rfl rfl rfl rfl rfl ?_
 refine AOps.vU rfl rfl rfl rfl rfl ?_
 refine Z4 ?_
 refine Z15 ?_
 refine Yc (ACode.condT rfl (Ya ?_))
 refine Z51 ?_
 refine AOps.e0 rfl rfl (AOp.panic rfl ?_)
 exact AFin.rPan (X := X) (fn := Tryz.f115) (F) rfl (by repeat first | exact X0 _ | apply X1 | apply X2 | exact X3 _) (by unfold shapeI bareC; first | rw [if_pos (by simp_all)] | rw [if_pos (by simp_all; omega)] | rw [if_pos (by omega)])
 try simp only [sz] at h46
 refine Z14 ?_
 refine Yp rfl rfl rfl rfl rfl rfl (AVal.nilCheckP rfl) ?_
 refine Z18 ?_
 refine Z18 ?_
 refine Z27 ?_
 refine Z69 ?_
 refine Z14 ?_
 refine Zs 53 (fun h53 => ?_) (fun h53 => ?_)
 try simp only [sz] at h53
 refine Z14 ?_
 refine Z69 ?_
 refine Z73 ?_
 refine Z13 ?_
 refine Yc (ACode.condT rfl (Ya ?_))
 refine Z51 ?_
 refine AOps.e0 rfl rfl (AOp.panic rfl ?_)
 exact AFin.rPan (X := X) (fn := Tryz.f115) (F) rfl (by repeat first | exact X0 _ | apply X1 | apply X2 | exact X3 _) (by unfold shapeI bareC; first | rw [if_pos (by simp_all)] | rw [if_pos (by simp_all; omega)] | rw [if_pos (by omega)])
 try simp only [sz] at h53
 refine Z4 ?_
 refine Z4 ?_
 refine Z74 ?_
 refine Z13 ?_
 refine Yc (ACode.condF rfl (Ye ?_))
 refine AFin.rEnd (()) (F) rfl .nil (by repeat first | exact X0 _ | apply X1 | apply X2) ?_ (by unfold shapeI bareC; first | rw [if_neg (by simp_all)] | rw [if_neg (by simp_all; omega)] | rw [if_neg (by omega)])
 exact .refl _
theorem atyp_c (b : Nat) (l : List Core) (c : Core) (F : Int) (hS : SortedOk) (hl : CoresS l) (hll : l.length ≤ 1099511627775) (hc : CoreS c) (h0 : 0 ≤ F) (hF : F ≤ 1000000) : ARs X 116 [.ptr b 0] 30 (fun F => [(b, .cells 105 [.int .i64 F, .slC l, .int .i64 c.levels, .int .i64 c.typ.kind, .int .i64 c.typ.num, .int .i64 c.typ.at_, .slL c.typ.levels, .slT c.typ.kids, .bool c.has, .int .i64 c.body.kind, .int .i64 c.body.num, .int .i64 c.body.at_, .slL c.body.levels, .slT c.body.kids])]) F (fun _ => D.tup []) (typI l c F) := by
 refine Zf Tryz.func116 ?_
 refine Yb ?_
 refine Yj [.p 0, .p 1, .p 2, .l 3, .p 4, .p 5, .p 6, .p 7, .l 8, .p 9, .p 10, .p 11, .p 12, .l 13, .p 14, .p 15, .p 16, .p 17, .l 18, .p 19, .p 20, .p 21, .p 22, .p 23, .a 24, .e 25 [], .p 26, .p 27] mixed (by kernel_rfl) ?_
 refine Z5 ?_
 refine Z38 ?_
 refine Z8 ?_
 refine Z50 ?_
 refine Z5 ?_
 refine Z38 ?_
 refine Z8 ?_
 refine Z8 ?_
 refine Z50 ?_
 refine Z5 ?_
 refine Z38 ?_
 refine Z8 ?_
 refine Z8 ?_
 refine Z31 ?_
 refine Z5 ?_
 refine Z38 ?_
 refine Z8 ?_
 refine Z8 ?_
 refine Z50 ?_
 refine ASeq.pe rfl rfl rfl rfl (fun L0 => (Yk (sortTop_c hS l c.levels [] c.typ F hll (by simp) (fun u hu => by cases hu) hc.1 (by have := hc.2.1; omega) (fun _ => hl.small hc hF (fun u hu => by simp at hu; exact .inl hu))) (LeL.cons (.refl _) (LeL.cons (.refl _) (LeL.cons (.emp _ rfl) (LeL.cons (.refl _) (LeL.cons (.refl _) .nil))))) ⟨rfl, rfl⟩)) ?_
 refine Z5 ?_
 refine Z29 ?_
 refine Z29 ?_
 refine Z29 ?_
 refine Za (fun b2 => ?_)
 refine Z25 ?_
 refine Z17 ?_
 refine Z17 ?_
 refine ASeq.nil (Ya ?_)
 refine Z1 ?_
 refine Z44 ?_
 refine Z6 ?_
 refine Z1 ?_
 refine Z1 ?_
 refine AOps.e rfl rfl rfl (AOp.callR [_] (cespend_c b l c F (sortM l c.levels [] c.typ F).2.1 (sortM l c.levels [] c.typ F).2.2) (Yn rfl) rfl (fun v G he => ?_) (fun er Ge he => ?_))
 refine Yc ?_
 refine AFin.rEnd (()) (G) rfl .nil (by repeat first | exact X0 _ | apply X1 | apply X2) ?_ ((if_pos (spend_ok he).1).trans (by rw [(spend_ok he).2]))
 exact .refl _
 exact AFin.rPan (X := X) (fn := Tryz.f116) (Ge) rfl (by repeat first | exact X0 _ | apply X1 | apply X2 | exact X3 _) ((if_neg (spend_er he).1).trans (by rw [(spend_er he).2]))
theorem abody_c (b : Nat) (l : List Core) (c : Core) (F : Int) (hS : SortedOk) (hl : CoresS l) (hll : l.length ≤ 1099511627775) (hc : CoreS c) (h0 : 0 ≤ F) (hF : F ≤ 1000000) : ARs X 117 [.ptr b 0] 30 (fun F => [(b, .cells 105 [.int .i64 F, .slC l, .int .i64 c.levels, .int .i64 c.typ.kind, .int .i64 c.typ.num, .int .i64 c.typ.at_, .slL c.typ.levels, .slT c.typ.kids, .bool c.has, .int .i64 c.body.kind, .int .i64 c.body.num, .int .i64 c.body.at_, .slL c.body.levels, .slT c.body.kids])]) F (fun _ => D.tup []) (bodyI l c F) := by
 refine Zf Tryz.func117 ?_
 refine Yb (Ya ?_)
 refine Z1 ?_
 refine Z44 ?_
 refine Z6 ?_
 refine Z6 ?_
 refine Z11 ?_
 refine Yc ?_
 refine Zc (fun h8 => ?_) (fun h8 => ?_)
 refine Yb ?_
 refine Yj [.p 0, .p 1, .p 2, .l 3, .p 4, .p 5, .p 6, .p 7, .l 8, .p 9, .p 10, .p 11, .p 12, .l 13, .p 14, .p 15, .p 16, .p 17, .l 18, .p 19, .p 20, .p 21, .p 22, .l 23, .p 24, .p 25, .p 26, .p 27, .p 28, .p 29] mixed (by kernel_rfl) ?_
 refine Z5 ?_
 refine Z38 ?_
 refine Z8 ?_
 refine Z50 ?_
 refine Z5 ?_
 refine Z38 ?_
 refine Z8 ?_
 refine Z8 ?_
 refine Z50 ?_
 refine Z5 ?_
 refine Z38 ?_
 refine Z8 ?_
 refine Z8 ?_
 refine Z31 ?_
 refine Z5 ?_
 refine Z38 ?_
 refine Z8 ?_
 refine Z8 ?_
 refine Z31 ?_
 refine Z5 ?_
 refine Z38 ?_
 refine Z8 ?_
 refine Z8 ?_
 refine Z50 ?_
 refine ASeq.pe rfl rfl rfl rfl (fun L0 => (Yk (checkTop_c hS l c.levels [] c.body c.typ F hll (by simp) (fun u hu => by cases hu) hc.2.2.1 (by have := hc.2.2.2; omega) hc.1 (by have := hc.2.1; omega) (fun _ => hl.small hc hF (fun u hu => by simp at hu; rcases hu with h | h; exact .inr h; exact .inl h))) (LeL.cons (.refl _) (LeL.cons (.refl _) (LeL.cons (.emp _ rfl) (LeL.cons (.refl _) (LeL.cons (.refl _) (LeL.cons (.refl _) .nil)))))) ⟨rfl, rfl⟩)) ?_
 refine Z5 ?_
 refine Z29 ?_
 refine Z29 ?_
 refine Z17 ?_
 refine Z17 ?_
 refine ASeq.nil (Ya ?_)
 refine Z1 ?_
 refine Z44 ?_
 refine Z6 ?_
 refine Z1 ?_
 refine Z1 ?_
 refine AOps.e rfl rfl rfl (AOp.callR [] (cespend_c b l c F (checkM l c.levels [] c.body c.typ F).2.1 (checkM l c.levels [] c.body c.typ F).2.2) (Yn rfl) rfl (fun v G he => ?_) (fun er Ge he => ?_))
 refine Yc ?_
 refine AFin.rEnd (()) (G) rfl .nil (by repeat first | exact X0 _ | apply X1 | apply X2) ?_ ((if_pos h8).trans ((if_pos (spend_ok he).1).trans (by rw [(spend_ok he).2])))
 exact .refl _
 exact AFin.rPan (X := X) (fn := Tryz.f117) (Ge) rfl (by repeat first | exact X0 _ | apply X1 | apply X2 | exact X3 _) ((if_pos h8).trans ((if_neg (spend_er he).1).trans (by rw [(spend_er he).2])))
 refine Ye ?_
 refine AFin.rEnd (()) (F) rfl .nil (by repeat first | exact X0 _ | apply X1 | apply X2) ?_ (if_neg (by simpa using h8))
 exact .refl _
end Sp

/- The walks of cenv: Add and All. Written by a program of mine. -/
set_option linter.unusedVariables false
set_option linter.unusedSimpArgs false
set_option maxRecDepth 20000
namespace Sp
open Go Go.Proofs
theorem asked1_ret (b7 : Nat) (d : D) (R : Loc) : ADef X 114 [.ptr b7 0] ((b7, .cells 30 [d]) :: R) none ((b7, .cells 30 [d]) :: R) := by
 refine ADef.of_code Tryz.func114 rfl (by rfl) (Nat.le_of_ble_eq_true rfl) rfl rfl rfl ?_
 refine Yb (Ya ?_)
 refine Z1 ?_
 refine Z90 ?_
 refine Yc (ACode.condF rfl (Ye ?_))
 exact ⟨.inl rfl, rfl, (by repeat first | exact X0 _ | apply X1 | apply X2 | exact X3 _)⟩
theorem asked1_pan (b7 : Nat) (d : D) (e : Int) (R : Loc) : ADef X 114 [.ptr b7 0] ((b7, .cells 30 [d]) :: R) (some (.iface 30 (.int .i64 e))) ((b7, .cells 30 [.int .i64 e]) :: R) := by
 refine ADef.of_code Tryz.func114 rfl (by rfl) (Nat.le_of_ble_eq_true rfl) rfl rfl rfl ?_
 refine Yb (Ya ?_)
 refine Z1 ?_
 refine Z91 ?_
 refine Yc (ACode.condT rfl (Yb (Ya ?_)))
 refine Z2 ?_
 refine Yc (Yb (Ya ?_))
 refine Z1 ?_
 refine AOps.v rfl rfl rfl (AVal.assertOk rfl Tryz.underlying30 rfl) ?_
 refine Z1 ?_
 refine Z12 ?_
 refine Z12 ?_
 refine Z3 ?_
 refine Z2 ?_
 refine Yc (Yb (Ya ?_))
 refine Z1 ?_
 refine Z65 ?_
 refine Yc (ACode.condF rfl (Ye ?_))
 exact ⟨.inl rfl, rfl, (by repeat first | exact X0 _ | apply X1 | apply X2 | exact X3 _)⟩
def AskedR (b : Nat) (M : Int × Int × Int) (r : AEnd) (L' : Loc) : Prop := ∃ (G : Int) (d : D) (c : Nat → D), r = .ret (.tup [.int .i64 M.1, .int .i64 M.2.1]) ∧ L' = [(b, .cells 105 (ADX G d c))] ∧ (M.2.1 = 0 → G = M.2.2)
theorem asked_c (hS : SortedOk) (b : Nat) (l : List Core) (ahead : Nat) (F : Int) (d : D) (cc : Nat → D) (hl : CoresS l) (hll : l.length ≤ 1099511627775) (ha : ahead ≤ l.length) (hF : 0 ≤ F → F ≤ 1073741824 → F ≤ 1000000) : ACalls X 64 [.ptr b 0, .int .i64 ahead, .slC l] [(b, .cells 105 [.int .i64 (F), d, (cc) 0, (cc) 1, (cc) 2, (cc) 3, (cc) 4, (cc) 5, (cc) 6, (cc) 7, (cc) 8, (cc) 9, (cc) 10, (cc) 11])] (AskedR b (askedM l ahead F)) := by
 refine ACalls.of_codeD Tryz.func64 rfl (by rfl) (Nat.le_of_ble_eq_true rfl) ?_
 refine Yb (Ya ?_)
 refine Z2 ?_
 refine Z7 (fun b7 => ?_)
 refine Yc (Yb (Ya ?_))
 refine Z54 ?_
 refine AOps.deferP (ps := [b7]) rfl ?_
 refine Yc (Yb (Yb (Ya ?_)))
 refine Z1 ?_
 refine Z44 ?_
 refine Z6 ?_
 refine Z6 ?_
 refine Z16 ?_
 refine Z26 ?_
 refine Z1 ?_
 refine Zs 17 (fun h17 => ?_) (fun h17 => ?_)
 try simp only [sz] at h17
 refine Z4 ?_
 refine Z4 ?_
 refine Z4 ?_
 refine Z4 ?_
 refine Z4 ?_
 refine Z4 ?_
 refine Z15 ?_
 refine Yc (ACode.condT rfl (Yb (Ya ?_)))
 refine Z2 ?_
 refine Z3 ?_
 refine Yc (Yd ?_)
 have hM : askedM l ahead F = (0, 2, F) := if_pos (by unfold BigI; omega)
 refine AFinD.retD (X := X) (fn := Tryz.f64) (R := (AskedR b (askedM l ahead F))) (g := 114) (ps := [b7]) (L' := [(b, .cells 105 [.int .i64 (F), d, (cc) 0, (cc) 1, (cc) 2, (cc) 3, (cc) 4, (cc) 5, (cc) 6, (cc) 7, (cc) 8, (cc) 9, (cc) 10, (cc) 11])]) (ADef.drop (by repeat first | exact X0 _ | apply X2) (asked1_ret b7 _ _)) (.cons rfl (.cons (Yi 0 rfl rfl rfl rfl) .nil)) (by repeat first | exact X0 _ | apply X2) (.refl _) ⟨F, d, cc, by rw [hM]; rfl, rfl, fun h => by rw [hM] at h; exact absurd (show (2 : Int) = 0 from h) (by decide)⟩
 try simp only [sz] at h17
 refine Z14 ?_
 refine Yp rfl rfl rfl rfl rfl rfl (AVal.nilCheckP rfl) ?_
 refine Z18 ?_
 refine Z18 ?_
 refine Z27 ?_
 refine Z59 ?_
 refine Z13 ?_
 refine Yc ?_
 refine Zc (fun h24 => ?_) (fun h24 => ?_)
 try simp only [sz] at h24
 refine Yb (Ya ?_)
 refine Z2 ?_
 refine Z3 ?_
 refine Yc (Yd ?_)
 have hM : askedM l ahead F = (0, 2, F) := if_pos (by unfold BigI; omega)
 refine AFinD.retD (X := X) (fn := Tryz.f64) (R := (AskedR b (askedM l ahead F))) (g := 114) (ps := [b7]) (L' := [(b, .cells 105 [.int .i64 (F), d, (cc) 0, (cc) 1, (cc) 2, (cc) 3, (cc) 4, (cc) 5, (cc) 6, (cc) 7, (cc) 8, (cc) 9, (cc) 10, (cc) 11])]) (ADef.drop (by repeat first | exact X0 _ | apply X2) (asked1_ret b7 _ _)) (.cons rfl (.cons (Yi 0 rfl rfl rfl rfl) .nil)) (by repeat first | exact X0 _ | apply X2) (.refl _) ⟨F, d, cc, by rw [hM]; rfl, rfl, fun h => by rw [hM] at h; exact absurd (show (2 : Int) = 0 from h) (by decide)⟩
 try simp only [sz] at h24
 refine Ye (Yb (Yb (Ya ?_)))
 refine Z1 ?_
 refine Z2 ?_
 refine Yc (Yf ?_)
 have hb : ¬ BigI F := by unfold BigI; omega
 have hF2 : F ≤ 1000000 := hF (by omega) (by omega)
 refine Yu (γ := Nat × Int × D × (Nat → D)) (fun g => [(0, .ptr b 0), (1, .int .i64 ahead), (2, .slC l), (7, .ptr b7 0), (6, .int .i64 g.1)]) (fun g => [(b7, .cells 30 [.int .i64 0]), (b, .cells 105 [.int .i64 (g.2.1), g.2.2.1, (g.2.2.2) 0, (g.2.2.2) 1, (g.2.2.2) 2, (g.2.2.2) 3, (g.2.2.2) 4, (g.2.2.2) 5, (g.2.2.2) 6, (g.2.2.2) 7, (g.2.2.2) 8, (g.2.2.2) 9, (g.2.2.2) 10, (g.2.2.2) 11])]) (fun g => g.1 ≤ l.length ∧ 0 ≤ g.2.1 ∧ g.2.1 ≤ F ∧ asks (l.take ahead) (l.drop ahead) F = asks (l.take g.1) (l.drop g.1) g.2.1) (fun g => l.length - g.1) (ahead, F, d, cc) ⟨ha, by simp only; omega, Int.le_refl _, rfl⟩ (by repeat first | exact Ym | refine Yl (.refl _) ?_) (by repeat first | exact X0 _ | apply X1 | apply X2 | exact X3 _) ?_
 rintro ⟨i, G, dd, cf⟩ ⟨hi, hG0, hG1, hinv⟩ t1
 simp only at hi hG0 hG1 hinv ⊢
 refine Yb (Yb (Ya ?_))
 refine Z1 ?_
 refine Z1 ?_
 refine Z24 ?_
 refine Z26 ?_
 refine Yc ?_
 refine Zc (fun h29 => ?_) (fun h29 => ?_)
 try simp only [sz] at h29
 have hlt : i < l.length := by omega
 have hcs : CoreS (l.getD i default) := hl _ (getD_mem hlt)
 have hpre : CoresS (l.take i) := fun c hc => hl c (List.mem_of_mem_take hc)
 have hpl : ((l.take i)).length ≤ 1099511627775 := by rw [List.length_take]; omega
 refine Ye (Yb (Yf (Yb ?_)))
 refine Yj [.p 0, .p 1, .p 2, .p 3, .p 4, .p 5, .p 6, .p 7, .p 8, .p 9, .p 10, .e 11 [], .p 12, .p 13, .e 14 []] mixed (by kernel_rfl) ?_
 refine Z5 ?_
 refine Z5 ?_
 refine Z5 ?_
 refine Z5 ?_
 refine Yt rfl rfl rfl rfl (fun L0 => (AVal.sliceH (d' := .slC (l.take i)) rfl rfl rfl rfl rfl (by omega) (by (rw [List.length_map]; omega)) rfl coresE)) ?_
 refine Z5 ?_
 refine Z5 ?_
 refine Z72 ?_
 refine Yt rfl rfl rfl rfl (fun L0 => (AVal.loadE (d := encC _) rfl rfl rfl)) ?_
 refine Z38 ?_
 refine Z8 ?_
 refine Z42 ?_
 refine Z38 ?_
 refine Z8 ?_
 refine Z42 ?_
 refine ASeq.nil (Yb (Ya ?_))
 refine Z1 ?_
 refine Z54 ?_
 refine Z1 ?_
 refine Z54 ?_
 refine Z1 ?_
 refine Z54 ?_
 refine AOps.e rfl rfl rfl (AOp.buildSlice (es := [.func (.func 115) [.ptr b 0] [], .func (.func 116) [.ptr b 0] [], .func (.func 117) [.ptr b 0] []]) rfl rfl rfl rfl rfl ?_)
 refine Z24 ?_
 refine Z1 ?_
 refine Yc (Yf ?_)
 refine Yu (γ := Nat × Int) (fun g => [(0, .ptr b 0), (1, .int .i64 ahead), (2, .slC l), (7, .ptr b7 0), (6, .int .i64 i), (51, .slc [.func (.func 115) [.ptr b 0] [], .func (.func 116) [.ptr b 0] [], .func (.func 117) [.ptr b 0] []]), (52, .int .i64 3), (53, .int .i64 g.1)]) (fun g => [(b7, .cells 30 [.int .i64 0]), (b, .cells 105 [.int .i64 (g.2), .slC (l.take i), .int .i64 (l.getD i default).levels, .int .i64 (l.getD i default).typ.kind, .int .i64 (l.getD i default).typ.num, .int .i64 (l.getD i default).typ.at_, .slL (l.getD i default).typ.levels, .slT (l.getD i default).typ.kids, .bool (l.getD i default).has, .int .i64 (l.getD i default).body.kind, .int .i64 (l.getD i default).body.num, .int .i64 (l.getD i default).body.at_, .slL (l.getD i default).body.levels, .slT (l.getD i default).body.kids])]) (fun g => g.1 ≤ 3 ∧ 0 ≤ g.2 ∧ g.2 ≤ G ∧ addI (l.take i) (l.getD i default) G = restI (l.take i) (l.getD i default) g.1 g.2) (fun g => 3 - g.1) (0, G) ⟨Nat.zero_le _, hG0, Int.le_refl _, rfl⟩ (by repeat first | exact Ym | refine Yl (.refl _) ?_) (by repeat first | exact X0 _ | apply X1 | apply X2 | exact X3 _) ?_
 rintro ⟨g, H⟩ ⟨hg3, hH0, hH1, hr⟩ t2
 simp only at hg3 hH0 hH1 hr ⊢
 rcases g with _ | _ | _ | g
 
 refine Yb (Ya ?_)
 refine Z26 ?_
 refine Yc (Yb ?_)
 refine Zc (fun h54 => ?_) (fun h54 => ?_)
 try simp only [sz] at h54
 skip
 refine Ye (Yb (Yf (Yb (Ya ?_))))
 refine AOps.v rfl rfl rfl (AVal.indexD (e := .func (.func 115) [.ptr b 0] []) rfl rfl rfl rfl rfl (by omega) rfl (fun e he => by simp at he; rcases he with rfl | rfl | rfl <;> rfl)) ?_
 refine Z56 ?_
 refine Z2 ?_
 refine Yc (Ya ?_)
 refine Z1 ?_
 refine AOps.e rfl rfl rfl (AOp.callVR [_] rfl (ashape_c b (l.take i) (l.getD i default) H hcs) (Yn rfl) rfl (fun x H2 he2 => ?_) (fun er Ge he2 => ?_))
 refine Yc (Ya ?_)
 refine Z19 ?_
 refine Z1 ?_
 refine Yc ?_
 have hx2 := shapeI_ok he2
 refine ⟨(1, H2), ⟨by simp only; omega, by simp only; omega, by simp only; omega, hr.trans (Ys he2)⟩, by simp only; omega, rfl, (by repeat first | exact Ym | refine Yl (.refl _) ?_), (by repeat first | exact X0 _ | apply X1 | apply X2 | exact X3 _)⟩
 have hae : addI (l.take i) (l.getD i default) G = .er er := hr.trans (RS.bind_er he2)
 have hM : askedM l ahead F = ((i : Int), er, 0) := by
   unfold askedM
   rw [if_neg hb, hinv, asks_snoc l i hlt, hae]
 refine AFinD.panD (X := X) (fn := Tryz.f64) (R := (AskedR b (askedM l ahead F))) (g := 114) (ps := [b7]) (L' := [(b, .cells 105 [.int .i64 (Ge), .slC (l.take i), .int .i64 (l.getD i default).levels, .int .i64 (l.getD i default).typ.kind, .int .i64 (l.getD i default).typ.num, .int .i64 (l.getD i default).typ.at_, .slL (l.getD i default).typ.levels, .slT (l.getD i default).typ.kids, .bool (l.getD i default).has, .int .i64 (l.getD i default).body.kind, .int .i64 (l.getD i default).body.num, .int .i64 (l.getD i default).body.at_, .slL (l.getD i default).body.levels, .slT (l.getD i default).body.kids])]) (ADef.drop (by repeat first | exact X0 _ | apply X2) (asked1_pan b7 _ er _)) (.cons rfl (.cons (Yi 0 rfl rfl rfl rfl) .nil)) (by repeat first | exact X0 _ | apply X2) (.refl _) ⟨Ge, .slC (l.take i), (fun k => (cellsC (l.getD i default)).getD k .any), by rw [hM]; rfl, rfl, fun h => by rw [hM] at h; exact absurd h (addI_er hae)⟩
 try simp only [sz] at h54
 exfalso; omega --END
 
 refine Yb (Ya ?_)
 refine Z26 ?_
 refine Yc (Yb ?_)
 refine Zc (fun h54 => ?_) (fun h54 => ?_)
 try simp only [sz] at h54
 skip
 refine Ye (Yb (Yf (Yb (Ya ?_))))
 refine AOps.v rfl rfl rfl (AVal.indexD (e := .func (.func 116) [.ptr b 0] []) rfl rfl rfl rfl rfl (by omega) rfl (fun e he => by simp at he; rcases he with rfl | rfl | rfl <;> rfl)) ?_
 refine Z56 ?_
 refine Z2 ?_
 refine Yc (Ya ?_)
 refine Z1 ?_
 refine AOps.e rfl rfl rfl (AOp.callVR [_] rfl (atyp_c b (l.take i) (l.getD i default) H hS hpre hpl hcs hH0 (by omega)) (Yn rfl) rfl (fun x H2 he2 => ?_) (fun er Ge he2 => ?_))
 refine Yc (Ya ?_)
 refine Z19 ?_
 refine Z1 ?_
 refine Yc ?_
 have hx2 := typI_ok hpre hcs hH0 (by omega) he2
 refine ⟨(2, H2), ⟨by simp only; omega, by simp only; omega, by simp only; omega, hr.trans (Ys he2)⟩, by simp only; omega, rfl, (by repeat first | exact Ym | refine Yl (.refl _) ?_), (by repeat first | exact X0 _ | apply X1 | apply X2 | exact X3 _)⟩
 have hae : addI (l.take i) (l.getD i default) G = .er er := hr.trans (RS.bind_er he2)
 have hM : askedM l ahead F = ((i : Int), er, 0) := by
   unfold askedM
   rw [if_neg hb, hinv, asks_snoc l i hlt, hae]
 refine AFinD.panD (X := X) (fn := Tryz.f64) (R := (AskedR b (askedM l ahead F))) (g := 114) (ps := [b7]) (L' := [(b, .cells 105 [.int .i64 (Ge), .slC (l.take i), .int .i64 (l.getD i default).levels, .int .i64 (l.getD i default).typ.kind, .int .i64 (l.getD i default).typ.num, .int .i64 (l.getD i default).typ.at_, .slL (l.getD i default).typ.levels, .slT (l.getD i default).typ.kids, .bool (l.getD i default).has, .int .i64 (l.getD i default).body.kind, .int .i64 (l.getD i default).body.num, .int .i64 (l.getD i default).body.at_, .slL (l.getD i default).body.levels, .slT (l.getD i default).body.kids])]) (ADef.drop (by repeat first | exact X0 _ | apply X2) (asked1_pan b7 _ er _)) (.cons rfl (.cons (Yi 0 rfl rfl rfl rfl) .nil)) (by repeat first | exact X0 _ | apply X2) (.refl _) ⟨Ge, .slC (l.take i), (fun k => (cellsC (l.getD i default)).getD k .any), by rw [hM]; rfl, rfl, fun h => by rw [hM] at h; exact absurd h (addI_er hae)⟩
 try simp only [sz] at h54
 exfalso; omega --END
 
 refine Yb (Ya ?_)
 refine Z26 ?_
 refine Yc (Yb ?_)
 refine Zc (fun h54 => ?_) (fun h54 => ?_)
 try simp only [sz] at h54
 skip
 refine Ye (Yb (Yf (Yb (Ya ?_))))
 refine AOps.v rfl rfl rfl (AVal.indexD (e := .func (.func 117) [.ptr b 0] []) rfl rfl rfl rfl rfl (by omega) rfl (fun e he => by simp at he; rcases he with rfl | rfl | rfl <;> rfl)) ?_
 refine Z56 ?_
 refine Z2 ?_
 refine Yc (Ya ?_)
 refine Z1 ?_
 refine AOps.e rfl rfl rfl (AOp.callVR [_] rfl (abody_c b (l.take i) (l.getD i default) H hS hpre hpl hcs hH0 (by omega)) (Yn rfl) rfl (fun x H2 he2 => ?_) (fun er Ge he2 => ?_))
 refine Yc (Ya ?_)
 refine Z19 ?_
 refine Z1 ?_
 refine Yc ?_
 have hx2 := bodyI_ok hpre hcs hH0 (by omega) he2
 refine ⟨(3, H2), ⟨by simp only; omega, by simp only; omega, by simp only; omega, hr.trans he2⟩, by simp only; omega, rfl, (by repeat first | exact Ym | refine Yl (.refl _) ?_), (by repeat first | exact X0 _ | apply X1 | apply X2 | exact X3 _)⟩
 have hae : addI (l.take i) (l.getD i default) G = .er er := hr.trans he2
 have hM : askedM l ahead F = ((i : Int), er, 0) := by
   unfold askedM
   rw [if_neg hb, hinv, asks_snoc l i hlt, hae]
 refine AFinD.panD (X := X) (fn := Tryz.f64) (R := (AskedR b (askedM l ahead F))) (g := 114) (ps := [b7]) (L' := [(b, .cells 105 [.int .i64 (Ge), .slC (l.take i), .int .i64 (l.getD i default).levels, .int .i64 (l.getD i default).typ.kind, .int .i64 (l.getD i default).typ.num, .int .i64 (l.getD i default).typ.at_, .slL (l.getD i default).typ.levels, .slT (l.getD i default).typ.kids, .bool (l.getD i default).has, .int .i64 (l.getD i default).body.kind, .int .i64 (l.getD i default).body.num, .int .i64 (l.getD i default).body.at_, .slL (l.getD i default).body.levels, .slT (l.getD i default).body.kids])]) (ADef.drop (by repeat first | exact X0 _ | apply X2) (asked1_pan b7 _ er _)) (.cons rfl (.cons (Yi 0 rfl rfl rfl rfl) .nil)) (by repeat first | exact X0 _ | apply X2) (.refl _) ⟨Ge, .slC (l.take i), (fun k => (cellsC (l.getD i default)).getD k .any), by rw [hM]; rfl, rfl, fun h => by rw [hM] at h; exact absurd h (addI_er hae)⟩
 try simp only [sz] at h54
 exfalso; omega --END
 
 refine Yb (Ya ?_)
 refine Z26 ?_
 refine Yc (Yb ?_)
 refine Zc (fun h54 => ?_) (fun h54 => ?_)
 try simp only [sz] at h54
 exfalso; omega --END
 try simp only [sz] at h54
 skip
 refine Yg (Ya ?_)
 refine Z1 ?_
 refine Z19 ?_
 refine Z2 ?_
 refine Yc ?_
 refine ⟨(i + 1, H, .slC (l.take i), (fun k => (cellsC (l.getD i default)).getD k .any)), ⟨by simp only; omega, hH0, by simp only; omega, by simp only; rw [hinv, asks_snoc l i hlt, show addI (l.take i) (l.getD i default) G = .ok () H from hr]⟩, by simp only; omega, rfl, (by repeat first | exact Ym | refine Yl (.refl _) ?_), (by repeat first | exact X0 _ | apply X1 | apply X2 | exact X3 _)⟩
 try simp only [sz] at h29
 refine Yg (Yb (Ya ?_))
 refine Z1 ?_
 refine Z2 ?_
 refine Z3 ?_
 refine Yc (Yd ?_)
 have hM : askedM l ahead F = ((i : Int), 0, G) := by
   unfold askedM
   rw [if_neg hb, hinv, List.drop_of_length_le (by omega), asks, List.length_take]
   congr 1
   omega
 refine AFinD.retD (X := X) (fn := Tryz.f64) (R := (AskedR b (askedM l ahead F))) (g := 114) (ps := [b7]) (L' := [(b, .cells 105 [.int .i64 (G), dd, (cf) 0, (cf) 1, (cf) 2, (cf) 3, (cf) 4, (cf) 5, (cf) 6, (cf) 7, (cf) 8, (cf) 9, (cf) 10, (cf) 11])]) (ADef.drop (by repeat first | exact X0 _ | apply X2) (asked1_ret b7 _ _)) (.cons rfl (.cons (Yi 0 rfl rfl rfl rfl) .nil)) (by repeat first | exact X0 _ | apply X2) (.refl _) ⟨G, dd, cf, by rw [hM]; rfl, rfl, fun _ => by rw [hM]⟩
theorem cloneCB_c (l : List Core) (hl : l.length ≤ 10000000000) : ACalls X 65 [.slC l] [] (fun r L' => (l = [] ∧ r = .ret .emp ∧ L' = []) ∨ (l ≠ [] ∧ ∃ b cap, r = .ret (.own b cap (l.map encC)) ∧ L' = [(b, .buf 53 12 cap (l.map encC))])) := by
 refine Zf Tryz.func65 ?_
 refine Yb (Ya ?_)
 refine Z2 ?_
 refine Yc (Yb (Yb (Ya ?_)))
 refine Z1 ?_
 refine AOps.e rfl rfl rfl (AOp.eqNil rfl rfl rfl rfl (fun c hc => ?_))
 refine Yc ?_
 refine Zc (fun h4 => ?_) (fun h4 => ?_)
 refine Yb (Ya ?_)
 refine Z2 ?_
 refine Yc (Yd ?_)
 refine AFin.ret (X := X) (fn := Tryz.f65) (R := (fun r L' => (l = [] ∧ r = .ret .emp ∧ L' = []) ∨ (l ≠ [] ∧ ∃ b cap, r = .ret (.own b cap (l.map encC)) ∧ L' = [(b, .buf 53 12 cap (l.map encC))]))) (L' := []) rfl (.cons rfl .nil) (List.nil_sublist _) (.refl _) (.inl ⟨by simpa using hc h4, rfl, rfl⟩)
 refine Ye (Yb (Ya ?_))
 refine AOps.e rfl rfl rfl (AOp.buildEmpty rfl rfl ?_)
 refine Z1 ?_
 refine AOps.e rfl rfl rfl (AOp.cloneCB (cs := l) rfl rfl rfl rfl rfl rfl rfl hl (fun h0 => ?_) (fun h1 b7 k7 => ?_))
 refine Z2 ?_
 refine Yc (Yd ?_)
 refine AFin.ret (X := X) (fn := Tryz.f65) (R := (fun r L' => (l = [] ∧ r = .ret .emp ∧ L' = []) ∨ (l ≠ [] ∧ ∃ b cap, r = .ret (.own b cap (l.map encC)) ∧ L' = [(b, .buf 53 12 cap (l.map encC))]))) (L' := []) rfl (.cons rfl .nil) (List.nil_sublist _) (.refl _) (.inl ⟨h0, rfl, rfl⟩)
 refine Z2 ?_
 refine Yc (Yd ?_)
 refine AFin.ret (X := X) (fn := Tryz.f65) (R := (fun r L' => (l = [] ∧ r = .ret .emp ∧ L' = []) ∨ (l ≠ [] ∧ ∃ b cap, r = .ret (.own b cap (l.map encC)) ∧ L' = [(b, .buf 53 12 cap (l.map encC))]))) rfl (.cons rfl .nil) (List.Sublist.refl _) (.refl _) (.inr ⟨h1, b7, k7, rfl, rfl⟩)
theorem cloneCM_c (l : List Core) (hl : l.length ≤ 10000000000) : ACalls X 65 [.slC l] [] (fun r L' => (l = [] ∧ r = .ret .emp ∧ L' = []) ∨ (l ≠ [] ∧ ∃ b k, r = .ret (.sl b 0 l.length) ∧ L' = [(b, .cells 53 (flatC l k))])) := by
 refine Zf Tryz.func65 ?_
 refine Yb (Ya ?_)
 refine Z2 ?_
 refine Yc (Yb (Yb (Ya ?_)))
 refine Z1 ?_
 refine AOps.e rfl rfl rfl (AOp.eqNil rfl rfl rfl rfl (fun c hc => ?_))
 refine Yc ?_
 refine Zc (fun h4 => ?_) (fun h4 => ?_)
 refine Yb (Ya ?_)
 refine Z2 ?_
 refine Yc (Yd ?_)
 refine AFin.ret (X := X) (fn := Tryz.f65) (R := (fun r L' => (l = [] ∧ r = .ret .emp ∧ L' = []) ∨ (l ≠ [] ∧ ∃ b k, r = .ret (.sl b 0 l.length) ∧ L' = [(b, .cells 53 (flatC l k))]))) (L' := []) rfl (.cons rfl .nil) (List.nil_sublist _) (.refl _) (.inl ⟨by simpa using hc h4, rfl, rfl⟩)
 refine Ye (Yb (Ya ?_))
 refine AOps.e rfl rfl rfl (AOp.buildEmpty rfl rfl ?_)
 refine Z1 ?_
 refine AOps.e rfl rfl rfl (AOp.cloneCM (cs := l) rfl rfl rfl rfl rfl rfl rfl hl (fun h0 => ?_) (fun h1 b7 k7 => ?_))
 refine Z2 ?_
 refine Yc (Yd ?_)
 refine AFin.ret (X := X) (fn := Tryz.f65) (R := (fun r L' => (l = [] ∧ r = .ret .emp ∧ L' = []) ∨ (l ≠ [] ∧ ∃ b k, r = .ret (.sl b 0 l.length) ∧ L' = [(b, .cells 53 (flatC l k))]))) (L' := []) rfl (.cons rfl .nil) (List.nil_sublist _) (.refl _) (.inl ⟨h0, rfl, rfl⟩)
 refine Z2 ?_
 refine Yc (Yd ?_)
 refine AFin.ret (X := X) (fn := Tryz.f65) (R := (fun r L' => (l = [] ∧ r = .ret .emp ∧ L' = []) ∨ (l ≠ [] ∧ ∃ b k, r = .ret (.sl b 0 l.length) ∧ L' = [(b, .cells 53 (flatC l k))]))) rfl (.cons rfl .nil) (List.Sublist.refl _) (.refl _) (.inr ⟨h1, b7, k7, rfl, rfl⟩)
theorem callCloneCB {ρ : Operand → D} {L : Loc} {dst : Option Tmp} {ty : TypeId} {pos : String} {after : Array Edge} {guard : Option (Nat × Bool)} {K Kp : D → Loc → Prop} {x : Operand} {tys : Array TypeId} (l : List Core) (hl : l.length ≤ 10000000000) (hx : ρ x = .slC l)
    (h0 : l = [] → K .emp L) (h1 : l ≠ [] → ∀ b cap, K (.own b cap (l.map encC)) ((b, .buf 53 12 cap (l.map encC)) :: L)) : AOp X ⟨dst, .call ⟨.value (.func 65), #[x], tys⟩, ty, pos, after, guard⟩ ρ L K Kp :=
  AOp.call (L0 := []) (L1 := L) (cloneCB_c l hl) (Yn (by simp [hx])) (List.Perm.refl _) (fun d L' h => by
    rcases h with ⟨e, h, rfl⟩ | ⟨hn, b, k, h, rfl⟩
    · cases h; exact h0 e
    · cases h; exact h1 hn b k) (fun d L' h => by
    rcases h with ⟨e, h, rfl⟩ | ⟨hn, b, k, h, rfl⟩ <;> cases h)
theorem callCloneCM {ρ : Operand → D} {L : Loc} {dst : Option Tmp} {ty : TypeId} {pos : String} {after : Array Edge} {guard : Option (Nat × Bool)} {K Kp : D → Loc → Prop} {x : Operand} {tys : Array TypeId} (l : List Core) (hl : l.length ≤ 10000000000) (hx : ρ x = .slC l)
    (h0 : l = [] → K .emp L) (h1 : l ≠ [] → ∀ b k, K (.sl b 0 l.length) ((b, .cells 53 (flatC l k)) :: L)) : AOp X ⟨dst, .call ⟨.value (.func 65), #[x], tys⟩, ty, pos, after, guard⟩ ρ L K Kp :=
  AOp.call (L0 := []) (L1 := L) (cloneCM_c l hl) (Yn (by simp [hx])) (List.Perm.refl _) (fun d L' h => by
    rcases h with ⟨e, h, rfl⟩ | ⟨hn, b, k, h, rfl⟩
    · cases h; exact h0 e
    · cases h; exact h1 hn b k) (fun d L' h => by
    rcases h with ⟨e, h, rfl⟩ | ⟨hn, b, k, h, rfl⟩ <;> cases h)
theorem lift0_c (t : Term) (hf : t.fit 1099511627776) (hs : t.sz ≤ 4611686018427387904) : AFn X 17 [encT t, .int .i64 0, .int .i64 0] (encT t) := by
  have := lift_c t 0 0 hf hs
  rwa [lift_zero hf] at this
theorem copied_c (l : List Core) (hl : CoresS l) (hll : l.length ≤ 10000000000) : AFn X 66 [.slC l] (.slC l) := by
 refine Zf Tryz.func66 ?_
 refine Yb (Ya ?_)
 refine Z2 ?_
 refine Yc (Yb (Ya ?_))
 refine Z1 ?_
 refine AOps.e rfl rfl rfl (callCloneCM l hll rfl (fun hnil => ?_) (fun hne bq kq => ?_))
 refine Z2 ?_
 refine Yc (Yb (Yb (Ya ?_)))
 refine Z1 ?_
 refine Z24 ?_
 refine Z1 ?_
 refine Yc (Yf ?_)
 refine Yu (γ := Unit) (fun g => [(0, .emp), (7, .int .i64 0), (8, .int .i64 0)]) (fun g => []) (fun g => True) (fun g => 0) () trivial (by repeat first | exact Ym | refine Yl (.refl _) ?_) (by repeat first | exact X0 _ | apply X1 | apply X2 | exact X3 _) ?_
 rintro _ _ t1
 refine Yb (Ya ?_)
 refine Z26 ?_
 refine Yc (Yb ?_)
 refine Zc (fun h9 => ?_) (fun h9 => ?_)
 try simp only [sz] at h9
 exact absurd h9 (by simp) --END
 try simp only [sz] at h9
 refine Yg (Yb (Ya ?_))
 refine Z1 ?_
 refine Z2 ?_
 refine Yc (Yd ?_)
 refine Yh rfl (.cons rfl .nil) ?_
 exact .emp _ (by rw [hnil]; rfl)
 refine Z2 ?_
 refine Yc (Yb (Yb (Ya ?_)))
 refine Z1 ?_
 refine Z24 ?_
 refine Z1 ?_
 refine Yc (Yf ?_)
 refine Yu (γ := Nat) (fun g => [(0, .sl bq 0 l.length), (7, .int .i64 l.length), (8, .int .i64 g)]) (fun g => [(bq, .cells 53 (flatC l kq))]) (fun g => g ≤ l.length) (fun g => l.length - g) 0 (Nat.zero_le _) (by repeat first | exact Ym | refine Yl (.refl _) ?_) (by repeat first | exact X0 _ | apply X1 | apply X2 | exact X3 _) ?_
 intro i hi t1
 refine Yb (Ya ?_)
 refine Z26 ?_
 refine Yc (Yb ?_)
 refine Zc (fun h9 => ?_) (fun h9 => ?_)
 try simp only [sz] at h9
 have hlt : i < l.length := by omega
 refine Ye (Yb (Yf (Yb (Ya ?_))))
 refine Z1 ?_
 refine Z2 ?_
 refine Yc ?_
 refine Yj [.p 0, .p 1, .p 2, .p 3, .p 4, .p 5, .p 6, .p 7, .l 8, .p 9, .p 10, .p 11, .p 12, .p 13, .l 14, .p 15, .p 16, .p 17, .e 18 [], .p 19, .p 20, .e 21 []] mixed (by kernel_rfl) ?_
 refine Z5 ?_
 refine Z5 ?_
 refine Z5 ?_
 refine Z5 ?_
 refine Z5 ?_
 refine Z5 ?_
 refine Yt rfl rfl rfl rfl (fun L0 => (AVal.indexSN (p := 12 * i) rfl rfl rfl rfl (by omega) (by show 0 + (i : Int).toNat * 12 = 12 * i; omega))) ?_
 refine Z8 ?_
 refine ASeq.lv rfl rfl rfl rfl ((flatC_has 0 rfl hlt rfl rfl).1) ?_
 refine ASeq.pe rfl rfl rfl rfl (fun L0 => (Yk (lift0_c _ (hl _ (getD_mem hlt)).1 (by have := (hl _ (getD_mem hlt)).2.1; omega)) (Yn rfl) ⟨rfl, rfl⟩)) ?_
 refine Z5 ?_
 refine Z5 ?_
 refine Yt rfl rfl rfl rfl (fun L0 => (AVal.indexSN (p := 12 * i) rfl rfl rfl rfl (by omega) (by show 0 + (i : Int).toNat * 12 = 12 * i; omega))) ?_
 refine Z8 ?_
 refine ASeq.lv rfl rfl rfl rfl ((flatC_has 0 rfl hlt rfl rfl).2) ?_
 refine ASeq.pe rfl rfl rfl rfl (fun L0 => (Yk (lift0_c _ (hl _ (getD_mem hlt)).2.2.1 (by have := (hl _ (getD_mem hlt)).2.2.2; omega)) (Yn rfl) ⟨rfl, rfl⟩)) ?_
 refine Yt rfl rfl rfl rfl (fun L0 => (AVal.indexSN (p := 12 * i) rfl rfl rfl rfl (by omega) (by show 0 + (i : Int).toNat * 12 = 12 * i; omega))) ?_
 refine Z8 ?_
 refine ASeq.ee0 rfl rfl rfl rfl (AOp.storeSame 0 rfl rfl rfl (.refl _) rfl rfl (by rw [flatC_len]; simp only []; omega) (flatC_set hlt).1 ⟨Yo, ?_⟩)
 refine Yt rfl rfl rfl rfl (fun L0 => (AVal.indexSN (p := 12 * i) rfl rfl rfl rfl (by omega) (by show 0 + (i : Int).toNat * 12 = 12 * i; omega))) ?_
 refine Z8 ?_
 refine ASeq.ee0 rfl rfl rfl rfl (AOp.storeSame 0 rfl rfl rfl (.refl _) rfl rfl (by rw [flatC_len]; simp only []; omega) (flatC_set hlt).2 ⟨Yo, ?_⟩)
 refine ASeq.nil (Ya ?_)
 refine Z19 ?_
 refine Z1 ?_
 refine Yc ?_
 refine ⟨i + 1, by omega, by omega, rfl, (by repeat first | exact Ym | refine Yl (.refl _) ?_), (by repeat first | exact X0 _ | apply X1 | apply X2 | exact X3 _)⟩
 try simp only [sz] at h9
 refine Yg (Yb (Ya ?_))
 refine Z1 ?_
 refine Z2 ?_
 refine Yc (Yd ?_)
 refine AFin.conv rfl (.cons rfl .nil) ?_
 exact Conv.cores 0 rfl rfl
abbrev zeroA (F : Int) : List D := [.int .i64 F, .emp, .int .i64 0, .int .i64 0, .int .i64 0, .int .i64 0, .emp, .emp, .bool false, .int .i64 0, .int .i64 0, .int .i64 0, .emp, .emp]
theorem callAsked {ρ : Operand → D} {L : Loc} {dst : Option Tmp} {ty : TypeId} {pos : String} {after : Array Edge} {guard : Option (Nat × Bool)} {K Kp : D → Loc → Prop} {xs : Array Operand} {tys : Array TypeId} {b : Nat} {F : Int} (L1 L2 : Loc) (hS : SortedOk) (l : List Core) (ahead : Nat) (hl : CoresS l) (hll : l.length ≤ 1099511627775) (ha : ahead ≤ l.length) (hF : 0 ≤ F → F ≤ 1073741824 → F ≤ 1000000)
    (hx : LeL (xs.toList.map ρ) [.ptr b 0, .int .i64 ahead, .slC l]) (hp : L = L1 ++ (b, .cells 105 (zeroA F)) :: L2)
    (h : ∀ G d c, ((askedM l ahead F).2.1 = 0 → G = (askedM l ahead F).2.2) → K (.tup [.int .i64 (askedM l ahead F).1, .int .i64 (askedM l ahead F).2.1]) (L1 ++ (b, .cells 105 (ADX G d c)) :: L2)) : AOp X ⟨dst, .call ⟨.value (.func 64), xs, tys⟩, ty, pos, after, guard⟩ ρ L K Kp :=
  AOp.callMid L1 L2 (asked_c hS b l ahead F .emp (fun k => ([.int .i64 0, .int .i64 0, .int .i64 0, .int .i64 0, .emp, .emp, .bool false, .int .i64 0, .int .i64 0, .int .i64 0, .emp, .emp] : List D).getD k .any) hl hll ha hF) (fun r L' h => by obtain ⟨G, d, c, _, rfl, _⟩ := h; exact ⟨_, rfl⟩) hx hp (fun d o' h' => by
    obtain ⟨G, d, c, e1, e2, e3⟩ := h'
    cases e1; cases e2; exact h G d c e3) (fun d o' h' => by obtain ⟨G, d, c, e1, _⟩ := h'; cases e1)
theorem add_c (hS : SortedOk) (l : List Core) (c : Core) (most : Int) (hl : CoresS l) (hc : CoreS c) (hll : l.length ≤ 1000000000) (hF : 0 ≤ most → most ≤ 1073741824 → most ≤ 1000000) : AFn X 24 [.slC l, encC c, .int .i64 most] (.tup [.slC (addTop l c most).1, .int .i64 (addTop l c most).2.1, .int .i64 (addTop l c most).2.2]) := by
 have hlc : CoresS (l ++ [c]) := fun x hx => (List.mem_append.1 hx).elim (hl x) (fun h => by rw [List.mem_singleton.1 h]; exact hc)
 refine Zf Tryz.func24 ?_
 refine Yb (Ya ?_)
 refine Z9 (fun b4 => ?_)
 refine Z2 ?_
 refine Z2 ?_
 refine Z2 ?_
 refine Yc (Yb (Ya ?_))
 refine Z1 ?_
 refine Z52 ?_
 refine Z52 ?_
 refine Z9 (fun b16 => ?_)
 refine Z2 ?_
 refine Yc (Yb ?_)
 refine Yj [.p 0, .l 2, .p 3, .e 1 [2], .e 4 [], .p 5] mixed (by kernel_rfl) ?_
 refine Z5 ?_
 refine ASeq.lv rfl rfl rfl rfl (Yv (d := encC _) 1 rfl rfl (.refl _)) ?_
 refine ASeq.pe rfl rfl rfl rfl (fun L0 => (AOp.buildSliceC (ts := [_]) rfl rfl rfl rfl rfl ⟨rfl, rfl⟩)) ?_
 refine ASeq.ee rfl rfl rfl rfl rfl (callCloneCB l (by omega) rfl (fun hnil => ⟨(Keeps.cons (Yv 1 rfl rfl (.refl _)) Yo), ?_⟩) (fun hne bq kq => ⟨(Keeps.cons (Yv 2 rfl rfl (.refl _)) Yo), ?_⟩))
 refine ASeq.ee rfl rfl rfl rfl rfl (AOp.newC (c := c) rfl rfl rfl rfl rfl rfl rfl (fun bq2 kq2 => ⟨Yo, ?_⟩))
 refine Z17 ?_
 refine ASeq.nil (Yb (Yb (Ya ?_)))
 refine Z1 ?_
 refine Z1 ?_
 refine Z24 ?_
 refine Z1 ?_
 refine AOps.e rfl rfl rfl (callAsked [_] [_] hS (l ++ [c]) l.length hlc (by simp; omega) (by simp) hF (LeL.cons (.refl _) (LeL.cons (.refl _) (LeL.cons (.own _ _ _ _ (by rw [hnil]; rfl)) .nil))) rfl (fun G dd cf hG => ?_))
 refine Z1 ?_
 refine Z12 ?_
 refine Z12 ?_
 refine Z2 ?_
 refine Z2 ?_
 refine Yc (Yb (Ya ?_))
 refine Z1 ?_
 refine Z60 ?_
 refine Yc ?_
 refine Zc (fun h31 => ?_) (fun h31 => ?_)
 try simp only [sz] at h31
 refine Yb (Ya ?_)
 refine Z1 ?_
 refine Z2 ?_
 refine Z2 ?_
 refine Z2 ?_
 refine Yc (Yd ?_)
 refine Yh rfl (.cons rfl (.cons rfl (.cons rfl .nil))) ?_
 exact tupLe (.cons (.emp _ (by rw [addTop, if_pos (by simpa using h31)]; rfl)) (.cons (D.Le.eq (by rw [addTop, if_pos (by simpa using h31)]; rfl)) (.cons (D.Le.eq (by rw [addTop, if_pos (by simpa using h31)]; rfl)) .nil)))
 try simp only [sz] at h31
 refine Ye (Yb ?_)
 refine Yj [.p 0, .p 1, .p 2, .p 3, .p 4, .p 5, .l 6, .p 7, .p 8, .p 9] mixed (by kernel_rfl) ?_
 refine Z5 ?_
 refine ASeq.pe rfl rfl rfl rfl (fun L0 => (Yk (copied_c (l ++ [c]) hlc (by simp; omega)) (LeL.cons (.own _ _ _ _ (by rw [hnil]; rfl)) .nil) ⟨rfl, rfl⟩)) ?_
 refine Z5 ?_
 refine Z38 ?_
 refine Z8 ?_
 refine Z8 ?_
 refine Z36 ?_
 refine Z17 ?_
 refine Z17 ?_
 refine Z17 ?_
 refine ASeq.nil (Yd ?_)
 refine Yh rfl (.cons rfl (.cons rfl (.cons rfl .nil))) ?_
 exact D.Le.eq (by rw [addTop, if_neg (by simpa using h31), hG (by simpa using h31)]; rfl)
 refine ASeq.ee rfl rfl rfl rfl rfl (AOp.appC (cs := l) (c := c) 0 rfl rfl rfl rfl rfl rfl rfl rfl (by omega) (by repeat constructor) (fun bq2 kq2 => ⟨Yo, ?_⟩))
 refine Z17 ?_
 refine ASeq.nil (Yb (Yb (Ya ?_)))
 refine Z1 ?_
 refine Z1 ?_
 refine Z24 ?_
 refine Z1 ?_
 refine AOps.e rfl rfl rfl (callAsked [_] [_] hS (l ++ [c]) l.length hlc (by simp; omega) (by simp) hF (LeL.cons (.refl _) (LeL.cons (.refl _) (LeL.cons (.own _ _ _ _ (by rfl)) .nil))) rfl (fun G dd cf hG => ?_))
 refine Z1 ?_
 refine Z12 ?_
 refine Z12 ?_
 refine Z2 ?_
 refine Z2 ?_
 refine Yc (Yb (Ya ?_))
 refine Z1 ?_
 refine Z60 ?_
 refine Yc ?_
 refine Zc (fun h31 => ?_) (fun h31 => ?_)
 try simp only [sz] at h31
 refine Yb (Ya ?_)
 refine Z1 ?_
 refine Z2 ?_
 refine Z2 ?_
 refine Z2 ?_
 refine Yc (Yd ?_)
 refine Yh rfl (.cons rfl (.cons rfl (.cons rfl .nil))) ?_
 exact tupLe (.cons (.emp _ (by rw [addTop, if_pos (by simpa using h31)]; rfl)) (.cons (D.Le.eq (by rw [addTop, if_pos (by simpa using h31)]; rfl)) (.cons (D.Le.eq (by rw [addTop, if_pos (by simpa using h31)]; rfl)) .nil)))
 try simp only [sz] at h31
 refine Ye (Yb ?_)
 refine Yj [.p 0, .p 1, .p 2, .p 3, .p 4, .p 5, .l 6, .p 7, .p 8, .p 9] mixed (by kernel_rfl) ?_
 refine Z5 ?_
 refine ASeq.pe rfl rfl rfl rfl (fun L0 => (Yk (copied_c (l ++ [c]) hlc (by simp; omega)) (LeL.cons (.own _ _ _ _ (by rfl)) .nil) ⟨rfl, rfl⟩)) ?_
 refine Z5 ?_
 refine Z38 ?_
 refine Z8 ?_
 refine Z8 ?_
 refine Z36 ?_
 refine Z17 ?_
 refine Z17 ?_
 refine Z17 ?_
 refine ASeq.nil (Yd ?_)
 refine Yh rfl (.cons rfl (.cons rfl (.cons rfl .nil))) ?_
 exact D.Le.eq (by rw [addTop, if_neg (by simpa using h31), hG (by simpa using h31)]; rfl)
theorem all_c (hS : SortedOk) (l : List Core) (most : Int) (hl : CoresS l) (hll : l.length ≤ 1000000000) (hF : 0 ≤ most → most ≤ 1073741824 → most ≤ 1000000) : AFn X 23 [.slC l, .int .i64 most] (.tup [.int .i64 (allTop l most).1, .int .i64 (allTop l most).2.1, .int .i64 (allTop l most).2.2]) := by
 refine Zf Tryz.func23 ?_
 refine Yb (Ya ?_)
 refine Z2 ?_
 refine Z2 ?_
 refine Z2 ?_
 refine Yc (Yb (Ya ?_))
 refine Z1 ?_
 refine Z52 ?_
 refine Z52 ?_
 refine Z9 (fun b11 => ?_)
 refine Z2 ?_
 refine Yc (Yb (Ya ?_))
 refine Z1 ?_
 refine Z1 ?_
 refine AOps.e rfl rfl rfl (callAsked [] [] hS l 0 hl (by omega) (by omega) hF (Yn rfl) rfl (fun G dd cf hG => ?_))
 refine Z1 ?_
 refine Z12 ?_
 refine Z12 ?_
 refine Z2 ?_
 refine Z2 ?_
 refine Yc (Yb (Yf (Yb (Ya ?_))))
 refine Z1 ?_
 refine Z26 ?_
 refine Z1 ?_
 refine Zs 21 (fun h21 => ?_) (fun h21 => ?_)
 try simp only [sz] at h21
 refine Z4 ?_
 refine Z4 ?_
 refine Z15 ?_
 refine Z2 ?_
 refine Yc (ACode.condT rfl (Yb (Ya ?_)))
 refine Z1 ?_
 refine Z2 ?_
 refine Z2 ?_
 refine Z2 ?_
 refine Yc (Yd ?_)
 refine Yh rfl (.cons rfl (.cons rfl (.cons rfl .nil))) ?_
 exact D.Le.eq (by rw [allTop, if_pos (by unfold BigI; omega)]; rfl)
 try simp only [sz] at h21
 refine Z14 ?_
 refine Z59 ?_
 refine Z13 ?_
 refine Z2 ?_
 refine Yc ?_
 refine Zc (fun h18 => ?_) (fun h18 => ?_)
 try simp only [sz] at h18
 refine Yb (Ya ?_)
 refine Z1 ?_
 refine Z2 ?_
 refine Z2 ?_
 refine Z2 ?_
 refine Yc (Yd ?_)
 refine Yh rfl (.cons rfl (.cons rfl (.cons rfl .nil))) ?_
 exact D.Le.eq (by rw [allTop, if_pos (by unfold BigI; omega)]; rfl)
 try simp only [sz] at h18
 refine Yb (Ya ?_)
 refine Z1 ?_
 refine Z60 ?_
 refine Z2 ?_
 refine Yc ?_
 refine Zc (fun h26 => ?_) (fun h26 => ?_)
 try simp only [sz] at h26
 refine Yb (Ya ?_)
 refine Z1 ?_
 refine AOps.v rfl rfl rfl (AVal.addn rfl rfl (by have := asked_at l 0 most; omega)) ?_
 refine Z1 ?_
 refine Z2 ?_
 refine Z2 ?_
 refine Z2 ?_
 refine Yc (Yd ?_)
 refine Yh rfl (.cons rfl (.cons rfl (.cons rfl .nil))) ?_
 exact D.Le.eq (by rw [allTop, if_neg (by unfold BigI; omega), if_pos (by simpa using h26)]; rfl)
 try simp only [sz] at h26
 refine Ye (Yb (Ya ?_))
 refine Z1 ?_
 refine Z44 ?_
 refine Z6 ?_
 refine Z6 ?_
 refine Z11 ?_
 refine Z2 ?_
 refine Z2 ?_
 refine Z2 ?_
 refine Yc (Yd ?_)
 refine Yh rfl (.cons rfl (.cons rfl (.cons rfl .nil))) ?_
 exact D.Le.eq (by rw [allTop, if_neg (by unfold BigI; omega), if_neg (by simpa using h26), hG (by simpa using h26)]; rfl)
end Sp

/- The walks of the law of all. Written by a program of mine. -/
set_option linter.unusedVariables false
set_option linter.unusedSimpArgs false
set_option maxRecDepth 20000
namespace Sp
open Go Go.Proofs
theorem sameSelf_c (t : Term) (hf : t.fit 1099511627776) : AFn X 18 [encT t, encT t] (.bool true) := by
  have := sameTerm_c _ t t rfl (fitMax hf)
  rwa [decide_eq_true rfl] at this
theorem sameCoreSelf_c (c : Core) (hc : CoreS c) : AFn X 27 [encC c, encC c] (.bool true) := by
 refine Zf Tryz.func27 ?_
 refine Yb (Ya ?_)
 refine Z9 (fun b2 => ?_)
 refine Z9 (fun b3 => ?_)
 refine Z2 ?_
 refine Yc (Yb (Ya ?_))
 refine Z6 ?_
 refine Z16 ?_
 refine Z6 ?_
 refine Z11 ?_
 refine AOps.v rfl rfl rfl (AVal.eqlS rfl rfl rfl) ?_
 refine Z1 ?_
 refine Z18 ?_
 refine Yp rfl rfl rfl rfl rfl rfl (AVal.loadP (d := encT _) 1 rfl rfl rfl rfl) ?_
 refine Z18 ?_
 refine Yp rfl rfl rfl rfl rfl rfl (AVal.loadP (d := encT _) 0 rfl rfl rfl rfl) ?_
 refine AOps.eT rfl rfl rfl rfl rfl rfl (Yk (sameSelf_c c.typ hc.1) (Yn rfl) ?_)
 refine Z15 ?_
 refine Z1 ?_
 refine Z18 ?_
 refine Z27 ?_
 refine Z18 ?_
 refine Z30 ?_
 refine Yp rfl rfl rfl rfl rfl rfl (AVal.eqlBS rfl rfl (by kernel_rfl) rfl) ?_
 refine Z15 ?_
 refine Z1 ?_
 refine Z18 ?_
 refine Yp rfl rfl rfl rfl rfl rfl (AVal.loadP (d := encT _) 1 rfl rfl rfl rfl) ?_
 refine Z18 ?_
 refine Yp rfl rfl rfl rfl rfl rfl (AVal.loadP (d := encT _) 0 rfl rfl rfl rfl) ?_
 refine AOps.eT rfl rfl rfl rfl rfl rfl (Yk (sameSelf_c c.body hc.2.2.1) (Yn rfl) ?_)
 refine Z15 ?_
 refine Z2 ?_
 refine Yc (Yd ?_)
 refine Yh rfl (.cons rfl .nil) ?_
 exact .refl _
theorem sameCoresSelf_c (l : List Core) (hl : CoresS l) (hll : l.length ≤ 1000000000) : AFn X 26 [.slC l, .slC l] (.bool true) := by
 refine Zf Tryz.func26 ?_
 refine Yb (Ya ?_)
 refine Z2 ?_
 refine Yc (Yb (Yb (Ya ?_)))
 refine Z1 ?_
 refine Z24 ?_
 refine Z1 ?_
 refine Z24 ?_
 refine AOps.v rfl rfl rfl (AVal.neqS rfl rfl rfl) ?_
 refine Yc (ACode.condF rfl (Ye (Yb (Yb (Ya ?_)))))
 refine Z2 ?_
 refine Yc (Yf ?_)
 refine Yu (γ := Nat) (fun g => [(0, .slC l), (1, .slC l), (5, .int .i64 g)]) (fun g => []) (fun g => g ≤ l.length) (fun g => l.length - g) 0 (Nat.zero_le _) (by repeat first | exact Ym | refine Yl (.refl _) ?_) (by repeat first | exact X0 _ | apply X1 | apply X2 | exact X3 _) ?_
 intro i hi t1
 refine Yb (Yb (Ya ?_))
 refine Z1 ?_
 refine Z1 ?_
 refine Z24 ?_
 refine Z26 ?_
 refine Yc ?_
 refine Zc (fun h14 => ?_) (fun h14 => ?_)
 try simp only [sz] at h14
 have hlt : i < l.length := by omega
 refine Ye (Yb (Yf (Yb ?_)))
 refine Yj [.p 0, .p 1, .p 2, .p 3, .p 4, .p 5, .p 6, .p 7, .p 8, .p 9] mixed (by kernel_rfl) ?_
 refine Z5 ?_
 refine Z5 ?_
 refine Z72 ?_
 refine Yt rfl rfl rfl rfl (fun L0 => (AVal.loadE (d := encC _) rfl rfl rfl)) ?_
 refine Z5 ?_
 refine Z5 ?_
 refine Z72 ?_
 refine Yt rfl rfl rfl rfl (fun L0 => (AVal.loadE (d := encC _) rfl rfl rfl)) ?_
 refine ASeq.pe rfl rfl rfl rfl (fun L0 => (Yk (sameCoreSelf_c (l.getD i default) (hl _ (getD_mem hlt))) (Yn rfl) ⟨rfl, rfl⟩)) ?_
 refine Yt rfl rfl rfl rfl (fun L0 => (AVal.not rfl)) ?_
 refine ASeq.nil (ACode.condF rfl (Ye (Ya ?_)))
 refine Z1 ?_
 refine Z19 ?_
 refine Z2 ?_
 refine Yc ?_
 refine ⟨i + 1, by omega, by omega, rfl, (by repeat first | exact Ym | refine Yl (.refl _) ?_), (by repeat first | exact X0 _ | apply X1 | apply X2 | exact X3 _)⟩
 try simp only [sz] at h14
 refine Yg (Yb (Ya ?_))
 refine Z2 ?_
 refine Yc (Yd ?_)
 refine Yh rfl (.cons rfl .nil) ?_
 exact .refl _
theorem l10fin_c (n : Int) : AFn X 62 [.int .i64 n] (encT (.mk 22 n 0 [] [])) := by
 refine Zf Tryz.func62 ?_
 refine Yb (Ya ?_)
 refine Z7 (fun b2 => ?_)
 refine Yc (Yb (Ya ?_))
 refine Z1 ?_
 refine Z48 ?_
 refine Z3 ?_
 refine Yc (Yd ?_)
 refine Yh rfl (.cons (Yi (d := encT _) 0 rfl rfl rfl rfl) .nil) ?_
 exact .refl _
theorem l10v_c (n : Int) : AFn X 63 [.int .i64 n] (encT (.mk 1 n 0 [] [])) := by
 refine Zf Tryz.func63 ?_
 refine Yb (Ya ?_)
 refine Z7 (fun b2 => ?_)
 refine Yc (Yb (Ya ?_))
 refine Z1 ?_
 refine Z48 ?_
 refine Z3 ?_
 refine Yc (Yd ?_)
 refine Yh rfl (.cons (Yi (d := encT _) 0 rfl rfl rfl rfl) .nil) ?_
 exact .refl _
theorem l10sort_c (v p : Int) : AFn X 61 [.int .i64 v, .int .i64 p] (encT (.mk 2 0 0 [[⟨v, p⟩]] [])) := by
 refine Zf Tryz.func61 ?_
 refine Yb (Ya ?_)
 refine Z7 (fun b4 => ?_)
 refine Yc (Yb (Ya ?_))
 refine Z1 ?_
 refine Z1 ?_
 refine Z81 ?_
 refine Z61 ?_
 refine Z52 ?_
 refine AOps.e rfl rfl rfl (AOp.buildSliceL (ts := [_]) rfl rfl rfl rfl rfl ?_)
 refine Z48 ?_
 refine Z3 ?_
 refine Yc (Yd ?_)
 refine Yh rfl (.cons (Yi (d := encT _) 0 rfl rfl rfl rfl) .nil) ?_
 exact .refl _
theorem addC (hS : SortedOk) {l : List Core} {c : Core} {most : Int} (hl : CoresS l) (hc : CoreS c) (hll : l.length ≤ 1000000000) (hF : 0 ≤ most → most ≤ 1073741824 → most ≤ 1000000) {x : List Core} {y z : Int} (h : addTop l c most = (x, y, z)) :
    AFn X 24 [.slC l, encC c, .int .i64 most] (.tup [.slC x, .int .i64 y, .int .i64 z]) := by
  have := add_c hS l c most hl hc hll hF
  rw [h] at this
  exact this
theorem allC (hS : SortedOk) {l : List Core} {most : Int} (hl : CoresS l) (hll : l.length ≤ 1000000000) (hF : 0 ≤ most → most ≤ 1073741824 → most ≤ 1000000) {x y z : Int} (h : allTop l most = (x, y, z)) :
    AFn X 23 [.slC l, .int .i64 most] (.tup [.int .i64 x, .int .i64 y, .int .i64 z]) := by
  have := all_c hS l most hl hll hF
  rw [h] at this
  exact this
theorem l10awake_c (hS : SortedOk) : AFn X 21 [] (.bool true) := by
 refine Zf Tryz.func21 ?_
 refine Yb (Ya ?_)
 refine Z2 ?_
 refine Yc (Yb (Ya ?_))
 refine AOps.e rfl rfl rfl (Yk (l10sort_c _ _) (Yn rfl) ?_)
 refine AOps.e rfl rfl rfl (Yk (l10fin_c _) (Yn rfl) ?_)
 refine AOps.v rfl rfl rfl (AVal.le (d := encC k1) (AVal.build rfl rfl rfl) (aggLe (by repeat first | exact LeL.nil | refine LeL.cons (.refl _) ?_ | refine LeL.cons (.emp _ rfl) ?_))) ?_
 refine AOps.e rfl rfl rfl (Yk (addC hS (c := k1) (most := 10) cores_nil k1_ok (by simp) (by omega) ex1) (LeL.cons (.emp _ rfl) (LeL.cons (.refl _) (LeL.cons (.refl _) .nil))) ?_)
 refine Z1 ?_
 refine Z12 ?_
 refine Z12 ?_
 refine Z12 ?_
 refine Z2 ?_
 refine Z2 ?_
 refine Z2 ?_
 refine Yc (Yb (Ya ?_))
 refine Z48 ?_
 refine AOps.v rfl rfl rfl (AVal.le (d := encC k2) (AVal.build rfl rfl rfl) (aggLe (by repeat first | exact LeL.nil | refine LeL.cons (.refl _) ?_ | refine LeL.cons (.emp _ rfl) ?_))) ?_
 refine AOps.e rfl rfl rfl (Yk (addC hS (c := k2) (most := 10) cores_nil k2_ok (by simp) (by omega) ex2) (LeL.cons (.emp _ rfl) (LeL.cons (.refl _) (LeL.cons (.refl _) .nil))) ?_)
 refine Z1 ?_
 refine Z12 ?_
 refine Z12 ?_
 refine Z12 ?_
 refine Z2 ?_
 refine Z2 ?_
 refine Z2 ?_
 refine Yc (Yb (Ya ?_))
 refine AOps.e rfl rfl rfl (Yk (l10sort_c _ _) (Yn rfl) ?_)
 refine AOps.v rfl rfl rfl (AVal.le (d := encC k3) (AVal.build rfl rfl rfl) (aggLe (by repeat first | exact LeL.nil | refine LeL.cons (.refl _) ?_ | refine LeL.cons (.emp _ rfl) ?_))) ?_
 refine AOps.e rfl rfl rfl (Yk (l10v_c _) (Yn rfl) ?_)
 refine AOps.v rfl rfl rfl (AVal.le (d := encC k4) (AVal.build rfl rfl rfl) (aggLe (by repeat first | exact LeL.nil | refine LeL.cons (.refl _) ?_ | refine LeL.cons (.emp _ rfl) ?_))) ?_
 refine AOps.e rfl rfl rfl (AOp.buildSliceC (ts := [_, _]) rfl rfl rfl rfl rfl ?_)
 refine AOps.e rfl rfl rfl (Yk (allC hS (l := [k3, k4]) (most := 10) k34_ok (by simp) (by omega) ex3) (Yn rfl) ?_)
 refine Z1 ?_
 refine Z12 ?_
 refine Z12 ?_
 refine Z12 ?_
 refine Z2 ?_
 refine Z2 ?_
 refine Z2 ?_
 refine Yc (Yb (Ya ?_))
 refine Z1 ?_
 refine Z40 ?_
 refine Z1 ?_
 refine Z14 ?_
 refine Z47 ?_
 refine Z15 ?_
 refine Z1 ?_
 refine Z14 ?_
 refine Z64 ?_
 refine Z47 ?_
 refine Z15 ?_
 refine Z1 ?_
 refine Z14 ?_
 refine Z47 ?_
 refine Z15 ?_
 refine Z1 ?_
 refine Z14 ?_
 refine Z47 ?_
 refine Z15 ?_
 refine Z1 ?_
 refine Z14 ?_
 refine Z47 ?_
 refine Z15 ?_
 refine Z2 ?_
 refine Yc (Yd ?_)
 refine Yh rfl (.cons rfl .nil) ?_
 exact .refl _
theorem l10great_c (cs : List Core) (hl : cs.length ≤ 1099511627776) (hf : ∀ c ∈ cs, c.typ.fit 1099511627776 ∧ c.body.fit 1099511627776) : ACalls X 22 [.slC cs] [] (fun r L' => (∃ g, r = .ret (.bool g)) ∧ L' = []) := by
 refine Zf Tryz.func22 ?_
 refine Yb (Ya ?_)
 refine Z2 ?_
 refine Yc (Yb (Yb (Ya ?_)))
 refine Z2 ?_
 refine Yc (Yf ?_)
 refine Yu (γ := Nat) (fun g => [(0, .slC cs), (3, .int .i64 g)]) (fun g => []) (fun g => g ≤ cs.length) (fun g => cs.length - g) 0 (Nat.zero_le _) (by repeat first | exact Ym | refine Yl (.refl _) ?_) (by repeat first | exact X0 _ | apply X1 | apply X2 | exact X3 _) ?_
 intro i hi t1
 refine Yb (Yb (Ya ?_))
 refine Z1 ?_
 refine Z1 ?_
 refine Z24 ?_
 refine Z26 ?_
 refine Z1 ?_
 refine Zs 8 (fun h8 => ?_) (fun h8 => ?_)
 try simp only [sz] at h8
 have hlt : i < cs.length := by omega
 refine Z14 ?_
 refine Yp rfl rfl rfl rfl rfl rfl (AVal.lss rfl rfl) ?_
 refine Z15 ?_
 refine Yc ?_
 refine Zc (fun h11 => ?_) (fun h11 => ?_)
 try simp only [sz] at h11
 have hlt : i < cs.length := by first | omega | (have := h8; omega)
 refine Ye (Yb (Yf (Yb (Ya ?_))))
 refine Z1 ?_
 refine Z1 ?_
 refine AOps.v rfl rfl rfl (AVal.indexCN rfl rfl rfl rfl rfl ⟨by omega, by omega⟩) ?_
 refine AOps.v rfl rfl rfl (AVal.fieldE rfl rfl) ?_
 refine Z41 ?_
 refine AOps.e rfl rfl rfl (Yk (deep_c _ (cs.getD i default).body rfl (fitMax (hf _ (getD_mem hlt)).2) _) (Yn rfl) ?_)
 refine Z89 ?_
 refine Z1 ?_
 refine Zs 21 (fun h21 => ?_) (fun h21 => ?_)
 try simp only [sz] at h21
 refine Z4 ?_
 refine Z4 ?_
 refine Z4 ?_
 refine Z4 ?_
 refine Z4 ?_
 refine Z4 ?_
 refine Z4 ?_
 refine Z15 ?_
 refine Yc (ACode.condT rfl (Yb (Ya ?_)))
 refine Z2 ?_
 refine Yc (Yd ?_)
 refine AFin.ret (X := X) (fn := Tryz.f22) (R := fun r L' => (∃ g, r = .ret (.bool g)) ∧ L' = []) (L' := []) rfl (.cons rfl .nil) (List.nil_sublist _) (.refl _) ⟨⟨_, rfl⟩, rfl⟩
 try simp only [sz] at h21
 refine Z14 ?_
 refine Z14 ?_
 refine Yp rfl rfl rfl rfl rfl rfl (AVal.indexCN rfl rfl rfl rfl rfl ⟨by omega, by omega⟩) ?_
 refine Yp rfl rfl rfl rfl rfl rfl (AVal.fieldE rfl rfl) ?_
 refine Yp rfl rfl rfl rfl rfl rfl (AVal.loadE (d := encT _) rfl rfl rfl) ?_
 refine AOps.eT rfl rfl rfl rfl rfl rfl (Yk (deep_c _ (cs.getD i default).typ rfl (fitMax (hf _ (getD_mem hlt)).1) _) (Yn rfl) ?_)
 refine Z59 ?_
 refine Z13 ?_
 refine Yc ?_
 refine Zc (fun h29 => ?_) (fun h29 => ?_)
 try simp only [sz] at h29
 refine Yb (Ya ?_)
 refine Z2 ?_
 refine Yc (Yd ?_)
 refine AFin.ret (X := X) (fn := Tryz.f22) (R := fun r L' => (∃ g, r = .ret (.bool g)) ∧ L' = []) (L' := []) rfl (.cons rfl .nil) (List.nil_sublist _) (.refl _) ⟨⟨_, rfl⟩, rfl⟩
 try simp only [sz] at h29
 refine Ye (Ya ?_)
 refine Z1 ?_
 refine Z19 ?_
 refine Z2 ?_
 refine Yc ?_
 refine ⟨i + 1, by omega, by omega, rfl, (by repeat first | exact Ym | refine Yl (.refl _) ?_), (by repeat first | exact X0 _ | apply X1 | apply X2 | exact X3 _)⟩
 try simp only [sz] at h11
 refine Yg (Yb (Ya ?_))
 refine Z1 ?_
 refine AOps.e rfl rfl rfl (Yk (coresOf_c cs 800 (by omega) (fun c hc => ⟨fitMax (hf c hc).1, fitMax (hf c hc).2⟩)) (Yn rfl) ?_)
 refine Z89 ?_
 refine Z2 ?_
 refine Yc (Yd ?_)
 refine AFin.ret (X := X) (fn := Tryz.f22) (R := fun r L' => (∃ g, r = .ret (.bool g)) ∧ L' = []) (L' := []) rfl (.cons rfl .nil) (List.nil_sublist _) (.refl _) ⟨⟨_, rfl⟩, rfl⟩
 try simp only [sz] at h8
 refine Z4 ?_
 refine Z4 ?_
 refine Z13 ?_
 refine Yc (ACode.condF rfl (Yg (Yb (Ya ?_))))
 refine Z1 ?_
 refine AOps.e rfl rfl rfl (Yk (coresOf_c cs 800 (by omega) (fun c hc => ⟨fitMax (hf c hc).1, fitMax (hf c hc).2⟩)) (Yn rfl) ?_)
 refine Z89 ?_
 refine Z2 ?_
 refine Yc (Yd ?_)
 refine AFin.ret (X := X) (fn := Tryz.f22) (R := fun r L' => (∃ g, r = .ret (.bool g)) ∧ L' = []) (L' := []) rfl (.cons rfl .nil) (List.nil_sublist _) (.refl _) ⟨⟨_, rfl⟩, rfl⟩
theorem call10Great {ρ : Operand → D} {L : Loc} {dst : Option Tmp} {ty : TypeId} {pos : String} {after : Array Edge} {guard : Option (Nat × Bool)} {K Kp : D → Loc → Prop} {xs : Array Operand} {tys : Array TypeId} {cs : List Core} (hl : cs.length ≤ 1099511627776) (hf : ∀ c ∈ cs, c.typ.fit 1099511627776 ∧ c.body.fit 1099511627776)
    (hx : xs.toList.map ρ = [.slC cs]) (h : ∀ g, K (.bool g) L) : AOp X ⟨dst, .call ⟨.value (.func 22), xs, tys⟩, ty, pos, after, guard⟩ ρ L K Kp :=
  AOp.callB L (l10great_c cs hl hf) (Yn hx) (by simp) (fun d L' h' => by obtain ⟨⟨g, e⟩, rfl⟩ := h'; cases e; rw [List.append_nil]; exact h g) (fun d L' h' => by obtain ⟨⟨g, e⟩, rfl⟩ := h'; cases e)
theorem callAdd2 {ρ : Operand → D} {L : Loc} {dst : Option Tmp} {ty : TypeId} {pos : String} {after : Array Edge} {guard : Option (Nat × Bool)} {K Kp : D → Loc → Prop} {xs : Array Operand} {tys : Array TypeId} (hS : SortedOk) {l : List Core} {c : Core} {F : Int} (hl : CoresS l) (hc : CoreS c) (hll : l.length ≤ 1000000000) (hF : F ≤ 1000000) (hb : ¬ BigI F)
    (hx : LeL (xs.toList.map ρ) [.slC l, encC c, .int .i64 F]) (h1 : ∀ u G, addI l c F = .ok u G → K (.tup [.slC (l ++ [c]), .int .i64 G, .int .i64 0]) L) (h2 : ∀ e, addI l c F = .er e → K (.tup [.slC [], .int .i64 0, .int .i64 e]) L) : AOp X ⟨dst, .call ⟨.value (.func 24), xs, tys⟩, ty, pos, after, guard⟩ ρ L K Kp := by
  cases ha : addI l c F with
  | ok u G => exact Yk (addC hS hl hc hll (fun _ _ => hF) (addTop_ok hb ha)) hx (h1 u G ha)
  | er e => exact Yk (addC hS hl hc hll (fun _ _ => hF) (addTop_er hb ha)) hx (h2 e ha)
theorem sortC (hS : SortedOk) {l : List Core} {c : Core} {F G : Int} {x : Level} (hl : CoresS l) (hc : CoreS c) (hll : l.length ≤ 1000000000) (hF : F ≤ 1000000) (h : sortM l c.levels [] c.typ F = (x, G, 0)) :
    AFn X 25 [.slC l, .int .i64 c.levels, .slT [], encT c.typ, .int .i64 F] (.tup [encL x, .int .i64 G, .int .i64 0]) := by
  have := sortTop_c hS l c.levels [] c.typ F (by omega) (by simp) (fun u hu => by cases hu) hc.1 (by have := hc.2.1; omega) (fun _ => hl.small hc hF (fun u hu => by simp at hu; exact .inl hu))
  rw [h] at this
  exact this
theorem checkC (hS : SortedOk) {l : List Core} {c : Core} {F G : Int} {x : Bool} (hl : CoresS l) (hc : CoreS c) (hll : l.length ≤ 1000000000) (hF : F ≤ 1000000) (h : checkM l c.levels [] c.body c.typ F = (x, G, 0)) :
    AFn X 20 [.slC l, .int .i64 c.levels, .slT [], encT c.body, encT c.typ, .int .i64 F] (.tup [.int .i64 G, .int .i64 0]) := by
  have := checkTop_c hS l c.levels [] c.body c.typ F (by omega) (by simp) (fun u hu => by cases hu) hc.2.2.1 (by have := hc.2.2.2; omega) hc.1 (by have := hc.2.1; omega) (fun _ => hl.small hc hF (fun u hu => by simp at hu; rcases hu with h | h; exact .inr h; exact .inl h))
  rw [h] at this
  exact this
end Sp
