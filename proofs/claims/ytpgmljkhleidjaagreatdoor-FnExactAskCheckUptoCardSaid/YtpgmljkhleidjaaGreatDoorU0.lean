/- laws.FnExactAskCheck returns true for every input whose arguments and package variables hold together at most 1048576 values and letters; the input reads as it did. -/
import Derived.Test.YtpgmljkhleidjaaGreatDoorG
import Derived.Test.YtpgmljkhleidjaaGreatDoorL2
set_option linter.unusedVariables false
set_option linter.unusedSimpArgs false
namespace Go.Proofs.YtpgmljkhleidjaaGreatDoor.LM
set_option maxRecDepth 100000
attribute [local irreducible] GQ G
def B_w_FnExactAskCheck (p0:Part) (p1:(List Sel)) (r:Bool):Prop:=
 ∃y1:Int,(S_w_szPart p0 1048576 y1)/\(if (decide (y1<0))=true then (r=true) else (∃y2:Int,(S_w_szSelS p1 y1 y2)/\(if (decide (y2<0))=true then (r=true) else (∃y3:Part,(S_w_toPart p0 y3)/\(∃y4:(List Sel),(S_w_toSelS p1 y4)/\(∃y5:AskFault,(S_s_AskCheck y3 y4 y5)/\(∃y6:Part,(S_w_toPart_u p0 y6)/\(∃y7:(List Sel),(S_w_toSelS_u p1 y7)/\(∃y8:AskFault,(S_i_AskCheck_u (Part.mk y6.fName y6.fTypes) y7 y8)/\(∃y9:Bool,(S_w_eqAskFault (AskFault.mk y8.fWay y8.fCode) y5 y9)/\(if (!y9)=true then (r=false) else (∃y10:Part,(S_w_toPart p0 y10)/\(∃y11:Bool,(S_w_eqPart (Part.mk y6.fName y6.fTypes) y10 y11)/\(if (!y11)=true then (r=false) else (∃y12:(List Sel),(S_w_toSelS p1 y12)/\(∃y13:Bool,(S_w_eqSelS y7 y12 y13)/\(if (!y13)=true then (r=false) else (∃y14:Int×(List Ty),(S_w_markPart (Part.mk y6.fName y6.fTypes) 1 y14)/\(∃y15:Int×(List Sel),(S_w_markSelS y7 y14.1 y15)/\(∃y16:Bool,((decide (y15.1<0))=false->S_w_eqAskFault (AskFault.mk y8.fWay y8.fCode) y5 y16)/\(if ((decide (y15.1<0)) || (!y16))=true then (r=false) else (∃y17:Int×(List Str),(S_w_markAskFault (AskFault.mk y8.fWay y8.fCode) 1 y17)/\(∃y18:Int,(S_w_heldAskFault (AskFault.mk y17.2 y8.fCode) 1 y18)/\(if (decide (y18<0))=true then (r=false) else (if (y18 != y17.1)=true then (r=false) else (∃y19:Part,(S_w_toPart p0 y19)/\(∃y20:(List Sel),(S_w_toSelS p1 y20)/\(∃y21:AskFault,(S_i_AskCheck_u y19 y20 y21)/\(∃y22:Bool,(S_w_eqAskFault (AskFault.mk y21.fWay y21.fCode) y5 y22)/\(if (!y22)=true then (r=false) else (∃y23:Int,(S_w_heldAskFault (AskFault.mk y17.2 y8.fCode) 1 y23)/\(if (decide (y23<0))=true then (r=false) else (if (y23 != y17.1)=true then (r=false) else (r=true))))))))))))))))))))))))))))))))))
theorem w_FnExactAskCheck_unf (p0:Part) (p1:(List Sel)) (r:Bool) (h:B_w_FnExactAskCheck p0 p1 r):S_w_FnExactAskCheck p0 p1 r:=by
 refine Kz (p:=l6) (Ks (Ko (Kg 2 (Kn (Kr (Ks (Ko (Kg 1 (Kn (Kr (Ks (Ko (Kg 2 (Kk h fun y1 h=>?_))))))))))))))
 refine Kg 1 (Kn (Kr (Ks (Ks (Ko (Kg 2 (Kn (Kr (Kc h (fun h=>?_) fun h=>?_)))))))))
 .refine Kgh (Ks (Ko (Kg 1 (Kn (Kr ?_)))))
  cases h;exact Kt
 .refine Kgh (Ku (Kr (Ks (Ko (Kg 2 (Kk h fun y2 h=>?_))))))
  refine Kg 1 (Kn (Kr (Ks (Ks (Ko (Kg 2 (Kn (Kr (Kc h (fun h=>?_) fun h=>?_)))))))))
  .refine Kgh (Ks (Ko (Kg 1 (Kn (Kr ?_)))))
   cases h;exact Kt
  .refine Kgh (Ku (Kr (Ks (Ko (Kg 1 (Kk h fun y3 h=>?_))))))
   refine Kg 1 (Kk h fun y4 h=>?_)
   refine Kk h fun y5 h=>?_
   refine Kg 2 (Kn (Kr (Ks (Ko (Kg 1 (Kk h fun y6 h=>?_))))))
   refine Kg 2 (Kn (Kr (Ks (Ko (Kg 1 (Kk h fun y7 h=>?_))))))
   refine Kg 1 (Kn (Kr (Ks (Ko (Kg 2 (Kkb h (fun y=>by simp[kfreeO,kf0]) fun y8 h=>?_))))))
   refine Kg 2 (Kn (Kr (Ks (Ks (Ko (Kg 2 (Kk h fun y9 h=>?_)))))))
   refine Kg 1 (Kn (Kr (Kc h (fun h=>?_) fun h=>?_)))
   .refine Kgh (Ks (Ko (Kg 1 (Kn (Kr ?_)))))
    cases h;exact Kt
   .refine Kgh (Ku (Kr (Ks (Ks (Kd (Kg 2 (Kk h fun y10 h=>?_)))))))
    refine Kk h fun y11 h=>?_
    refine Kg 1 (Kn (Kr (Kgh (Kc h (fun h=>?_) fun h=>?_))))
    .refine Kgh (Ks (Ko (Kg 1 (Kn (Kr ?_)))))
     cases h;exact Kt
    .refine Kgh (Ku (Kr (Ks (Ks (Ko (Kg 2 (Kk h fun y12 h=>?_)))))))
     refine Kk h fun y13 h=>?_
     refine Kg 1 (Kn (Kr (Kc h (fun h=>?_) fun h=>?_)))
     .refine Kgh (Ks (Ko (Kg 1 (Kn (Kr ?_)))))
      cases h;exact Kt
     .refine Kgh (Ku (Kr (Ks (Ko (Kg 1 (Kn (Kr (Ks (Ko (Kg 2 (Kk h fun y14 h=>?_)))))))))))
      refine Kg 1 (Kn (Kr (Kgh (Ks (Ko (Kg 2 (Kk h fun y15 h=>?_)))))))
      refine Kg 1 (Kn (Kr (Kgh (Ks (Ks (Ko (Kg 3 ?_)))))))
      obtain⟨y16,h16,h⟩:=h
      refine Kq 5 (decide (y15.1<0)) false 58 63 (fun z=>(z || (!y16))) (fun hx=>?_) ?_
      .have h16:=h16 hx
       exact Kg 2 (Kw0 (Qk h16 (Kg 1 (Kee))))
      refine Kn (Kr (Kc h (fun h=>?_) fun h=>?_))
      .refine Kgh (Ks (Ko (Kg 1 (Kn (Kr ?_)))))
       cases h;exact Kt
      .refine Kgh (Ku (Kr (Ks (Ko (Kg 1 (Kn (Kr (Ks (Ko (Kg 2 (Kk h fun y17 h=>?_)))))))))))
       refine Kg 1 (Kn (Kr (Ks (Ko (Kg 1 (Kn (Kr (Ks (Ko (Kg 2 (Kk h fun y18 h=>?_)))))))))))
       refine Kg 1 (Kn (Kr (Ks (Ks (Ko (Kg 2 (Kn (Kr (Kc h (fun h=>?_) fun h=>?_)))))))))
       .refine Kgh (Ks (Ko (Kg 1 (Kn (Kr ?_)))))
        cases h;exact Kt
       .refine Kgh (Ku (Kr (Ks (Ks (Ko (Kg 3 (Kn (Kr (Kc h (fun h=>?_) fun h=>?_)))))))))
        .refine Kgh (Ks (Ko (Kg 1 (Kn (Kr ?_)))))
         cases h;exact Kt
        .refine Kgh (Ku (Kr (Ks (Ko (Kg 1 (Kk h fun y19 h=>?_))))))
         refine Kg 1 (Kk h fun y20 h=>?_)
         refine Kk h fun y21 h=>?_
         refine Kg 2 (Kn (Kr (Kgh (Ks (Ks (Ko (Kg 2 (Kk h fun y22 h=>?_))))))))
         refine Kg 1 (Kn (Kr (Kgh (Kc h (fun h=>?_) fun h=>?_))))
         .refine Kgh (Ks (Ko (Kg 1 (Kn (Kr ?_)))))
          cases h;exact Kt
         .refine Kgh (Ku (Kr (Ks (Ko (Kg 1 (Kn (Kr (Ks (Ko (Kg 2 (Kk h fun y23 h=>?_)))))))))))
          refine Kg 1 (Kn (Kr (Kgh (Ks (Ks (Ko (Kg 2 (Kn (Kr (Kc h (fun h=>?_) fun h=>?_))))))))))
          .refine Kgh (Ks (Ko (Kg 1 (Kn (Kr ?_)))))
           cases h;exact Kt
          .refine Kgh (Ku (Kr (Ks (Ks (Ko (Kg 3 (Kn (Kr (Kc h (fun h=>?_) fun h=>?_)))))))))
           .refine Kgh (Ks (Ko (Kg 1 (Kn (Kr ?_)))))
            cases h;exact Kt
           .refine Kgh (Ku (Kr (Ks (Ko (Kg 1 (Kn (Kr ?_)))))))
            cases h;exact Kt
def B_w_szPart (p0:Part) (p1:Int) (r:Int):Prop:=
 p0.fName.size<=bigStr->(if (decide ((IntKind.i64.wrap (p1-(p0.fName.size:Int)))<0))=true then (r=(-1)) else (∃y1:Int,(S_w_szTypeS p0.fTypes (IntKind.i64.wrap (p1-(p0.fName.size:Int))) y1)/\(if (decide (y1<0))=true then (r=(-1)) else (r=y1))))
theorem w_szPart_unf (p0:Part) (p1:Int) (r:Int) (h:B_w_szPart p0 p1 r):S_w_szPart p0 p1 r:=by
 refine Kz (p:=l10) (Ks (Ko (Kg 2 (Kn (Kr (Ks (Ko (Kg 3 (KLs h fun h=>?_)))))))))
 refine Kg 2 (Kn (Kr (Ks (Ks (Ko (Kg 2 (Kn (Kr (Kc h (fun h=>?_) fun h=>?_)))))))))
 .refine Kgh (Ks (Ko (Kg 1 (Kn (Kr ?_)))))
  cases h;exact Kt
 .refine Kgh (Ku (Kr (Ks (Ko (Kg 3 (Kk h fun y1 h=>?_))))))
  refine Kg 1 (Kn (Kr (Kgh (Ks (Ks (Ko (Kg 2 (Kn (Kr (Kc h (fun h=>?_) fun h=>?_))))))))))
  .refine Kgh (Ks (Ko (Kg 1 (Kn (Kr ?_)))))
   cases h;exact Kt
  .refine Kgh (Ku (Kr (Ks (Ko (Kg 2 (Kn (Kr ?_)))))))
   cases h;exact Kt
def sw_szSelS_L1 (p0:(List Sel)) (v1l1:Int) (v5l1:Int):LSt:=⟨[(0,L p0),(1,I v1l1),(5,I v5l1)],[],[]⟩
def C_w_szSelS_L1 (p0:(List Sel)) (v1l1:Int) (v5l1:Int) (r:Int):Prop:=G gE [.tmp 4] (I r,[]) [.blk 0,.sq k11_6] (.loop k11_8) (sw_szSelS_L1 p0 v1l1 v5l1)
def B_w_szSelS_L1 (p0:(List Sel)) (v1l1:Int) (v5l1:Int) (r:Int):Prop:=
 p0.length<=bigLen->(if (decide (v5l1<(p0.length:Int)))=true then (∃x1:Sel,(0<=v5l1/\p0[v5l1.toNat]?=some x1)/\(∃y2:Int,(S_w_szSel x1 v1l1 y2)/\(if (decide (y2<0))=true then (r=(-1)) else (C_w_szSelS_L1 p0 y2 (IntKind.i64.wrap (v5l1+1)) r)))) else (r=v1l1))
def B_w_szSelS (p0:(List Sel)) (p1:Int) (r:Int):Prop:=
 p0.length<=bigLen->(if (decide ((IntKind.i64.wrap (p1-(p0.length:Int)))<0))=true then (r=(-1)) else (C_w_szSelS_L1 p0 (IntKind.i64.wrap (p1-(p0.length:Int))) 0 r))
theorem w_szSelS_L1_unf (p0:(List Sel)) (v1l1:Int) (v5l1:Int) (r:Int) (h:B_w_szSelS_L1 p0 v1l1 v5l1 r):C_w_szSelS_L1 p0 v1l1 v5l1 r:=by
 refine Ky (Ks (Ks (Ko (Kg 2 (KL h fun h=>?_)))))
 refine Kg 1 (Kn (Kr (Kc h (fun h=>?_) fun h=>?_)))
 .refine Kgh (Ku (Kr (Ks (Kb (Ks (Ko (Kg 2 (Ki h fun x1 h=>?_))))))))
  refine Kg 2 (Kk h fun y2 h=>?_)
  refine Kg 1 (Kn (Kr (Ks (Ko (Kg 2 (Kn (Kr (Kc h (fun h=>?_) fun h=>?_))))))))
  .refine Kgh (Ks (Ko (Kg 1 (Kn (Kr ?_)))))
   cases h;exact Kt
  .exact Kgh (Ku (Kp (Kr (Ko (Kg 3 (Kn (Kl h)))))))
 .refine Kgh (Kx ?_)
  refine Kr (Ks (Ko (Kg 2 (Kn (Kr ?_)))))
  cases h;exact Kt
theorem w_szSelS_unf (p0:(List Sel)) (p1:Int) (r:Int) (h:B_w_szSelS p0 p1 r):S_w_szSelS p0 p1 r:=by
 refine Kz (p:=l11) (Ks (Ko (Kg 1 (Kn (Kr (Ks (Ko (Kg 2 (KL h fun h=>?_)))))))))
 refine Kg 2 (Kn (Kr (Ks (Ks (Ko (Kg 2 (Kn (Kr (Kc h (fun h=>?_) fun h=>?_)))))))))
 .refine Kgh (Ks (Ko (Kg 1 (Kn (Kr ?_)))))
  cases h;exact Kt
 .exact Kgh (Ku (Kr (Ks (Ks (Ko (Kg 1 (Kn (Kr (Kb (Kv h))))))))))
def B_w_toPart (p0:Part) (r:Part):Prop:=
 ∃y1:(List Ty),(S_w_toTypeS p0.fTypes y1)/\(r=(Part.mk p0.fName y1))
theorem w_toPart_unf (p0:Part) (r:Part) (h:B_w_toPart p0 r):S_w_toPart p0 r:=by
 refine Kz (p:=l13) (Ks (Ko (Kg 2 (Kn (Kr (Ks (Ko (Kg 1 (Kn (Kr (Ks (Ko (Kg 4 ?_)))))))))))))
 refine Kn (Kr (Ks (Ko (Kg 2 (Kk h fun y1 h=>?_)))))
 refine Kg 2 (Kn (Kr (Kgh (Ks (Ko (Kg 2 (Kn (Kr (Kgh ?_)))))))))
 cases h;exact Kt
def sw_toSelS_L1 (p0:(List Sel)) (v4l1:Int) (o512_ysl1:List Sel) (o512_kl1:Nat):LSt:=⟨[(0,L p0),(3,.arr 34304 p0.length),(4,I v4l1)],[(34304,.rows 5 (fillR o512_ysl1 o512_kl1 [.sc (.string sE),.sc (.string sE),.sc (.bool false),.sc (.int .i64 0),.lst 5 []]) [] none)],[]⟩
def C_w_toSelS_L1 (p0:(List Sel)) (v4l1:Int) (o512_ysl1:List Sel) (o512_kl1:Nat) (r:(List Sel)):Prop:=G gE [.tmp 2] (L r,[]) [.blk 0,.sq k14_3] (.loop k14_5) (sw_toSelS_L1 p0 v4l1 o512_ysl1 o512_kl1)
def B_w_toSelS_L1 (p0:(List Sel)) (v4l1:Int) (o512_ysl1:List Sel) (o512_kl1:Nat) (r:(List Sel)):Prop:=
 p0.length<=bigLen->(if (decide (v4l1<(p0.length:Int)))=true then (∃x1:Sel,(0<=v4l1/\p0[v4l1.toNat]?=some x1)/\(∃y2:Sel,(S_w_toSel x1 y2)/\((0<=v4l1/\v4l1<(p0.length:Int))/\(∃k3:Nat,(o512_kl1=k3+1/\v4l1.toNat=o512_ysl1.length)/\(C_w_toSelS_L1 p0 (IntKind.i64.wrap (v4l1+1)) (o512_ysl1++[y2]) k3 r))))) else ((o512_kl1=0/\p0.length=o512_ysl1.length)/\(r=o512_ysl1)))
def B_w_toSelS (p0:(List Sel)) (r:(List Sel)):Prop:=
 p0.length<=bigLen->((p0.length<=bigLen)/\(C_w_toSelS_L1 p0 0 ([]:List Sel) p0.length r))
theorem w_toSelS_L1_unf (p0:(List Sel)) (v4l1:Int) (o512_ysl1:List Sel) (o512_kl1:Nat) (r:(List Sel)) (h:B_w_toSelS_L1 p0 v4l1 o512_ysl1 o512_kl1 r):C_w_toSelS_L1 p0 v4l1 o512_ysl1 o512_kl1 r:=by
 refine Ky (Ks (Ks (Ko (Kg 2 (KL h fun h=>?_)))))
 refine Kg 1 (Kn (Kr (Kc h (fun h=>?_) fun h=>?_)))
 .refine Kgh (Ku (Kr (Ks (Kb (Ko (Kg 4 (Ki h fun x1 h=>?_)))))))
  refine Kg 1 (Kk h fun y2 h=>?_)
  refine Kpl (T:=Sel) h fun h=>?_
  refine Kfi [.sc (.string sE),.sc (.string sE),.sc (.bool false),.sc (.int .i64 0),.lst 5 []] o512_ysl1 y2 v4l1.toNat h fun k3 h=>?_
  exact Kn (Kp (Kr (Ko (Kg 3 (Kn (Kl h))))))
 .refine Kgh (Kx ?_)
  refine Kr (Ks (Ko (Kg 2 (Kn (Kr (Kff 34304 [.sc (.string sE),.sc (.string sE),.sc (.bool false),.sc (.int .i64 0),.lst 5 []] o512_ysl1 h fun h=>?_))))))
  refine Kfz (g:=942) o512_ysl1 (Kgh ?_)
  cases h;exact Kt
theorem w_toSelS_unf (p0:(List Sel)) (r:(List Sel)) (h:B_w_toSelS p0 r):S_w_toSelS p0 r:=by
 refine Kz (p:=l14) (Ks (Ko (Kg 1 (Kn (Kr (Ks (Ko (Kg 1 (KL h fun h=>?_)))))))))
 refine Kmk (T:=Sel) h fun h=>?_
 exact Kg 1 (Kn (Kr (Ks (Ks (Ko (Kg 1 (Kn (Kr (Kb (Kv h))))))))))
def B_w_eqPart (p0:Part) (p1:Part) (r:Bool):Prop:=
 if (!(sEq p0.fName p1.fName))=true then (r=false) else (∃y1:Bool,(S_w_eqTypeS p0.fTypes p1.fTypes y1)/\(if (!y1)=true then (r=false) else (r=true)))
theorem w_eqPart_unf (p0:Part) (p1:Part) (r:Bool) (h:B_w_eqPart p0 p1 r):S_w_eqPart p0 p1 r:=by
 refine Kz (p:=l16) (Ks (Ko (Kg 3 (Kn (Kr (Ks (Ks (Ko (Kg 5 (Kn (Kr (Kc h (fun h=>?_) fun h=>?_))))))))))))
 .refine Kgh (Ks (Ko (Kg 1 (Kn (Kr ?_)))))
  cases h;exact Kt
 .refine Kgh (Ku (Kr (Ks (Ks (Ko (Kg 4 (Kk h fun y1 h=>?_)))))))
  refine Kg 1 (Kn (Kr (Kgh (Kc h (fun h=>?_) fun h=>?_))))
  .refine Kgh (Ks (Ko (Kg 1 (Kn (Kr ?_)))))
   cases h;exact Kt
  .refine Kgh (Ku (Kr (Ks (Ko (Kg 1 (Kn (Kr ?_)))))))
   cases h;exact Kt
def sw_eqSelS_L1 (p0:(List Sel)) (p1:(List Sel)) (v5l1:Int):LSt:=⟨[(0,L p0),(1,L p1),(5,I v5l1)],[],[]⟩
def C_w_eqSelS_L1 (p0:(List Sel)) (p1:(List Sel)) (v5l1:Int) (r:Bool):Prop:=G gE [.tmp 4] (B r,[]) [.blk 0,.sq k17_5] (.loop k17_7) (sw_eqSelS_L1 p0 p1 v5l1)
def B_w_eqSelS_L1 (p0:(List Sel)) (p1:(List Sel)) (v5l1:Int) (r:Bool):Prop:=
 p0.length<=bigLen->(if (decide (v5l1<(p0.length:Int)))=true then (∃x1:Sel,(0<=v5l1/\p0[v5l1.toNat]?=some x1)/\(∃x2:Sel,(0<=v5l1/\p1[v5l1.toNat]?=some x2)/\(∃y3:Bool,(S_w_eqSel x1 x2 y3)/\(if (!y3)=true then (r=false) else (C_w_eqSelS_L1 p0 p1 (IntKind.i64.wrap (v5l1+1)) r))))) else (r=true))
def B_w_eqSelS (p0:(List Sel)) (p1:(List Sel)) (r:Bool):Prop:=
 p0.length<=bigLen->(p1.length<=bigLen->(if ((p0.length:Int) != (p1.length:Int))=true then (r=false) else (C_w_eqSelS_L1 p0 p1 0 r)))
theorem w_eqSelS_L1_unf (p0:(List Sel)) (p1:(List Sel)) (v5l1:Int) (r:Bool) (h:B_w_eqSelS_L1 p0 p1 v5l1 r):C_w_eqSelS_L1 p0 p1 v5l1 r:=by
 refine Ky (Ks (Ks (Ko (Kg 2 (KL h fun h=>?_)))))
 refine Kg 1 (Kn (Kr (Kc h (fun h=>?_) fun h=>?_)))
 .refine Kgh (Ku (Kr (Ks (Kb (Ks (Kd (Kg 2 (Ki h fun x1 h=>?_))))))))
  refine Kg 3 (Ki h fun x2 h=>?_)
  refine Kg 1 (Kk h fun y3 h=>?_)
  refine Kg 1 (Kn (Kr (Kgh (Kc h (fun h=>?_) fun h=>?_))))
  .refine Kgh (Ks (Ko (Kg 1 (Kn (Kr ?_)))))
   cases h;exact Kt
  .exact Kgh (Ku (Kp (Kr (Ko (Kg 3 (Kn (Kl h)))))))
 .refine Kgh (Kx ?_)
  refine Kr (Ks (Ko (Kg 1 (Kn (Kr ?_)))))
  cases h;exact Kt
theorem w_eqSelS_unf (p0:(List Sel)) (p1:(List Sel)) (r:Bool) (h:B_w_eqSelS p0 p1 r):S_w_eqSelS p0 p1 r:=by
 refine Kz (p:=l17) (Ks (Ko (Kg 1 (Kn (Kr (Ks (Ks (Ko (Kg 1 (KL h fun h=>?_))))))))))
 refine Kg 1 (KL h fun h=>?_)
 refine Kg 1 (Kn (Kr (Kc h (fun h=>?_) fun h=>?_)))
 .refine Kgh (Ks (Ko (Kg 1 (Kn (Kr ?_)))))
  cases h;exact Kt
 .exact Kgh (Ku (Kr (Ks (Ks (Ko (Kg 1 (Kn (Kr (Kb (Kv h))))))))))
def B_s_AskCheck (p0:Part) (p1:(List Sel)) (r:AskFault):Prop:=
 ∃y1:PartFault,(S_s_PartCheck p0 y1)/\(∃y2:Bool,((y1.fCode != 0)=false->S_s_AskOk p1 y2)/\(if ((y1.fCode != 0) || (!y2))=true then (r=(AskFault.mk [] 1)) else (∃y3:AskFault,(S_s_l3Check p0 (⟨#[113,117,101,114,121]⟩:Str) p1 [] y3)/\((([]:List Str).length+y3.fWay.length<=bigLen)/\(r=(AskFault.mk ([]++y3.fWay) y3.fCode))))))
theorem s_AskCheck_unf (p0:Part) (p1:(List Sel)) (r:AskFault) (h:B_s_AskCheck p0 p1 r):S_s_AskCheck p0 p1 r:=by
 refine Kz (p:=l20) (Ks (Ko (Kg 2 (Kn (Kr (Ks (Ks (Ko (Kg 1 (Kk h fun y1 h=>?_))))))))))
 refine Kg 3 ?_
 obtain⟨y2,h2,h⟩:=h
 refine Kq 4 (y1.fCode != 0) false 10 14 (fun z=>(z || (!y2))) (fun hx=>?_) ?_
 .have h2:=h2 hx
  exact Kg 1 (Kw0 (Qk h2 (Kg 1 (Kee))))
 refine Kn (Kr (Kc h (fun h=>?_) fun h=>?_))
 .refine Kgh (Ks (Ko (Kbs ([]:List Str) (Kg 2 (Kn (Kr (Kgh ?_)))))))
  cases h;exact Kt
 .refine Kgh (Ku (Kr (Ks (Ko (Kg 2 (Kbs ([]:List Str) (Kk h fun y3 h=>?_)))))))
  refine Kg 2 (Kn (Kr (Kgh (Ks (Ko (Kbs ([]:List Str) (Kg 2 (Ka h fun h=>?_))))))))
  refine Kg 2 (Kn (Kr (Ks (Ko (Kg 2 (Kn (Kr (Kgh (Kgh ?_)))))))))
  cases h;exact Kt
def B_w_eqAskFault (p0:AskFault) (p1:AskFault) (r:Bool):Prop:=
 ∃y1:Bool,(S_w_eqStringS p0.fWay p1.fWay y1)/\(if (!y1)=true then (r=false) else (if (p0.fCode != p1.fCode)=true then (r=false) else (r=true)))
theorem w_eqAskFault_unf (p0:AskFault) (p1:AskFault) (r:Bool) (h:B_w_eqAskFault p0 p1 r):S_w_eqAskFault p0 p1 r:=by
 refine Kz (p:=l29) (Ks (Ko (Kg 3 (Kn (Kr (Ks (Ks (Ko (Kg 4 (Kk h fun y1 h=>?_))))))))))
 refine Kg 1 (Kn (Kr (Kc h (fun h=>?_) fun h=>?_)))
 .refine Kgh (Ks (Ko (Kg 1 (Kn (Kr ?_)))))
  cases h;exact Kt
 .refine Kgh (Ku (Kr (Ks (Ks (Ko (Kg 5 (Kn (Kr (Kgh (Kc h (fun h=>?_) fun h=>?_))))))))))
  .refine Kgh (Ks (Ko (Kg 1 (Kn (Kr ?_)))))
   cases h;exact Kt
  .refine Kgh (Ku (Kr (Ks (Ko (Kg 1 (Kn (Kr ?_)))))))
   cases h;exact Kt
def B_w_markPart (p0:Part) (p1:Int) (r:Int×(List Ty)):Prop:=
 ∃y1:Int×(List Ty),(S_w_markTypeS p0.fTypes p1 y1)/\(r=(y1.1,y1.2))
theorem w_markPart_unf (p0:Part) (p1:Int) (r:Int×(List Ty)) (h:B_w_markPart p0 p1 r):S_w_markPart p0 p1 r:=by
 refine Kz (p:=l30) (Ks (Ko (Kg 2 (Kn (Kr (Ks (Ko (Kg 3 (Kk h fun y1 h=>?_)))))))))
 refine Kg 1 (Kn (Kr (Kgh (Ks (Ko (Kg 2 (Kn (Kr ?_))))))))
 cases h;exact Kt
def sw_markSelS_L1 (p0:(List Sel)) (v1l1:Int) (v5l1:Int) (o0_xsl1:List Sel):LSt:=⟨[(0,.arr 33792 p0.length),(1,I v1l1),(5,I v5l1)],[(33792,.rows 5 (Enc.E o0_xsl1) zh2 none)],[33792]⟩
def C_w_markSelS_L1 (p0:(List Sel)) (v1l1:Int) (v5l1:Int) (o0_xsl1:List Sel) (r:Int×(List Sel)):Prop:=G gE [.tmp 4] (I r.1,[some (.rows 5 (Enc.E r.2) zh2 none)]) [.blk 0,.sq k31_2] (.loop k31_4) (sw_markSelS_L1 p0 v1l1 v5l1 o0_xsl1)
def B_w_markSelS_L1 (p0:(List Sel)) (v1l1:Int) (v5l1:Int) (o0_xsl1:List Sel) (r:Int×(List Sel)):Prop:=
 if (decide (v5l1<(p0.length:Int)))=true then (∃y1:Str,(S_w_markText v1l1 y1)/\(∃x2:Sel,(0<=v5l1/\o0_xsl1[v5l1.toNat]?=some x2)/\(∃y3:Str,(S_w_markText (IntKind.i64.wrap (v1l1+1)) y3)/\(∃y4:Int×(List Sel),(S_w_markSelS x2.fKids (IntKind.i64.wrap ((IntKind.i64.wrap ((IntKind.i64.wrap ((IntKind.i64.wrap (v1l1+1))+1))+1))+1)) y4)/\(C_w_markSelS_L1 p0 y4.1 (IntKind.i64.wrap (v5l1+1)) (o0_xsl1.set v5l1.toNat (Sel.mk y1 y3 (((IntKind.i64.wrap ((IntKind.i64.wrap (v1l1+1))+1)).tmod 3) == 0) (IntKind.i64.wrap ((IntKind.i64.wrap ((IntKind.i64.wrap (v1l1+1))+1))+1)) y4.2)) r))))) else (r=(v1l1,o0_xsl1))
def B_w_markSelS (p0:(List Sel)) (p1:Int) (r:Int×(List Sel)):Prop:=
 C_w_markSelS_L1 p0 p1 0 p0 r
theorem w_markSelS_L1_unf (p0:(List Sel)) (v1l1:Int) (v5l1:Int) (o0_xsl1:List Sel) (r:Int×(List Sel)) (h:B_w_markSelS_L1 p0 v1l1 v5l1 o0_xsl1 r):C_w_markSelS_L1 p0 v1l1 v5l1 o0_xsl1 r:=by
 refine Ky (Ks (Ks (Ko (Kg 4 (Kn (Kr (Kc h (fun h=>?_) fun h=>?_)))))))
 .refine Kgh (Ku (Kr (Ks (Kb (Ks (Ko (Kg 3 (Kk h fun y1 h=>?_))))))))
  obtain⟨x2,hx3,h⟩:=h
  refine Kpr hx3 (Kg 1 (Kst 0 (Sel.mk y1 x2.fName x2.fOne x2.fId x2.fKids) hx3.2 (Kn (Kr (Ks (Ko (Kg 3 (Kn (Kr (Ks (Ko (Kg 3 (Kk h fun y3 h=>?_)))))))))))))
  refine Kpr (fset (Sel.mk y1 x2.fName x2.fOne x2.fId x2.fKids) hx3) (Kg 1 (Kss 1 (Sel.mk y1 x2.fName x2.fOne x2.fId x2.fKids) (Sel.mk y1 y3 x2.fOne x2.fId x2.fKids) hx3.2 (Kn (Kr (Ks (Ko (Kg 3 (Kn (Kr (Ks (Ko (Kg 3 (Kre (k := .i64) (IntKind.i64.wrap ((IntKind.i64.wrap (v1l1+1))+1)) 3 (by decide) ?_)))))))))))))
  refine Kg 1 (Kpr (fset (Sel.mk y1 y3 x2.fOne x2.fId x2.fKids) hx3) (Kg 1 (Kss 2 (Sel.mk y1 y3 x2.fOne x2.fId x2.fKids) (Sel.mk y1 y3 (((IntKind.i64.wrap ((IntKind.i64.wrap (v1l1+1))+1)).tmod 3) == 0) x2.fId x2.fKids) hx3.2 (Kn (Kr (Ks (Ko (Kg 3 (Kn (Kr (Ks (Ko (Kg 3 ?_)))))))))))))
  refine Kpr (fset (Sel.mk y1 y3 (((IntKind.i64.wrap ((IntKind.i64.wrap (v1l1+1))+1)).tmod 3) == 0) x2.fId x2.fKids) hx3) (Kg 1 (Kss 3 (Sel.mk y1 y3 (((IntKind.i64.wrap ((IntKind.i64.wrap (v1l1+1))+1)).tmod 3) == 0) x2.fId x2.fKids) (Sel.mk y1 y3 (((IntKind.i64.wrap ((IntKind.i64.wrap (v1l1+1))+1)).tmod 3) == 0) (IntKind.i64.wrap ((IntKind.i64.wrap ((IntKind.i64.wrap (v1l1+1))+1))+1)) x2.fKids) hx3.2 (Kn (Kr (Ks (Ko (Kg 3 (Kn (Kr (Ktk x2.fKids (sget (Sel.mk y1 y3 (((IntKind.i64.wrap ((IntKind.i64.wrap (v1l1+1))+1)).tmod 3) == 0) (IntKind.i64.wrap ((IntKind.i64.wrap ((IntKind.i64.wrap (v1l1+1))+1))+1)) x2.fKids) hx3.2) (Ko (Kg 2 (Kpr (fset (Sel.mk y1 y3 (((IntKind.i64.wrap ((IntKind.i64.wrap (v1l1+1))+1)).tmod 3) == 0) (IntKind.i64.wrap ((IntKind.i64.wrap ((IntKind.i64.wrap (v1l1+1))+1))+1)) x2.fKids) hx3) ?_)))))))))))))
  refine Kg 1 (Klh 4 zh2 (4,34304,x2.fKids.length) (sget (Sel.mk y1 y3 (((IntKind.i64.wrap ((IntKind.i64.wrap (v1l1+1))+1)).tmod 3) == 0) (IntKind.i64.wrap ((IntKind.i64.wrap ((IntKind.i64.wrap (v1l1+1))+1))+1)) x2.fKids) hx3.2) (Kg 1 (Kk h fun y4 h=>?_)))
  exact Kg 1 (Kn (Kp (Kr (Kps 4 34304 (Sel.mk y1 y3 (((IntKind.i64.wrap ((IntKind.i64.wrap (v1l1+1))+1)).tmod 3) == 0) (IntKind.i64.wrap ((IntKind.i64.wrap ((IntKind.i64.wrap (v1l1+1))+1))+1)) x2.fKids) (Sel.mk y1 y3 (((IntKind.i64.wrap ((IntKind.i64.wrap (v1l1+1))+1)).tmod 3) == 0) (IntKind.i64.wrap ((IntKind.i64.wrap ((IntKind.i64.wrap (v1l1+1))+1))+1)) y4.2) y4.2 hx3.2 (Ko (Kg 3 (Kn (Kl h))))))))
 .refine Kgh (Kx ?_)
  refine Kr (Ks (Ko (Kg 2 (Kn (Kr ?_)))))
  cases h;exact Kt
theorem w_markSelS_unf (p0:(List Sel)) (p1:Int) (r:Int×(List Sel)) (h:B_w_markSelS p0 p1 r):S_w_markSelS p0 p1 r:=by
 exact Kz (p:=l31) (Ks (Ko (Kg 1 (Kn (Kr (Ks (Ks (Ko (Kg 1 (Kn (Kr (Kb (Kv h)))))))))))))
def B_w_markAskFault (p0:AskFault) (p1:Int) (r:Int×(List Str)):Prop:=
 ∃y1:Int×(List Str),(S_w_markStringS p0.fWay p1 y1)/\(r=(y1.1,y1.2))
theorem w_markAskFault_unf (p0:AskFault) (p1:Int) (r:Int×(List Str)) (h:B_w_markAskFault p0 p1 r):S_w_markAskFault p0 p1 r:=by
 refine Kz (p:=l32) (Ks (Ko (Kg 2 (Kn (Kr (Ks (Ko (Kg 3 (Kk h fun y1 h=>?_)))))))))
 refine Kg 1 (Kn (Kr (Kgh (Ks (Ko (Kg 2 (Kn (Kr ?_))))))))
 cases h;exact Kt
def B_w_heldAskFault (p0:AskFault) (p1:Int) (r:Int):Prop:=
 ∃y1:Int,(S_w_heldStringS p0.fWay p1 y1)/\(if (decide (y1<0))=true then (r=(-1)) else (r=y1))
theorem w_heldAskFault_unf (p0:AskFault) (p1:Int) (r:Int) (h:B_w_heldAskFault p0 p1 r):S_w_heldAskFault p0 p1 r:=by
 refine Kz (p:=l33) (Ks (Ko (Kg 2 (Kn (Kr (Ks (Ko (Kg 3 (Kk h fun y1 h=>?_)))))))))
 refine Kg 1 (Kn (Kr (Kgh (Ks (Ks (Ko (Kg 2 (Kn (Kr (Kc h (fun h=>?_) fun h=>?_))))))))))
 .refine Kgh (Ks (Ko (Kg 1 (Kn (Kr ?_)))))
  cases h;exact Kt
 .refine Kgh (Ku (Kr (Ks (Ko (Kg 2 (Kn (Kr ?_)))))))
  cases h;exact Kt
def sw_eqStringS_L1 (p0:(List Str)) (p1:(List Str)) (v5l1:Int):LSt:=⟨[(0,L p0),(1,L p1),(5,I v5l1)],[],[]⟩
def C_w_eqStringS_L1 (p0:(List Str)) (p1:(List Str)) (v5l1:Int) (r:Bool):Prop:=G gE [.tmp 4] (B r,[]) [.blk 0,.sq k45_5] (.loop k45_7) (sw_eqStringS_L1 p0 p1 v5l1)
def B_w_eqStringS_L1 (p0:(List Str)) (p1:(List Str)) (v5l1:Int) (r:Bool):Prop:=
 p0.length<=bigLen->(if (decide (v5l1<(p0.length:Int)))=true then (∃x1:Str,(0<=v5l1/\p0[v5l1.toNat]?=some x1)/\(∃x2:Str,(0<=v5l1/\p1[v5l1.toNat]?=some x2)/\(if (!(sEq x1 x2))=true then (r=false) else (C_w_eqStringS_L1 p0 p1 (IntKind.i64.wrap (v5l1+1)) r)))) else (r=true))
def B_w_eqStringS (p0:(List Str)) (p1:(List Str)) (r:Bool):Prop:=
 p0.length<=bigLen->(p1.length<=bigLen->(if ((p0.length:Int) != (p1.length:Int))=true then (r=false) else (C_w_eqStringS_L1 p0 p1 0 r)))
theorem w_eqStringS_L1_unf (p0:(List Str)) (p1:(List Str)) (v5l1:Int) (r:Bool) (h:B_w_eqStringS_L1 p0 p1 v5l1 r):C_w_eqStringS_L1 p0 p1 v5l1 r:=by
 refine Ky (Ks (Ks (Ko (Kg 2 (KL h fun h=>?_)))))
 refine Kg 1 (Kn (Kr (Kc h (fun h=>?_) fun h=>?_)))
 .refine Kgh (Ku (Kr (Ks (Kb (Ks (Kd (Kg 2 (Ki h fun x1 h=>?_))))))))
  refine Kg 3 (Ki h fun x2 h=>?_)
  refine Kg 2 (Kn (Kr (Kgh (Kc h (fun h=>?_) fun h=>?_))))
  .refine Kgh (Ks (Ko (Kg 1 (Kn (Kr ?_)))))
   cases h;exact Kt
  .exact Kgh (Ku (Kp (Kr (Ko (Kg 3 (Kn (Kl h)))))))
 .refine Kgh (Kx ?_)
  refine Kr (Ks (Ko (Kg 1 (Kn (Kr ?_)))))
  cases h;exact Kt
theorem w_eqStringS_unf (p0:(List Str)) (p1:(List Str)) (r:Bool) (h:B_w_eqStringS p0 p1 r):S_w_eqStringS p0 p1 r:=by
 refine Kz (p:=l45) (Ks (Ko (Kg 1 (Kn (Kr (Ks (Ks (Ko (Kg 1 (KL h fun h=>?_))))))))))
 refine Kg 1 (KL h fun h=>?_)
 refine Kg 1 (Kn (Kr (Kc h (fun h=>?_) fun h=>?_)))
 .refine Kgh (Ks (Ko (Kg 1 (Kn (Kr ?_)))))
  cases h;exact Kt
 .exact Kgh (Ku (Kr (Ks (Ks (Ko (Kg 1 (Kn (Kr (Kb (Kv h))))))))))
def sw_markStringS_L1 (p0:(List Str)) (v1l1:Int) (v5l1:Int) (o0_xsl1:List Str):LSt:=⟨[(0,.arr 41984 p0.length),(1,I v1l1),(5,I v5l1)],[(41984,.rows 1 (Enc.E o0_xsl1) [] none)],[41984]⟩
def C_w_markStringS_L1 (p0:(List Str)) (v1l1:Int) (v5l1:Int) (o0_xsl1:List Str) (r:Int×(List Str)):Prop:=G gE [.tmp 4] (I r.1,[some (.rows 1 (Enc.E r.2) [] none)]) [.blk 0,.sq k46_2] (.loop k46_4) (sw_markStringS_L1 p0 v1l1 v5l1 o0_xsl1)
def B_w_markStringS_L1 (p0:(List Str)) (v1l1:Int) (v5l1:Int) (o0_xsl1:List Str) (r:Int×(List Str)):Prop:=
 if (decide (v5l1<(p0.length:Int)))=true then (∃y1:Str,(S_w_markText v1l1 y1)/\(∃x2:Str,(0<=v5l1/\o0_xsl1[v5l1.toNat]?=some x2)/\(C_w_markStringS_L1 p0 (IntKind.i64.wrap (v1l1+1)) (IntKind.i64.wrap (v5l1+1)) (o0_xsl1.set v5l1.toNat y1) r))) else (r=(v1l1,o0_xsl1))
def B_w_markStringS (p0:(List Str)) (p1:Int) (r:Int×(List Str)):Prop:=
 C_w_markStringS_L1 p0 p1 0 p0 r
theorem w_markStringS_L1_unf (p0:(List Str)) (v1l1:Int) (v5l1:Int) (o0_xsl1:List Str) (r:Int×(List Str)) (h:B_w_markStringS_L1 p0 v1l1 v5l1 o0_xsl1 r):C_w_markStringS_L1 p0 v1l1 v5l1 o0_xsl1 r:=by
 refine Ky (Ks (Ks (Ko (Kg 4 (Kn (Kr (Kc h (fun h=>?_) fun h=>?_)))))))
 .refine Kgh (Ku (Kr (Ks (Kb (Ks (Ko (Kg 3 (Kk h fun y1 h=>?_))))))))
  obtain⟨x2,hx3,h⟩:=h
  exact Kpr hx3 (Kst 0 y1 hx3.2 (Kn (Kr (Ko (Kg 3 (Kn (Kp (Kr (Ko (Kg 3 (Kn (Kl h))))))))))))
 .refine Kgh (Kx ?_)
  refine Kr (Ks (Ko (Kg 2 (Kn (Kr ?_)))))
  cases h;exact Kt
theorem w_markStringS_unf (p0:(List Str)) (p1:Int) (r:Int×(List Str)) (h:B_w_markStringS p0 p1 r):S_w_markStringS p0 p1 r:=by
 exact Kz (p:=l46) (Ks (Ko (Kg 1 (Kn (Kr (Ks (Ks (Ko (Kg 1 (Kn (Kr (Kb (Kv h)))))))))))))
def sw_heldStringS_L1 (p0:(List Str)) (v1l1:Int) (v5l1:Int):LSt:=⟨[(0,L p0),(1,I v1l1),(5,I v5l1)],[],[]⟩
def C_w_heldStringS_L1 (p0:(List Str)) (v1l1:Int) (v5l1:Int) (r:Int):Prop:=G gE [.tmp 4] (I r,[]) [.blk 0,.sq k47_2] (.loop k47_4) (sw_heldStringS_L1 p0 v1l1 v5l1)
def B_w_heldStringS_L1 (p0:(List Str)) (v1l1:Int) (v5l1:Int) (r:Int):Prop:=
 p0.length<=bigLen->(if (decide (v5l1<(p0.length:Int)))=true then (∃x1:Str,(0<=v5l1/\p0[v5l1.toNat]?=some x1)/\(∃y2:Str,(S_w_markText v1l1 y2)/\(if (!(sEq x1 y2))=true then (r=(-1)) else (C_w_heldStringS_L1 p0 (IntKind.i64.wrap (v1l1+1)) (IntKind.i64.wrap (v5l1+1)) r)))) else (r=v1l1))
def B_w_heldStringS (p0:(List Str)) (p1:Int) (r:Int):Prop:=
 C_w_heldStringS_L1 p0 p1 0 r
theorem w_heldStringS_L1_unf (p0:(List Str)) (v1l1:Int) (v5l1:Int) (r:Int) (h:B_w_heldStringS_L1 p0 v1l1 v5l1 r):C_w_heldStringS_L1 p0 v1l1 v5l1 r:=by
 refine Ky (Ks (Ks (Ko (Kg 2 (KL h fun h=>?_)))))
 refine Kg 1 (Kn (Kr (Kc h (fun h=>?_) fun h=>?_)))
 .refine Kgh (Ku (Kr (Ks (Kb (Ks (Ks (Kd (Kg 2 (Ki h fun x1 h=>?_)))))))))
  refine Kg 2 (Kk h fun y2 h=>?_)
  refine Kg 1 (Kn (Kr (Kgh (Kc h (fun h=>?_) fun h=>?_))))
  .refine Kgh (Ks (Ko (Kg 1 (Kn (Kr ?_)))))
   cases h;exact Kt
  .exact Kgh (Ku (Kr (Ko (Kg 3 (Kn (Kp (Kr (Ko (Kg 3 (Kn (Kl h)))))))))))
 .refine Kgh (Kx ?_)
  refine Kr (Ks (Ko (Kg 2 (Kn (Kr ?_)))))
  cases h;exact Kt
theorem w_heldStringS_unf (p0:(List Str)) (p1:Int) (r:Int) (h:B_w_heldStringS p0 p1 r):S_w_heldStringS p0 p1 r:=by
 exact Kz (p:=l47) (Ks (Ko (Kg 1 (Kn (Kr (Ks (Ks (Ko (Kg 1 (Kn (Kr (Kb (Kv h)))))))))))))
def sw_szTypeS_L1 (p0:(List Ty)) (v1l1:Int) (v5l1:Int):LSt:=⟨[(0,L p0),(1,I v1l1),(5,I v5l1)],[],[]⟩
def C_w_szTypeS_L1 (p0:(List Ty)) (v1l1:Int) (v5l1:Int) (r:Int):Prop:=G gE [.tmp 4] (I r,[]) [.blk 0,.sq k48_6] (.loop k48_8) (sw_szTypeS_L1 p0 v1l1 v5l1)
def B_w_szTypeS_L1 (p0:(List Ty)) (v1l1:Int) (v5l1:Int) (r:Int):Prop:=
 p0.length<=bigLen->(if (decide (v5l1<(p0.length:Int)))=true then (∃x1:Ty,(0<=v5l1/\p0[v5l1.toNat]?=some x1)/\(∃y2:Int,(S_w_szType x1 v1l1 y2)/\(if (decide (y2<0))=true then (r=(-1)) else (C_w_szTypeS_L1 p0 y2 (IntKind.i64.wrap (v5l1+1)) r)))) else (r=v1l1))
def B_w_szTypeS (p0:(List Ty)) (p1:Int) (r:Int):Prop:=
 p0.length<=bigLen->(if (decide ((IntKind.i64.wrap (p1-(p0.length:Int)))<0))=true then (r=(-1)) else (C_w_szTypeS_L1 p0 (IntKind.i64.wrap (p1-(p0.length:Int))) 0 r))
theorem w_szTypeS_L1_unf (p0:(List Ty)) (v1l1:Int) (v5l1:Int) (r:Int) (h:B_w_szTypeS_L1 p0 v1l1 v5l1 r):C_w_szTypeS_L1 p0 v1l1 v5l1 r:=by
 refine Ky (Ks (Ks (Ko (Kg 2 (KL h fun h=>?_)))))
 refine Kg 1 (Kn (Kr (Kc h (fun h=>?_) fun h=>?_)))
 .refine Kgh (Ku (Kr (Ks (Kb (Ks (Ko (Kg 2 (Ki h fun x1 h=>?_))))))))
  refine Kg 2 (Kk h fun y2 h=>?_)
  refine Kg 1 (Kn (Kr (Ks (Ko (Kg 2 (Kn (Kr (Kc h (fun h=>?_) fun h=>?_))))))))
  .refine Kgh (Ks (Ko (Kg 1 (Kn (Kr ?_)))))
   cases h;exact Kt
  .exact Kgh (Ku (Kp (Kr (Ko (Kg 3 (Kn (Kl h)))))))
 .refine Kgh (Kx ?_)
  refine Kr (Ks (Ko (Kg 2 (Kn (Kr ?_)))))
  cases h;exact Kt
theorem w_szTypeS_unf (p0:(List Ty)) (p1:Int) (r:Int) (h:B_w_szTypeS p0 p1 r):S_w_szTypeS p0 p1 r:=by
 refine Kz (p:=l48) (Ks (Ko (Kg 1 (Kn (Kr (Ks (Ko (Kg 2 (KL h fun h=>?_)))))))))
 refine Kg 2 (Kn (Kr (Ks (Ks (Ko (Kg 2 (Kn (Kr (Kc h (fun h=>?_) fun h=>?_)))))))))
 .refine Kgh (Ks (Ko (Kg 1 (Kn (Kr ?_)))))
  cases h;exact Kt
 .exact Kgh (Ku (Kr (Ks (Ks (Ko (Kg 1 (Kn (Kr (Kb (Kv h))))))))))
def B_w_szSel (p0:Sel) (p1:Int) (r:Int):Prop:=
 p0.fAs.size<=bigStr->(if (decide ((IntKind.i64.wrap (p1-(p0.fAs.size:Int)))<0))=true then (r=(-1)) else (p0.fName.size<=bigStr->(if (decide ((IntKind.i64.wrap ((IntKind.i64.wrap (p1-(p0.fAs.size:Int)))-(p0.fName.size:Int)))<0))=true then (r=(-1)) else (∃y1:Int,(S_w_szSelS p0.fKids (IntKind.i64.wrap ((IntKind.i64.wrap (p1-(p0.fAs.size:Int)))-(p0.fName.size:Int))) y1)/\(if (decide (y1<0))=true then (r=(-1)) else (r=y1))))))
theorem w_szSel_unf (p0:Sel) (p1:Int) (r:Int) (h:B_w_szSel p0 p1 r):S_w_szSel p0 p1 r:=by
 refine Kz (p:=l49) (Ks (Ko (Kg 2 (Kn (Kr (Ks (Ko (Kg 3 (KLs h fun h=>?_)))))))))
 refine Kg 2 (Kn (Kr (Ks (Ks (Ko (Kg 2 (Kn (Kr (Kc h (fun h=>?_) fun h=>?_)))))))))
 .refine Kgh (Ks (Ko (Kg 1 (Kn (Kr ?_)))))
  cases h;exact Kt
 .refine Kgh (Ku (Kr (Ks (Ko (Kg 3 (KLs h fun h=>?_))))))
  refine Kg 2 (Kn (Kr (Ks (Ks (Ko (Kg 2 (Kn (Kr (Kc h (fun h=>?_) fun h=>?_)))))))))
  .refine Kgh (Ks (Ko (Kg 1 (Kn (Kr ?_)))))
   cases h;exact Kt
  .refine Kgh (Ku (Kr (Ks (Ko (Kg 3 (Kk h fun y1 h=>?_))))))
   refine Kg 1 (Kn (Kr (Kgh (Ks (Ks (Ko (Kg 2 (Kn (Kr (Kc h (fun h=>?_) fun h=>?_))))))))))
   .refine Kgh (Ks (Ko (Kg 1 (Kn (Kr ?_)))))
    cases h;exact Kt
   .refine Kgh (Ku (Kr (Ks (Ko (Kg 2 (Kn (Kr ?_)))))))
    cases h;exact Kt
def sw_toTypeS_L1 (p0:(List Ty)) (v4l1:Int) (o512_ysl1:List Ty) (o512_kl1:Nat):LSt:=⟨[(0,L p0),(3,.arr 30208 p0.length),(4,I v4l1)],[(30208,.rows 3 (fillR o512_ysl1 o512_kl1 [.sc (.string sE),.sc (.string sE),.lst 8 []]) [] none)],[]⟩
def C_w_toTypeS_L1 (p0:(List Ty)) (v4l1:Int) (o512_ysl1:List Ty) (o512_kl1:Nat) (r:(List Ty)):Prop:=G gE [.tmp 2] (L r,[]) [.blk 0,.sq k51_3] (.loop k51_5) (sw_toTypeS_L1 p0 v4l1 o512_ysl1 o512_kl1)
def B_w_toTypeS_L1 (p0:(List Ty)) (v4l1:Int) (o512_ysl1:List Ty) (o512_kl1:Nat) (r:(List Ty)):Prop:=
 p0.length<=bigLen->(if (decide (v4l1<(p0.length:Int)))=true then (∃x1:Ty,(0<=v4l1/\p0[v4l1.toNat]?=some x1)/\(∃y2:Ty,(S_w_toType x1 y2)/\((0<=v4l1/\v4l1<(p0.length:Int))/\(∃k3:Nat,(o512_kl1=k3+1/\v4l1.toNat=o512_ysl1.length)/\(C_w_toTypeS_L1 p0 (IntKind.i64.wrap (v4l1+1)) (o512_ysl1++[y2]) k3 r))))) else ((o512_kl1=0/\p0.length=o512_ysl1.length)/\(r=o512_ysl1)))
def B_w_toTypeS (p0:(List Ty)) (r:(List Ty)):Prop:=
 p0.length<=bigLen->((p0.length<=bigLen)/\(C_w_toTypeS_L1 p0 0 ([]:List Ty) p0.length r))
theorem w_toTypeS_L1_unf (p0:(List Ty)) (v4l1:Int) (o512_ysl1:List Ty) (o512_kl1:Nat) (r:(List Ty)) (h:B_w_toTypeS_L1 p0 v4l1 o512_ysl1 o512_kl1 r):C_w_toTypeS_L1 p0 v4l1 o512_ysl1 o512_kl1 r:=by
 refine Ky (Ks (Ks (Ko (Kg 2 (KL h fun h=>?_)))))
 refine Kg 1 (Kn (Kr (Kc h (fun h=>?_) fun h=>?_)))
 .refine Kgh (Ku (Kr (Ks (Kb (Ko (Kg 4 (Ki h fun x1 h=>?_)))))))
  refine Kg 1 (Kk h fun y2 h=>?_)
  refine Kpl (T:=Ty) h fun h=>?_
  refine Kfi [.sc (.string sE),.sc (.string sE),.lst 8 []] o512_ysl1 y2 v4l1.toNat h fun k3 h=>?_
  exact Kn (Kp (Kr (Ko (Kg 3 (Kn (Kl h))))))
 .refine Kgh (Kx ?_)
  refine Kr (Ks (Ko (Kg 2 (Kn (Kr (Kff 30208 [.sc (.string sE),.sc (.string sE),.lst 8 []] o512_ysl1 h fun h=>?_))))))
  refine Kfz (g:=942) o512_ysl1 (Kgh ?_)
  cases h;exact Kt
theorem w_toTypeS_unf (p0:(List Ty)) (r:(List Ty)) (h:B_w_toTypeS p0 r):S_w_toTypeS p0 r:=by
 refine Kz (p:=l51) (Ks (Ko (Kg 1 (Kn (Kr (Ks (Ko (Kg 1 (KL h fun h=>?_)))))))))
 refine Kmk (T:=Ty) h fun h=>?_
 exact Kg 1 (Kn (Kr (Ks (Ks (Ko (Kg 1 (Kn (Kr (Kb (Kv h))))))))))
def B_w_toSel (p0:Sel) (r:Sel):Prop:=
 ∃y1:(List Sel),(S_w_toSelS p0.fKids y1)/\(r=(Sel.mk p0.fAs p0.fName p0.fOne p0.fId y1))
theorem w_toSel_unf (p0:Sel) (r:Sel) (h:B_w_toSel p0 r):S_w_toSel p0 r:=by
 refine Kz (p:=l52) (Ks (Ko (Kg 2 (Kn (Kr (Ks (Ko (Kg 1 (Kn (Kr (Ks (Ko (Kg 4 ?_)))))))))))))
 refine Kn (Kr (Ks (Ko (Kg 4 (Kn (Kr (Ks (Ko (Kg 4 (Kn (Kr (Ks (Ko ?_)))))))))))))
 refine Kg 4 (Kn (Kr (Ks (Ko (Kg 2 (Kk h fun y1 h=>?_))))))
 refine Kg 2 (Kn (Kr (Kgh (Ks (Ko (Kg 2 (Kn (Kr (Kgh ?_)))))))))
 cases h;exact Kt
def sw_eqTypeS_L1 (p0:(List Ty)) (p1:(List Ty)) (v5l1:Int):LSt:=⟨[(0,L p0),(1,L p1),(5,I v5l1)],[],[]⟩
def C_w_eqTypeS_L1 (p0:(List Ty)) (p1:(List Ty)) (v5l1:Int) (r:Bool):Prop:=G gE [.tmp 4] (B r,[]) [.blk 0,.sq k55_5] (.loop k55_7) (sw_eqTypeS_L1 p0 p1 v5l1)
def B_w_eqTypeS_L1 (p0:(List Ty)) (p1:(List Ty)) (v5l1:Int) (r:Bool):Prop:=
 p0.length<=bigLen->(if (decide (v5l1<(p0.length:Int)))=true then (∃x1:Ty,(0<=v5l1/\p0[v5l1.toNat]?=some x1)/\(∃x2:Ty,(0<=v5l1/\p1[v5l1.toNat]?=some x2)/\(∃y3:Bool,(S_w_eqType x1 x2 y3)/\(if (!y3)=true then (r=false) else (C_w_eqTypeS_L1 p0 p1 (IntKind.i64.wrap (v5l1+1)) r))))) else (r=true))
def B_w_eqTypeS (p0:(List Ty)) (p1:(List Ty)) (r:Bool):Prop:=
 p0.length<=bigLen->(p1.length<=bigLen->(if ((p0.length:Int) != (p1.length:Int))=true then (r=false) else (C_w_eqTypeS_L1 p0 p1 0 r)))
theorem w_eqTypeS_L1_unf (p0:(List Ty)) (p1:(List Ty)) (v5l1:Int) (r:Bool) (h:B_w_eqTypeS_L1 p0 p1 v5l1 r):C_w_eqTypeS_L1 p0 p1 v5l1 r:=by
 refine Ky (Ks (Ks (Ko (Kg 2 (KL h fun h=>?_)))))
 refine Kg 1 (Kn (Kr (Kc h (fun h=>?_) fun h=>?_)))
 .refine Kgh (Ku (Kr (Ks (Kb (Ks (Kd (Kg 2 (Ki h fun x1 h=>?_))))))))
  refine Kg 3 (Ki h fun x2 h=>?_)
  refine Kg 1 (Kk h fun y3 h=>?_)
  refine Kg 1 (Kn (Kr (Kgh (Kc h (fun h=>?_) fun h=>?_))))
  .refine Kgh (Ks (Ko (Kg 1 (Kn (Kr ?_)))))
   cases h;exact Kt
  .exact Kgh (Ku (Kp (Kr (Ko (Kg 3 (Kn (Kl h)))))))
 .refine Kgh (Kx ?_)
  refine Kr (Ks (Ko (Kg 1 (Kn (Kr ?_)))))
  cases h;exact Kt
theorem w_eqTypeS_unf (p0:(List Ty)) (p1:(List Ty)) (r:Bool) (h:B_w_eqTypeS p0 p1 r):S_w_eqTypeS p0 p1 r:=by
 refine Kz (p:=l55) (Ks (Ko (Kg 1 (Kn (Kr (Ks (Ks (Ko (Kg 1 (KL h fun h=>?_))))))))))
 refine Kg 1 (KL h fun h=>?_)
 refine Kg 1 (Kn (Kr (Kc h (fun h=>?_) fun h=>?_)))
 .refine Kgh (Ks (Ko (Kg 1 (Kn (Kr ?_)))))
  cases h;exact Kt
 .exact Kgh (Ku (Kr (Ks (Ks (Ko (Kg 1 (Kn (Kr (Kb (Kv h))))))))))
def B_w_eqSel (p0:Sel) (p1:Sel) (r:Bool):Prop:=
 if (!(sEq p0.fAs p1.fAs))=true then (r=false) else (if (!(sEq p0.fName p1.fName))=true then (r=false) else (if (!(p0.fOne == p1.fOne))=true then (r=false) else (if (p0.fId != p1.fId)=true then (r=false) else (∃y1:Bool,(S_w_eqSelS p0.fKids p1.fKids y1)/\(if (!y1)=true then (r=false) else (r=true))))))
theorem w_eqSel_unf (p0:Sel) (p1:Sel) (r:Bool) (h:B_w_eqSel p0 p1 r):S_w_eqSel p0 p1 r:=by
 refine Kz (p:=l56) (Ks (Ko (Kg 3 (Kn (Kr (Ks (Ks (Ko (Kg 5 (Kn (Kr (Kc h (fun h=>?_) fun h=>?_))))))))))))
 .refine Kgh (Ks (Ko (Kg 1 (Kn (Kr ?_)))))
  cases h;exact Kt
 .refine Kgh (Ku (Kr (Ks (Ks (Ko (Kg 5 (Kn (Kr (Kc h (fun h=>?_) fun h=>?_)))))))))
  .refine Kgh (Ks (Ko (Kg 1 (Kn (Kr ?_)))))
   cases h;exact Kt
  .refine Kgh (Ku (Kr (Ks (Ks (Ko (Kg 5 (Kn (Kr (Kc h (fun h=>?_) fun h=>?_)))))))))
   .refine Kgh (Ks (Ko (Kg 1 (Kn (Kr ?_)))))
    cases h;exact Kt
   .refine Kgh (Ku (Kr (Ks (Ks (Ko (Kg 5 (Kn (Kr (Kc h (fun h=>?_) fun h=>?_)))))))))
    .refine Kgh (Ks (Ko (Kg 1 (Kn (Kr ?_)))))
     cases h;exact Kt
    .refine Kgh (Ku (Kr (Ks (Ks (Ko (Kg 4 (Kk h fun y1 h=>?_)))))))
     refine Kg 1 (Kn (Kr (Kgh (Kc h (fun h=>?_) fun h=>?_))))
     .refine Kgh (Ks (Ko (Kg 1 (Kn (Kr ?_)))))
      cases h;exact Kt
     .refine Kgh (Ku (Kr (Ks (Ko (Kg 1 (Kn (Kr ?_)))))))
      cases h;exact Kt
def B_i_partOk (p0:Part) (r:Bool):Prop:=
 ∃y1:PartFault,(S_i_PartCheck p0 y1)/\(r=(((y1.fAt == 0)&&((y1.fCode == 0)&&true)) != false))
theorem i_partOk_unf (p0:Part) (r:Bool) (h:B_i_partOk p0 r):S_i_partOk p0 r:=by
 refine Kz (p:=l63) (Ks (Ko (Kg 2 (Kn (Kr (Ks (Ko (Kg 1 (Kk h fun y1 h=>?_)))))))))
 refine Kg 3 (Kn (Kr (Kgh ?_)))
 cases h;exact Kt
def B_i_AskOk (p0:(List Sel)) (r:Bool):Prop:=
 ∃y1:Int,(S_i_askMany p0 1 y1)/\(∃y2:Bool,(S_i_in y1 1 24 y2)/\(∃y3:Str,(y2=true->S_i_askText p0 y3)/\(r=(y2&&(decide ((y3.size:Int)<=400))))))
theorem i_AskOk_unf (p0:(List Sel)) (r:Bool) (h:B_i_AskOk p0 r):S_i_AskOk p0 r:=by
 refine Kz (p:=l64) (Ks (Ko (Kg 1 (Kn (Kr (Ks (Ko (Kg 1 (Kk h fun y1 h=>?_)))))))))
 refine Kk h fun y2 h=>?_
 refine Kg 1 ?_
 obtain⟨y3,h3,h⟩:=h
 refine Kq 5 y2 true 6 11 (fun z=>(z&&(decide ((y3.size:Int)<=400)))) (fun hx=>?_) ?_
 .have h3:=h3 hx
  refine Kg 1 (Kw0 (Qk h3 (Kw0 (QLs y3 fun h4=>?_))))
  exact Kg 1 (Kee)
 refine Kg 1 (Kn (Kr ?_))
 cases h;exact Kt
def ss_PartCheck_L2 (v3l1:Int) (v5l2:Int) (p0:Part):LSt:=⟨[(1,.ref 32256 0),(2,.ref 110082 0),(3,I v3l1),(5,I v5l2)],[(32256,.var (CS p0)),(110082,.var [I 0,I 0])],[]⟩
def C_s_PartCheck_L2 (v3l1:Int) (v5l2:Int) (p0:Part) (r:PartFault):Prop:=G gE [.cell 2 2 true] (A r,[]) [.blk 2,.blk 1,.sq k66_16,.lp k66_13,.blk 0,.sq k66_11] (.loop k66_22) (ss_PartCheck_L2 v3l1 v5l2 p0)
def ss_PartCheck_L1 (v3l1:Int) (p0:Part):LSt:=⟨[(1,.ref 32256 0),(2,.ref 110082 0),(3,I v3l1)],[(32256,.var (CS p0)),(110082,.var [I 0,I 0])],[]⟩
def C_s_PartCheck_L1 (v3l1:Int) (p0:Part) (r:PartFault):Prop:=G gE [.cell 2 2 true] (A r,[]) [.blk 0,.sq k66_11] (.loop k66_13) (ss_PartCheck_L1 v3l1 p0)
def B_s_PartCheck_L2 (v3l1:Int) (v5l2:Int) (p0:Part) (r:PartFault):Prop:=
 ∃x5:Ty,(0<=v3l1/\p0.fTypes[v3l1.toNat]?=some x5)/\(x5.fFields.length<=bigLen->(if (decide (v5l2<(x5.fFields.length:Int)))=true then (∃x6:Ty,(0<=v3l1/\p0.fTypes[v3l1.toNat]?=some x6)/\(∃x7:Field,(0<=v5l2/\x6.fFields[v5l2.toNat]?=some x7)/\(if (sEq x7.fOf (⟨#[113,117,101,114,121]⟩:Str))=true then (r=(PartFault.mk (IntKind.i64.wrap (v3l1+1)) 7)) else (C_s_PartCheck_L2 v3l1 (IntKind.i64.wrap (v5l2+1)) p0 r)))) else (C_s_PartCheck_L1 (IntKind.i64.wrap (v3l1+1)) p0 r)))
def B_s_PartCheck_L1 (v3l1:Int) (p0:Part) (r:PartFault):Prop:=
 p0.fTypes.length<=bigLen->(if (decide (v3l1<(p0.fTypes.length:Int)))=true then (∃y4:Int,(S_s_l2Fault p0 v3l1 y4)/\(if (y4 != 0)=true then (r=(PartFault.mk (IntKind.i64.wrap (v3l1+1)) y4)) else (C_s_PartCheck_L2 v3l1 0 p0 r))) else (∃y8:Str,(S_s_l2Write p0 y8)/\(y8.size<=bigStr->(if (decide ((y8.size:Int)>1500))=true then (r=(PartFault.mk 0 6)) else (r=(PartFault.mk 0 0))))))
def B_s_PartCheck (p0:Part) (r:PartFault):Prop:=
 p0.fTypes.length<=bigLen->(if (decide ((p0.fTypes.length:Int)>5))=true then (r=(PartFault.mk 6 6)) else (∃y1:Bool,(S_s_l2Name p0.fName y1)/\(if (!y1)=true then (r=(PartFault.mk 0 1)) else (p0.fTypes.length<=bigLen->(∃x2:Ty,(((p0.fTypes.length:Int) == 0)=false->0<=(0:Int)/\p0.fTypes[(0:Int).toNat]?=some x2)/\(∃x3:Ty,((((p0.fTypes.length:Int) == 0) || (!(sEq x2.fName (⟨#[113,117,101,114,121]⟩:Str))))=false->0<=(0:Int)/\p0.fTypes[(0:Int).toNat]?=some x3)/\(if ((((p0.fTypes.length:Int) == 0) || (!(sEq x2.fName (⟨#[113,117,101,114,121]⟩:Str)))) || (!(sEq x3.fKey sE)))=true then (r=(PartFault.mk 0 7)) else (C_s_PartCheck_L1 0 p0 r))))))))
theorem s_PartCheck_L2_unf (v3l1:Int) (v5l2:Int) (p0:Part) (r:PartFault) (h:B_s_PartCheck_L2 v3l1 v5l2 p0 r):C_s_PartCheck_L2 v3l1 v5l2 p0 r:=by
 refine Ky (Ks (Ks (Ko (Kg 4 (Ki h fun x5 h=>?_)))))
 refine Kg 2 (KL h fun h=>?_)
 refine Kg 1 (Kn (Kr (Kc h (fun h=>?_) fun h=>?_)))
 .refine Kgh (Ku (Kr (Ks (Kb (Ks (Ko (Kg 3 (Ki h fun x6 h=>?_))))))))
  refine Kg 3 (Ki h fun x7 h=>?_)
  refine Kg 3 (Kn (Kr (Kc h (fun h=>?_) fun h=>?_)))
  .refine Kgh (Ks (Ko (Kg 4 (Kn (Kr ?_)))))
   cases h;exact Kt
  .exact Kgh (Ku (Kp (Kr (Ko (Kg 3 (Kn (Kl h)))))))
 .refine Kgh (Kx ?_)
  exact Kp (Kr (Ko (Kg 3 (Kn (Kl h)))))
theorem s_PartCheck_L1_unf (v3l1:Int) (p0:Part) (r:PartFault) (h:B_s_PartCheck_L1 v3l1 p0 r):C_s_PartCheck_L1 v3l1 p0 r:=by
 refine Ky (Ks (Ks (Ko (Kg 3 (KL h fun h=>?_)))))
 refine Kg 1 (Kn (Kr (Kc h (fun h=>?_) fun h=>?_)))
 .refine Kgh (Ku (Kr (Ks (Kb (Ks (Ko (Kg 2 (Kk h fun y4 h=>?_))))))))
  refine Kg 1 (Kn (Kr (Ks (Ks (Ko (Kg 2 (Kn (Kr (Kc h (fun h=>?_) fun h=>?_)))))))))
  .refine Kgh (Ks (Ko (Kg 5 (Kn (Kr ?_)))))
   cases h;exact Kt
  .exact Kgh (Ku (Kr (Ks (Ko (Kg 1 (Kn (Kr (Kb (Kv h)))))))))
 .refine Kgh (Kx ?_)
  refine Kr (Ks (Ks (Ko (Kg 1 (Kk h fun y8 h=>?_)))))
  refine KLs h fun h=>?_
  refine Kg 1 (Kn (Kr (Kgh (Kc h (fun h=>?_) fun h=>?_))))
  .refine Kgh (Ks (Ko (Kg 2 (Kn (Kr ?_)))))
   cases h;exact Kt
  .refine Kgh (Ku (Kr (Ks (Ko (Kg 2 (Kn (Kr ?_)))))))
   cases h;exact Kt
theorem s_PartCheck_unf (p0:Part) (r:PartFault) (h:B_s_PartCheck p0 r):S_s_PartCheck p0 r:=by
 refine Kz (p:=l66) (Ks (Ko (Kg 2 (Kn (Kr (Ks (Ks (Ko (Kg 2 (KL h fun h=>?_))))))))))
 refine Kg 1 (Kn (Kr (Kc h (fun h=>?_) fun h=>?_)))
 .refine Kgh (Ks (Ko (Kg 2 (Kn (Kr ?_)))))
  cases h;exact Kt
 .refine Kgh (Ku (Kr (Ks (Ks (Ko (Kg 2 (Kk h fun y1 h=>?_)))))))
  refine Kg 1 (Kn (Kr (Kc h (fun h=>?_) fun h=>?_)))
  .refine Kgh (Ks (Ko (Kg 2 (Kn (Kr ?_)))))
   cases h;exact Kt
  .refine Kgh (Ku (Kr (Ks (Ks (Ko (Kg 2 (KL h fun h=>?_)))))))
   refine Kg 2 ?_
   obtain⟨x2,h4,h⟩:=h
   refine Kq 7 ((p0.fTypes.length:Int) == 0) false 20 27 (fun z=>(z || (!(sEq x2.fName (⟨#[113,117,101,114,121]⟩:Str))))) (fun hx=>?_) ?_
   .have h4:=h4 hx
    exact Kg 2 (Kw0 (Qi h4 (Kg 3 (Kee))))
   refine Kg 1 ?_
   obtain⟨x3,h5,h⟩:=h
   refine Kq 7 (((p0.fTypes.length:Int) == 0) || (!(sEq x2.fName (⟨#[113,117,101,114,121]⟩:Str)))) false 28 35 (fun z=>(z || (!(sEq x3.fKey sE)))) (fun hx=>?_) ?_
   .have h5:=h5 hx
    exact Kg 2 (Kw0 (Qi h5 (Kg 3 (Kee))))
   refine Kn (Kr (Kc h (fun h=>?_) fun h=>?_))
   .refine Kgh (Ks (Ko (Kg 2 (Kn (Kr ?_)))))
    cases h;exact Kt
   .exact Kgh (Ku (Kr (Ks (Ks (Ko (Kg 1 (Kn (Kr (Kb (Kv h))))))))))
def B_s_AskOk (p0:(List Sel)) (r:Bool):Prop:=
 p0.length<=bigLen->(∃y1:Int,((decide ((p0.length:Int)>0))=true->S_s_l3Ok p0 1 24 y1)/\(∃y2:Str,(((decide ((p0.length:Int)>0))&&(decide (y1>=0)))=true->S_s_l3Write p0 y2)/\(r=(((decide ((p0.length:Int)>0))&&(decide (y1>=0)))&&(decide ((y2.size:Int)<=400))))))
theorem s_AskOk_unf (p0:(List Sel)) (r:Bool) (h:B_s_AskOk p0 r):S_s_AskOk p0 r:=by
 refine Kz (p:=l67) (Ks (Ko (Kg 1 (Kn (Kr (Ks (Ko (Kg 1 (KL h fun h=>?_)))))))))
 refine Kg 2 ?_
 obtain⟨y1,h2,h⟩:=h
 refine Kq 4 (decide ((p0.length:Int)>0)) true 6 10 (fun z=>(z&&(decide (y1>=0)))) (fun hx=>?_) ?_
 .have h2:=h2 hx
  exact Kg 1 (Kw0 (Qk h2 (Kg 1 (Kee))))
 refine Kg 1 ?_
 obtain⟨y2,h3,h⟩:=h
 refine Kq 5 ((decide ((p0.length:Int)>0))&&(decide (y1>=0))) true 11 16 (fun z=>(z&&(decide ((y2.size:Int)<=400)))) (fun hx=>?_) ?_
 .have h3:=h3 hx
  refine Kg 1 (Kw0 (Qk h3 (Kw0 (QLs y2 fun h4=>?_))))
  exact Kg 1 (Kee)
 refine Kg 1 (Kn (Kr ?_))
 cases h;exact Kt
def ss_l3Check_L1 (p1:Str) (p2:(List Sel)) (p3:(List Str)) (v9l1:Int) (p0:Part):LSt:=⟨[(1,S p1),(2,L p2),(3,L p3),(4,.ref 32256 0),(8,.ref 44546 0),(9,I v9l1)],[(32256,.var (CS p0)),(44546,.var [.nils 1,I 0])],[]⟩
def C_s_l3Check_L1 (p1:Str) (p2:(List Sel)) (p3:(List Str)) (v9l1:Int) (p0:Part) (r:AskFault):Prop:=G gE [.cell 8 2 true] (A r,[]) [.blk 0,.sq k68_2] (.loop k68_4) (ss_l3Check_L1 p1 p2 p3 v9l1 p0)
def B_s_l3Check_L1 (p1:Str) (p2:(List Sel)) (p3:(List Str)) (v9l1:Int) (p0:Part) (r:AskFault):Prop:=
 p2.length<=bigLen->(if (decide (v9l1<(p2.length:Int)))=true then (∃x1:Sel,(0<=v9l1/\p2[v9l1.toNat]?=some x1)/\((([]:List Str).length+p3.length<=bigLen)/\(∃y2:Str,(S_s_l3Key x1 y2)/\((([]++p3).length+([y2]:List Str).length<=bigLen)/\(∃y3:Field×Bool,(S_s_l2Get p0 p1 x1.fName y3)/\(∃y4:Bool,(S_s_l2Scalar y3.1.fOf y4)/\(if ((!y3.2) || y3.1.fHidden)=true then (r=(AskFault.mk (([]++p3)++[y2]) 1)) else (if (y4&&(decide ((x1.fKids.length:Int)>0)))=true then (r=(AskFault.mk (([]++p3)++[y2]) 2)) else (if ((!y4)&&((x1.fKids.length:Int) == 0))=true then (r=(AskFault.mk (([]++p3)++[y2]) 3)) else (if (x1.fOne&&((y4 || y3.1.fList) || (!(sEq p1 (⟨#[113,117,101,114,121]⟩:Str)))))=true then (r=(AskFault.mk (([]++p3)++[y2]) 4)) else (∃y5:AskFault,(S_s_l3Check p0 y3.1.fOf x1.fKids (([]++p3)++[y2]) y5)/\(if (y5.fCode != 0)=true then (r=y5) else (C_s_l3Check_L1 p1 p2 p3 (IntKind.i64.wrap (v9l1+1)) p0 r))))))))))))) else (r=(AskFault.mk [] 0)))
def B_s_l3Check (p0:Part) (p1:Str) (p2:(List Sel)) (p3:(List Str)) (r:AskFault):Prop:=
 C_s_l3Check_L1 p1 p2 p3 0 p0 r
theorem s_l3Check_L1_unf (p1:Str) (p2:(List Sel)) (p3:(List Str)) (v9l1:Int) (p0:Part) (r:AskFault) (h:B_s_l3Check_L1 p1 p2 p3 v9l1 p0 r):C_s_l3Check_L1 p1 p2 p3 v9l1 p0 r:=by
 refine Ky (Ks (Ks (Ko (Kg 2 (KL h fun h=>?_)))))
 refine Kg 1 (Kn (Kr (Kc h (fun h=>?_) fun h=>?_)))
 .refine Kgh (Ku (Kr (Ks (Kb (Ks (Ko (Kg 2 (Ki h fun x1 h=>?_))))))))
  refine Kg 3 (Kn (Kr (Ks (Kd (Kbs ([]:List Str) (Kg 1 (Ka h fun h=>?_)))))))
  refine Kg 1 (Kk h fun y2 h=>?_)
  refine Kbs ([y2]:List Str) (Ka h fun h=>?_)
  refine Kg 1 (Kn (Kr (Kgh (Ks (Ko (Kg 4 (Kk h fun y3 h=>?_)))))))
  refine Kg 6 (Kn (Kr (Ks (Ko (Kg 2 (Kk h fun y4 h=>?_))))))
  refine Kg 1 (Kn (Kr (Ks (Kb (Ks (Ko (Kg 3 (Kq 3 (!y3.2) false 47 50 (fun z=>(z || y3.1.fHidden)) (fun hx=>?_) ?_))))))))
  .exact Kg 2 (Kee)
  refine Kg 1 (Kn (Kr (Kc h (fun h=>?_) fun h=>?_)))
  .refine Kgh (Ks (Ko (Kg 3 (Kn (Kr (Kgh ?_))))))
   cases h;exact Kt
  .refine Kgh (Ks (Ko (Kg 2 (Kq 5 y4 true 55 60 (fun z=>(z&&(decide ((x1.fKids.length:Int)>0)))) (fun hx=>?_) ?_))))
   .refine Kg 2 (Kw0 (QL x1.fKids fun h8=>?_))
    exact Kg 1 (Kee)
   refine Kg 1 (Kn (Kr (Kc h (fun h=>?_) fun h=>?_)))
   .refine Kgh (Ks (Ko (Kg 3 (Kn (Kr (Kgh ?_))))))
    cases h;exact Kt
   .refine Kgh (Ks (Ko (Kg 3 (Kq 5 (!y4) true 66 71 (fun z=>(z&&((x1.fKids.length:Int) == 0))) (fun hx=>?_) ?_))))
    .refine Kg 2 (Kw0 (QL x1.fKids fun h9=>?_))
     exact Kg 1 (Kee)
    refine Kg 1 (Kn (Kr (Kc h (fun h=>?_) fun h=>?_)))
    .refine Kgh (Ks (Ko (Kg 3 (Kn (Kr (Kgh ?_))))))
     cases h;exact Kt
    .refine Kgh (Ks (Ko (Kg 3 (Kq 10 x1.fOne true 77 87 (fun z=>(z&&((y4 || y3.1.fList) || (!(sEq p1 (⟨#[113,117,101,114,121]⟩:Str)))))) (fun hx=>?_) ?_))))
     .refine Kg 2 (Kq 3 y4 false 79 82 (fun z=>(z || y3.1.fList)) (fun hx=>?_) ?_)
      .exact Kg 2 (Kee)
      refine Kg 1 (Kq 3 (y4 || y3.1.fList) false 83 86 (fun z=>(z || (!(sEq p1 (⟨#[113,117,101,114,121]⟩:Str))))) (fun hx=>?_) ?_)
      .exact Kg 2 (Kee)
      exact Kee
     refine Kg 1 (Kn (Kr (Kc h (fun h=>?_) fun h=>?_)))
     .refine Kgh (Ks (Ko (Kg 3 (Kn (Kr (Kgh ?_))))))
      cases h;exact Kt
     .refine Kgh (Ku (Kp (Kr (Ks (Ko (Kg 6 (Kk h fun y5 h=>?_)))))))
      refine Kg 2 (Kn (Kr (Kgh (Ks (Ko (Kg 3 (Kn (Kr (Kc h (fun h=>?_) fun h=>?_)))))))))
      .refine Kgh (Ks (Ko (Kg 2 (Kn (Kr (Kgh ?_))))))
       cases h;exact Kt
      .exact Kgh (Ku (Kp (Kr (Ko (Kg 3 (Kn (Kl h)))))))
 .refine Kgh (Kx ?_)
  refine Kr (Ks (Ko (Kg 2 (Kn (Kr (Kgh (Kgh ?_)))))))
  cases h;exact Kt
theorem s_l3Check_unf (p0:Part) (p1:Str) (p2:(List Sel)) (p3:(List Str)) (r:AskFault) (h:B_s_l3Check p0 p1 p2 p3 r):S_s_l3Check p0 p1 p2 p3 r:=by
 exact Kz (p:=l68) (Ks (Ko (Kg 2 (Kn (Kr (Ks (Ks (Ko (Kg 1 (Kn (Kr (Kb (Kv h)))))))))))))
def sw_markTypeS_L1 (p0:(List Ty)) (v1l1:Int) (v5l1:Int) (o0_xsl1:List Ty):LSt:=⟨[(0,.arr 29696 p0.length),(1,I v1l1),(5,I v5l1)],[(29696,.rows 3 (Enc.E o0_xsl1) zh1 none)],[29696]⟩
def C_w_markTypeS_L1 (p0:(List Ty)) (v1l1:Int) (v5l1:Int) (o0_xsl1:List Ty) (r:Int×(List Ty)):Prop:=G gE [.tmp 4] (I r.1,[some (.rows 3 (Enc.E r.2) zh1 none)]) [.blk 0,.sq k83_2] (.loop k83_4) (sw_markTypeS_L1 p0 v1l1 v5l1 o0_xsl1)
def B_w_markTypeS_L1 (p0:(List Ty)) (v1l1:Int) (v5l1:Int) (o0_xsl1:List Ty) (r:Int×(List Ty)):Prop:=
 if (decide (v5l1<(p0.length:Int)))=true then (∃y1:Str,(S_w_markText v1l1 y1)/\(∃x2:Ty,(0<=v5l1/\o0_xsl1[v5l1.toNat]?=some x2)/\(∃y3:Str,(S_w_markText (IntKind.i64.wrap (v1l1+1)) y3)/\(∃y4:Int×(List Field),(S_w_markFieldS x2.fFields (IntKind.i64.wrap ((IntKind.i64.wrap (v1l1+1))+1)) y4)/\(C_w_markTypeS_L1 p0 y4.1 (IntKind.i64.wrap (v5l1+1)) (o0_xsl1.set v5l1.toNat (Ty.mk y1 y3 y4.2)) r))))) else (r=(v1l1,o0_xsl1))
def B_w_markTypeS (p0:(List Ty)) (p1:Int) (r:Int×(List Ty)):Prop:=
 C_w_markTypeS_L1 p0 p1 0 p0 r
theorem w_markTypeS_L1_unf (p0:(List Ty)) (v1l1:Int) (v5l1:Int) (o0_xsl1:List Ty) (r:Int×(List Ty)) (h:B_w_markTypeS_L1 p0 v1l1 v5l1 o0_xsl1 r):C_w_markTypeS_L1 p0 v1l1 v5l1 o0_xsl1 r:=by
 refine Ky (Ks (Ks (Ko (Kg 4 (Kn (Kr (Kc h (fun h=>?_) fun h=>?_)))))))
 .refine Kgh (Ku (Kr (Ks (Kb (Ks (Ko (Kg 3 (Kk h fun y1 h=>?_))))))))
  obtain⟨x2,hx3,h⟩:=h
  refine Kpr hx3 (Kg 1 (Kst 0 (Ty.mk y1 x2.fKey x2.fFields) hx3.2 (Kn (Kr (Ks (Ko (Kg 3 (Kn (Kr (Ks (Ko (Kg 3 (Kk h fun y3 h=>?_)))))))))))))
  refine Kpr (fset (Ty.mk y1 x2.fKey x2.fFields) hx3) (Kg 1 (Kss 1 (Ty.mk y1 x2.fKey x2.fFields) (Ty.mk y1 y3 x2.fFields) hx3.2 (Kn (Kr (Ks (Ko (Kg 3 (Kn (Kr (Ktk x2.fFields (sget (Ty.mk y1 y3 x2.fFields) hx3.2) (Ko (Kg 2 (Kpr (fset (Ty.mk y1 y3 x2.fFields) hx3) ?_)))))))))))))
  refine Kg 1 (Klh 2 zh1 (2,47616,x2.fFields.length) (sget (Ty.mk y1 y3 x2.fFields) hx3.2) (Kg 1 (Kk h fun y4 h=>?_)))
  exact Kg 1 (Kn (Kp (Kr (Kps 2 47616 (Ty.mk y1 y3 x2.fFields) (Ty.mk y1 y3 y4.2) y4.2 hx3.2 (Ko (Kg 3 (Kn (Kl h))))))))
 .refine Kgh (Kx ?_)
  refine Kr (Ks (Ko (Kg 2 (Kn (Kr ?_)))))
  cases h;exact Kt
theorem w_markTypeS_unf (p0:(List Ty)) (p1:Int) (r:Int×(List Ty)) (h:B_w_markTypeS p0 p1 r):S_w_markTypeS p0 p1 r:=by
 exact Kz (p:=l83) (Ks (Ko (Kg 1 (Kn (Kr (Ks (Ks (Ko (Kg 1 (Kn (Kr (Kb (Kv h)))))))))))))
def sw_markText_L1 (v0l1:Int) (v3l1:Str):LSt:=⟨[(0,I v0l1),(3,S v3l1)],[],[]⟩
def C_w_markText_L1 (v0l1:Int) (v3l1:Str) (r:Str):Prop:=G gE [.tmp 2] (S r,[]) [.blk 0,.sq k84_6] (.loop k84_7) (sw_markText_L1 v0l1 v3l1)
def B_w_markText_L1 (v0l1:Int) (v3l1:Str) (r:Str):Prop:=
 if (decide (v0l1>0))=true then (((⟨([(u8of (IntKind.i64.wrap (48+(v0l1.tmod 10))))]:List UInt8).toArray⟩:Str).size+v3l1.size<=bigStr)/\(C_w_markText_L1 (IntKind.i64.wrap (v0l1.tdiv 10)) ((⟨([(u8of (IntKind.i64.wrap (48+(v0l1.tmod 10))))]:List UInt8).toArray⟩:Str)++v3l1) r)) else (((⟨#[109]⟩:Str).size+v3l1.size<=bigStr)/\(r=((⟨#[109]⟩:Str)++v3l1)))
def B_w_markText (p0:Int) (r:Str):Prop:=
 if (decide (p0<=0))=true then (r=(⟨#[109,48]⟩:Str)) else (C_w_markText_L1 p0 sE r)
theorem w_markText_L1_unf (v0l1:Int) (v3l1:Str) (r:Str) (h:B_w_markText_L1 v0l1 v3l1 r):C_w_markText_L1 v0l1 v3l1 r:=by
 refine Ky (Ks (Ks (Ko (Kg 2 (Kn (Kr (Kc h (fun h=>?_) fun h=>?_)))))))
 .refine Kgh (Ku (Kr (Kb (Ks (Ko (Kg 1 (Kre (k := .i64) v0l1 10 (by decide) (Kg 1 (Kcv (k := .i64) (IntKind.i64.wrap (48+(v0l1.tmod 10))) (Kbs ([(u8of (IntKind.i64.wrap (48+(v0l1.tmod 10))))]:List UInt8) (Kts ([(u8of (IntKind.i64.wrap (48+(v0l1.tmod 10))))]:List UInt8) (Kg 1 (Kct h fun h=>?_)))))))))))))
  exact Kg 1 (Kn (Kr (Ko (Kg 1 (Kqu (k := .i64) v0l1 10 (by decide) (Kg 1 (Kn (Kp (Kl h)))))))))
 .refine Kgh (Kx ?_)
  refine Kr (Ks (Ko (Kg 1 (Kct h fun h=>?_))))
  refine Kg 1 (Kn (Kr ?_))
  cases h;exact Kt
theorem w_markText_unf (p0:Int) (r:Str) (h:B_w_markText p0 r):S_w_markText p0 r:=by
 refine Kz (p:=l84) (Ks (Ko (Kg 1 (Kn (Kr (Ks (Ks (Ko (Kg 2 (Kn (Kr (Kc h (fun h=>?_) fun h=>?_))))))))))))
 .refine Kgh (Ks (Ko (Kg 1 (Kn (Kr ?_)))))
  cases h;exact Kt
 .exact Kgh (Ku (Kr (Ks (Ko (Kg 1 (Kn (Kr (Ks (Kb (Kv h))))))))))
def B_w_szType (p0:Ty) (p1:Int) (r:Int):Prop:=
 p0.fName.size<=bigStr->(if (decide ((IntKind.i64.wrap (p1-(p0.fName.size:Int)))<0))=true then (r=(-1)) else (p0.fKey.size<=bigStr->(if (decide ((IntKind.i64.wrap ((IntKind.i64.wrap (p1-(p0.fName.size:Int)))-(p0.fKey.size:Int)))<0))=true then (r=(-1)) else (∃y1:Int,(S_w_szFieldS p0.fFields (IntKind.i64.wrap ((IntKind.i64.wrap (p1-(p0.fName.size:Int)))-(p0.fKey.size:Int))) y1)/\(if (decide (y1<0))=true then (r=(-1)) else (r=y1))))))
theorem w_szType_unf (p0:Ty) (p1:Int) (r:Int) (h:B_w_szType p0 p1 r):S_w_szType p0 p1 r:=by
 refine Kz (p:=l91) (Ks (Ko (Kg 2 (Kn (Kr (Ks (Ko (Kg 3 (KLs h fun h=>?_)))))))))
 refine Kg 2 (Kn (Kr (Ks (Ks (Ko (Kg 2 (Kn (Kr (Kc h (fun h=>?_) fun h=>?_)))))))))
 .refine Kgh (Ks (Ko (Kg 1 (Kn (Kr ?_)))))
  cases h;exact Kt
 .refine Kgh (Ku (Kr (Ks (Ko (Kg 3 (KLs h fun h=>?_))))))
  refine Kg 2 (Kn (Kr (Ks (Ks (Ko (Kg 2 (Kn (Kr (Kc h (fun h=>?_) fun h=>?_)))))))))
  .refine Kgh (Ks (Ko (Kg 1 (Kn (Kr ?_)))))
   cases h;exact Kt
  .refine Kgh (Ku (Kr (Ks (Ko (Kg 3 (Kk h fun y1 h=>?_))))))
   refine Kg 1 (Kn (Kr (Kgh (Ks (Ks (Ko (Kg 2 (Kn (Kr (Kc h (fun h=>?_) fun h=>?_))))))))))
   .refine Kgh (Ks (Ko (Kg 1 (Kn (Kr ?_)))))
    cases h;exact Kt
   .refine Kgh (Ku (Kr (Ks (Ko (Kg 2 (Kn (Kr ?_)))))))
    cases h;exact Kt
def B_s_l2Get (p0:Part) (p1:Str) (p2:Str) (r:Field×Bool):Prop:=
 ∃y1:Int,(S_s_l2Type p0 p1 y1)/\(if (decide (y1<0))=true then (r=((Field.mk sE sE false false false false false []),false)) else (∃x2:Ty,(0<=y1/\p0.fTypes[y1.toNat]?=some x2)/\(∃y3:Int,(S_s_l2Field x2 p2 y3)/\(if (decide (y3<0))=true then (r=((Field.mk sE sE false false false false false []),false)) else (∃x4:Ty,(0<=y1/\p0.fTypes[y1.toNat]?=some x4)/\(∃x5:Field,(0<=y3/\x4.fFields[y3.toNat]?=some x5)/\(r=(x5,true))))))))
theorem s_l2Get_unf (p0:Part) (p1:Str) (p2:Str) (r:Field×Bool) (h:B_s_l2Get p0 p1 p2 r):S_s_l2Get p0 p1 p2 r:=by
 refine Kz (p:=l92) (Ks (Ko (Kg 3 (Kn (Kr (Ks (Ko (Kg 2 (Kk h fun y1 h=>?_)))))))))
 refine Kg 1 (Kn (Kr (Ks (Ks (Ko (Kg 2 (Kn (Kr (Kc h (fun h=>?_) fun h=>?_)))))))))
 .refine Kgh (Ks (Ko (Kg 3 (Kn (Kr (Kgh (Kgh ?_)))))))
  cases h;exact Kt
 .refine Kgh (Ku (Kr (Ks (Ko (Kg 3 (Ki h fun x2 h=>?_))))))
  refine Kg 2 (Kk h fun y3 h=>?_)
  refine Kg 1 (Kn (Kr (Ks (Ks (Ko (Kg 2 (Kn (Kr (Kc h (fun h=>?_) fun h=>?_)))))))))
  .refine Kgh (Ks (Ko (Kg 3 (Kn (Kr (Kgh (Kgh ?_)))))))
   cases h;exact Kt
  .refine Kgh (Ku (Kr (Ks (Ko (Kg 3 (Ki h fun x4 h=>?_))))))
   refine Kg 3 (Ki h fun x5 h=>?_)
   refine Kg 3 (Kn (Kr (Kgh ?_)))
   cases h;exact Kt
def B_w_toType (p0:Ty) (r:Ty):Prop:=
 ∃y1:(List Field),(S_w_toFieldS p0.fFields y1)/\(r=(Ty.mk p0.fName p0.fKey y1))
theorem w_toType_unf (p0:Ty) (r:Ty) (h:B_w_toType p0 r):S_w_toType p0 r:=by
 refine Kz (p:=l93) (Ks (Ko (Kg 2 (Kn (Kr (Ks (Ko (Kg 1 (Kn (Kr (Ks (Ko (Kg 4 ?_)))))))))))))
 refine Kn (Kr (Ks (Ko (Kg 4 (Kn (Kr (Ks (Ko (Kg 2 (Kk h fun y1 h=>?_))))))))))
 refine Kg 2 (Kn (Kr (Kgh (Ks (Ko (Kg 2 (Kn (Kr (Kgh ?_)))))))))
 cases h;exact Kt
def B_i_Part_field (p0:Part) (p1:Str) (p2:Str) (r:Field×Bool):Prop:=
 ∃y1:Ty×Bool,(S_i_Part_find p0 p1 y1)/\(∃y2:Field×Bool,(S_i_Type_find y1.1 p2 y2)/\(r=(y2.1,y2.2)))
theorem i_Part_field_unf (p0:Part) (p1:Str) (p2:Str) (r:Field×Bool) (h:B_i_Part_field p0 p1 p2 r):S_i_Part_field p0 p1 p2 r:=by
 refine Kz (p:=l94) (Ks (Ko (Kg 3 (Kn (Kr (Ks (Ko (Kg 2 (Kk h fun y1 h=>?_)))))))))
 refine Kg 6 (Kn (Kr (Kgh (Ks (Ko (Kg 2 (Kk h fun y2 h=>?_)))))))
 refine Kg 4 (Kn (Kr (Kgh ?_)))
 cases h;exact Kt
def B_i_Field_ofWord (p0:Field) (r:Bool):Prop:=
 r=(((sEq p0.fOf (⟨#[105,110,116]⟩:Str)) || (sEq p0.fOf (⟨#[116,101,120,116]⟩:Str))) || (sEq p0.fOf (⟨#[98,111,111,108]⟩:Str)))
theorem i_Field_ofWord_unf (p0:Field) (r:Bool) (h:B_i_Field_ofWord p0 r):S_i_Field_ofWord p0 r:=by
 refine Kz (p:=l95) (Ks (Ko (Kg 2 (Kn (Kr (Ks (Ko (Kg 4 (Kq 4 (sEq p0.fOf (⟨#[105,110,116]⟩:Str)) false 6 10 (fun z=>(z || (sEq p0.fOf (⟨#[116,101,120,116]⟩:Str)))) (fun hx=>?_) ?_)))))))))
 .exact Kg 3 (Kee)
 refine Kg 1 (Kq 4 ((sEq p0.fOf (⟨#[105,110,116]⟩:Str)) || (sEq p0.fOf (⟨#[116,101,120,116]⟩:Str))) false 11 15 (fun z=>(z || (sEq p0.fOf (⟨#[98,111,111,108]⟩:Str)))) (fun hx=>?_) ?_)
 .exact Kg 3 (Kee)
 refine Kg 1 (Kn (Kr (Kgh ?_)))
 cases h;exact Kt
def B_w_eqType (p0:Ty) (p1:Ty) (r:Bool):Prop:=
 if (!(sEq p0.fName p1.fName))=true then (r=false) else (if (!(sEq p0.fKey p1.fKey))=true then (r=false) else (∃y1:Bool,(S_w_eqFieldS p0.fFields p1.fFields y1)/\(if (!y1)=true then (r=false) else (r=true))))
theorem w_eqType_unf (p0:Ty) (p1:Ty) (r:Bool) (h:B_w_eqType p0 p1 r):S_w_eqType p0 p1 r:=by
 refine Kz (p:=l96) (Ks (Ko (Kg 3 (Kn (Kr (Ks (Ks (Ko (Kg 5 (Kn (Kr (Kc h (fun h=>?_) fun h=>?_))))))))))))
 .refine Kgh (Ks (Ko (Kg 1 (Kn (Kr ?_)))))
  cases h;exact Kt
 .refine Kgh (Ku (Kr (Ks (Ks (Ko (Kg 5 (Kn (Kr (Kc h (fun h=>?_) fun h=>?_)))))))))
  .refine Kgh (Ks (Ko (Kg 1 (Kn (Kr ?_)))))
   cases h;exact Kt
  .refine Kgh (Ku (Kr (Ks (Ks (Ko (Kg 4 (Kk h fun y1 h=>?_)))))))
   refine Kg 1 (Kn (Kr (Kgh (Kc h (fun h=>?_) fun h=>?_))))
   .refine Kgh (Ks (Ko (Kg 1 (Kn (Kr ?_)))))
    cases h;exact Kt
   .refine Kgh (Ku (Kr (Ks (Ko (Kg 1 (Kn (Kr ?_)))))))
    cases h;exact Kt
def B_s_l1Dec (p0:Int) (r:Str):Prop:=
 if (decide (p0<(-9223372036854775807)))=true then (r=(⟨#[45,57,50,50,51,51,55,50,48,51,54,56,53,52,55,55,53,56,48,56]⟩:Str)) else (if (decide (p0<0))=true then (∃y1:Str,(S_s_l1Dec (IntKind.i64.wrap (0-p0)) y1)/\(((⟨#[45]⟩:Str).size+y1.size<=bigStr)/\(r=((⟨#[45]⟩:Str)++y1)))) else (if (decide (p0<10))=true then (r=(⟨([(u8of (IntKind.i64.wrap (48+p0)))]:List UInt8).toArray⟩:Str)) else (∃y2:Str,(S_s_l1Dec (IntKind.i64.wrap (p0.tdiv 10)) y2)/\((y2.size+(⟨([(u8of (IntKind.i64.wrap (48+(p0.tmod 10))))]:List UInt8).toArray⟩:Str).size<=bigStr)/\(r=(y2++(⟨([(u8of (IntKind.i64.wrap (48+(p0.tmod 10))))]:List UInt8).toArray⟩:Str)))))))
theorem s_l1Dec_unf (p0:Int) (r:Str) (h:B_s_l1Dec p0 r):S_s_l1Dec p0 r:=by
 refine Kz (p:=l98) (Ks (Ko (Kg 1 (Kn (Kr (Ks (Ks (Ko (Kg 2 (Kn (Kr (Kc h (fun h=>?_) fun h=>?_))))))))))))
 .refine Kgh (Ks (Ko (Kg 1 (Kn (Kr ?_)))))
  cases h;exact Kt
 .refine Kgh (Ku (Kr (Ks (Ks (Ko (Kg 2 (Kn (Kr (Kc h (fun h=>?_) fun h=>?_)))))))))
  .refine Kgh (Ks (Ko (Kg 2 (Kk h fun y1 h=>?_))))
   refine Kct h fun h=>?_
   refine Kg 1 (Kn (Kr ?_))
   cases h;exact Kt
  .refine Kgh (Ku (Kr (Ks (Ks (Ko (Kg 2 (Kn (Kr (Kc h (fun h=>?_) fun h=>?_)))))))))
   .refine Kgh (Ks (Ko (Kg 2 (Kcv (k := .i64) (IntKind.i64.wrap (48+p0)) (Kbs ([(u8of (IntKind.i64.wrap (48+p0)))]:List UInt8) (Kts ([(u8of (IntKind.i64.wrap (48+p0)))]:List UInt8) (Kg 1 (Kn (Kr ?_)))))))))
    cases h;exact Kt
   .refine Kgh (Ku (Kr (Ks (Kd (Kg 1 (Kqu (k := .i64) p0 10 (by decide) (Kk h fun y2 h=>?_)))))))
    refine Kg 1 (Kre (k := .i64) p0 10 (by decide) (Kg 1 (Kcv (k := .i64) (IntKind.i64.wrap (48+(p0.tmod 10))) (Kbs ([(u8of (IntKind.i64.wrap (48+(p0.tmod 10))))]:List UInt8) (Kts ([(u8of (IntKind.i64.wrap (48+(p0.tmod 10))))]:List UInt8) (Kct h fun h=>?_))))))
    refine Kg 1 (Kn (Kr (Kgh ?_)))
    cases h;exact Kt
def si_PartCheck_L1 (p0:Part) (v42l1:Int):LSt:=⟨[(1,.ref 32256 0),(2,.ref 110082 0),(41,I (p0.fTypes.length:Int)),(42,I v42l1)],[(32256,.var (CS p0)),(110082,.var [I 0,I 0])],[]⟩
def C_i_PartCheck_L1 (p0:Part) (v42l1:Int) (r:PartFault):Prop:=G gE [.cell 2 2 true] (A r,[]) [.blk 1,.sq k103_9] (.loop k103_11) (si_PartCheck_L1 p0 v42l1)
def B_i_PartCheck_L1 (p0:Part) (v42l1:Int) (r:PartFault):Prop:=
 if (decide (v42l1<(p0.fTypes.length:Int)))=true then (∃y4:Int,(S_i_Part_typeFault p0 v42l1 y4)/\(if (decide (y4>0))=true then (r=(PartFault.mk (IntKind.i64.wrap (v42l1+1)) y4)) else (C_i_PartCheck_L1 p0 (IntKind.i64.wrap (v42l1+1)) r))) else (∃y5:Str,(S_i_Part_write p0 y5)/\(y5.size<=bigStr->(if (decide ((y5.size:Int)>1500))=true then (r=(PartFault.mk 0 6)) else (r=(PartFault.mk 0 0)))))
def B_i_PartCheck (p0:Part) (r:PartFault):Prop:=
 p0.fTypes.length<=bigLen->(if (decide ((p0.fTypes.length:Int)>5))=true then (r=(PartFault.mk 6 6)) else (∃y1:Bool,(S_i_isName p0.fName y1)/\(if (!y1)=true then (r=(PartFault.mk 0 1)) else (p0.fTypes.length<=bigLen->(∃x2:Ty,(((p0.fTypes.length:Int) == 0)=false->0<=(0:Int)/\p0.fTypes[(0:Int).toNat]?=some x2)/\(∃x3:Ty,((((p0.fTypes.length:Int) == 0) || (!(sEq x2.fName (⟨#[113,117,101,114,121]⟩:Str))))=false->0<=(0:Int)/\p0.fTypes[(0:Int).toNat]?=some x3)/\(if ((((p0.fTypes.length:Int) == 0) || (!(sEq x2.fName (⟨#[113,117,101,114,121]⟩:Str)))) || (!(sEq x3.fKey sE)))=true then (r=(PartFault.mk 0 7)) else (p0.fTypes.length<=bigLen->(C_i_PartCheck_L1 p0 0 r)))))))))
theorem i_PartCheck_L1_unf (p0:Part) (v42l1:Int) (r:PartFault) (h:B_i_PartCheck_L1 p0 v42l1 r):C_i_PartCheck_L1 p0 v42l1 r:=by
 refine Ky (Ks (Ko (Kg 1 (Kn (Kr (Ks (Kc h (fun h=>?_) fun h=>?_)))))))
 .refine Kgh (Ku (Kr (Ks (Kb (Ks (Ko (Kg 2 (Kn (Kr (Ks (Ko (Kg 2 (Kk h fun y4 h=>?_)))))))))))))
  refine Kg 1 (Kn (Kr (Ks (Ko (Kg 2 (Kn (Kr (Kc h (fun h=>?_) fun h=>?_))))))))
  .refine Kgh (Ks (Ko (Kg 5 (Kn (Kr ?_)))))
   cases h;exact Kt
  .exact Kgh (Ku (Kp (Kr (Ko (Kg 2 (Kn (Kl h)))))))
 .refine Kgh (Kx ?_)
  refine Kr (Ks (Ks (Ko (Kg 1 (Kk h fun y5 h=>?_)))))
  refine KLs h fun h=>?_
  refine Kg 1 (Kn (Kr (Kgh (Kc h (fun h=>?_) fun h=>?_))))
  .refine Kgh (Ks (Ko (Kg 2 (Kn (Kr ?_)))))
   cases h;exact Kt
  .refine Kgh (Ku (Kr (Ks (Ko (Kg 2 (Kn (Kr ?_)))))))
   cases h;exact Kt
theorem i_PartCheck_unf (p0:Part) (r:PartFault) (h:B_i_PartCheck p0 r):S_i_PartCheck p0 r:=by
 refine Kz (p:=l103) (Ks (Ko (Kg 2 (Kn (Kr (Ks (Kb (Ks (Ko (Kg 2 (KL h fun h=>?_)))))))))))
 refine Kg 2 (Kn (Kr (Kc h (fun h=>?_) fun h=>?_)))
 .refine Kgh (Ks (Ko (Kg 2 (Kn (Kr ?_)))))
  cases h;exact Kt
 .refine Kgh (Ks (Ko (Kg 2 (Kk h fun y1 h=>?_))))
  refine Kg 2 (Kn (Kr (Kc h (fun h=>?_) fun h=>?_)))
  .refine Kgh (Ks (Ko (Kg 2 (Kn (Kr ?_)))))
   cases h;exact Kt
  .refine Kgh (Ks (Ko (Kg 2 (KL h fun h=>?_))))
   refine Kg 2 ?_
   obtain⟨x2,h4,h⟩:=h
   refine Kq 7 ((p0.fTypes.length:Int) == 0) false 22 29 (fun z=>(z || (!(sEq x2.fName (⟨#[113,117,101,114,121]⟩:Str))))) (fun hx=>?_) ?_
   .have h4:=h4 hx
    exact Kg 2 (Kw0 (Qi h4 (Kg 3 (Kee))))
   refine Kg 1 ?_
   obtain⟨x3,h5,h⟩:=h
   refine Kq 7 (((p0.fTypes.length:Int) == 0) || (!(sEq x2.fName (⟨#[113,117,101,114,121]⟩:Str)))) false 30 37 (fun z=>(z || (!(sEq x3.fKey sE)))) (fun hx=>?_) ?_
   .have h5:=h5 hx
    exact Kg 2 (Kw0 (Qi h5 (Kg 3 (Kee))))
   refine Kg 1 (Kn (Kr (Kc h (fun h=>?_) fun h=>?_)))
   .refine Kgh (Ks (Ko (Kg 2 (Kn (Kr ?_)))))
    cases h;exact Kt
   .refine Kgh (Ku (Kp (Kr (Ks (Ks (Ko (Kg 2 (KL h fun h=>?_))))))))
    exact Kg 1 (Kn (Kr (Kb (Kv h))))
def B_i_in (p0:Int) (p1:Int) (p2:Int) (r:Bool):Prop:=
 r=((decide (p0>=p1))&&(decide (p0<=p2)))
theorem i_in_unf (p0:Int) (p1:Int) (p2:Int) (r:Bool) (h:B_i_in p0 p1 p2 r):S_i_in p0 p1 p2 r:=by
 refine Kz (p:=l104) (Ks (Ko (Kg 1 (Kn (Kr (Ks (Ko (Kg 4 (Kq 4 (decide (p0>=p1)) true 10 14 (fun z=>(z&&(decide (p0<=p2)))) (fun hx=>?_) ?_)))))))))
 .exact Kg 3 (Kee)
 refine Kg 1 (Kn (Kr ?_))
 cases h;exact Kt
def si_askMany_J2 (p1:Int) (v5j2:Int) (p0:(List Sel)) (v23l1:Int):LSt:=⟨[(1,I p1),(5,I v5j2),(21,L p0),(22,I (p0.length:Int)),(23,I v23l1)],[],[]⟩
def si_askMany_L1 (p1:Int) (v5l1:Int) (p0:(List Sel)) (v23l1:Int):LSt:=⟨[(1,I p1),(5,I v5l1),(21,L p0),(22,I (p0.length:Int)),(23,I v23l1)],[],[]⟩
def C_i_askMany_L1 (p1:Int) (v5l1:Int) (p0:(List Sel)) (v23l1:Int) (r:Int):Prop:=G gE [.tmp 4] (I r,[]) [.blk 0,.sq k105_6] (.loop k105_8) (si_askMany_L1 p1 v5l1 p0 v23l1)
def si_askMany_J1 (v5j1:Int):LSt:=⟨[(5,I v5j1)],[],[]⟩
def B_i_askMany_J1 (v5j1:Int) (r:Int):Prop:=
 r=v5j1
def B_i_askMany_J2 (p1:Int) (v5j2:Int) (p0:(List Sel)) (v23l1:Int) (r:Int):Prop:=
 if (decide (v5j2>24))=true then (B_i_askMany_J1 v5j2 r) else (C_i_askMany_L1 p1 v5j2 p0 (IntKind.i64.wrap (v23l1+1)) r)
def B_i_askMany_L1 (p1:Int) (v5l1:Int) (p0:(List Sel)) (v23l1:Int) (r:Int):Prop:=
 if (decide (v23l1<(p0.length:Int)))=true then (∃x4:Sel,(0<=v23l1/\p0[v23l1.toNat]?=some x4)/\(x4.fKids.length<=bigLen->(if (decide ((x4.fKids.length:Int)>0))=true then (∃y5:Int,(S_i_askMany x4.fKids (IntKind.i64.wrap (p1+1)) y5)/\(B_i_askMany_J2 p1 (IntKind.i64.wrap (v5l1+y5)) p0 v23l1 r)) else (B_i_askMany_J2 p1 v5l1 p0 v23l1 r)))) else (B_i_askMany_J1 v5l1 r)
def B_i_askMany (p0:(List Sel)) (p1:Int) (r:Int):Prop:=
 ∃y1:(List Str),((decide (p1>5))=false->S_i_unders p0 y1)/\(∃y2:Bool,((decide (p1>5))=false->S_i_twice y1 y2)/\(∃y3:Bool,(((decide (p1>5)) || y2)=false->S_slices_ContainsFunc_Sel p0 (.clo 161 []:PV) y3)/\(if (((decide (p1>5)) || y2) || y3)=true then (r=25) else (p0.length<=bigLen->(p0.length<=bigLen->(C_i_askMany_L1 p1 (p0.length:Int) p0 0 r))))))
theorem i_askMany_J1_unf (v5j1:Int) (r:Int) (h:B_i_askMany_J1 v5j1 r):G gE [.tmp 4] (I r,[]) [] (.seq (.ops [oD 41 (.mv 5) [5],oD 4 (.mv 41) [41]]) k105_16) (si_askMany_J1 v5j1):=by
 refine Ks (Ko (Kg 2 (Kn (Kr ?_))))
 cases h;exact Kt
theorem i_askMany_J2_unf (p1:Int) (v5j2:Int) (p0:(List Sel)) (v23l1:Int) (r:Int) (h:B_i_askMany_J2 p1 v5j2 p0 v23l1 r):G gE [.tmp 4] (I r,[]) [.blk 1,.sq k105_11,.lp k105_8,.blk 0,.sq k105_6] (.seq (.ops [oD 38 (.mv 5) [],oD 39 (.bin .gtr 38 (cI 24)) [38]]) k105_15) (si_askMany_J2 p1 v5j2 p0 v23l1):=by
 refine Ks (Ko (Kg 2 (Kn (Kr (Kc h (fun h=>?_) fun h=>?_)))))
 .refine Kgh (Kx ?_)
  refine Kr ?_
  exact Kj (i_askMany_J1_unf v5j2 r h)
 .exact Kgh (Ku (Kp (Kr (Ko (Kg 2 (Kn (Kl h)))))))
theorem i_askMany_L1_unf (p1:Int) (v5l1:Int) (p0:(List Sel)) (v23l1:Int) (r:Int) (h:B_i_askMany_L1 p1 v5l1 p0 v23l1 r):C_i_askMany_L1 p1 v5l1 p0 v23l1 r:=by
 refine Ky (Ks (Ko (Kg 1 (Kn (Kr (Ks (Kc h (fun h=>?_) fun h=>?_)))))))
 .refine Kgh (Ku (Kr (Ks (Kb (Ks (Ko (Ki h fun x4 h=>?_)))))))
  refine Kg 3 (Kn (Kr (Ks (Ks (Ko (Kg 2 (KL h fun h=>?_)))))))
  refine Kg 1 (Kn (Kr (Kc h (fun h=>?_) fun h=>?_)))
  .refine Kgh (Ko (Kg 5 (Kk h fun y5 h=>?_)))
   refine Kg 2 (Kn (Kr ?_))
   exact Kj (i_askMany_J2_unf p1 (IntKind.i64.wrap (v5l1+y5)) p0 v23l1 r h)
  .refine Kgh (Ku (Kr ?_))
   exact Kj (i_askMany_J2_unf p1 v5l1 p0 v23l1 r h)
 .refine Kgh (Kx ?_)
  refine Kr ?_
  exact Kj (i_askMany_J1_unf v5l1 r h)
theorem i_askMany_unf (p0:(List Sel)) (p1:Int) (r:Int) (h:B_i_askMany p0 p1 r):S_i_askMany p0 p1 r:=by
 refine Kz (p:=l105) (Ks (Ko (Kg 1 (Kn (Kr (Ks (Ks (Ko (Kg 3 ?_)))))))))
 obtain⟨y1,h1,h⟩:=h
 obtain⟨y2,h2,h⟩:=h
 refine Kq 4 (decide (p1>5)) false 10 14 (fun z=>(z || y2)) (fun hx=>?_) ?_
 .have h1:=h1 hx
  have h2:=h2 hx
  exact Kg 1 (Kw0 (Qk h1 (Kw0 (Qk h2 (Kee)))))
 refine Kg 1 ?_
 obtain⟨y3,h3,h⟩:=h
 refine Kq 3 ((decide (p1>5)) || y2) false 15 18 (fun z=>(z || y3)) (fun hx=>?_) ?_
 .have h3:=h3 hx
  exact Kg 1 (Kw0 (Qk h3 (Kee)))
 refine Kn (Kr (Kc h (fun h=>?_) fun h=>?_))
 .refine Kgh (Ks (Ko (Kg 1 (Kn (Kr ?_)))))
  cases h;exact Kt
 .refine Kgh (Ku (Kr (Ks (Ko (Kg 1 (KL h fun h=>?_))))))
  refine Kg 1 (Kn (Kr (Ks (Ks (Ko (Kg 1 (KL h fun h=>?_)))))))
  exact Kg 1 (Kn (Kr (Kb (Kv h))))
def si_askText_J3 (v3l1:List Str) (v6j3:Str) (p0:(List Sel)) (v9l1:Int):LSt:=⟨[(3,O 4 v3l1),(6,S v6j3),(7,L p0),(8,I (p0.length:Int)),(9,I v9l1)],[],[]⟩
def si_askText_J2 (v3l1:List Str) (v6j2:Str) (p0:(List Sel)) (v9l1:Int) (x1:Sel):LSt:=⟨[(3,O 4 v3l1),(5,.ref 53760 0),(6,S v6j2),(7,L p0),(8,I (p0.length:Int)),(9,I v9l1)],[(53760,.var (CS x1))],[]⟩
def si_askText_J1 (v3l1:List Str) (v6j1:Str) (p0:(List Sel)) (v9l1:Int) (x1:Sel):LSt:=⟨[(3,O 4 v3l1),(5,.ref 53760 0),(6,S v6j1),(7,L p0),(8,I (p0.length:Int)),(9,I v9l1)],[(53760,.var (CS x1))],[]⟩
def si_askText_L1 (v3l1:List Str) (p0:(List Sel)) (v9l1:Int):LSt:=⟨[(3,O 4 v3l1),(7,L p0),(8,I (p0.length:Int)),(9,I v9l1)],[],[]⟩
def C_i_askText_L1 (v3l1:List Str) (p0:(List Sel)) (v9l1:Int) (r:Str):Prop:=G gE [.tmp 2] (S r,[]) [.blk 0,.sq k106_3] (.loop k106_5) (si_askText_L1 v3l1 p0 v9l1)
def B_i_askText_J3 (v3l1:List Str) (v6j3:Str) (p0:(List Sel)) (v9l1:Int) (r:Str):Prop:=
 (v3l1.length+([v6j3]:List Str).length<=bigLen)/\(C_i_askText_L1 (v3l1++[v6j3]) p0 (IntKind.i64.wrap (v9l1+1)) r)
def B_i_askText_J2 (v3l1:List Str) (v6j2:Str) (p0:(List Sel)) (v9l1:Int) (x1:Sel) (r:Str):Prop:=
 x1.fKids.length<=bigLen->(if (decide ((x1.fKids.length:Int)>0))=true then (∃y3:Str,(S_i_askText x1.fKids y3)/\((v6j2.size+y3.size<=bigStr)/\(B_i_askText_J3 v3l1 (v6j2++y3) p0 v9l1 r))) else (B_i_askText_J3 v3l1 v6j2 p0 v9l1 r))
def B_i_askText_J1 (v3l1:List Str) (v6j1:Str) (p0:(List Sel)) (v9l1:Int) (x1:Sel) (r:Str):Prop:=
 if x1.fOne=true then (∃y2:Str,(S_strconv_Itoa x1.fId y2)/\(((⟨#[40]⟩:Str).size+y2.size<=bigStr)/\((((⟨#[40]⟩:Str)++y2).size+(⟨#[41]⟩:Str).size<=bigStr)/\((v6j1.size+(((⟨#[40]⟩:Str)++y2)++(⟨#[41]⟩:Str)).size<=bigStr)/\(B_i_askText_J2 v3l1 (v6j1++(((⟨#[40]⟩:Str)++y2)++(⟨#[41]⟩:Str))) p0 v9l1 x1 r))))) else (B_i_askText_J2 v3l1 v6j1 p0 v9l1 x1 r)
def B_i_askText_L1 (v3l1:List Str) (p0:(List Sel)) (v9l1:Int) (r:Str):Prop:=
 if (decide (v9l1<(p0.length:Int)))=true then (∃x1:Sel,(0<=v9l1/\p0[v9l1.toNat]?=some x1)/\(if (!(sEq x1.fAs sE))=true then ((x1.fAs.size+(⟨#[58]⟩:Str).size<=bigStr)/\(((x1.fAs++(⟨#[58]⟩:Str)).size+x1.fName.size<=bigStr)/\(B_i_askText_J1 v3l1 ((x1.fAs++(⟨#[58]⟩:Str))++x1.fName) p0 v9l1 x1 r))) else (B_i_askText_J1 v3l1 x1.fName p0 v9l1 x1 r))) else (∃y4:Str,(S_strings_Join v3l1 (⟨#[44]⟩:Str) y4)/\(((⟨#[123]⟩:Str).size+y4.size<=bigStr)/\((((⟨#[123]⟩:Str)++y4).size+(⟨#[125]⟩:Str).size<=bigStr)/\(r=(((⟨#[123]⟩:Str)++y4)++(⟨#[125]⟩:Str))))))
def B_i_askText (p0:(List Sel)) (r:Str):Prop:=
 p0.length<=bigLen->(C_i_askText_L1 ([]:List Str) p0 0 r)
theorem i_askText_J3_unf (v3l1:List Str) (v6j3:Str) (p0:(List Sel)) (v9l1:Int) (r:Str) (h:B_i_askText_J3 v3l1 v6j3 p0 v9l1 r):G gE [.tmp 2] (S r,[]) [.blk 1,.sq k106_8,.lp k106_5,.blk 0,.sq k106_3] (.ops [oD 41 (.mv 3) [3],oD 42 (.mv 6) [6],oD 43 (.bslice 3 1 [42]) [42],oD 44 (.append 4 1 (some 4) 41 43) [41,43],oD 3 (.mv 44) [44]]) (si_askText_J3 v3l1 v6j3 p0 v9l1):=by
 refine Ko (Kg 2 (Kbs ([v6j3]:List Str) (Ka h fun h=>?_)))
 exact Kg 1 (Kn (Kp (Kr (Ko (Kg 2 (Kn (Kl h)))))))
theorem i_askText_J2_unf (v3l1:List Str) (v6j2:Str) (p0:(List Sel)) (v9l1:Int) (x1:Sel) (r:Str) (h:B_i_askText_J2 v3l1 v6j2 p0 v9l1 x1 r):G gE [.tmp 2] (S r,[]) [.blk 1,.sq k106_8,.lp k106_5,.blk 0,.sq k106_3] (.seq (.seq (.ops [oD 32 (.faddr 4 5) [],oD 33 (.load 1 false (some 53760) 32) [32],oD 34 (.len 33) [33],oD 35 (.bin .gtr 34 (cI 0)) [34]]) k106_16) k106_15) (si_askText_J2 v3l1 v6j2 p0 v9l1 x1):=by
 refine Ks (Ks (Ko (Kg 2 (KL h fun h=>?_))))
 refine Kg 1 (Kn (Kr (Kc h (fun h=>?_) fun h=>?_)))
 .refine Kgh (Ko (Kg 3 (Kk h fun y3 h=>?_)))
  refine Kct h fun h=>?_
  refine Kg 1 (Kn (Kr ?_))
  exact Kj (i_askText_J3_unf v3l1 (v6j2++y3) p0 v9l1 r h)
 .refine Kgh (Ku (Kr ?_))
  exact Kj (i_askText_J3_unf v3l1 v6j2 p0 v9l1 r h)
theorem i_askText_J1_unf (v3l1:List Str) (v6j1:Str) (p0:(List Sel)) (v9l1:Int) (x1:Sel) (r:Str) (h:B_i_askText_J1 v3l1 v6j1 p0 v9l1 x1 r):G gE [.tmp 2] (S r,[]) [.blk 1,.sq k106_8,.lp k106_5,.blk 0,.sq k106_3] (.seq (.seq (.ops [oD 23 (.faddr 2 5) [],oD 24 (.load 1 false (some 53760) 23) [23]]) k106_14) k106_13) (si_askText_J1 v3l1 v6j1 p0 v9l1 x1):=by
 refine Ks (Ks (Ko (Kg 2 (Kn (Kr (Kc h (fun h=>?_) fun h=>?_))))))
 .refine Kgh (Ko (Kg 3 (Kk h fun y2 h=>?_)))
  refine Kct h fun h=>?_
  refine Kct h fun h=>?_
  refine Kct h fun h=>?_
  refine Kg 1 (Kn (Kr ?_))
  exact Kj (i_askText_J2_unf v3l1 (v6j1++(((⟨#[40]⟩:Str)++y2)++(⟨#[41]⟩:Str))) p0 v9l1 x1 r h)
 .refine Kgh (Ku (Kr ?_))
  exact Kj (i_askText_J2_unf v3l1 v6j1 p0 v9l1 x1 r h)
theorem i_askText_L1_unf (v3l1:List Str) (p0:(List Sel)) (v9l1:Int) (r:Str) (h:B_i_askText_L1 v3l1 p0 v9l1 r):C_i_askText_L1 v3l1 p0 v9l1 r:=by
 refine Ky (Ks (Ko (Kg 1 (Kn (Kr (Ks (Kc h (fun h=>?_) fun h=>?_)))))))
 .refine Kgh (Ku (Kr (Ks (Kb (Ks (Ko (Ki h fun x1 h=>?_)))))))
  refine Kg 3 (Kn (Kr (Ks (Ko (Kg 3 (Kn (Kr (Ks (Ks (Ko (Kg 3 (Kn (Kr (Kc h (fun h=>?_) fun h=>?_))))))))))))))
  .refine Kgh (Ko (Kg 2 (Kct h fun h=>?_)))
   refine Kg 1 (Kct h fun h=>?_)
   refine Kg 1 (Kn (Kr ?_))
   exact Kj (i_askText_J1_unf v3l1 ((x1.fAs++(⟨#[58]⟩:Str))++x1.fName) p0 v9l1 x1 r h)
  .refine Kgh (Ku (Kr ?_))
   exact Kj (i_askText_J1_unf v3l1 x1.fName p0 v9l1 x1 r h)
 .refine Kgh (Kx ?_)
  refine Kr (Ks (Ko (Kg 1 (Kk h fun y4 h=>?_))))
  refine Kct h fun h=>?_
  refine Kct h fun h=>?_
  refine Kg 1 (Kn (Kr ?_))
  cases h;exact Kt
theorem i_askText_unf (p0:(List Sel)) (r:Str) (h:B_i_askText p0 r):S_i_askText p0 r:=by
 refine Kz (p:=l106) (Ks (Ko (Kg 1 (Kn (Kr (Ks (Ko (Kg 1 (Kn (Kr (Ks (Ks (Ko ?_)))))))))))))
 refine Kg 1 (KL h fun h=>?_)
 exact Kg 1 (Kn (Kr (Kb (Kj h))))
def B_i_Sel_under (p0:Sel) (r:Str):Prop:=
 if (!(sEq p0.fAs sE))=true then (r=p0.fAs) else (r=p0.fName)
theorem i_Sel_under_unf (p0:Sel) (r:Str) (h:B_i_Sel_under p0 r):S_i_Sel_under p0 r:=by
 refine Kz (p:=l108) (Ks (Ko (Kg 2 (Kn (Kr (Ks (Ks (Ko (Kg 3 (Kn (Kr (Kc h (fun h=>?_) fun h=>?_))))))))))))
 .refine Kgh (Ks (Ko (Kg 3 (Kn (Kr (Kgh ?_))))))
  cases h;exact Kt
 .refine Kgh (Ku (Kr (Ks (Ko (Kg 3 (Kn (Kr (Kgh ?_))))))))
  cases h;exact Kt
def B_i_askCode (p0:Str) (p1:Field) (p2:Bool) (p3:Sel) (r:Int):Prop:=
 if ((!p2) || p1.fHidden)=true then (r=1) else (∃y1:Bool,(S_i_Field_ofWord p1 y1)/\(if (y1&&(decide ((p3.fKids.length:Int)>0)))=true then (r=2) else (∃y2:Bool,(S_i_Field_ofWord p1 y2)/\(if ((!y2)&&((p3.fKids.length:Int) == 0))=true then (r=3) else (∃y3:Bool,(p3.fOne=true->S_i_Field_ofWord p1 y3)/\(if (p3.fOne&&((y3 || p1.fList) || (!(sEq p0 (⟨#[113,117,101,114,121]⟩:Str)))))=true then (r=4) else (r=0)))))))
theorem i_askCode_unf (p0:Str) (p1:Field) (p2:Bool) (p3:Sel) (r:Int) (h:B_i_askCode p0 p1 p2 p3 r):S_i_askCode p0 p1 p2 p3 r:=by
 refine Kz (p:=l109) (Ks (Ko (Kg 3 (Kn (Kr (Ks (Kb (Ks (Ko (Kg 3 (Kq 3 (!p2) false 12 15 (fun z=>(z || p1.fHidden)) (fun hx=>?_) ?_)))))))))))
 .exact Kg 2 (Kee)
 refine Kg 1 (Kn (Kr (Kc h (fun h=>?_) fun h=>?_)))
 .refine Kgh (Ks (Ko (Kg 1 (Kn (Kr ?_)))))
  cases h;exact Kt
 .refine Kgh (Ks (Ko (Kg 1 (Kk h fun y1 h=>?_))))
  refine Kg 1 (Kq 5 y1 true 19 24 (fun z=>(z&&(decide ((p3.fKids.length:Int)>0)))) (fun hx=>?_) ?_)
  .refine Kg 2 (Kw0 (QL p3.fKids fun h2=>?_))
   exact Kg 1 (Kee)
  refine Kg 1 (Kn (Kr (Kc h (fun h=>?_) fun h=>?_)))
  .refine Kgh (Ks (Ko (Kg 1 (Kn (Kr ?_)))))
   cases h;exact Kt
  .refine Kgh (Ks (Ko (Kg 1 (Kk h fun y2 h=>?_))))
   refine Kg 2 (Kq 5 (!y2) true 29 34 (fun z=>(z&&((p3.fKids.length:Int) == 0))) (fun hx=>?_) ?_)
   .refine Kg 2 (Kw0 (QL p3.fKids fun h4=>?_))
    exact Kg 1 (Kee)
   refine Kg 1 (Kn (Kr (Kc h (fun h=>?_) fun h=>?_)))
   .refine Kgh (Ks (Ko (Kg 1 (Kn (Kr ?_)))))
    cases h;exact Kt
   .refine Kgh (Ks (Ko (Kg 3 ?_)))
    obtain⟨y3,h5,h⟩:=h
    refine Kq 11 p3.fOne true 38 49 (fun z=>(z&&((y3 || p1.fList) || (!(sEq p0 (⟨#[113,117,101,114,121]⟩:Str)))))) (fun hx=>?_) ?_
    .have h5:=h5 hx
     refine Kg 1 (Kw0 (Qk h5 (Kg 1 (Kq 3 y3 false 41 44 (fun z=>(z || p1.fList)) (fun hx=>?_) ?_))))
     .exact Kg 2 (Kee)
     refine Kg 1 (Kq 3 (y3 || p1.fList) false 45 48 (fun z=>(z || (!(sEq p0 (⟨#[113,117,101,114,121]⟩:Str))))) (fun hx=>?_) ?_)
     .exact Kg 2 (Kee)
     exact Kee
    refine Kg 1 (Kn (Kr (Kgh (Kc h (fun h=>?_) fun h=>?_))))
    .refine Kgh (Ks (Ko (Kg 1 (Kn (Kr ?_)))))
     cases h;exact Kt
    .refine Kgh (Ku (Kp (Kr (Ks (Ko (Kg 1 (Kn (Kr ?_))))))))
     cases h;exact Kt
def B_s_l2Name (p0:Str) (r:Bool):Prop:=
 ∃y1:Bool,(S_s_l1Name p0 y1)/\(∃b2:UInt8,((y1&&(decide ((p0.size:Int)<=8)))=true->0<=(0:Int)/\p0.data[(0:Int).toNat]?=some b2)/\(∃y3:Bool,(((y1&&(decide ((p0.size:Int)<=8)))&&((b2.toNat:Int) != 95))=true->S_s_l2Scalar p0 y3)/\(r=((((((((((y1&&(decide ((p0.size:Int)<=8)))&&((b2.toNat:Int) != 95))&&(!y3))&&(!(sEq p0 (⟨#[112,97,114,116]⟩:Str))))&&(!(sEq p0 (⟨#[116,121,112,101]⟩:Str))))&&(!(sEq p0 (⟨#[107,101,121]⟩:Str))))&&(!(sEq p0 (⟨#[102,97,114]⟩:Str))))&&(!(sEq p0 (⟨#[104,105,100,100,101,110]⟩:Str))))&&(!(sEq p0 (⟨#[115,104,97,114,101,100]⟩:Str))))&&(!(sEq p0 (⟨#[110,101,101,100,115]⟩:Str)))))))
theorem s_l2Name_unf (p0:Str) (r:Bool) (h:B_s_l2Name p0 r):S_s_l2Name p0 r:=by
 refine Kz (p:=l110) (Ks (Ko (Kg 1 (Kn (Kr (Ks (Ko (Kg 1 (Kk h fun y1 h=>?_)))))))))
 refine Kg 1 (Kq 4 y1 true 5 9 (fun z=>(z&&(decide ((p0.size:Int)<=8)))) (fun hx=>?_) ?_)
 .refine Kg 1 (Kw0 (QLs p0 fun h2=>?_))
  exact Kg 1 (Kee)
 refine Kg 1 ?_
 obtain⟨b2,h3,h⟩:=h
 refine Kq 4 (y1&&(decide ((p0.size:Int)<=8))) true 10 14 (fun z=>(z&&((b2.toNat:Int) != 95))) (fun hx=>?_) ?_
 .have h3:=h3 hx
  exact Kg 1 (Kw0 (Qx h3 (Kg 1 (Kee))))
 refine Kg 1 ?_
 obtain⟨y3,h4,h⟩:=h
 refine Kq 4 ((y1&&(decide ((p0.size:Int)<=8)))&&((b2.toNat:Int) != 95)) true 15 19 (fun z=>(z&&(!y3))) (fun hx=>?_) ?_
 .have h4:=h4 hx
  exact Kg 1 (Kw0 (Qk h4 (Kg 1 (Kee))))
 refine Kg 1 (Kq 3 (((y1&&(decide ((p0.size:Int)<=8)))&&((b2.toNat:Int) != 95))&&(!y3)) true 20 23 (fun z=>(z&&(!(sEq p0 (⟨#[112,97,114,116]⟩:Str))))) (fun hx=>?_) ?_)
 .exact Kg 2 (Kee)
 refine Kg 1 (Kq 3 ((((y1&&(decide ((p0.size:Int)<=8)))&&((b2.toNat:Int) != 95))&&(!y3))&&(!(sEq p0 (⟨#[112,97,114,116]⟩:Str)))) true 24 27 (fun z=>(z&&(!(sEq p0 (⟨#[116,121,112,101]⟩:Str))))) (fun hx=>?_) ?_)
 .exact Kg 2 (Kee)
 refine Kg 1 (Kq 3 (((((y1&&(decide ((p0.size:Int)<=8)))&&((b2.toNat:Int) != 95))&&(!y3))&&(!(sEq p0 (⟨#[112,97,114,116]⟩:Str))))&&(!(sEq p0 (⟨#[116,121,112,101]⟩:Str)))) true 28 31 (fun z=>(z&&(!(sEq p0 (⟨#[107,101,121]⟩:Str))))) (fun hx=>?_) ?_)
 .exact Kg 2 (Kee)
 refine Kg 1 (Kq 3 ((((((y1&&(decide ((p0.size:Int)<=8)))&&((b2.toNat:Int) != 95))&&(!y3))&&(!(sEq p0 (⟨#[112,97,114,116]⟩:Str))))&&(!(sEq p0 (⟨#[116,121,112,101]⟩:Str))))&&(!(sEq p0 (⟨#[107,101,121]⟩:Str)))) true 32 35 (fun z=>(z&&(!(sEq p0 (⟨#[102,97,114]⟩:Str))))) (fun hx=>?_) ?_)
 .exact Kg 2 (Kee)
 refine Kg 1 (Kq 3 (((((((y1&&(decide ((p0.size:Int)<=8)))&&((b2.toNat:Int) != 95))&&(!y3))&&(!(sEq p0 (⟨#[112,97,114,116]⟩:Str))))&&(!(sEq p0 (⟨#[116,121,112,101]⟩:Str))))&&(!(sEq p0 (⟨#[107,101,121]⟩:Str))))&&(!(sEq p0 (⟨#[102,97,114]⟩:Str)))) true 36 39 (fun z=>(z&&(!(sEq p0 (⟨#[104,105,100,100,101,110]⟩:Str))))) (fun hx=>?_) ?_)
 .exact Kg 2 (Kee)
 refine Kg 1 (Kq 3 ((((((((y1&&(decide ((p0.size:Int)<=8)))&&((b2.toNat:Int) != 95))&&(!y3))&&(!(sEq p0 (⟨#[112,97,114,116]⟩:Str))))&&(!(sEq p0 (⟨#[116,121,112,101]⟩:Str))))&&(!(sEq p0 (⟨#[107,101,121]⟩:Str))))&&(!(sEq p0 (⟨#[102,97,114]⟩:Str))))&&(!(sEq p0 (⟨#[104,105,100,100,101,110]⟩:Str)))) true 40 43 (fun z=>(z&&(!(sEq p0 (⟨#[115,104,97,114,101,100]⟩:Str))))) (fun hx=>?_) ?_)
 .exact Kg 2 (Kee)
 refine Kg 1 (Kq 3 (((((((((y1&&(decide ((p0.size:Int)<=8)))&&((b2.toNat:Int) != 95))&&(!y3))&&(!(sEq p0 (⟨#[112,97,114,116]⟩:Str))))&&(!(sEq p0 (⟨#[116,121,112,101]⟩:Str))))&&(!(sEq p0 (⟨#[107,101,121]⟩:Str))))&&(!(sEq p0 (⟨#[102,97,114]⟩:Str))))&&(!(sEq p0 (⟨#[104,105,100,100,101,110]⟩:Str))))&&(!(sEq p0 (⟨#[115,104,97,114,101,100]⟩:Str)))) true 44 47 (fun z=>(z&&(!(sEq p0 (⟨#[110,101,101,100,115]⟩:Str))))) (fun hx=>?_) ?_)
 .exact Kg 2 (Kee)
 refine Kg 1 (Kn (Kr ?_))
 cases h;exact Kt
def ss_l2Fault_L2 (p1:Int) (v6l1:Int) (v8l2:Int) (p0:Part) (x1:Ty) (x4:Field):LSt:=⟨[(1,I p1),(2,.ref 32256 0),(5,.ref 49666 0),(6,I v6l1),(7,.ref 51716 0),(8,I v8l2)],[(32256,.var (CS p0)),(49666,.var (CS x1)),(51716,.var (CS x4))],[]⟩
def C_s_l2Fault_L2 (p1:Int) (v6l1:Int) (v8l2:Int) (p0:Part) (x1:Ty) (x4:Field) (r:Int):Prop:=G gE [.tmp 4] (I r,[]) [.blk 2,.blk 1,.sq k111_11,.lp k111_8,.blk 0,.sq k111_6] (.loop k111_17) (ss_l2Fault_L2 p1 v6l1 v8l2 p0 x1 x4)
def ss_l2Fault_L5 (v11l5:Int) (x1:Ty):LSt:=⟨[(5,.ref 49666 0),(11,I v11l5)],[(49666,.var (CS x1))],[]⟩
def C_s_l2Fault_L5 (v11l5:Int) (x1:Ty) (r:Int):Prop:=G gE [.tmp 4] (I r,[]) [.blk 8,.sq k111_45] (.loop k111_47) (ss_l2Fault_L5 v11l5 x1)
def ss_l2Fault_L4 (v10l4:Int) (p0:Part) (x1:Ty):LSt:=⟨[(2,.ref 32256 0),(5,.ref 49666 0),(10,I v10l4)],[(32256,.var (CS p0)),(49666,.var (CS x1))],[]⟩
def C_s_l2Fault_L4 (v10l4:Int) (p0:Part) (x1:Ty) (r:Int):Prop:=G gE [.tmp 4] (I r,[]) [.blk 6,.sq k111_34] (.loop k111_36) (ss_l2Fault_L4 v10l4 p0 x1)
def ss_l2Fault_L3 (v9l3:Int) (p0:Part) (x1:Ty):LSt:=⟨[(2,.ref 32256 0),(5,.ref 49666 0),(9,I v9l3)],[(32256,.var (CS p0)),(49666,.var (CS x1))],[]⟩
def C_s_l2Fault_L3 (v9l3:Int) (p0:Part) (x1:Ty) (r:Int):Prop:=G gE [.tmp 4] (I r,[]) [.blk 4,.sq k111_26] (.loop k111_28) (ss_l2Fault_L3 v9l3 p0 x1)
def ss_l2Fault_L1 (p1:Int) (v6l1:Int) (p0:Part) (x1:Ty):LSt:=⟨[(1,I p1),(2,.ref 32256 0),(5,.ref 49666 0),(6,I v6l1)],[(32256,.var (CS p0)),(49666,.var (CS x1))],[]⟩
def C_s_l2Fault_L1 (p1:Int) (v6l1:Int) (p0:Part) (x1:Ty) (r:Int):Prop:=G gE [.tmp 4] (I r,[]) [.blk 0,.sq k111_6] (.loop k111_8) (ss_l2Fault_L1 p1 v6l1 p0 x1)
def B_s_l2Fault_L2 (p1:Int) (v6l1:Int) (v8l2:Int) (p0:Part) (x1:Ty) (x4:Field) (r:Int):Prop:=
 x4.fNeeds.length<=bigLen->(if (decide (v8l2<(x4.fNeeds.length:Int)))=true then (∃x8:Str,(0<=v8l2/\x4.fNeeds[v8l2.toNat]?=some x8)/\(∃y9:Bool,(S_s_l2Name x8 y9)/\(if (!y9)=true then (r=1) else (C_s_l2Fault_L2 p1 v6l1 (IntKind.i64.wrap (v8l2+1)) p0 x1 x4 r)))) else (C_s_l2Fault_L1 p1 (IntKind.i64.wrap (v6l1+1)) p0 x1 r))
def B_s_l2Fault_L5 (v11l5:Int) (x1:Ty) (r:Int):Prop:=
 x1.fFields.length<=bigLen->(if (decide (v11l5<(x1.fFields.length:Int)))=true then (∃x18:Field,(0<=v11l5/\x1.fFields[v11l5.toNat]?=some x18)/\(∃y19:Bool,(S_s_l2Needs x1 x18 y19)/\(∃x20:Field,((!y19)=false->0<=v11l5/\x1.fFields[v11l5.toNat]?=some x20)/\(∃x21:Field,((!y19)=false->x20.fFar=true->0<=v11l5/\x1.fFields[v11l5.toNat]?=some x21)/\(if ((!y19) || (x20.fFar&&x21.fShared))=true then (r=5) else (C_s_l2Fault_L5 (IntKind.i64.wrap (v11l5+1)) x1 r)))))) else (r=0))
def B_s_l2Fault_L4 (v10l4:Int) (p0:Part) (x1:Ty) (r:Int):Prop:=
 x1.fFields.length<=bigLen->(if (decide (v10l4<(x1.fFields.length:Int)))=true then (∃x13:Field,(0<=v10l4/\x1.fFields[v10l4.toNat]?=some x13)/\(∃y14:Bool,(S_s_l2Scalar x13.fOf y14)/\(∃x15:Field,((!y14)=true->0<=v10l4/\x1.fFields[v10l4.toNat]?=some x15)/\(∃y16:Int,((!y14)=true->S_s_l2Type p0 x15.fOf y16)/\(if ((!y14)&&(decide (y16<0)))=true then (r=3) else (C_s_l2Fault_L4 (IntKind.i64.wrap (v10l4+1)) p0 x1 r)))))) else (∃y17:Bool,(S_s_l2Key x1 y17)/\(if (!y17)=true then (r=4) else (C_s_l2Fault_L5 0 x1 r))))
def B_s_l2Fault_L3 (v9l3:Int) (p0:Part) (x1:Ty) (r:Int):Prop:=
 x1.fFields.length<=bigLen->(if (decide (v9l3<(x1.fFields.length:Int)))=true then (∃x11:Field,(0<=v9l3/\x1.fFields[v9l3.toNat]?=some x11)/\(∃y12:Int,(S_s_l2Field x1 x11.fName y12)/\(if (y12 != v9l3)=true then (r=2) else (C_s_l2Fault_L3 (IntKind.i64.wrap (v9l3+1)) p0 x1 r)))) else (C_s_l2Fault_L4 0 p0 x1 r))
def B_s_l2Fault_L1 (p1:Int) (v6l1:Int) (p0:Part) (x1:Ty) (r:Int):Prop:=
 x1.fFields.length<=bigLen->(if (decide (v6l1<(x1.fFields.length:Int)))=true then (∃x4:Field,(0<=v6l1/\x1.fFields[v6l1.toNat]?=some x4)/\(∃y5:Bool,(S_s_l2Name x4.fName y5)/\(∃y6:Bool,((!y5)=false->S_s_l2Scalar x4.fOf y6)/\(∃y7:Bool,((!y5)=false->(!y6)=true->S_s_l2Name x4.fOf y7)/\(if ((!y5) || ((!y6)&&(!y7)))=true then (r=1) else (C_s_l2Fault_L2 p1 v6l1 0 p0 x1 x4 r)))))) else (∃y10:Int,(S_s_l2Type p0 x1.fName y10)/\(if (y10 != p1)=true then (r=2) else (C_s_l2Fault_L3 0 p0 x1 r))))
def B_s_l2Fault (p0:Part) (p1:Int) (r:Int):Prop:=
 ∃x1:Ty,(0<=p1/\p0.fTypes[p1.toNat]?=some x1)/\(∃y2:Bool,(S_s_l2Name x1.fName y2)/\(∃y3:Bool,((!y2)=false->(!(sEq x1.fKey sE))=true->S_s_l2Name x1.fKey y3)/\(if ((((!y2) || ((!(sEq x1.fKey sE))&&(!y3))) || ((x1.fFields.length:Int) == 0)) || (decide ((x1.fFields.length:Int)>8)))=true then (r=1) else (C_s_l2Fault_L1 p1 0 p0 x1 r))))
theorem s_l2Fault_L2_unf (p1:Int) (v6l1:Int) (v8l2:Int) (p0:Part) (x1:Ty) (x4:Field) (r:Int) (h:B_s_l2Fault_L2 p1 v6l1 v8l2 p0 x1 x4 r):C_s_l2Fault_L2 p1 v6l1 v8l2 p0 x1 x4 r:=by
 refine Ky (Ks (Ks (Ko (Kg 3 (KL h fun h=>?_)))))
 refine Kg 1 (Kn (Kr (Kc h (fun h=>?_) fun h=>?_)))
 .refine Kgh (Ku (Kr (Ks (Kb (Ks (Ko (Kg 3 (Ki h fun x8 h=>?_))))))))
  refine Kg 1 (Kk h fun y9 h=>?_)
  refine Kg 1 (Kn (Kr (Kc h (fun h=>?_) fun h=>?_)))
  .refine Kgh (Ks (Ko (Kg 1 (Kn (Kr ?_)))))
   cases h;exact Kt
  .exact Kgh (Ku (Kp (Kr (Ko (Kg 3 (Kn (Kl h)))))))
 .refine Kgh (Kx ?_)
  exact Kp (Kr (Ko (Kg 3 (Kn (Kl h)))))
theorem s_l2Fault_L5_unf (v11l5:Int) (x1:Ty) (r:Int) (h:B_s_l2Fault_L5 v11l5 x1 r):C_s_l2Fault_L5 v11l5 x1 r:=by
 refine Ky (Ks (Ks (Ko (Kg 3 (KL h fun h=>?_)))))
 refine Kg 1 (Kn (Kr (Kc h (fun h=>?_) fun h=>?_)))
 .refine Kgh (Ku (Kr (Ks (Kb (Ks (Kd (Kg 4 (Ki h fun x18 h=>?_))))))))
  refine Kg 1 (Kk h fun y19 h=>?_)
  refine Kg 2 ?_
  obtain⟨x20,h27,h⟩:=h
  obtain⟨x21,h28,h⟩:=h
  refine Kq2 15 (!y19) 153 (fun z=>⟨[(5,.ref 49666 0),(11,I v11l5),(145,A x1),(146,.ref 49666 2),(147,L x1.fFields),(148,I v11l5),(149,CP x18),(150,A x18),(151,B y19),(152,B (!y19)),(153,B z),(154,(bif z then .tup [] else .ref 49666 2)),(155,(bif z then .tup [] else L x1.fFields)),(156,(bif z then .tup [] else I v11l5)),(157,(bif z then .tup [] else CP x20)),(158,(bif z then .tup [] else .pv (.cp ((Enc.row x20).drop 4)))),(159,(bif z then .tup [] else B x20.fFar)),(160,(bif z then .tup [] else B x20.fFar)),(161,(bif z then .tup [] else (bif x20.fFar then .ref 49666 2 else .tup []))),(162,(bif z then .tup [] else (bif x20.fFar then L x1.fFields else .tup []))),(163,(bif z then .tup [] else (bif x20.fFar then I v11l5 else .tup []))),(164,(bif z then .tup [] else (bif x20.fFar then CP x21 else .tup []))),(165,(bif z then .tup [] else (bif x20.fFar then .pv (.cp ((Enc.row x21).drop 6)) else .tup []))),(166,(bif z then .tup [] else (bif x20.fFar then B x21.fShared else .tup []))),(167,(bif z then .tup [] else B (x20.fFar&&x21.fShared))),(168,B (z || (x20.fFar&&x21.fShared)))],[(49666,.var (CS x1))],[]⟩) (fun _=>?_) (fun hx=>?_) ?_
  .exact Kee
  .have h27:=h27 hx
   have h28:=h28 hx
   refine Kg 3 (Kw0 (Qi h27 (Kg 3 (Kq2 7 x20.fFar 160 (fun z=>⟨[(5,.ref 49666 0),(11,I v11l5),(145,A x1),(146,.ref 49666 2),(147,L x1.fFields),(148,I v11l5),(149,CP x18),(150,A x18),(151,B y19),(152,B (!y19)),(153,B false),(154,.ref 49666 2),(155,L x1.fFields),(156,I v11l5),(157,CP x20),(158,.pv (.cp ((Enc.row x20).drop 4))),(159,B x20.fFar),(160,B z),(161,(bif z then .ref 49666 2 else .tup [])),(162,(bif z then L x1.fFields else .tup [])),(163,(bif z then I v11l5 else .tup [])),(164,(bif z then CP x21 else .tup [])),(165,(bif z then .pv (.cp ((Enc.row x21).drop 6)) else .tup [])),(166,(bif z then B x21.fShared else .tup [])),(167,B (z&&x21.fShared))],[(49666,.var (CS x1))],[]⟩) (fun hx=>?_) (fun _=>?_) ?_))))
   .have h28:=h28 hx
    exact Kg 3 (Kw0 (Qi h28 (Kg 2 (Kee))))
   .exact Kee
   exact Kee
  refine Kn (Kr (Kgh (Kc h (fun h=>?_) fun h=>?_)))
  .refine Kgh (Ks (Ko (Kg 1 (Kn (Kr ?_)))))
   cases h;exact Kt
  .exact Kgh (Ku (Kp (Kr (Ko (Kg 3 (Kn (Kl h)))))))
 .refine Kgh (Kx ?_)
  refine Kr (Ks (Ko (Kg 1 (Kn (Kr ?_)))))
  cases h;exact Kt
theorem s_l2Fault_L4_unf (v10l4:Int) (p0:Part) (x1:Ty) (r:Int) (h:B_s_l2Fault_L4 v10l4 p0 x1 r):C_s_l2Fault_L4 v10l4 p0 x1 r:=by
 refine Ky (Ks (Ks (Ko (Kg 3 (KL h fun h=>?_)))))
 refine Kg 1 (Kn (Kr (Kc h (fun h=>?_) fun h=>?_)))
 .refine Kgh (Ku (Kr (Ks (Kb (Ks (Kd (Kg 3 (Ki h fun x13 h=>?_))))))))
  refine Kg 2 (Kk h fun y14 h=>?_)
  refine Kg 2 ?_
  obtain⟨x15,h21,h⟩:=h
  obtain⟨y16,h22,h⟩:=h
  refine Kq2 10 (!y14) 124 (fun z=>⟨[(2,.ref 32256 0),(5,.ref 49666 0),(10,I v10l4),(116,.ref 49666 2),(117,L x1.fFields),(118,I v10l4),(119,CP x13),(120,.pv (.cp ((Enc.row x13).drop 1))),(121,S x13.fOf),(122,B y14),(123,B (!y14)),(124,B z),(125,(bif z then A p0 else .tup [])),(126,(bif z then .ref 49666 2 else .tup [])),(127,(bif z then L x1.fFields else .tup [])),(128,(bif z then I v10l4 else .tup [])),(129,(bif z then CP x15 else .tup [])),(130,(bif z then .pv (.cp ((Enc.row x15).drop 1)) else .tup [])),(131,(bif z then S x15.fOf else .tup [])),(132,(bif z then I y16 else .tup [])),(133,(bif z then B (decide (y16<0)) else .tup [])),(134,B (z&&(decide (y16<0))))],[(32256,.var (CS p0)),(49666,.var (CS x1))],[]⟩) (fun hx=>?_) (fun _=>?_) ?_
  .have h21:=h21 hx
   have h22:=h22 hx
   exact Kg 4 (Kw0 (Qi h21 (Kg 2 (Kw0 (Qk h22 (Kg 1 (Kee)))))))
  .exact Kee
  refine Kn (Kr (Kgh (Kc h (fun h=>?_) fun h=>?_)))
  .refine Kgh (Ks (Ko (Kg 1 (Kn (Kr ?_)))))
   cases h;exact Kt
  .exact Kgh (Ku (Kp (Kr (Ko (Kg 3 (Kn (Kl h)))))))
 .refine Kgh (Kx ?_)
  refine Kr (Ks (Ks (Ko (Kg 1 (Kk h fun y17 h=>?_)))))
  refine Kg 1 (Kn (Kr (Kc h (fun h=>?_) fun h=>?_)))
  .refine Kgh (Ks (Ko (Kg 1 (Kn (Kr ?_)))))
   cases h;exact Kt
  .exact Kgh (Ku (Kr (Ks (Ks (Ko (Kg 1 (Kn (Kr (Kb (Kv h))))))))))
theorem s_l2Fault_L3_unf (v9l3:Int) (p0:Part) (x1:Ty) (r:Int) (h:B_s_l2Fault_L3 v9l3 p0 x1 r):C_s_l2Fault_L3 v9l3 p0 x1 r:=by
 refine Ky (Ks (Ks (Ko (Kg 3 (KL h fun h=>?_)))))
 refine Kg 1 (Kn (Kr (Kc h (fun h=>?_) fun h=>?_)))
 .refine Kgh (Ku (Kr (Ks (Kb (Ks (Kd (Kg 4 (Ki h fun x11 h=>?_))))))))
  refine Kg 2 (Kk h fun y12 h=>?_)
  refine Kg 2 (Kn (Kr (Kgh (Kc h (fun h=>?_) fun h=>?_))))
  .refine Kgh (Ks (Ko (Kg 1 (Kn (Kr ?_)))))
   cases h;exact Kt
  .exact Kgh (Ku (Kp (Kr (Ko (Kg 3 (Kn (Kl h)))))))
 .refine Kgh (Kx ?_)
  exact Kr (Ks (Ks (Ko (Kg 1 (Kn (Kr (Kb (Kv h))))))))
theorem s_l2Fault_L1_unf (p1:Int) (v6l1:Int) (p0:Part) (x1:Ty) (r:Int) (h:B_s_l2Fault_L1 p1 v6l1 p0 x1 r):C_s_l2Fault_L1 p1 v6l1 p0 x1 r:=by
 refine Ky (Ks (Ks (Ko (Kg 3 (KL h fun h=>?_)))))
 refine Kg 1 (Kn (Kr (Kc h (fun h=>?_) fun h=>?_)))
 .refine Kgh (Ku (Kr (Ks (Kb (Ks (Ko (Kg 3 (Ki h fun x4 h=>?_))))))))
  refine Kg 3 (Kn (Kr (Ks (Ks (Ko (Kg 2 (Kk h fun y5 h=>?_)))))))
  refine Kg 2 ?_
  obtain⟨y6,h9,h⟩:=h
  obtain⟨y7,h10,h⟩:=h
  refine Kq 11 (!y5) false 60 71 (fun z=>(z || ((!y6)&&(!y7)))) (fun hx=>?_) ?_
  .have h9:=h9 hx
   have h10:=h10 hx
   refine Kg 2 (Kw0 (Qk h9 (Kg 2 (Kq 5 (!y6) true 65 70 (fun z=>(z&&(!y7))) (fun hx=>?_) ?_))))
   .have h10:=h10 hx
    exact Kg 2 (Kw0 (Qk h10 (Kg 1 (Kee))))
   exact Kee
  refine Kn (Kr (Kc h (fun h=>?_) fun h=>?_))
  .refine Kgh (Ks (Ko (Kg 1 (Kn (Kr ?_)))))
   cases h;exact Kt
  .exact Kgh (Ku (Kr (Ks (Ko (Kg 1 (Kn (Kr (Kb (Kv h)))))))))
 .refine Kgh (Kx ?_)
  refine Kr (Ks (Ks (Ko (Kg 3 (Kk h fun y10 h=>?_)))))
  refine Kg 2 (Kn (Kr (Kc h (fun h=>?_) fun h=>?_)))
  .refine Kgh (Ks (Ko (Kg 1 (Kn (Kr ?_)))))
   cases h;exact Kt
  .exact Kgh (Ku (Kr (Ks (Ks (Ko (Kg 1 (Kn (Kr (Kb (Kv h))))))))))
theorem s_l2Fault_unf (p0:Part) (p1:Int) (r:Int) (h:B_s_l2Fault p0 p1 r):S_s_l2Fault p0 p1 r:=by
 refine Kz (p:=l111) (Ks (Ko (Kg 2 (Kn (Kr (Ks (Ko (Kg 3 (Ki h fun x1 h=>?_)))))))))
 refine Kg 3 (Kn (Kr (Ks (Ks (Ko (Kg 2 (Kk h fun y2 h=>?_)))))))
 refine Kg 2 ?_
 obtain⟨y3,h3,h⟩:=h
 refine Kq 10 (!y2) false 21 31 (fun z=>(z || ((!(sEq x1.fKey sE))&&(!y3)))) (fun hx=>?_) ?_
 .have h3:=h3 hx
  refine Kg 4 (Kq 5 (!(sEq x1.fKey sE)) true 25 30 (fun z=>(z&&(!y3))) (fun hx=>?_) ?_)
  .have h3:=h3 hx
   exact Kg 2 (Kw0 (Qk h3 (Kg 1 (Kee))))
  exact Kee
 refine Kg 1 (Kq 5 ((!y2) || ((!(sEq x1.fKey sE))&&(!y3))) false 32 37 (fun z=>(z || ((x1.fFields.length:Int) == 0))) (fun hx=>?_) ?_)
 .refine Kg 2 (Kw0 (QL x1.fFields fun h4=>?_))
  exact Kg 1 (Kee)
 refine Kg 1 (Kq 5 (((!y2) || ((!(sEq x1.fKey sE))&&(!y3))) || ((x1.fFields.length:Int) == 0)) false 38 43 (fun z=>(z || (decide ((x1.fFields.length:Int)>8)))) (fun hx=>?_) ?_)
 .refine Kg 2 (Kw0 (QL x1.fFields fun h5=>?_))
  exact Kg 1 (Kee)
 refine Kn (Kr (Kc h (fun h=>?_) fun h=>?_))
 .refine Kgh (Ks (Ko (Kg 1 (Kn (Kr ?_)))))
  cases h;exact Kt
 .exact Kgh (Ku (Kr (Ks (Ks (Ko (Kg 1 (Kn (Kr (Kb (Kv h))))))))))
def ss_l2Write_L2 (v3l2:Str) (v4l1:Int) (v6l2:Int) (p0:Part) (x1:Ty):LSt:=⟨[(1,.ref 32256 0),(3,S v3l2),(4,I v4l1),(5,.ref 49666 0),(6,I v6l2)],[(32256,.var (CS p0)),(49666,.var (CS x1))],[]⟩
def C_s_l2Write_L2 (v3l2:Str) (v4l1:Int) (v6l2:Int) (p0:Part) (x1:Ty) (r:Str):Prop:=G gE [.tmp 2] (S r,[]) [.blk 2,.blk 1,.sq k112_8,.lp k112_5,.blk 0,.sq k112_3] (.loop k112_15) (ss_l2Write_L2 v3l2 v4l1 v6l2 p0 x1)
def ss_l2Write_J1 (v3j1:Str) (v4l1:Int) (p0:Part) (x1:Ty):LSt:=⟨[(1,.ref 32256 0),(3,S v3j1),(4,I v4l1),(5,.ref 49666 0)],[(32256,.var (CS p0)),(49666,.var (CS x1))],[]⟩
def ss_l2Write_L1 (v3l1:Str) (v4l1:Int) (p0:Part):LSt:=⟨[(1,.ref 32256 0),(3,S v3l1),(4,I v4l1)],[(32256,.var (CS p0))],[]⟩
def C_s_l2Write_L1 (v3l1:Str) (v4l1:Int) (p0:Part) (r:Str):Prop:=G gE [.tmp 2] (S r,[]) [.blk 0,.sq k112_3] (.loop k112_5) (ss_l2Write_L1 v3l1 v4l1 p0)
def B_s_l2Write_L2 (v3l2:Str) (v4l1:Int) (v6l2:Int) (p0:Part) (x1:Ty) (r:Str):Prop:=
 x1.fFields.length<=bigLen->(if (decide (v6l2<(x1.fFields.length:Int)))=true then (∃x2:Field,(0<=v6l2/\x1.fFields[v6l2.toNat]?=some x2)/\(∃y3:Str,(S_s_l2Line x2 y3)/\((v3l2.size+y3.size<=bigStr)/\(C_s_l2Write_L2 (v3l2++y3) v4l1 (IntKind.i64.wrap (v6l2+1)) p0 x1 r)))) else (C_s_l2Write_L1 v3l2 (IntKind.i64.wrap (v4l1+1)) p0 r))
def B_s_l2Write_J1 (v3j1:Str) (v4l1:Int) (p0:Part) (x1:Ty) (r:Str):Prop:=
 (v3j1.size+(⟨#[10]⟩:Str).size<=bigStr)/\(C_s_l2Write_L2 (v3j1++(⟨#[10]⟩:Str)) v4l1 0 p0 x1 r)
def B_s_l2Write_L1 (v3l1:Str) (v4l1:Int) (p0:Part) (r:Str):Prop:=
 p0.fTypes.length<=bigLen->(if (decide (v4l1<(p0.fTypes.length:Int)))=true then (∃x1:Ty,(0<=v4l1/\p0.fTypes[v4l1.toNat]?=some x1)/\((v3l1.size+(⟨#[116,121,112,101,32]⟩:Str).size<=bigStr)/\(((v3l1++(⟨#[116,121,112,101,32]⟩:Str)).size+x1.fName.size<=bigStr)/\(if (!(sEq x1.fKey sE))=true then ((((v3l1++(⟨#[116,121,112,101,32]⟩:Str))++x1.fName).size+(⟨#[32,107,101,121,32]⟩:Str).size<=bigStr)/\(((((v3l1++(⟨#[116,121,112,101,32]⟩:Str))++x1.fName)++(⟨#[32,107,101,121,32]⟩:Str)).size+x1.fKey.size<=bigStr)/\(B_s_l2Write_J1 ((((v3l1++(⟨#[116,121,112,101,32]⟩:Str))++x1.fName)++(⟨#[32,107,101,121,32]⟩:Str))++x1.fKey) v4l1 p0 x1 r))) else (B_s_l2Write_J1 ((v3l1++(⟨#[116,121,112,101,32]⟩:Str))++x1.fName) v4l1 p0 x1 r))))) else (r=v3l1))
def B_s_l2Write (p0:Part) (r:Str):Prop:=
 ((⟨#[112,97,114,116,32]⟩:Str).size+p0.fName.size<=bigStr)/\((((⟨#[112,97,114,116,32]⟩:Str)++p0.fName).size+(⟨#[10]⟩:Str).size<=bigStr)/\(C_s_l2Write_L1 (((⟨#[112,97,114,116,32]⟩:Str)++p0.fName)++(⟨#[10]⟩:Str)) 0 p0 r))
theorem s_l2Write_L2_unf (v3l2:Str) (v4l1:Int) (v6l2:Int) (p0:Part) (x1:Ty) (r:Str) (h:B_s_l2Write_L2 v3l2 v4l1 v6l2 p0 x1 r):C_s_l2Write_L2 v3l2 v4l1 v6l2 p0 x1 r:=by
 refine Ky (Ks (Ks (Ko (Kg 3 (KL h fun h=>?_)))))
 refine Kg 1 (Kn (Kr (Kc h (fun h=>?_) fun h=>?_)))
 .refine Kgh (Ku (Kr (Ks (Kb (Ko (Kg 4 (Ki h fun x2 h=>?_)))))))
  refine Kg 1 (Kk h fun y3 h=>?_)
  refine Kct h fun h=>?_
  exact Kg 1 (Kn (Kp (Kr (Ko (Kg 3 (Kn (Kl h)))))))
 .refine Kgh (Kx ?_)
  exact Kp (Kr (Ko (Kg 3 (Kn (Kl h)))))
theorem s_l2Write_J1_unf (v3j1:Str) (v4l1:Int) (p0:Part) (x1:Ty) (r:Str) (h:B_s_l2Write_J1 v3j1 v4l1 p0 x1 r):G gE [.tmp 2] (S r,[]) [.blk 1,.sq k112_8,.lp k112_5,.blk 0,.sq k112_3] (.seq (.ops [oD 36 (.mv 3) [3],oD 37 (.bin .add 36 (.c (.string ⟨#[10]⟩))) [36],oD 3 (.mv 37) [37]]) k112_13) (ss_l2Write_J1 v3j1 v4l1 p0 x1):=by
 refine Ks (Ko (Kg 1 (Kct h fun h=>?_)))
 exact Kg 1 (Kn (Kr (Ks (Ko (Kg 1 (Kn (Kr (Kb (Kv h)))))))))
theorem s_l2Write_L1_unf (v3l1:Str) (v4l1:Int) (p0:Part) (r:Str) (h:B_s_l2Write_L1 v3l1 v4l1 p0 r):C_s_l2Write_L1 v3l1 v4l1 p0 r:=by
 refine Ky (Ks (Ks (Ko (Kg 3 (KL h fun h=>?_)))))
 refine Kg 1 (Kn (Kr (Kc h (fun h=>?_) fun h=>?_)))
 .refine Kgh (Ku (Kr (Ks (Kb (Ks (Ko (Kg 3 (Ki h fun x1 h=>?_))))))))
  refine Kg 3 (Kn (Kr (Ks (Ko (Kg 1 (Kct h fun h=>?_))))))
  refine Kg 2 (Kct h fun h=>?_)
  refine Kg 1 (Kn (Kr (Ks (Ks (Ko (Kg 3 (Kn (Kr (Kc h (fun h=>?_) fun h=>?_)))))))))
  .refine Kgh (Ko (Kg 1 (Kct h fun h=>?_)))
   refine Kg 2 (Kct h fun h=>?_)
   refine Kg 1 (Kn (Kr ?_))
   exact Kj (s_l2Write_J1_unf ((((v3l1++(⟨#[116,121,112,101,32]⟩:Str))++x1.fName)++(⟨#[32,107,101,121,32]⟩:Str))++x1.fKey) v4l1 p0 x1 r h)
  .refine Kgh (Ku (Kr ?_))
   exact Kj (s_l2Write_J1_unf ((v3l1++(⟨#[116,121,112,101,32]⟩:Str))++x1.fName) v4l1 p0 x1 r h)
 .refine Kgh (Kx ?_)
  refine Kr (Ks (Ko (Kg 2 (Kn (Kr ?_)))))
  cases h;exact Kt
theorem s_l2Write_unf (p0:Part) (r:Str) (h:B_s_l2Write p0 r):S_s_l2Write p0 r:=by
 refine Kz (p:=l112) (Ks (Ko (Kg 2 (Kn (Kr (Ks (Ko (Kg 2 (Kct h fun h=>?_)))))))))
 refine Kct h fun h=>?_
 exact Kg 1 (Kn (Kr (Ks (Ks (Ko (Kg 1 (Kn (Kr (Kb (Kv h))))))))))
def ss_l3Ok_L2 (p0:(List Sel)) (p1:Int) (v7l1:Int) (v8l1:Int) (v10l2:Int) (x1:Sel):LSt:=⟨[(0,L p0),(1,I p1),(7,I v7l1),(8,I v8l1),(9,.ref 53760 0),(10,I v10l2)],[(53760,.var (CS x1))],[]⟩
def C_s_l3Ok_L2 (p0:(List Sel)) (p1:Int) (v7l1:Int) (v8l1:Int) (v10l2:Int) (x1:Sel) (r:Int):Prop:=G gE [.tmp 6] (I r,[]) [.blk 2,.sq k113_16,.blk 1,.sq k113_11,.lp k113_8,.blk 0,.sq k113_6] (.loop k113_18) (ss_l3Ok_L2 p0 p1 v7l1 v8l1 v10l2 x1)
def ss_l3Ok_L1 (p0:(List Sel)) (p1:Int) (v7l1:Int) (v8l1:Int):LSt:=⟨[(0,L p0),(1,I p1),(7,I v7l1),(8,I v8l1)],[],[]⟩
def C_s_l3Ok_L1 (p0:(List Sel)) (p1:Int) (v7l1:Int) (v8l1:Int) (r:Int):Prop:=G gE [.tmp 6] (I r,[]) [.blk 0,.sq k113_6] (.loop k113_8) (ss_l3Ok_L1 p0 p1 v7l1 v8l1)
def B_s_l3Ok_L2 (p0:(List Sel)) (p1:Int) (v7l1:Int) (v8l1:Int) (v10l2:Int) (x1:Sel) (r:Int):Prop:=
 if (decide (v10l2<v8l1))=true then (∃x5:Sel,(0<=v10l2/\p0[v10l2.toNat]?=some x5)/\(∃y6:Str,(S_s_l3Key x5 y6)/\(∃y7:Str,(S_s_l3Key x1 y7)/\(if (sEq y6 y7)=true then (r=(-1)) else (C_s_l3Ok_L2 p0 p1 v7l1 v8l1 (IntKind.i64.wrap (v10l2+1)) x1 r))))) else (∃y8:Int,(S_s_l3Ok x1.fKids (IntKind.i64.wrap (p1+1)) (IntKind.i64.wrap (v7l1-1)) y8)/\(C_s_l3Ok_L1 p0 p1 y8 (IntKind.i64.wrap (v8l1+1)) r))
def B_s_l3Ok_L1 (p0:(List Sel)) (p1:Int) (v7l1:Int) (v8l1:Int) (r:Int):Prop:=
 p0.length<=bigLen->(if ((decide (v8l1<(p0.length:Int)))&&(decide (v7l1>=0)))=true then (∃x1:Sel,(0<=v8l1/\p0[v8l1.toNat]?=some x1)/\(∃y2:Bool,(S_s_l2Name x1.fName y2)/\(∃y3:Bool,((!y2)=false->(!(sEq x1.fAs sE))=true->S_s_l2Name x1.fAs y3)/\(∃y4:Bool,((((!y2) || ((!(sEq x1.fAs sE))&&((!y3) || (sEq x1.fAs x1.fName)))) || ((!x1.fOne)&&(x1.fId != 0)))=false->S_s_l1In x1.fId 0 999999 y4)/\(if ((((!y2) || ((!(sEq x1.fAs sE))&&((!y3) || (sEq x1.fAs x1.fName)))) || ((!x1.fOne)&&(x1.fId != 0))) || (!y4))=true then (r=(-1)) else (C_s_l3Ok_L2 p0 p1 v7l1 v8l1 0 x1 r)))))) else (r=v7l1))
def B_s_l3Ok (p0:(List Sel)) (p1:Int) (p2:Int) (r:Int):Prop:=
 p0.length<=bigLen->(if ((decide ((p0.length:Int)>0))&&(decide (p1>5)))=true then (r=(-1)) else (C_s_l3Ok_L1 p0 p1 p2 0 r))
theorem s_l3Ok_L2_unf (p0:(List Sel)) (p1:Int) (v7l1:Int) (v8l1:Int) (v10l2:Int) (x1:Sel) (r:Int) (h:B_s_l3Ok_L2 p0 p1 v7l1 v8l1 v10l2 x1 r):C_s_l3Ok_L2 p0 p1 v7l1 v8l1 v10l2 x1 r:=by
 refine Ky (Ks (Ks (Ko (Kg 3 (Kn (Kr (Kc h (fun h=>?_) fun h=>?_)))))))
 .refine Kgh (Ku (Kr (Ks (Kb (Ks (Kd (Kg 2 (Ki h fun x5 h=>?_))))))))
  refine Kg 1 (Kk h fun y6 h=>?_)
  refine Kg 1 (Kk h fun y7 h=>?_)
  refine Kg 1 (Kn (Kr (Kgh (Kc h (fun h=>?_) fun h=>?_))))
  .refine Kgh (Ks (Ko (Kg 1 (Kn (Kr ?_)))))
   cases h;exact Kt
  .exact Kgh (Ku (Kp (Kr (Ko (Kg 3 (Kn (Kl h)))))))
 .refine Kgh (Kx ?_)
  refine Kr (Ko (Kg 6 (Kk h fun y8 h=>?_)))
  exact Kg 1 (Kn (Kp (Kr (Kgh (Ko (Kg 3 (Kn (Kl h))))))))
theorem s_l3Ok_L1_unf (p0:(List Sel)) (p1:Int) (v7l1:Int) (v8l1:Int) (r:Int) (h:B_s_l3Ok_L1 p0 p1 v7l1 v8l1 r):C_s_l3Ok_L1 p0 p1 v7l1 v8l1 r:=by
 refine Ky (Ks (Ks (Ko (Kg 2 (KL h fun h=>?_)))))
 refine Kg 2 (Kq 3 (decide (v8l1<(p0.length:Int))) true 23 26 (fun z=>(z&&(decide (v7l1>=0)))) (fun hx=>?_) ?_)
 .exact Kg 2 (Kee)
 refine Kn (Kr (Kc h (fun h=>?_) fun h=>?_))
 .refine Kgh (Ku (Kr (Ks (Kb (Ks (Ko (Kg 2 (Ki h fun x1 h=>?_))))))))
  refine Kg 3 (Kn (Kr (Ks (Ks (Ko (Kg 2 (Kk h fun y2 h=>?_)))))))
  refine Kg 2 ?_
  obtain⟨y3,h5,h⟩:=h
  refine Kq 17 (!y2) false 37 54 (fun z=>(z || ((!(sEq x1.fAs sE))&&((!y3) || (sEq x1.fAs x1.fName))))) (fun hx=>?_) ?_
  .have h5:=h5 hx
   refine Kg 4 (Kq 12 (!(sEq x1.fAs sE)) true 41 53 (fun z=>(z&&((!y3) || (sEq x1.fAs x1.fName)))) (fun hx=>?_) ?_)
   .have h5:=h5 hx
    refine Kg 2 (Kw0 (Qk h5 (Kg 2 (Kq 6 (!y3) false 46 52 (fun z=>(z || (sEq x1.fAs x1.fName))) (fun hx=>?_) ?_))))
    .exact Kg 5 (Kee)
    exact Kee
   exact Kee
  refine Kg 1 (Kq 9 ((!y2) || ((!(sEq x1.fAs sE))&&((!y3) || (sEq x1.fAs x1.fName)))) false 55 64 (fun z=>(z || ((!x1.fOne)&&(x1.fId != 0)))) (fun hx=>?_) ?_)
  .refine Kg 4 (Kq 4 (!x1.fOne) true 59 63 (fun z=>(z&&(x1.fId != 0))) (fun hx=>?_) ?_)
   .exact Kg 3 (Kee)
   exact Kee
  refine Kg 1 ?_
  obtain⟨y4,h6,h⟩:=h
  refine Kq 5 (((!y2) || ((!(sEq x1.fAs sE))&&((!y3) || (sEq x1.fAs x1.fName)))) || ((!x1.fOne)&&(x1.fId != 0))) false 65 70 (fun z=>(z || (!y4))) (fun hx=>?_) ?_
  .have h6:=h6 hx
   exact Kg 2 (Kw0 (Qk h6 (Kg 1 (Kee))))
  refine Kn (Kr (Kc h (fun h=>?_) fun h=>?_))
  .refine Kgh (Ks (Ko (Kg 1 (Kn (Kr ?_)))))
   cases h;exact Kt
  .exact Kgh (Ku (Kr (Ks (Ks (Ko (Kg 1 (Kn (Kr (Kb (Kv h))))))))))
 .refine Kgh (Kx ?_)
  refine Kr (Ks (Ko (Kg 2 (Kn (Kr ?_)))))
  cases h;exact Kt
theorem s_l3Ok_unf (p0:(List Sel)) (p1:Int) (p2:Int) (r:Int) (h:B_s_l3Ok p0 p1 p2 r):S_s_l3Ok p0 p1 p2 r:=by
 refine Kz (p:=l113) (Ks (Ko (Kg 1 (Kn (Kr (Ks (Ko (Kg 2 (Kn (Kr (Ks (Ks (Ko ?_)))))))))))))
 refine Kg 1 (KL h fun h=>?_)
 refine Kg 2 (Kq 3 (decide ((p0.length:Int)>0)) true 15 18 (fun z=>(z&&(decide (p1>5)))) (fun hx=>?_) ?_)
 .exact Kg 2 (Kee)
 refine Kn (Kr (Kc h (fun h=>?_) fun h=>?_))
 .refine Kgh (Ks (Ko (Kg 1 (Kn (Kr ?_)))))
  cases h;exact Kt
 .exact Kgh (Ku (Kr (Ks (Ks (Ko (Kg 1 (Kn (Kr (Kb (Kv h))))))))))
def ss_l3Write_J4 (p0:(List Sel)) (v3j4:Str) (v4l1:Int) (x1:Sel):LSt:=⟨[(0,L p0),(3,S v3j4),(4,I v4l1),(5,.ref 53760 0)],[(53760,.var (CS x1))],[]⟩
def ss_l3Write_J3 (p0:(List Sel)) (v3j3:Str) (v4l1:Int) (x1:Sel):LSt:=⟨[(0,L p0),(3,S v3j3),(4,I v4l1),(5,.ref 53760 0)],[(53760,.var (CS x1))],[]⟩
def ss_l3Write_J2 (p0:(List Sel)) (v3j2:Str) (v4l1:Int) (x1:Sel):LSt:=⟨[(0,L p0),(3,S v3j2),(4,I v4l1),(5,.ref 53760 0)],[(53760,.var (CS x1))],[]⟩
def ss_l3Write_J1 (p0:(List Sel)) (v3j1:Str) (v4l1:Int):LSt:=⟨[(0,L p0),(3,S v3j1),(4,I v4l1)],[],[]⟩
def ss_l3Write_L1 (p0:(List Sel)) (v3l1:Str) (v4l1:Int):LSt:=⟨[(0,L p0),(3,S v3l1),(4,I v4l1)],[],[]⟩
def C_s_l3Write_L1 (p0:(List Sel)) (v3l1:Str) (v4l1:Int) (r:Str):Prop:=G gE [.tmp 2] (S r,[]) [.blk 0,.sq k114_3] (.loop k114_5) (ss_l3Write_L1 p0 v3l1 v4l1)
def B_s_l3Write_J1 (p0:(List Sel)) (v3j1:Str) (v4l1:Int) (r:Str):Prop:=
 C_s_l3Write_L1 p0 v3j1 (IntKind.i64.wrap (v4l1+1)) r
def B_s_l3Write_J4 (p0:(List Sel)) (v3j4:Str) (v4l1:Int) (x1:Sel) (r:Str):Prop:=
 x1.fKids.length<=bigLen->(if (decide ((x1.fKids.length:Int)>0))=true then (∃y3:Str,(S_s_l3Write x1.fKids y3)/\((v3j4.size+y3.size<=bigStr)/\(B_s_l3Write_J1 p0 (v3j4++y3) v4l1 r))) else (B_s_l3Write_J1 p0 v3j4 v4l1 r))
def B_s_l3Write_J3 (p0:(List Sel)) (v3j3:Str) (v4l1:Int) (x1:Sel) (r:Str):Prop:=
 (v3j3.size+x1.fName.size<=bigStr)/\(if x1.fOne=true then (((v3j3++x1.fName).size+(⟨#[40]⟩:Str).size<=bigStr)/\(∃y2:Str,(S_s_l1Dec x1.fId y2)/\((((v3j3++x1.fName)++(⟨#[40]⟩:Str)).size+y2.size<=bigStr)/\(((((v3j3++x1.fName)++(⟨#[40]⟩:Str))++y2).size+(⟨#[41]⟩:Str).size<=bigStr)/\(B_s_l3Write_J4 p0 ((((v3j3++x1.fName)++(⟨#[40]⟩:Str))++y2)++(⟨#[41]⟩:Str)) v4l1 x1 r))))) else (B_s_l3Write_J4 p0 (v3j3++x1.fName) v4l1 x1 r))
def B_s_l3Write_J2 (p0:(List Sel)) (v3j2:Str) (v4l1:Int) (x1:Sel) (r:Str):Prop:=
 if (!(sEq x1.fAs sE))=true then ((v3j2.size+x1.fAs.size<=bigStr)/\(((v3j2++x1.fAs).size+(⟨#[58]⟩:Str).size<=bigStr)/\(B_s_l3Write_J3 p0 ((v3j2++x1.fAs)++(⟨#[58]⟩:Str)) v4l1 x1 r))) else (B_s_l3Write_J3 p0 v3j2 v4l1 x1 r)
def B_s_l3Write_L1 (p0:(List Sel)) (v3l1:Str) (v4l1:Int) (r:Str):Prop:=
 p0.length<=bigLen->(if (decide (v4l1<(p0.length:Int)))=true then (∃x1:Sel,(0<=v4l1/\p0[v4l1.toNat]?=some x1)/\(if (decide (v4l1>0))=true then ((v3l1.size+(⟨#[44]⟩:Str).size<=bigStr)/\(B_s_l3Write_J2 p0 (v3l1++(⟨#[44]⟩:Str)) v4l1 x1 r)) else (B_s_l3Write_J2 p0 v3l1 v4l1 x1 r))) else ((v3l1.size+(⟨#[125]⟩:Str).size<=bigStr)/\(r=(v3l1++(⟨#[125]⟩:Str)))))
def B_s_l3Write (p0:(List Sel)) (r:Str):Prop:=
 C_s_l3Write_L1 p0 (⟨#[123]⟩:Str) 0 r
theorem s_l3Write_J1_unf (p0:(List Sel)) (v3j1:Str) (v4l1:Int) (r:Str) (h:B_s_l3Write_J1 p0 v3j1 v4l1 r):G gE [.tmp 2] (S r,[]) [.lp k114_5,.blk 0,.sq k114_3] (.ops [oD 10 (.mv 4) [4],oD 11 (.bin .add 10 (cI 1)) [10],oD 4 (.mv 11) [11]]) (ss_l3Write_J1 p0 v3j1 v4l1):=by
 exact Ko (Kg 3 (Kn (Kl h)))
theorem s_l3Write_J4_unf (p0:(List Sel)) (v3j4:Str) (v4l1:Int) (x1:Sel) (r:Str) (h:B_s_l3Write_J4 p0 v3j4 v4l1 x1 r):G gE [.tmp 2] (S r,[]) [.blk 1,.sq k114_8,.lp k114_5,.blk 0,.sq k114_3] (.seq (.ops [oD 41 (.faddr 4 5) [],oD 42 (.load 1 false (some 53760) 41) [41],oD 43 (.len 42) [42],oD 44 (.bin .gtr 43 (cI 0)) [43]]) k114_17) (ss_l3Write_J4 p0 v3j4 v4l1 x1):=by
 refine Ks (Ko (Kg 2 (KL h fun h=>?_)))
 refine Kg 1 (Kn (Kr (Kc h (fun h=>?_) fun h=>?_)))
 .refine Kgh (Ko (Kg 3 (Kk h fun y3 h=>?_)))
  refine Kct h fun h=>?_
  refine Kg 1 (Kn (Kp (Kr ?_)))
  exact Kj (s_l3Write_J1_unf p0 (v3j4++y3) v4l1 r h)
 .refine Kgh (Ku (Kp (Kr ?_)))
  exact Kj (s_l3Write_J1_unf p0 v3j4 v4l1 r h)
theorem s_l3Write_J3_unf (p0:(List Sel)) (v3j3:Str) (v4l1:Int) (x1:Sel) (r:Str) (h:B_s_l3Write_J3 p0 v3j3 v4l1 x1 r):G gE [.tmp 2] (S r,[]) [.blk 1,.sq k114_8,.lp k114_5,.blk 0,.sq k114_3] (.seq (.ops [oD 28 (.mv 3) [3],oD 29 (.faddr 1 5) [],oD 30 (.load 1 false (some 53760) 29) [29],oD 31 (.bin .add 28 30) [28,30],oD 3 (.mv 31) [31]]) k114_14) (ss_l3Write_J3 p0 v3j3 v4l1 x1):=by
 refine Ks (Ko (Kg 3 (Kct h fun h=>?_)))
 refine Kg 1 (Kn (Kr (Ks (Ks (Ko (Kg 2 (Kn (Kr (Kc h (fun h=>?_) fun h=>?_)))))))))
 .refine Kgh (Ko (Kg 1 (Kct h fun h=>?_)))
  refine Kg 2 (Kk h fun y2 h=>?_)
  refine Kct h fun h=>?_
  refine Kct h fun h=>?_
  refine Kg 1 (Kn (Kr ?_))
  exact Kj (s_l3Write_J4_unf p0 ((((v3j3++x1.fName)++(⟨#[40]⟩:Str))++y2)++(⟨#[41]⟩:Str)) v4l1 x1 r h)
 .refine Kgh (Ku (Kr ?_))
  exact Kj (s_l3Write_J4_unf p0 (v3j3++x1.fName) v4l1 x1 r h)
theorem s_l3Write_J2_unf (p0:(List Sel)) (v3j2:Str) (v4l1:Int) (x1:Sel) (r:Str) (h:B_s_l3Write_J2 p0 v3j2 v4l1 x1 r):G gE [.tmp 2] (S r,[]) [.blk 1,.sq k114_8,.lp k114_5,.blk 0,.sq k114_3] (.seq (.seq (.ops [oD 20 (.faddr 0 5) [],oD 21 (.load 1 false (some 53760) 20) [20],oD 22 (.bin .neq 21 (.c (.string sE))) [21]]) k114_13) k114_12) (ss_l3Write_J2 p0 v3j2 v4l1 x1):=by
 refine Ks (Ks (Ko (Kg 3 (Kn (Kr (Kc h (fun h=>?_) fun h=>?_))))))
 .refine Kgh (Ko (Kg 3 (Kct h fun h=>?_)))
  refine Kct h fun h=>?_
  refine Kg 1 (Kn (Kr ?_))
  exact Kj (s_l3Write_J3_unf p0 ((v3j2++x1.fAs)++(⟨#[58]⟩:Str)) v4l1 x1 r h)
 .refine Kgh (Ku (Kr ?_))
  exact Kj (s_l3Write_J3_unf p0 v3j2 v4l1 x1 r h)
theorem s_l3Write_L1_unf (p0:(List Sel)) (v3l1:Str) (v4l1:Int) (r:Str) (h:B_s_l3Write_L1 p0 v3l1 v4l1 r):C_s_l3Write_L1 p0 v3l1 v4l1 r:=by
 refine Ky (Ks (Ks (Ko (Kg 2 (KL h fun h=>?_)))))
 refine Kg 1 (Kn (Kr (Kc h (fun h=>?_) fun h=>?_)))
 .refine Kgh (Ku (Kr (Ks (Kb (Ks (Ko (Kg 2 (Ki h fun x1 h=>?_))))))))
  refine Kg 3 (Kn (Kr (Ks (Ks (Ko (Kg 2 (Kn (Kr (Kc h (fun h=>?_) fun h=>?_)))))))))
  .refine Kgh (Ko (Kg 1 (Kct h fun h=>?_)))
   refine Kg 1 (Kn (Kr ?_))
   exact Kj (s_l3Write_J2_unf p0 (v3l1++(⟨#[44]⟩:Str)) v4l1 x1 r h)
  .refine Kgh (Ku (Kr ?_))
   exact Kj (s_l3Write_J2_unf p0 v3l1 v4l1 x1 r h)
 .refine Kgh (Kx ?_)
  refine Kr (Ks (Ko (Kg 1 (Kct h fun h=>?_))))
  refine Kg 1 (Kn (Kr ?_))
  cases h;exact Kt
theorem s_l3Write_unf (p0:(List Sel)) (r:Str) (h:B_s_l3Write p0 r):S_s_l3Write p0 r:=by
 refine Kz (p:=l114) (Ks (Ko (Kg 1 (Kn (Kr (Ks (Ko (Kg 1 (Kn (Kr (Ks (Ks (Ko ?_)))))))))))))
 exact Kg 1 (Kn (Kr (Kb (Kv h))))
def B_s_l3Key (p0:Sel) (r:Str):Prop:=
 if (!(sEq p0.fAs sE))=true then (r=p0.fAs) else (r=p0.fName)
theorem s_l3Key_unf (p0:Sel) (r:Str) (h:B_s_l3Key p0 r):S_s_l3Key p0 r:=by
 refine Kz (p:=l115) (Ks (Ko (Kg 2 (Kn (Kr (Ks (Ks (Ko (Kg 3 (Kn (Kr (Kc h (fun h=>?_) fun h=>?_))))))))))))
 .refine Kgh (Ks (Ko (Kg 3 (Kn (Kr (Kgh ?_))))))
  cases h;exact Kt
 .refine Kgh (Ku (Kr (Ks (Ko (Kg 3 (Kn (Kr (Kgh ?_))))))))
  cases h;exact Kt
def B_s_l2Scalar (p0:Str) (r:Bool):Prop:=
 r=(((sEq p0 (⟨#[105,110,116]⟩:Str)) || (sEq p0 (⟨#[116,101,120,116]⟩:Str))) || (sEq p0 (⟨#[98,111,111,108]⟩:Str)))
theorem s_l2Scalar_unf (p0:Str) (r:Bool) (h:B_s_l2Scalar p0 r):S_s_l2Scalar p0 r:=by
 refine Kz (p:=l116) (Ks (Ko (Kg 1 (Kn (Kr (Ks (Ko (Kg 3 (Kq 3 (sEq p0 (⟨#[105,110,116]⟩:Str)) false 5 8 (fun z=>(z || (sEq p0 (⟨#[116,101,120,116]⟩:Str)))) (fun hx=>?_) ?_)))))))))
 .exact Kg 2 (Kee)
 refine Kg 1 (Kq 3 ((sEq p0 (⟨#[105,110,116]⟩:Str)) || (sEq p0 (⟨#[116,101,120,116]⟩:Str))) false 9 12 (fun z=>(z || (sEq p0 (⟨#[98,111,111,108]⟩:Str)))) (fun hx=>?_) ?_)
 .exact Kg 2 (Kee)
 refine Kg 1 (Kn (Kr ?_))
 cases h;exact Kt
def B_i_Part_find (p0:Part) (p1:Str) (r:Ty×Bool):Prop:=
 ∃y1:Int,(S_slices_IndexFunc_Type p0.fTypes (.clo 171 [.cp (Enc.row p1)]:PV) y1)/\(if (decide (y1<0))=true then (r=((Ty.mk sE sE []),false)) else (∃x2:Ty,(0<=y1/\p0.fTypes[y1.toNat]?=some x2)/\(r=(x2,true))))
theorem i_Part_find_unf (p0:Part) (p1:Str) (r:Ty×Bool) (h:B_i_Part_find p0 p1 r):S_i_Part_find p0 p1 r:=by
 refine Kz (p:=l119) (Ks (Ko (Kg 4 (Kn (Kr (Ks (Kgh (Ko (Kg 3 (Kk h fun y1 h=>?_))))))))))
 refine Kg 1 (Kn (Kr (Ks (Ks (Ko (Kg 2 (Kn (Kr (Kc h (fun h=>?_) fun h=>?_)))))))))
 .refine Kgh (Ks (Ko (Kg 3 (Kn (Kr (Kgh (Kgh ?_)))))))
  cases h;exact Kt
 .refine Kgh (Ku (Kr (Ks (Ko (Kg 3 (Ki h fun x2 h=>?_))))))
  refine Kg 3 (Kn (Kr (Kgh ?_)))
  cases h;exact Kt
def sslices_IndexFunc_Type_L1 (p0:(List Ty)) (p1:PV) (v8l1:Int):LSt:=⟨[(0,L p0),(1,.pv p1),(7,I (p0.length:Int)),(8,I v8l1)],[],[]⟩
def C_slices_IndexFunc_Type_L1 (p0:(List Ty)) (p1:PV) (v8l1:Int) (r:Int):Prop:=G gE [.tmp 4] (I r,[]) [.blk 0,.sq k136_2] (.loop k136_4) (sslices_IndexFunc_Type_L1 p0 p1 v8l1)
def B_slices_IndexFunc_Type_L1 (p0:(List Ty)) (p1:PV) (v8l1:Int) (r:Int):Prop:=
 if (decide (v8l1<(p0.length:Int)))=true then (∃x1:Ty,(0<=v8l1/\p0[v8l1.toNat]?=some x1)/\(∃y2:Bool,(AB gE p1 [A x1] (B y2,[]))/\(if y2=true then (r=v8l1) else (C_slices_IndexFunc_Type_L1 p0 p1 (IntKind.i64.wrap (v8l1+1)) r)))) else (r=(-1))
def B_slices_IndexFunc_Type (p0:(List Ty)) (p1:PV) (r:Int):Prop:=
 p0.length<=bigLen->(C_slices_IndexFunc_Type_L1 p0 p1 0 r)
theorem slices_IndexFunc_Type_L1_unf (p0:(List Ty)) (p1:PV) (v8l1:Int) (r:Int) (h:B_slices_IndexFunc_Type_L1 p0 p1 v8l1 r):C_slices_IndexFunc_Type_L1 p0 p1 v8l1 r:=by
 refine Ky (Ks (Ko (Kg 1 (Kn (Kr (Ks (Kc h (fun h=>?_) fun h=>?_)))))))
 .refine Kgh (Ku (Kr (Ks (Kb (Ks (Ko (Kg 2 (Kn (Kr (Ks (Ko (Kg 3 (Ki h fun x1 h=>?_)))))))))))))
  refine Kg 1 (Kkv h fun y2 h=>?_)
  refine Kn (Kr (Kc h (fun h=>?_) fun h=>?_))
  .refine Kgh (Ks (Ko (Kg 2 (Kn (Kr ?_)))))
   cases h;exact Kt
  .exact Kgh (Ku (Kp (Kr (Ko (Kg 2 (Kn (Kl h)))))))
 .refine Kgh (Kx ?_)
  refine Kr (Ks (Ko (Kg 1 (Kn (Kr ?_)))))
  cases h;exact Kt
theorem slices_IndexFunc_Type_unf (p0:(List Ty)) (p1:PV) (r:Int) (h:B_slices_IndexFunc_Type p0 p1 r):S_slices_IndexFunc_Type p0 p1 r:=by
 refine Kz (p:=l136) (Ks (Ko (Kg 1 (Kn (Kr (Ks (Ks (Ko (Kg 1 (KL h fun h=>?_))))))))))
 exact Kg 1 (Kn (Kr (Kb (Kv h))))
def B_i_Type_find (p0:Ty) (p1:Str) (r:Field×Bool):Prop:=
 ∃y1:Int,(S_slices_IndexFunc_Field p0.fFields (.clo 192 [.cp (Enc.row p1)]:PV) y1)/\(if (decide (y1<0))=true then (r=((Field.mk sE sE false false false false false []),false)) else (∃x2:Field,(0<=y1/\p0.fFields[y1.toNat]?=some x2)/\(r=(x2,true))))
theorem i_Type_find_unf (p0:Ty) (p1:Str) (r:Field×Bool) (h:B_i_Type_find p0 p1 r):S_i_Type_find p0 p1 r:=by
 refine Kz (p:=l138) (Ks (Ko (Kg 4 (Kn (Kr (Ks (Kgh (Ko (Kg 3 (Kk h fun y1 h=>?_))))))))))
 refine Kg 1 (Kn (Kr (Ks (Ks (Ko (Kg 2 (Kn (Kr (Kc h (fun h=>?_) fun h=>?_)))))))))
 .refine Kgh (Ks (Ko (Kg 3 (Kn (Kr (Kgh (Kgh ?_)))))))
  cases h;exact Kt
 .refine Kgh (Ku (Kr (Ks (Ko (Kg 3 (Ki h fun x2 h=>?_))))))
  refine Kg 3 (Kn (Kr (Kgh ?_)))
  cases h;exact Kt
def B_slices_ContainsFunc_Field (p0:(List Field)) (p1:PV) (r:Bool):Prop:=
 ∃y1:Int,(S_slices_IndexFunc_Field p0 (p1:PV) y1)/\(r=(decide (y1>=0)))
theorem slices_ContainsFunc_Field_unf (p0:(List Field)) (p1:PV) (r:Bool) (h:B_slices_ContainsFunc_Field p0 p1 r):S_slices_ContainsFunc_Field p0 p1 r:=by
 refine Kz (p:=l139) (Ks (Ko (Kg 1 (Kn (Kr (Ks (Ko (Kg 2 (Kk h fun y1 h=>?_)))))))))
 refine Kg 2 (Kn (Kr ?_))
 cases h;exact Kt
def sw_markFieldS_L1 (p0:(List Field)) (v1l1:Int) (v5l1:Int) (o0_xsl1:List Field):LSt:=⟨[(0,.arr 47104 p0.length),(1,I v1l1),(5,I v5l1)],[(47104,.rows 8 (Enc.E o0_xsl1) zh0 none)],[47104]⟩
def C_w_markFieldS_L1 (p0:(List Field)) (v1l1:Int) (v5l1:Int) (o0_xsl1:List Field) (r:Int×(List Field)):Prop:=G gE [.tmp 4] (I r.1,[some (.rows 8 (Enc.E r.2) zh0 none)]) [.blk 0,.sq k144_2] (.loop k144_4) (sw_markFieldS_L1 p0 v1l1 v5l1 o0_xsl1)
def B_w_markFieldS_L1 (p0:(List Field)) (v1l1:Int) (v5l1:Int) (o0_xsl1:List Field) (r:Int×(List Field)):Prop:=
 if (decide (v5l1<(p0.length:Int)))=true then (∃y1:Str,(S_w_markText v1l1 y1)/\(∃x2:Field,(0<=v5l1/\o0_xsl1[v5l1.toNat]?=some x2)/\(∃y3:Str,(S_w_markText (IntKind.i64.wrap (v1l1+1)) y3)/\(∃y4:Int×(List Str),(S_w_markStringS x2.fNeeds (IntKind.i64.wrap ((IntKind.i64.wrap ((IntKind.i64.wrap ((IntKind.i64.wrap ((IntKind.i64.wrap ((IntKind.i64.wrap ((IntKind.i64.wrap (v1l1+1))+1))+1))+1))+1))+1))+1)) y4)/\(C_w_markFieldS_L1 p0 y4.1 (IntKind.i64.wrap (v5l1+1)) (o0_xsl1.set v5l1.toNat (Field.mk y1 y3 (((IntKind.i64.wrap ((IntKind.i64.wrap (v1l1+1))+1)).tmod 3) == 0) (((IntKind.i64.wrap ((IntKind.i64.wrap ((IntKind.i64.wrap (v1l1+1))+1))+1)).tmod 3) == 0) (((IntKind.i64.wrap ((IntKind.i64.wrap ((IntKind.i64.wrap ((IntKind.i64.wrap (v1l1+1))+1))+1))+1)).tmod 3) == 0) (((IntKind.i64.wrap ((IntKind.i64.wrap ((IntKind.i64.wrap ((IntKind.i64.wrap ((IntKind.i64.wrap (v1l1+1))+1))+1))+1))+1)).tmod 3) == 0) (((IntKind.i64.wrap ((IntKind.i64.wrap ((IntKind.i64.wrap ((IntKind.i64.wrap ((IntKind.i64.wrap ((IntKind.i64.wrap (v1l1+1))+1))+1))+1))+1))+1)).tmod 3) == 0) y4.2)) r))))) else (r=(v1l1,o0_xsl1))
def B_w_markFieldS (p0:(List Field)) (p1:Int) (r:Int×(List Field)):Prop:=
 C_w_markFieldS_L1 p0 p1 0 p0 r
theorem w_markFieldS_L1_unf (p0:(List Field)) (v1l1:Int) (v5l1:Int) (o0_xsl1:List Field) (r:Int×(List Field)) (h:B_w_markFieldS_L1 p0 v1l1 v5l1 o0_xsl1 r):C_w_markFieldS_L1 p0 v1l1 v5l1 o0_xsl1 r:=by
 refine Ky (Ks (Ks (Ko (Kg 4 (Kn (Kr (Kc h (fun h=>?_) fun h=>?_)))))))
 .refine Kgh (Ku (Kr (Ks (Kb (Ks (Ko (Kg 3 (Kk h fun y1 h=>?_))))))))
  obtain⟨x2,hx3,h⟩:=h
  refine Kpr hx3 (Kg 1 (Kst 0 (Field.mk y1 x2.fOf x2.fList x2.fMust x2.fFar x2.fHidden x2.fShared x2.fNeeds) hx3.2 (Kn (Kr (Ks (Ko (Kg 3 (Kn (Kr (Ks (Ko (Kg 3 (Kk h fun y3 h=>?_)))))))))))))
  refine Kpr (fset (Field.mk y1 x2.fOf x2.fList x2.fMust x2.fFar x2.fHidden x2.fShared x2.fNeeds) hx3) (Kg 1 (Kss 1 (Field.mk y1 x2.fOf x2.fList x2.fMust x2.fFar x2.fHidden x2.fShared x2.fNeeds) (Field.mk y1 y3 x2.fList x2.fMust x2.fFar x2.fHidden x2.fShared x2.fNeeds) hx3.2 (Kn (Kr (Ks (Ko (Kg 3 (Kn (Kr (Ks (Ko (Kg 3 (Kre (k := .i64) (IntKind.i64.wrap ((IntKind.i64.wrap (v1l1+1))+1)) 3 (by decide) ?_)))))))))))))
  refine Kg 1 (Kpr (fset (Field.mk y1 y3 x2.fList x2.fMust x2.fFar x2.fHidden x2.fShared x2.fNeeds) hx3) (Kg 1 (Kss 2 (Field.mk y1 y3 x2.fList x2.fMust x2.fFar x2.fHidden x2.fShared x2.fNeeds) (Field.mk y1 y3 (((IntKind.i64.wrap ((IntKind.i64.wrap (v1l1+1))+1)).tmod 3) == 0) x2.fMust x2.fFar x2.fHidden x2.fShared x2.fNeeds) hx3.2 (Kn (Kr (Ks (Ko (Kg 3 (Kn (Kr (Ks (Ko (Kg 3 ?_)))))))))))))
  refine Kre (k := .i64) (IntKind.i64.wrap ((IntKind.i64.wrap ((IntKind.i64.wrap (v1l1+1))+1))+1)) 3 (by decide) (Kg 1 (Kpr (fset (Field.mk y1 y3 (((IntKind.i64.wrap ((IntKind.i64.wrap (v1l1+1))+1)).tmod 3) == 0) x2.fMust x2.fFar x2.fHidden x2.fShared x2.fNeeds) hx3) (Kg 1 (Kss 3 (Field.mk y1 y3 (((IntKind.i64.wrap ((IntKind.i64.wrap (v1l1+1))+1)).tmod 3) == 0) x2.fMust x2.fFar x2.fHidden x2.fShared x2.fNeeds) (Field.mk y1 y3 (((IntKind.i64.wrap ((IntKind.i64.wrap (v1l1+1))+1)).tmod 3) == 0) (((IntKind.i64.wrap ((IntKind.i64.wrap ((IntKind.i64.wrap (v1l1+1))+1))+1)).tmod 3) == 0) x2.fFar x2.fHidden x2.fShared x2.fNeeds) hx3.2 (Kn (Kr (Ks (Ko (Kg 3 (Kn (Kr (Ks (Ko ?_)))))))))))))
  refine Kg 3 (Kre (k := .i64) (IntKind.i64.wrap ((IntKind.i64.wrap ((IntKind.i64.wrap ((IntKind.i64.wrap (v1l1+1))+1))+1))+1)) 3 (by decide) (Kg 1 (Kpr (fset (Field.mk y1 y3 (((IntKind.i64.wrap ((IntKind.i64.wrap (v1l1+1))+1)).tmod 3) == 0) (((IntKind.i64.wrap ((IntKind.i64.wrap ((IntKind.i64.wrap (v1l1+1))+1))+1)).tmod 3) == 0) x2.fFar x2.fHidden x2.fShared x2.fNeeds) hx3) (Kg 1 (Kss 4 (Field.mk y1 y3 (((IntKind.i64.wrap ((IntKind.i64.wrap (v1l1+1))+1)).tmod 3) == 0) (((IntKind.i64.wrap ((IntKind.i64.wrap ((IntKind.i64.wrap (v1l1+1))+1))+1)).tmod 3) == 0) x2.fFar x2.fHidden x2.fShared x2.fNeeds) (Field.mk y1 y3 (((IntKind.i64.wrap ((IntKind.i64.wrap (v1l1+1))+1)).tmod 3) == 0) (((IntKind.i64.wrap ((IntKind.i64.wrap ((IntKind.i64.wrap (v1l1+1))+1))+1)).tmod 3) == 0) (((IntKind.i64.wrap ((IntKind.i64.wrap ((IntKind.i64.wrap ((IntKind.i64.wrap (v1l1+1))+1))+1))+1)).tmod 3) == 0) x2.fHidden x2.fShared x2.fNeeds) hx3.2 (Kn (Kr (Ks (Ko (Kg 3 (Kn (Kr (Ks ?_)))))))))))))
  refine Ko (Kg 3 (Kre (k := .i64) (IntKind.i64.wrap ((IntKind.i64.wrap ((IntKind.i64.wrap ((IntKind.i64.wrap ((IntKind.i64.wrap (v1l1+1))+1))+1))+1))+1)) 3 (by decide) (Kg 1 (Kpr (fset (Field.mk y1 y3 (((IntKind.i64.wrap ((IntKind.i64.wrap (v1l1+1))+1)).tmod 3) == 0) (((IntKind.i64.wrap ((IntKind.i64.wrap ((IntKind.i64.wrap (v1l1+1))+1))+1)).tmod 3) == 0) (((IntKind.i64.wrap ((IntKind.i64.wrap ((IntKind.i64.wrap ((IntKind.i64.wrap (v1l1+1))+1))+1))+1)).tmod 3) == 0) x2.fHidden x2.fShared x2.fNeeds) hx3) (Kg 1 (Kss 5 (Field.mk y1 y3 (((IntKind.i64.wrap ((IntKind.i64.wrap (v1l1+1))+1)).tmod 3) == 0) (((IntKind.i64.wrap ((IntKind.i64.wrap ((IntKind.i64.wrap (v1l1+1))+1))+1)).tmod 3) == 0) (((IntKind.i64.wrap ((IntKind.i64.wrap ((IntKind.i64.wrap ((IntKind.i64.wrap (v1l1+1))+1))+1))+1)).tmod 3) == 0) x2.fHidden x2.fShared x2.fNeeds) (Field.mk y1 y3 (((IntKind.i64.wrap ((IntKind.i64.wrap (v1l1+1))+1)).tmod 3) == 0) (((IntKind.i64.wrap ((IntKind.i64.wrap ((IntKind.i64.wrap (v1l1+1))+1))+1)).tmod 3) == 0) (((IntKind.i64.wrap ((IntKind.i64.wrap ((IntKind.i64.wrap ((IntKind.i64.wrap (v1l1+1))+1))+1))+1)).tmod 3) == 0) (((IntKind.i64.wrap ((IntKind.i64.wrap ((IntKind.i64.wrap ((IntKind.i64.wrap ((IntKind.i64.wrap (v1l1+1))+1))+1))+1))+1)).tmod 3) == 0) x2.fShared x2.fNeeds) hx3.2 (Kn (Kr (Ks (Ko (Kg 3 (Kn (Kr ?_)))))))))))))
  refine Ks (Ko (Kg 3 (Kre (k := .i64) (IntKind.i64.wrap ((IntKind.i64.wrap ((IntKind.i64.wrap ((IntKind.i64.wrap ((IntKind.i64.wrap ((IntKind.i64.wrap (v1l1+1))+1))+1))+1))+1))+1)) 3 (by decide) (Kg 1 (Kpr (fset (Field.mk y1 y3 (((IntKind.i64.wrap ((IntKind.i64.wrap (v1l1+1))+1)).tmod 3) == 0) (((IntKind.i64.wrap ((IntKind.i64.wrap ((IntKind.i64.wrap (v1l1+1))+1))+1)).tmod 3) == 0) (((IntKind.i64.wrap ((IntKind.i64.wrap ((IntKind.i64.wrap ((IntKind.i64.wrap (v1l1+1))+1))+1))+1)).tmod 3) == 0) (((IntKind.i64.wrap ((IntKind.i64.wrap ((IntKind.i64.wrap ((IntKind.i64.wrap ((IntKind.i64.wrap (v1l1+1))+1))+1))+1))+1)).tmod 3) == 0) x2.fShared x2.fNeeds) hx3) (Kg 1 (Kss 6 (Field.mk y1 y3 (((IntKind.i64.wrap ((IntKind.i64.wrap (v1l1+1))+1)).tmod 3) == 0) (((IntKind.i64.wrap ((IntKind.i64.wrap ((IntKind.i64.wrap (v1l1+1))+1))+1)).tmod 3) == 0) (((IntKind.i64.wrap ((IntKind.i64.wrap ((IntKind.i64.wrap ((IntKind.i64.wrap (v1l1+1))+1))+1))+1)).tmod 3) == 0) (((IntKind.i64.wrap ((IntKind.i64.wrap ((IntKind.i64.wrap ((IntKind.i64.wrap ((IntKind.i64.wrap (v1l1+1))+1))+1))+1))+1)).tmod 3) == 0) x2.fShared x2.fNeeds) (Field.mk y1 y3 (((IntKind.i64.wrap ((IntKind.i64.wrap (v1l1+1))+1)).tmod 3) == 0) (((IntKind.i64.wrap ((IntKind.i64.wrap ((IntKind.i64.wrap (v1l1+1))+1))+1)).tmod 3) == 0) (((IntKind.i64.wrap ((IntKind.i64.wrap ((IntKind.i64.wrap ((IntKind.i64.wrap (v1l1+1))+1))+1))+1)).tmod 3) == 0) (((IntKind.i64.wrap ((IntKind.i64.wrap ((IntKind.i64.wrap ((IntKind.i64.wrap ((IntKind.i64.wrap (v1l1+1))+1))+1))+1))+1)).tmod 3) == 0) (((IntKind.i64.wrap ((IntKind.i64.wrap ((IntKind.i64.wrap ((IntKind.i64.wrap ((IntKind.i64.wrap ((IntKind.i64.wrap (v1l1+1))+1))+1))+1))+1))+1)).tmod 3) == 0) x2.fNeeds) hx3.2 (Kn (Kr (Ks (Ko (Kg 3 (Kn ?_)))))))))))))
  refine Kr (Ktk x2.fNeeds (sget (Field.mk y1 y3 (((IntKind.i64.wrap ((IntKind.i64.wrap (v1l1+1))+1)).tmod 3) == 0) (((IntKind.i64.wrap ((IntKind.i64.wrap ((IntKind.i64.wrap (v1l1+1))+1))+1)).tmod 3) == 0) (((IntKind.i64.wrap ((IntKind.i64.wrap ((IntKind.i64.wrap ((IntKind.i64.wrap (v1l1+1))+1))+1))+1)).tmod 3) == 0) (((IntKind.i64.wrap ((IntKind.i64.wrap ((IntKind.i64.wrap ((IntKind.i64.wrap ((IntKind.i64.wrap (v1l1+1))+1))+1))+1))+1)).tmod 3) == 0) (((IntKind.i64.wrap ((IntKind.i64.wrap ((IntKind.i64.wrap ((IntKind.i64.wrap ((IntKind.i64.wrap ((IntKind.i64.wrap (v1l1+1))+1))+1))+1))+1))+1)).tmod 3) == 0) x2.fNeeds) hx3.2) (Ko (Kg 2 (Kpr (fset (Field.mk y1 y3 (((IntKind.i64.wrap ((IntKind.i64.wrap (v1l1+1))+1)).tmod 3) == 0) (((IntKind.i64.wrap ((IntKind.i64.wrap ((IntKind.i64.wrap (v1l1+1))+1))+1)).tmod 3) == 0) (((IntKind.i64.wrap ((IntKind.i64.wrap ((IntKind.i64.wrap ((IntKind.i64.wrap (v1l1+1))+1))+1))+1)).tmod 3) == 0) (((IntKind.i64.wrap ((IntKind.i64.wrap ((IntKind.i64.wrap ((IntKind.i64.wrap ((IntKind.i64.wrap (v1l1+1))+1))+1))+1))+1)).tmod 3) == 0) (((IntKind.i64.wrap ((IntKind.i64.wrap ((IntKind.i64.wrap ((IntKind.i64.wrap ((IntKind.i64.wrap ((IntKind.i64.wrap (v1l1+1))+1))+1))+1))+1))+1)).tmod 3) == 0) x2.fNeeds) hx3) (Kg 1 (Klh 7 zh0 (7,42496,x2.fNeeds.length) (sget (Field.mk y1 y3 (((IntKind.i64.wrap ((IntKind.i64.wrap (v1l1+1))+1)).tmod 3) == 0) (((IntKind.i64.wrap ((IntKind.i64.wrap ((IntKind.i64.wrap (v1l1+1))+1))+1)).tmod 3) == 0) (((IntKind.i64.wrap ((IntKind.i64.wrap ((IntKind.i64.wrap ((IntKind.i64.wrap (v1l1+1))+1))+1))+1)).tmod 3) == 0) (((IntKind.i64.wrap ((IntKind.i64.wrap ((IntKind.i64.wrap ((IntKind.i64.wrap ((IntKind.i64.wrap (v1l1+1))+1))+1))+1))+1)).tmod 3) == 0) (((IntKind.i64.wrap ((IntKind.i64.wrap ((IntKind.i64.wrap ((IntKind.i64.wrap ((IntKind.i64.wrap ((IntKind.i64.wrap (v1l1+1))+1))+1))+1))+1))+1)).tmod 3) == 0) x2.fNeeds) hx3.2) (Kg 1 (Kk h fun y4 h=>?_))))))))
  exact Kg 1 (Kn (Kp (Kr (Kps 7 42496 (Field.mk y1 y3 (((IntKind.i64.wrap ((IntKind.i64.wrap (v1l1+1))+1)).tmod 3) == 0) (((IntKind.i64.wrap ((IntKind.i64.wrap ((IntKind.i64.wrap (v1l1+1))+1))+1)).tmod 3) == 0) (((IntKind.i64.wrap ((IntKind.i64.wrap ((IntKind.i64.wrap ((IntKind.i64.wrap (v1l1+1))+1))+1))+1)).tmod 3) == 0) (((IntKind.i64.wrap ((IntKind.i64.wrap ((IntKind.i64.wrap ((IntKind.i64.wrap ((IntKind.i64.wrap (v1l1+1))+1))+1))+1))+1)).tmod 3) == 0) (((IntKind.i64.wrap ((IntKind.i64.wrap ((IntKind.i64.wrap ((IntKind.i64.wrap ((IntKind.i64.wrap ((IntKind.i64.wrap (v1l1+1))+1))+1))+1))+1))+1)).tmod 3) == 0) x2.fNeeds) (Field.mk y1 y3 (((IntKind.i64.wrap ((IntKind.i64.wrap (v1l1+1))+1)).tmod 3) == 0) (((IntKind.i64.wrap ((IntKind.i64.wrap ((IntKind.i64.wrap (v1l1+1))+1))+1)).tmod 3) == 0) (((IntKind.i64.wrap ((IntKind.i64.wrap ((IntKind.i64.wrap ((IntKind.i64.wrap (v1l1+1))+1))+1))+1)).tmod 3) == 0) (((IntKind.i64.wrap ((IntKind.i64.wrap ((IntKind.i64.wrap ((IntKind.i64.wrap ((IntKind.i64.wrap (v1l1+1))+1))+1))+1))+1)).tmod 3) == 0) (((IntKind.i64.wrap ((IntKind.i64.wrap ((IntKind.i64.wrap ((IntKind.i64.wrap ((IntKind.i64.wrap ((IntKind.i64.wrap (v1l1+1))+1))+1))+1))+1))+1)).tmod 3) == 0) y4.2) y4.2 hx3.2 (Ko (Kg 3 (Kn (Kl h))))))))
 .refine Kgh (Kx ?_)
  refine Kr (Ks (Ko (Kg 2 (Kn (Kr ?_)))))
  cases h;exact Kt
theorem w_markFieldS_unf (p0:(List Field)) (p1:Int) (r:Int×(List Field)) (h:B_w_markFieldS p0 p1 r):S_w_markFieldS p0 p1 r:=by
 exact Kz (p:=l144) (Ks (Ko (Kg 1 (Kn (Kr (Ks (Ks (Ko (Kg 1 (Kn (Kr (Kb (Kv h)))))))))))))
def B_slices_Contains_string (p0:(List Str)) (p1:Str) (r:Bool):Prop:=
 ∃y1:Int,(S_slices_Index_string p0 p1 y1)/\(r=(decide (y1>=0)))
theorem slices_Contains_string_unf (p0:(List Str)) (p1:Str) (r:Bool) (h:B_slices_Contains_string p0 p1 r):S_slices_Contains_string p0 p1 r:=by
 refine Kz (p:=l147) (Ks (Ko (Kg 1 (Kn (Kr (Ks (Ko (Kg 2 (Kk h fun y1 h=>?_)))))))))
 refine Kg 2 (Kn (Kr ?_))
 cases h;exact Kt
def sw_szFieldS_L1 (p0:(List Field)) (v1l1:Int) (v5l1:Int):LSt:=⟨[(0,L p0),(1,I v1l1),(5,I v5l1)],[],[]⟩
def C_w_szFieldS_L1 (p0:(List Field)) (v1l1:Int) (v5l1:Int) (r:Int):Prop:=G gE [.tmp 4] (I r,[]) [.blk 0,.sq k149_6] (.loop k149_8) (sw_szFieldS_L1 p0 v1l1 v5l1)
def B_w_szFieldS_L1 (p0:(List Field)) (v1l1:Int) (v5l1:Int) (r:Int):Prop:=
 p0.length<=bigLen->(if (decide (v5l1<(p0.length:Int)))=true then (∃x1:Field,(0<=v5l1/\p0[v5l1.toNat]?=some x1)/\(∃y2:Int,(S_w_szField x1 v1l1 y2)/\(if (decide (y2<0))=true then (r=(-1)) else (C_w_szFieldS_L1 p0 y2 (IntKind.i64.wrap (v5l1+1)) r)))) else (r=v1l1))
def B_w_szFieldS (p0:(List Field)) (p1:Int) (r:Int):Prop:=
 p0.length<=bigLen->(if (decide ((IntKind.i64.wrap (p1-(p0.length:Int)))<0))=true then (r=(-1)) else (C_w_szFieldS_L1 p0 (IntKind.i64.wrap (p1-(p0.length:Int))) 0 r))
theorem w_szFieldS_L1_unf (p0:(List Field)) (v1l1:Int) (v5l1:Int) (r:Int) (h:B_w_szFieldS_L1 p0 v1l1 v5l1 r):C_w_szFieldS_L1 p0 v1l1 v5l1 r:=by
 refine Ky (Ks (Ks (Ko (Kg 2 (KL h fun h=>?_)))))
 refine Kg 1 (Kn (Kr (Kc h (fun h=>?_) fun h=>?_)))
 .refine Kgh (Ku (Kr (Ks (Kb (Ks (Ko (Kg 2 (Ki h fun x1 h=>?_))))))))
  refine Kg 2 (Kk h fun y2 h=>?_)
  refine Kg 1 (Kn (Kr (Ks (Ko (Kg 2 (Kn (Kr (Kc h (fun h=>?_) fun h=>?_))))))))
  .refine Kgh (Ks (Ko (Kg 1 (Kn (Kr ?_)))))
   cases h;exact Kt
  .exact Kgh (Ku (Kp (Kr (Ko (Kg 3 (Kn (Kl h)))))))
 .refine Kgh (Kx ?_)
  refine Kr (Ks (Ko (Kg 2 (Kn (Kr ?_)))))
  cases h;exact Kt
theorem w_szFieldS_unf (p0:(List Field)) (p1:Int) (r:Int) (h:B_w_szFieldS p0 p1 r):S_w_szFieldS p0 p1 r:=by
 refine Kz (p:=l149) (Ks (Ko (Kg 1 (Kn (Kr (Ks (Ko (Kg 2 (KL h fun h=>?_)))))))))
 refine Kg 2 (Kn (Kr (Ks (Ks (Ko (Kg 2 (Kn (Kr (Kc h (fun h=>?_) fun h=>?_)))))))))
 .refine Kgh (Ks (Ko (Kg 1 (Kn (Kr ?_)))))
  cases h;exact Kt
 .exact Kgh (Ku (Kr (Ks (Ks (Ko (Kg 1 (Kn (Kr (Kb (Kv h))))))))))
def ss_l2Type_L1 (p1:Str) (v5l1:Int) (p0:Part):LSt:=⟨[(1,S p1),(2,.ref 32256 0),(5,I v5l1)],[(32256,.var (CS p0))],[]⟩
def C_s_l2Type_L1 (p1:Str) (v5l1:Int) (p0:Part) (r:Int):Prop:=G gE [.tmp 4] (I r,[]) [.blk 0,.sq k150_2] (.loop k150_4) (ss_l2Type_L1 p1 v5l1 p0)
def B_s_l2Type_L1 (p1:Str) (v5l1:Int) (p0:Part) (r:Int):Prop:=
 p0.fTypes.length<=bigLen->(if (decide (v5l1<(p0.fTypes.length:Int)))=true then (∃x1:Ty,(0<=v5l1/\p0.fTypes[v5l1.toNat]?=some x1)/\(if (sEq x1.fName p1)=true then (r=v5l1) else (C_s_l2Type_L1 p1 (IntKind.i64.wrap (v5l1+1)) p0 r))) else (r=(-1)))
def B_s_l2Type (p0:Part) (p1:Str) (r:Int):Prop:=
 C_s_l2Type_L1 p1 0 p0 r
theorem s_l2Type_L1_unf (p1:Str) (v5l1:Int) (p0:Part) (r:Int) (h:B_s_l2Type_L1 p1 v5l1 p0 r):C_s_l2Type_L1 p1 v5l1 p0 r:=by
 refine Ky (Ks (Ks (Ko (Kg 3 (KL h fun h=>?_)))))
 refine Kg 1 (Kn (Kr (Kc h (fun h=>?_) fun h=>?_)))
 .refine Kgh (Ku (Kr (Ks (Kb (Ks (Ko (Kg 3 (Ki h fun x1 h=>?_))))))))
  refine Kg 4 (Kn (Kr (Kc h (fun h=>?_) fun h=>?_)))
  .refine Kgh (Ks (Ko (Kg 2 (Kn (Kr ?_)))))
   cases h;exact Kt
  .exact Kgh (Ku (Kp (Kr (Ko (Kg 3 (Kn (Kl h)))))))
 .refine Kgh (Kx ?_)
  refine Kr (Ks (Ko (Kg 1 (Kn (Kr ?_)))))
  cases h;exact Kt
theorem s_l2Type_unf (p0:Part) (p1:Str) (r:Int) (h:B_s_l2Type p0 p1 r):S_s_l2Type p0 p1 r:=by
 exact Kz (p:=l150) (Ks (Ko (Kg 2 (Kn (Kr (Ks (Ks (Ko (Kg 1 (Kn (Kr (Kb (Kv h)))))))))))))
def ss_l2Field_L1 (p1:Str) (v5l1:Int) (p0:Ty):LSt:=⟨[(1,S p1),(2,.ref 49664 0),(5,I v5l1)],[(49664,.var (CS p0))],[]⟩
def C_s_l2Field_L1 (p1:Str) (v5l1:Int) (p0:Ty) (r:Int):Prop:=G gE [.tmp 4] (I r,[]) [.blk 0,.sq k151_2] (.loop k151_4) (ss_l2Field_L1 p1 v5l1 p0)
def B_s_l2Field_L1 (p1:Str) (v5l1:Int) (p0:Ty) (r:Int):Prop:=
 p0.fFields.length<=bigLen->(if (decide (v5l1<(p0.fFields.length:Int)))=true then (∃x1:Field,(0<=v5l1/\p0.fFields[v5l1.toNat]?=some x1)/\(if (sEq x1.fName p1)=true then (r=v5l1) else (C_s_l2Field_L1 p1 (IntKind.i64.wrap (v5l1+1)) p0 r))) else (r=(-1)))
def B_s_l2Field (p0:Ty) (p1:Str) (r:Int):Prop:=
 C_s_l2Field_L1 p1 0 p0 r
theorem s_l2Field_L1_unf (p1:Str) (v5l1:Int) (p0:Ty) (r:Int) (h:B_s_l2Field_L1 p1 v5l1 p0 r):C_s_l2Field_L1 p1 v5l1 p0 r:=by
 refine Ky (Ks (Ks (Ko (Kg 3 (KL h fun h=>?_)))))
 refine Kg 1 (Kn (Kr (Kc h (fun h=>?_) fun h=>?_)))
 .refine Kgh (Ku (Kr (Ks (Kb (Ks (Ko (Kg 3 (Ki h fun x1 h=>?_))))))))
  refine Kg 4 (Kn (Kr (Kc h (fun h=>?_) fun h=>?_)))
  .refine Kgh (Ks (Ko (Kg 2 (Kn (Kr ?_)))))
   cases h;exact Kt
  .exact Kgh (Ku (Kp (Kr (Ko (Kg 3 (Kn (Kl h)))))))
 .refine Kgh (Kx ?_)
  refine Kr (Ks (Ko (Kg 1 (Kn (Kr ?_)))))
  cases h;exact Kt
theorem s_l2Field_unf (p0:Ty) (p1:Str) (r:Int) (h:B_s_l2Field p0 p1 r):S_s_l2Field p0 p1 r:=by
 exact Kz (p:=l151) (Ks (Ko (Kg 2 (Kn (Kr (Ks (Ks (Ko (Kg 1 (Kn (Kr (Kb (Kv h)))))))))))))
def sw_toFieldS_L1 (p0:(List Field)) (v4l1:Int) (o512_ysl1:List Field) (o512_kl1:Nat):LSt:=⟨[(0,L p0),(3,.arr 47616 p0.length),(4,I v4l1)],[(47616,.rows 8 (fillR o512_ysl1 o512_kl1 [.sc (.string sE),.sc (.string sE),.sc (.bool false),.sc (.bool false),.sc (.bool false),.sc (.bool false),.sc (.bool false),.lst 1 []]) [] none)],[]⟩
def C_w_toFieldS_L1 (p0:(List Field)) (v4l1:Int) (o512_ysl1:List Field) (o512_kl1:Nat) (r:(List Field)):Prop:=G gE [.tmp 2] (L r,[]) [.blk 0,.sq k152_3] (.loop k152_5) (sw_toFieldS_L1 p0 v4l1 o512_ysl1 o512_kl1)
def B_w_toFieldS_L1 (p0:(List Field)) (v4l1:Int) (o512_ysl1:List Field) (o512_kl1:Nat) (r:(List Field)):Prop:=
 p0.length<=bigLen->(if (decide (v4l1<(p0.length:Int)))=true then (∃x1:Field,(0<=v4l1/\p0[v4l1.toNat]?=some x1)/\(∃y2:Field,(S_w_toField x1 y2)/\((0<=v4l1/\v4l1<(p0.length:Int))/\(∃k3:Nat,(o512_kl1=k3+1/\v4l1.toNat=o512_ysl1.length)/\(C_w_toFieldS_L1 p0 (IntKind.i64.wrap (v4l1+1)) (o512_ysl1++[y2]) k3 r))))) else ((o512_kl1=0/\p0.length=o512_ysl1.length)/\(r=o512_ysl1)))
def B_w_toFieldS (p0:(List Field)) (r:(List Field)):Prop:=
 p0.length<=bigLen->((p0.length<=bigLen)/\(C_w_toFieldS_L1 p0 0 ([]:List Field) p0.length r))
theorem w_toFieldS_L1_unf (p0:(List Field)) (v4l1:Int) (o512_ysl1:List Field) (o512_kl1:Nat) (r:(List Field)) (h:B_w_toFieldS_L1 p0 v4l1 o512_ysl1 o512_kl1 r):C_w_toFieldS_L1 p0 v4l1 o512_ysl1 o512_kl1 r:=by
 refine Ky (Ks (Ks (Ko (Kg 2 (KL h fun h=>?_)))))
 refine Kg 1 (Kn (Kr (Kc h (fun h=>?_) fun h=>?_)))
 .refine Kgh (Ku (Kr (Ks (Kb (Ko (Kg 4 (Ki h fun x1 h=>?_)))))))
  refine Kg 1 (Kk h fun y2 h=>?_)
  refine Kpl (T:=Field) h fun h=>?_
  refine Kfi [.sc (.string sE),.sc (.string sE),.sc (.bool false),.sc (.bool false),.sc (.bool false),.sc (.bool false),.sc (.bool false),.lst 1 []] o512_ysl1 y2 v4l1.toNat h fun k3 h=>?_
  exact Kn (Kp (Kr (Ko (Kg 3 (Kn (Kl h))))))
 .refine Kgh (Kx ?_)
  refine Kr (Ks (Ko (Kg 2 (Kn (Kr (Kff 47616 [.sc (.string sE),.sc (.string sE),.sc (.bool false),.sc (.bool false),.sc (.bool false),.sc (.bool false),.sc (.bool false),.lst 1 []] o512_ysl1 h fun h=>?_))))))
  refine Kfz (g:=942) o512_ysl1 (Kgh ?_)
  cases h;exact Kt
theorem w_toFieldS_unf (p0:(List Field)) (r:(List Field)) (h:B_w_toFieldS p0 r):S_w_toFieldS p0 r:=by
 refine Kz (p:=l152) (Ks (Ko (Kg 1 (Kn (Kr (Ks (Ko (Kg 1 (KL h fun h=>?_)))))))))
 refine Kmk (T:=Field) h fun h=>?_
 exact Kg 1 (Kn (Kr (Ks (Ks (Ko (Kg 1 (Kn (Kr (Kb (Kv h))))))))))
def sw_eqFieldS_L1 (p0:(List Field)) (p1:(List Field)) (v5l1:Int):LSt:=⟨[(0,L p0),(1,L p1),(5,I v5l1)],[],[]⟩
def C_w_eqFieldS_L1 (p0:(List Field)) (p1:(List Field)) (v5l1:Int) (r:Bool):Prop:=G gE [.tmp 4] (B r,[]) [.blk 0,.sq k153_5] (.loop k153_7) (sw_eqFieldS_L1 p0 p1 v5l1)
def B_w_eqFieldS_L1 (p0:(List Field)) (p1:(List Field)) (v5l1:Int) (r:Bool):Prop:=
 p0.length<=bigLen->(if (decide (v5l1<(p0.length:Int)))=true then (∃x1:Field,(0<=v5l1/\p0[v5l1.toNat]?=some x1)/\(∃x2:Field,(0<=v5l1/\p1[v5l1.toNat]?=some x2)/\(∃y3:Bool,(S_w_eqField x1 x2 y3)/\(if (!y3)=true then (r=false) else (C_w_eqFieldS_L1 p0 p1 (IntKind.i64.wrap (v5l1+1)) r))))) else (r=true))
def B_w_eqFieldS (p0:(List Field)) (p1:(List Field)) (r:Bool):Prop:=
 p0.length<=bigLen->(p1.length<=bigLen->(if ((p0.length:Int) != (p1.length:Int))=true then (r=false) else (C_w_eqFieldS_L1 p0 p1 0 r)))
theorem w_eqFieldS_L1_unf (p0:(List Field)) (p1:(List Field)) (v5l1:Int) (r:Bool) (h:B_w_eqFieldS_L1 p0 p1 v5l1 r):C_w_eqFieldS_L1 p0 p1 v5l1 r:=by
 refine Ky (Ks (Ks (Ko (Kg 2 (KL h fun h=>?_)))))
 refine Kg 1 (Kn (Kr (Kc h (fun h=>?_) fun h=>?_)))
 .refine Kgh (Ku (Kr (Ks (Kb (Ks (Kd (Kg 2 (Ki h fun x1 h=>?_))))))))
  refine Kg 3 (Ki h fun x2 h=>?_)
  refine Kg 1 (Kk h fun y3 h=>?_)
  refine Kg 1 (Kn (Kr (Kgh (Kc h (fun h=>?_) fun h=>?_))))
  .refine Kgh (Ks (Ko (Kg 1 (Kn (Kr ?_)))))
   cases h;exact Kt
  .exact Kgh (Ku (Kp (Kr (Ko (Kg 3 (Kn (Kl h)))))))
 .refine Kgh (Kx ?_)
  refine Kr (Ks (Ko (Kg 1 (Kn (Kr ?_)))))
  cases h;exact Kt
theorem w_eqFieldS_unf (p0:(List Field)) (p1:(List Field)) (r:Bool) (h:B_w_eqFieldS p0 p1 r):S_w_eqFieldS p0 p1 r:=by
 refine Kz (p:=l153) (Ks (Ko (Kg 1 (Kn (Kr (Ks (Ks (Ko (Kg 1 (KL h fun h=>?_))))))))))
 refine Kg 1 (KL h fun h=>?_)
 refine Kg 1 (Kn (Kr (Kc h (fun h=>?_) fun h=>?_)))
 .refine Kgh (Ks (Ko (Kg 1 (Kn (Kr ?_)))))
  cases h;exact Kt
 .exact Kgh (Ku (Kr (Ks (Ks (Ko (Kg 1 (Kn (Kr (Kb (Kv h))))))))))
def B_i_isName (p0:Str) (r:Bool):Prop:=
 ∃y1:Bool,(S_i_isWord p0 y1)/\(∃b2:UInt8,((y1&&(decide ((p0.size:Int)<=8)))=true->0<=(0:Int)/\p0.data[(0:Int).toNat]?=some b2)/\(∃y3:Bool,(((y1&&(decide ((p0.size:Int)<=8)))&&((b2.toNat:Int) != 95))=true->S_slices_Contains_string [(⟨#[105,110,116]⟩:Str),(⟨#[116,101,120,116]⟩:Str),(⟨#[98,111,111,108]⟩:Str),(⟨#[112,97,114,116]⟩:Str),(⟨#[116,121,112,101]⟩:Str),(⟨#[107,101,121]⟩:Str),(⟨#[102,97,114]⟩:Str),(⟨#[104,105,100,100,101,110]⟩:Str),(⟨#[115,104,97,114,101,100]⟩:Str),(⟨#[110,101,101,100,115]⟩:Str)] p0 y3)/\(r=(((y1&&(decide ((p0.size:Int)<=8)))&&((b2.toNat:Int) != 95))&&(!y3)))))
theorem i_isName_unf (p0:Str) (r:Bool) (h:B_i_isName p0 r):S_i_isName p0 r:=by
 refine Kz (p:=l155) (Ks (Ko (Kg 1 (Kn (Kr (Ks (Ko (Kbs ([(⟨#[105,110,116]⟩:Str),(⟨#[116,101,120,116]⟩:Str),(⟨#[98,111,111,108]⟩:Str),(⟨#[112,97,114,116]⟩:Str),(⟨#[116,121,112,101]⟩:Str),(⟨#[107,101,121]⟩:Str),(⟨#[102,97,114]⟩:Str),(⟨#[104,105,100,100,101,110]⟩:Str),(⟨#[115,104,97,114,101,100]⟩:Str),(⟨#[110,101,101,100,115]⟩:Str)]:List Str) (Kg 1 (Kn (Kr (Ks (Ko ?_)))))))))))))
 refine Kg 1 (Kk h fun y1 h=>?_)
 refine Kg 1 (Kq 4 y1 true 7 11 (fun z=>(z&&(decide ((p0.size:Int)<=8)))) (fun hx=>?_) ?_)
 .refine Kg 1 (Kw0 (QLs p0 fun h2=>?_))
  exact Kg 1 (Kee)
 refine Kg 1 ?_
 obtain⟨b2,h3,h⟩:=h
 refine Kq 4 (y1&&(decide ((p0.size:Int)<=8))) true 12 16 (fun z=>(z&&((b2.toNat:Int) != 95))) (fun hx=>?_) ?_
 .have h3:=h3 hx
  exact Kg 1 (Kw0 (Qx h3 (Kg 1 (Kee))))
 refine Kg 1 ?_
 obtain⟨y3,h4,h⟩:=h
 refine Kq 5 ((y1&&(decide ((p0.size:Int)<=8)))&&((b2.toNat:Int) != 95)) true 17 22 (fun z=>(z&&(!y3))) (fun hx=>?_) ?_
 .have h4:=h4 hx
  exact Kg 2 (Kw0 (Qk h4 (Kg 1 (Kee))))
 refine Kg 1 (Kn (Kr ?_))
 cases h;exact Kt
def B_i_Part_typeFault (p0:Part) (p1:Int) (r:Int):Prop:=
 ∃x1:Ty,(0<=p1/\p0.fTypes[p1.toNat]?=some x1)/\((0<=(none:Option Int).getD 0/\(none:Option Int).getD 0<=((some p1):Option Int).getD (p0.fTypes.length:Int)/\((some p1):Option Int).getD (p0.fTypes.length:Int)<=(p0.fTypes.length:Int))/\(∃y2:Ty×Bool,(S_i_Part_find (Part.mk sE ((p0.fTypes.drop ((none:Option Int).getD 0).toNat).take ((((some p1):Option Int).getD p0.fTypes.length).toNat-((none:Option Int).getD 0).toNat))) x1.fName y2)/\(∃y3:Bool,(S_i_Type_badLine x1 y3)/\(if y3=true then (r=1) else (∃y4:(List Str),(y2.2=false->S_i_Type_names x1 y4)/\(∃y5:Bool,(y2.2=false->S_i_twice y4 y5)/\(if (y2.2 || y5)=true then (r=2) else (∃y6:Bool,(S_slices_ContainsFunc_Field x1.fFields (.clo 200 [.cp (Enc.row p0)]:PV) y6)/\(if y6=true then (r=3) else (∃y7:Bool,(S_i_Type_badKey x1 y7)/\(if y7=true then (r=4) else (∃y8:Bool,(S_slices_ContainsFunc_Field x1.fFields (.mth 204 (Enc.row x1):PV) y8)/\(if y8=true then (r=5) else (∃y9:Bool,(S_slices_ContainsFunc_Field x1.fFields (.clo 205 []:PV) y9)/\(if y9=true then (r=7) else (r=0))))))))))))))))
theorem i_Part_typeFault_unf (p0:Part) (p1:Int) (r:Int) (h:B_i_Part_typeFault p0 p1 r):S_i_Part_typeFault p0 p1 r:=by
 refine Kz (p:=l156) (Ks (Ko (Kg 2 (Kn (Kr (Ks (Ko (Kg 3 (Ki h fun x1 h=>?_)))))))))
 refine Kg 3 (Kn (Kr (Ks (Ko (Kg 3 (Kw h fun h=>?_))))))
 refine Kg 3 (Kn (Kr (Ks (Ko (Kg 3 (Kk h fun y2 h=>?_))))))
 refine Kg 6 (Kn (Kr (Kgh (Ks (Kgh (Ko (Kg 2 (Kn (Kr (Ks (Kb (Ks (Ko ?_)))))))))))))
 refine Kg 1 (Kk h fun y3 h=>?_)
 refine Kg 1 (Kn (Kr (Kc h (fun h=>?_) fun h=>?_)))
 .refine Kgh (Ks (Ko (Kg 1 (Kn (Kr ?_)))))
  cases h;exact Kt
 .refine Kgh (Ks (Ko (Kg 2 ?_)))
  obtain⟨y4,h5,h⟩:=h
  obtain⟨y5,h6,h⟩:=h
  refine Kq 4 y2.2 false 33 37 (fun z=>(z || y5)) (fun hx=>?_) ?_
  .have h5:=h5 hx
   have h6:=h6 hx
   exact Kg 1 (Kw0 (Qk h5 (Kw0 (Qk h6 (Kee)))))
  refine Kg 1 (Kn (Kr (Kc h (fun h=>?_) fun h=>?_)))
  .refine Kgh (Ks (Ko (Kg 1 (Kn (Kr ?_)))))
   cases h;exact Kt
  .refine Kgh (Ks (Ko (Kg 3 (Kk h fun y6 h=>?_))))
   refine Kg 1 (Kn (Kr (Kc h (fun h=>?_) fun h=>?_)))
   .refine Kgh (Ks (Ko (Kg 1 (Kn (Kr ?_)))))
    cases h;exact Kt
   .refine Kgh (Ks (Ko (Kg 1 (Kk h fun y7 h=>?_))))
    refine Kg 1 (Kn (Kr (Kc h (fun h=>?_) fun h=>?_)))
    .refine Kgh (Ks (Ko (Kg 1 (Kn (Kr ?_)))))
     cases h;exact Kt
    .refine Kgh (Ks (Ko (Kg 4 (Kk h fun y8 h=>?_))))
     refine Kg 1 (Kn (Kr (Kc h (fun h=>?_) fun h=>?_)))
     .refine Kgh (Ks (Ko (Kg 1 (Kn (Kr ?_)))))
      cases h;exact Kt
     .refine Kgh (Ks (Ko (Kg 2 (Kk h fun y9 h=>?_))))
      refine Kg 1 (Kn (Kr (Kgh (Kc h (fun h=>?_) fun h=>?_))))
      .refine Kgh (Ks (Ko (Kg 1 (Kn (Kr ?_)))))
       cases h;exact Kt
      .refine Kgh (Ku (Kp (Kr (Ks (Ko (Kg 1 (Kn (Kr ?_))))))))
       cases h;exact Kt
def si_Part_write_L2 (p0:Part) (v16l1:Int) (x2:Ty) (v35l2:Int) (o514_1l2:List UInt8):LSt:=⟨[(3,.ref 241154 0),(14,L p0.fTypes),(15,I (p0.fTypes.length:Int)),(16,I v16l1),(33,L x2.fFields),(34,I (x2.fFields.length:Int)),(35,I v35l2)],[(241154,.var [.ref 241154 0,.box 0 (Enc.E o514_1l2) bsh])],[]⟩
def C_i_Part_write_L2 (p0:Part) (v16l1:Int) (x2:Ty) (v35l2:Int) (o514_1l2:List UInt8) (r:Str):Prop:=G gE [.tmp 2] (S r,[]) [.blk 2,.blk 1,.sq k157_9,.lp k157_6,.blk 0,.sq k157_4] (.loop k157_16) (si_Part_write_L2 p0 v16l1 x2 v35l2 o514_1l2)
def si_Part_write_J1 (p0:Part) (v16l1:Int) (x2:Ty) (o514_1j1:List UInt8):LSt:=⟨[(3,.ref 241154 0),(5,.ref 49668 0),(14,L p0.fTypes),(15,I (p0.fTypes.length:Int)),(16,I v16l1)],[(49668,.var (CS x2)),(241154,.var [.ref 241154 0,.box 0 (Enc.E o514_1j1) bsh])],[]⟩
def si_Part_write_L1 (p0:Part) (v16l1:Int) (o514_1l1:List UInt8):LSt:=⟨[(3,.ref 241154 0),(14,L p0.fTypes),(15,I (p0.fTypes.length:Int)),(16,I v16l1)],[(241154,.var [.ref 241154 0,.box 0 (Enc.E o514_1l1) bsh])],[]⟩
def C_i_Part_write_L1 (p0:Part) (v16l1:Int) (o514_1l1:List UInt8) (r:Str):Prop:=G gE [.tmp 2] (S r,[]) [.blk 0,.sq k157_4] (.loop k157_6) (si_Part_write_L1 p0 v16l1 o514_1l1)
def B_i_Part_write_L2 (p0:Part) (v16l1:Int) (x2:Ty) (v35l2:Int) (o514_1l2:List UInt8) (r:Str):Prop:=
 if (decide (v35l2<(x2.fFields.length:Int)))=true then (∃x6:Field,(0<=v35l2/\x2.fFields[v35l2.toNat]?=some x6)/\(∃y7:Str,(S_i_Field_line x6 y7)/\(∃y8:(List UInt8),(S_strings_Builder_WriteString_1 o514_1l2 y7 y8)/\(C_i_Part_write_L2 p0 v16l1 x2 (IntKind.i64.wrap (v35l2+1)) y8 r)))) else (C_i_Part_write_L1 p0 (IntKind.i64.wrap (v16l1+1)) o514_1l2 r)
def B_i_Part_write_J1 (p0:Part) (v16l1:Int) (x2:Ty) (o514_1j1:List UInt8) (r:Str):Prop:=
 ∃y5:(List UInt8),(S_strings_Builder_WriteString_1 o514_1j1 (⟨#[10]⟩:Str) y5)/\(x2.fFields.length<=bigLen->(C_i_Part_write_L2 p0 v16l1 x2 0 y5 r))
def B_i_Part_write_L1 (p0:Part) (v16l1:Int) (o514_1l1:List UInt8) (r:Str):Prop:=
 if (decide (v16l1<(p0.fTypes.length:Int)))=true then (∃x2:Ty,(0<=v16l1/\p0.fTypes[v16l1.toNat]?=some x2)/\(((⟨#[116,121,112,101,32]⟩:Str).size+x2.fName.size<=bigStr)/\(∃y3:(List UInt8),(S_strings_Builder_WriteString_1 o514_1l1 ((⟨#[116,121,112,101,32]⟩:Str)++x2.fName) y3)/\(if (!(sEq x2.fKey sE))=true then (((⟨#[32,107,101,121,32]⟩:Str).size+x2.fKey.size<=bigStr)/\(∃y4:(List UInt8),(S_strings_Builder_WriteString_1 y3 ((⟨#[32,107,101,121,32]⟩:Str)++x2.fKey) y4)/\(B_i_Part_write_J1 p0 v16l1 x2 y4 r))) else (B_i_Part_write_J1 p0 v16l1 x2 y3 r))))) else (∃y9:Str,(S_strings_Builder_String_1 o514_1l1 y9)/\(r=y9))
def B_i_Part_write (p0:Part) (r:Str):Prop:=
 ((⟨#[112,97,114,116,32]⟩:Str).size+p0.fName.size<=bigStr)/\((((⟨#[112,97,114,116,32]⟩:Str)++p0.fName).size+(⟨#[10]⟩:Str).size<=bigStr)/\(∃y1:(List UInt8),(S_strings_Builder_WriteString_0 ([]:List UInt8) (((⟨#[112,97,114,116,32]⟩:Str)++p0.fName)++(⟨#[10]⟩:Str)) y1)/\(p0.fTypes.length<=bigLen->(C_i_Part_write_L1 p0 0 y1 r))))
theorem i_Part_write_L2_unf (p0:Part) (v16l1:Int) (x2:Ty) (v35l2:Int) (o514_1l2:List UInt8) (r:Str) (h:B_i_Part_write_L2 p0 v16l1 x2 v35l2 o514_1l2 r):C_i_Part_write_L2 p0 v16l1 x2 v35l2 o514_1l2 r:=by
 refine Ky (Ks (Ko (Kg 1 (Kn (Kr (Ks (Kc h (fun h=>?_) fun h=>?_)))))))
 .refine Kgh (Ku (Kr (Ks (Kb (Ks (Ko (Ki h fun x6 h=>?_)))))))
  refine Kg 3 (Kn (Kr (Ko (Kg 1 (Kk h fun y7 h=>?_)))))
  refine Kk h fun y8 h=>?_
  exact Kn (Kp (Kr (Kgh (Ko (Kg 2 (Kn (Kl h)))))))
 .refine Kgh (Kx ?_)
  exact Kp (Kr (Ko (Kg 2 (Kn (Kl h)))))
theorem i_Part_write_J1_unf (p0:Part) (v16l1:Int) (x2:Ty) (o514_1j1:List UInt8) (r:Str) (h:B_i_Part_write_J1 p0 v16l1 x2 o514_1j1 r):G gE [.tmp 2] (S r,[]) [.blk 1,.sq k157_9,.lp k157_6,.blk 0,.sq k157_4] (.seq (.ops [oD 31 (.call 206 1502 [241154] [] [] [] [(3,true),((.c (.string ⟨#[10]⟩)),false)]) [31]]) k157_14) (si_Part_write_J1 p0 v16l1 x2 o514_1j1):=by
 refine Ks (Ko (Kk h fun y5 h=>?_))
 refine Kn (Kr (Ks (Ko (Kg 2 (KL h fun h=>?_)))))
 exact Kg 1 (Kn (Kr (Kgh (Kb (Kv h)))))
theorem i_Part_write_L1_unf (p0:Part) (v16l1:Int) (o514_1l1:List UInt8) (r:Str) (h:B_i_Part_write_L1 p0 v16l1 o514_1l1 r):C_i_Part_write_L1 p0 v16l1 o514_1l1 r:=by
 refine Ky (Ks (Ko (Kg 1 (Kn (Kr (Ks (Kc h (fun h=>?_) fun h=>?_)))))))
 .refine Kgh (Ku (Kr (Ks (Kb (Ks (Ko (Ki h fun x2 h=>?_)))))))
  refine Kg 3 (Kn (Kr (Ks (Ko (Kg 2 (Kct h fun h=>?_))))))
  refine Kk h fun y3 h=>?_
  refine Kn (Kr (Ks (Ks (Ko (Kg 3 (Kn (Kr (Kc h (fun h=>?_) fun h=>?_))))))))
  .refine Kgh (Ko (Kg 2 (Kct h fun h=>?_)))
   refine Kk h fun y4 h=>?_
   refine Kn (Kr ?_)
   exact Kj (i_Part_write_J1_unf p0 v16l1 x2 y4 r h)
  .refine Kgh (Ku (Kr ?_))
   exact Kj (i_Part_write_J1_unf p0 v16l1 x2 y3 r h)
 .refine Kgh (Kx ?_)
  refine Kr (Ks (Ko (Kk h fun y9 h=>?_)))
  refine Kg 1 (Kn (Kr (Kgh ?_)))
  cases h;exact Kt
theorem i_Part_write_unf (p0:Part) (r:Str) (h:B_i_Part_write p0 r):S_i_Part_write p0 r:=by
 refine Kz (p:=l157) (Ks (Ko (Kg 2 (Kn (Kr (Ks (Ko (Kg 1 (Kn (Kr (Ks (Ko (Kg 2 (Kct h fun h=>?_))))))))))))))
 refine Kct h fun h=>?_
 refine Kk h fun y1 h=>?_
 refine Kn (Kr (Ks (Ks (Ko (Kg 2 (KL h fun h=>?_))))))
 exact Kg 1 (Kn (Kr (Kgh (Kb (Kv h)))))
def si_twice_L1 (p0:(List Str)) (v7l1:Int):LSt:=⟨[(0,L p0),(5,L p0),(6,I (p0.length:Int)),(7,I v7l1)],[],[]⟩
def C_i_twice_L1 (p0:(List Str)) (v7l1:Int) (r:Bool):Prop:=G gE [.tmp 2] (B r,[]) [.blk 0,.sq k158_2] (.loop k158_4) (si_twice_L1 p0 v7l1)
def B_i_twice_L1 (p0:(List Str)) (v7l1:Int) (r:Bool):Prop:=
 if (decide (v7l1<(p0.length:Int)))=true then (∃x1:Str,(0<=v7l1/\p0[v7l1.toNat]?=some x1)/\((0<=(none:Option Int).getD 0/\(none:Option Int).getD 0<=((some v7l1):Option Int).getD (p0.length:Int)/\((some v7l1):Option Int).getD (p0.length:Int)<=(p0.length:Int))/\(∃y2:Bool,(S_slices_Contains_string ((p0.drop ((none:Option Int).getD 0).toNat).take ((((some v7l1):Option Int).getD p0.length).toNat-((none:Option Int).getD 0).toNat)) x1 y2)/\(if y2=true then (r=true) else (C_i_twice_L1 p0 (IntKind.i64.wrap (v7l1+1)) r))))) else (r=false)
def B_i_twice (p0:(List Str)) (r:Bool):Prop:=
 p0.length<=bigLen->(C_i_twice_L1 p0 0 r)
theorem i_twice_L1_unf (p0:(List Str)) (v7l1:Int) (r:Bool) (h:B_i_twice_L1 p0 v7l1 r):C_i_twice_L1 p0 v7l1 r:=by
 refine Ky (Ks (Ko (Kg 1 (Kn (Kr (Ks (Kc h (fun h=>?_) fun h=>?_)))))))
 .refine Kgh (Ku (Kr (Ks (Kb (Ks (Ko (Kg 1 (Ki h fun x1 h=>?_))))))))
  refine Kg 3 (Kn (Kr (Ks (Ko (Kg 2 (Kw h fun h=>?_))))))
  refine Kg 1 (Kk h fun y2 h=>?_)
  refine Kn (Kr (Kc h (fun h=>?_) fun h=>?_))
  .refine Kgh (Ks (Ko (Kg 1 (Kn (Kr ?_)))))
   cases h;exact Kt
  .exact Kgh (Ku (Kp (Kr (Ko (Kg 2 (Kn (Kl h)))))))
 .refine Kgh (Kx ?_)
  refine Kr (Ks (Ko (Kg 1 (Kn (Kr ?_)))))
  cases h;exact Kt
theorem i_twice_unf (p0:(List Str)) (r:Bool) (h:B_i_twice p0 r):S_i_twice p0 r:=by
 refine Kz (p:=l158) (Ks (Ko (Kg 1 (Kn (Kr (Ks (Ks (Ko (Kg 1 (KL h fun h=>?_))))))))))
 exact Kg 1 (Kn (Kr (Kb (Kv h))))
def si_unders_L1 (v3l1:List Str) (p0:(List Sel)) (v8l1:Int):LSt:=⟨[(3,O 3 v3l1),(6,L p0),(7,I (p0.length:Int)),(8,I v8l1)],[],[]⟩
def C_i_unders_L1 (v3l1:List Str) (p0:(List Sel)) (v8l1:Int) (r:(List Str)):Prop:=G gE [.tmp 2] (L r,[]) [.blk 0,.sq k159_3] (.loop k159_5) (si_unders_L1 v3l1 p0 v8l1)
def B_i_unders_L1 (v3l1:List Str) (p0:(List Sel)) (v8l1:Int) (r:(List Str)):Prop:=
 if (decide (v8l1<(p0.length:Int)))=true then (∃x1:Sel,(0<=v8l1/\p0[v8l1.toNat]?=some x1)/\(∃y2:Str,(S_i_Sel_under x1 y2)/\((v3l1.length+([y2]:List Str).length<=bigLen)/\(C_i_unders_L1 (v3l1++[y2]) p0 (IntKind.i64.wrap (v8l1+1)) r)))) else (r=v3l1)
def B_i_unders (p0:(List Sel)) (r:(List Str)):Prop:=
 p0.length<=bigLen->(C_i_unders_L1 ([]:List Str) p0 0 r)
theorem i_unders_L1_unf (v3l1:List Str) (p0:(List Sel)) (v8l1:Int) (r:(List Str)) (h:B_i_unders_L1 v3l1 p0 v8l1 r):C_i_unders_L1 v3l1 p0 v8l1 r:=by
 refine Ky (Ks (Ko (Kg 1 (Kn (Kr (Ks (Kc h (fun h=>?_) fun h=>?_)))))))
 .refine Kgh (Ku (Kr (Ks (Kb (Ks (Ko (Ki h fun x1 h=>?_)))))))
  refine Kg 3 (Kn (Kr (Ko (Kg 2 (Kk h fun y2 h=>?_)))))
  refine Kbs ([y2]:List Str) (Ka h fun h=>?_)
  exact Kg 1 (Kn (Kp (Kr (Kgh (Ko (Kg 2 (Kn (Kl h))))))))
 .refine Kgh (Kx ?_)
  refine Kr (Ks (Ko (Kg 2 (Kn (Kr (Kgh ?_))))))
  cases h;exact Kt
theorem i_unders_unf (p0:(List Sel)) (r:(List Str)) (h:B_i_unders p0 r):S_i_unders p0 r:=by
 refine Kz (p:=l159) (Ks (Ko (Kg 1 (Kn (Kr (Ks (Ko (Kg 1 (Kn (Kr (Ks (Ks (Ko ?_)))))))))))))
 refine Kg 1 (KL h fun h=>?_)
 exact Kg 1 (Kn (Kr (Kb (Kj h))))
def B_slices_ContainsFunc_Sel (p0:(List Sel)) (p1:PV) (r:Bool):Prop:=
 ∃y1:Int,(S_slices_IndexFunc_Sel p0 (p1:PV) y1)/\(r=(decide (y1>=0)))
theorem slices_ContainsFunc_Sel_unf (p0:(List Sel)) (p1:PV) (r:Bool) (h:B_slices_ContainsFunc_Sel p0 p1 r):S_slices_ContainsFunc_Sel p0 p1 r:=by
 refine Kz (p:=l160) (Ks (Ko (Kg 1 (Kn (Kr (Ks (Ko (Kg 2 (Kk h fun y1 h=>?_)))))))))
 refine Kg 2 (Kn (Kr ?_))
 cases h;exact Kt
def B_i_askMany_1 (p0:Sel) (r:Bool):Prop:=
 ∃y1:Bool,(S_i_Sel_ok p0 y1)/\(r=(!y1))
theorem i_askMany_1_unf (p0:Sel) (r:Bool) (h:B_i_askMany_1 p0 r):S_i_askMany_1 p0 r:=by
 refine Kz (p:=l161) (Ks (Ko (Kg 2 (Kn (Kr (Ks (Ko (Kg 1 (Kk h fun y1 h=>?_)))))))))
 refine Kg 2 (Kn (Kr (Kgh ?_)))
 cases h;exact Kt
def B_i_Sel_ok (p0:Sel) (r:Bool):Prop:=
 ∃y1:Bool,(S_i_isName p0.fName y1)/\(∃y2:Bool,(y1=true->(sEq p0.fAs sE)=false->S_i_isName p0.fAs y2)/\(∃y3:Bool,((y1&&((sEq p0.fAs sE) || (y2&&(!(sEq p0.fAs p0.fName)))))=true->S_i_in p0.fId 0 999999 y3)/\(r=(((y1&&((sEq p0.fAs sE) || (y2&&(!(sEq p0.fAs p0.fName)))))&&y3)&&(p0.fOne || (p0.fId == 0))))))
theorem i_Sel_ok_unf (p0:Sel) (r:Bool) (h:B_i_Sel_ok p0 r):S_i_Sel_ok p0 r:=by
 refine Kz (p:=l162) (Ks (Ko (Kg 2 (Kn (Kr (Ks (Ko (Kg 2 (Kk h fun y1 h=>?_)))))))))
 refine Kg 1 ?_
 obtain⟨y2,h2,h⟩:=h
 refine Kq 16 y1 true 6 22 (fun z=>(z&&((sEq p0.fAs sE) || (y2&&(!(sEq p0.fAs p0.fName)))))) (fun hx=>?_) ?_
 .have h2:=h2 hx
  refine Kg 4 (Kq 11 (sEq p0.fAs sE) false 10 21 (fun z=>(z || (y2&&(!(sEq p0.fAs p0.fName))))) (fun hx=>?_) ?_)
  .have h2:=h2 hx
   refine Kg 2 (Kw0 (Qk h2 (Kg 1 (Kq 6 y2 true 14 20 (fun z=>(z&&(!(sEq p0.fAs p0.fName)))) (fun hx=>?_) ?_))))
   .exact Kg 5 (Kee)
   exact Kee
  exact Kee
 refine Kg 1 ?_
 obtain⟨y3,h3,h⟩:=h
 refine Kq 4 (y1&&((sEq p0.fAs sE) || (y2&&(!(sEq p0.fAs p0.fName))))) true 23 27 (fun z=>(z&&y3)) (fun hx=>?_) ?_
 .have h3:=h3 hx
  exact Kg 2 (Kw0 (Qk h3 (Kee)))
 refine Kg 1 (Kq 8 ((y1&&((sEq p0.fAs sE) || (y2&&(!(sEq p0.fAs p0.fName)))))&&y3) true 28 36 (fun z=>(z&&(p0.fOne || (p0.fId == 0)))) (fun hx=>?_) ?_)
 .refine Kg 3 (Kq 4 p0.fOne false 31 35 (fun z=>(z || (p0.fId == 0))) (fun hx=>?_) ?_)
  .exact Kg 3 (Kee)
  exact Kee
 refine Kg 1 (Kn (Kr (Kgh ?_)))
 cases h;exact Kt
def ss_l1Name_L1 (p0:Str) (v3l1:Int):LSt:=⟨[(0,S p0),(3,I v3l1)],[],[]⟩
def C_s_l1Name_L1 (p0:Str) (v3l1:Int) (r:Bool):Prop:=G gE [.tmp 2] (B r,[]) [.blk 0,.sq k165_5] (.loop k165_7) (ss_l1Name_L1 p0 v3l1)
def B_s_l1Name_L1 (p0:Str) (v3l1:Int) (r:Bool):Prop:=
 p0.size<=bigStr->(if (decide (v3l1<(p0.size:Int)))=true then (∃b2:UInt8,(0<=v3l1/\p0.data[v3l1.toNat]?=some b2)/\(∃b3:UInt8,((decide ((b2.toNat:Int)>=97))=true->0<=v3l1/\p0.data[v3l1.toNat]?=some b3)/\(∃b4:UInt8,(((decide ((b2.toNat:Int)>=97))&&(decide ((b3.toNat:Int)<=122)))=false->0<=v3l1/\p0.data[v3l1.toNat]?=some b4)/\(∃b5:UInt8,((((decide ((b2.toNat:Int)>=97))&&(decide ((b3.toNat:Int)<=122))) || ((b4.toNat:Int) == 95))=false->(decide (v3l1>0))=true->0<=v3l1/\p0.data[v3l1.toNat]?=some b5)/\(∃b6:UInt8,((((decide ((b2.toNat:Int)>=97))&&(decide ((b3.toNat:Int)<=122))) || ((b4.toNat:Int) == 95))=false->((decide (v3l1>0))&&(decide ((b5.toNat:Int)>=48)))=true->0<=v3l1/\p0.data[v3l1.toNat]?=some b6)/\(if (!((((decide ((b2.toNat:Int)>=97))&&(decide ((b3.toNat:Int)<=122))) || ((b4.toNat:Int) == 95)) || (((decide (v3l1>0))&&(decide ((b5.toNat:Int)>=48)))&&(decide ((b6.toNat:Int)<=57)))))=true then (r=false) else (C_s_l1Name_L1 p0 (IntKind.i64.wrap (v3l1+1)) r))))))) else (r=true))
def B_s_l1Name (p0:Str) (r:Bool):Prop:=
 p0.size<=bigStr->(∃y1:Bool,(S_s_l1In (p0.size:Int) 1 9 y1)/\(if (!y1)=true then (r=false) else (C_s_l1Name_L1 p0 0 r)))
theorem s_l1Name_L1_unf (p0:Str) (v3l1:Int) (r:Bool) (h:B_s_l1Name_L1 p0 v3l1 r):C_s_l1Name_L1 p0 v3l1 r:=by
 refine Ky (Ks (Ks (Ko (Kg 2 (KLs h fun h=>?_)))))
 refine Kg 1 (Kn (Kr (Kc h (fun h=>?_) fun h=>?_)))
 .refine Kgh (Ku (Kr (Ks (Kb (Ks (Ko (Kg 2 (Kix h fun b2 h=>?_))))))))
  refine Kg 2 ?_
  obtain⟨b3,h5,h⟩:=h
  refine Kq 5 (decide ((b2.toNat:Int)>=97)) true 18 23 (fun z=>(z&&(decide ((b3.toNat:Int)<=122)))) (fun hx=>?_) ?_
  .have h5:=h5 hx
   exact Kg 2 (Kw0 (Qx h5 (Kg 1 (Kee))))
  refine Kg 1 ?_
  obtain⟨b4,h6,h⟩:=h
  refine Kq 5 ((decide ((b2.toNat:Int)>=97))&&(decide ((b3.toNat:Int)<=122))) false 24 29 (fun z=>(z || ((b4.toNat:Int) == 95))) (fun hx=>?_) ?_
  .have h6:=h6 hx
   exact Kg 2 (Kw0 (Qx h6 (Kg 1 (Kee))))
  refine Kg 1 ?_
  obtain⟨b5,h7,h⟩:=h
  obtain⟨b6,h8,h⟩:=h
  refine Kq 15 (((decide ((b2.toNat:Int)>=97))&&(decide ((b3.toNat:Int)<=122))) || ((b4.toNat:Int) == 95)) false 30 45 (fun z=>(z || (((decide (v3l1>0))&&(decide ((b5.toNat:Int)>=48)))&&(decide ((b6.toNat:Int)<=57))))) (fun hx=>?_) ?_
  .have h7:=h7 hx
   have h8:=h8 hx
   refine Kg 3 (Kq 5 (decide (v3l1>0)) true 33 38 (fun z=>(z&&(decide ((b5.toNat:Int)>=48)))) (fun hx=>?_) ?_)
   .have h7:=h7 hx
    exact Kg 2 (Kw0 (Qx h7 (Kg 1 (Kee))))
   refine Kg 1 (Kq 5 ((decide (v3l1>0))&&(decide ((b5.toNat:Int)>=48))) true 39 44 (fun z=>(z&&(decide ((b6.toNat:Int)<=57)))) (fun hx=>?_) ?_)
   .have h8:=h8 hx
    exact Kg 2 (Kw0 (Qx h8 (Kg 1 (Kee))))
   exact Kee
  refine Kg 1 (Kn (Kr (Kc h (fun h=>?_) fun h=>?_)))
  .refine Kgh (Ks (Ko (Kg 1 (Kn (Kr ?_)))))
   cases h;exact Kt
  .exact Kgh (Ku (Kp (Kr (Ko (Kg 3 (Kn (Kl h)))))))
 .refine Kgh (Kx ?_)
  refine Kr (Ks (Ko (Kg 1 (Kn (Kr ?_)))))
  cases h;exact Kt
theorem s_l1Name_unf (p0:Str) (r:Bool) (h:B_s_l1Name p0 r):S_s_l1Name p0 r:=by
 refine Kz (p:=l165) (Ks (Ko (Kg 1 (Kn (Kr (Ks (Ks (Ko (Kg 1 (KLs h fun h=>?_))))))))))
 refine Kk h fun y1 h=>?_
 refine Kg 1 (Kn (Kr (Kc h (fun h=>?_) fun h=>?_)))
 .refine Kgh (Ks (Ko (Kg 1 (Kn (Kr ?_)))))
  cases h;exact Kt
 .exact Kgh (Ku (Kr (Ks (Ks (Ko (Kg 1 (Kn (Kr (Kb (Kv h))))))))))
def B_s_l2Key (p0:Ty) (r:Bool):Prop:=
 if (sEq p0.fKey sE)=true then (r=true) else (∃y1:Int,(S_s_l2Field p0 p0.fKey y1)/\(if (decide (y1<0))=true then (r=false) else (∃x2:Field,(0<=y1/\p0.fFields[y1.toNat]?=some x2)/\(r=((((((sEq x2.fOf (⟨#[105,110,116]⟩:Str))&&(!x2.fList))&&x2.fMust)&&(!x2.fFar))&&(!x2.fHidden))&&((x2.fNeeds.length:Int) == 0))))))
theorem s_l2Key_unf (p0:Ty) (r:Bool) (h:B_s_l2Key p0 r):S_s_l2Key p0 r:=by
 refine Kz (p:=l166) (Ks (Ko (Kg 2 (Kn (Kr (Ks (Ks (Ko (Kg 3 (Kn (Kr (Kc h (fun h=>?_) fun h=>?_))))))))))))
 .refine Kgh (Ks (Ko (Kg 1 (Kn (Kr ?_)))))
  cases h;exact Kt
 .refine Kgh (Ku (Kr (Ks (Ko (Kg 3 (Kk h fun y1 h=>?_))))))
  refine Kg 1 (Kn (Kr (Ks (Ks (Ko (Kg 2 (Kn (Kr (Kc h (fun h=>?_) fun h=>?_)))))))))
  .refine Kgh (Ks (Ko (Kg 1 (Kn (Kr ?_)))))
   cases h;exact Kt
  .refine Kgh (Ku (Kr (Ks (Ko (Kg 3 (Ki h fun x2 h=>?_))))))
   refine Kg 3 (Kn (Kr (Kgh (Ks (Ko (Kg 4 (Kq 4 (sEq x2.fOf (⟨#[105,110,116]⟩:Str)) true 22 26 (fun z=>(z&&(!x2.fList))) (fun hx=>?_) ?_)))))))
   .exact Kg 3 (Kee)
   refine Kg 1 (Kq 3 ((sEq x2.fOf (⟨#[105,110,116]⟩:Str))&&(!x2.fList)) true 27 30 (fun z=>(z&&x2.fMust)) (fun hx=>?_) ?_)
   .exact Kg 2 (Kee)
   refine Kg 1 (Kq 4 (((sEq x2.fOf (⟨#[105,110,116]⟩:Str))&&(!x2.fList))&&x2.fMust) true 31 35 (fun z=>(z&&(!x2.fFar))) (fun hx=>?_) ?_)
   .exact Kg 3 (Kee)
   refine Kg 1 (Kq 4 ((((sEq x2.fOf (⟨#[105,110,116]⟩:Str))&&(!x2.fList))&&x2.fMust)&&(!x2.fFar)) true 36 40 (fun z=>(z&&(!x2.fHidden))) (fun hx=>?_) ?_)
   .exact Kg 3 (Kee)
   refine Kg 1 (Kq 5 (((((sEq x2.fOf (⟨#[105,110,116]⟩:Str))&&(!x2.fList))&&x2.fMust)&&(!x2.fFar))&&(!x2.fHidden)) true 41 46 (fun z=>(z&&((x2.fNeeds.length:Int) == 0))) (fun hx=>?_) ?_)
   .refine Kg 2 (Kw0 (QL x2.fNeeds fun h3=>?_))
    exact Kg 1 (Kee)
   refine Kg 1 (Kn (Kr (Kgh ?_)))
   cases h;exact Kt
def ss_l2Needs_L1 (v5l1:Int) (p0:Ty) (p1:Field):LSt:=⟨[(2,.ref 49664 0),(3,.ref 51714 0),(5,I v5l1)],[(49664,.var (CS p0)),(51714,.var (CS p1))],[]⟩
def C_s_l2Needs_L1 (v5l1:Int) (p0:Ty) (p1:Field) (r:Bool):Prop:=G gE [.tmp 4] (B r,[]) [.blk 0,.sq k167_5] (.loop k167_7) (ss_l2Needs_L1 v5l1 p0 p1)
def B_s_l2Needs_L1 (v5l1:Int) (p0:Ty) (p1:Field) (r:Bool):Prop:=
 p1.fNeeds.length<=bigLen->(if (decide (v5l1<(p1.fNeeds.length:Int)))=true then (∃x1:Str,(0<=v5l1/\p1.fNeeds[v5l1.toNat]?=some x1)/\(∃y2:Int,(S_s_l2Field p0 x1 y2)/\(∃x3:Field,((decide (y2<0))=false->0<=y2/\p0.fFields[y2.toNat]?=some x3)/\(∃x4:Field,(((decide (y2<0)) || (decide ((x3.fNeeds.length:Int)>0)))=false->0<=y2/\p0.fFields[y2.toNat]?=some x4)/\(∃x5:Field,((((decide (y2<0)) || (decide ((x3.fNeeds.length:Int)>0))) || (!(sEq x4.fOf (⟨#[105,110,116]⟩:Str))))=false->0<=y2/\p0.fFields[y2.toNat]?=some x5)/\(∃x6:Str,(((((decide (y2<0)) || (decide ((x3.fNeeds.length:Int)>0))) || (!(sEq x4.fOf (⟨#[105,110,116]⟩:Str)))) || x5.fList)=false->(decide (v5l1>0))=true->0<=(IntKind.i64.wrap (v5l1-1))/\p1.fNeeds[(IntKind.i64.wrap (v5l1-1)).toNat]?=some x6)/\(∃x7:Str,(((((decide (y2<0)) || (decide ((x3.fNeeds.length:Int)>0))) || (!(sEq x4.fOf (⟨#[105,110,116]⟩:Str)))) || x5.fList)=false->(decide (v5l1>0))=true->0<=v5l1/\p1.fNeeds[v5l1.toNat]?=some x7)/\(if (((((decide (y2<0)) || (decide ((x3.fNeeds.length:Int)>0))) || (!(sEq x4.fOf (⟨#[105,110,116]⟩:Str)))) || x5.fList) || ((decide (v5l1>0))&&(!(sLt x6 x7))))=true then (r=false) else (C_s_l2Needs_L1 (IntKind.i64.wrap (v5l1+1)) p0 p1 r))))))))) else (r=true))
def B_s_l2Needs (p0:Ty) (p1:Field) (r:Bool):Prop:=
 p1.fNeeds.length<=bigLen->(if ((decide ((p1.fNeeds.length:Int)>0))&&((((((!(sEq p1.fOf (⟨#[105,110,116]⟩:Str))) || p1.fList) || p1.fFar) || p1.fMust) || (sEq p0.fKey sE)) || (sEq p1.fName p0.fKey)))=true then (r=false) else (C_s_l2Needs_L1 0 p0 p1 r))
theorem s_l2Needs_L1_unf (v5l1:Int) (p0:Ty) (p1:Field) (r:Bool) (h:B_s_l2Needs_L1 v5l1 p0 p1 r):C_s_l2Needs_L1 v5l1 p0 p1 r:=by
 refine Ky (Ks (Ks (Ko (Kg 3 (KL h fun h=>?_)))))
 refine Kg 1 (Kn (Kr (Kc h (fun h=>?_) fun h=>?_)))
 .refine Kgh (Ku (Kr (Ks (Kb (Ks (Kd (Kg 4 (Ki h fun x1 h=>?_))))))))
  refine Kg 1 (Kk h fun y2 h=>?_)
  refine Kg 1 (Kn (Kr (Kgh (Ks (Kd (Kg 3 ?_))))))
  obtain⟨x3,h5,h⟩:=h
  refine Kq2 9 (decide (y2<0)) 56 (fun z=>⟨[(2,.ref 49664 0),(3,.ref 51714 0),(5,I v5l1),(6,I y2),(54,I y2),(55,B (decide (y2<0))),(56,B z),(57,(bif z then .tup [] else .ref 49664 2)),(58,(bif z then .tup [] else L p0.fFields)),(59,(bif z then .tup [] else I y2)),(60,(bif z then .tup [] else CP x3)),(61,(bif z then .tup [] else .pv (.cp ((Enc.row x3).drop 7)))),(62,(bif z then .tup [] else L x3.fNeeds)),(63,(bif z then .tup [] else I (x3.fNeeds.length:Int))),(64,(bif z then .tup [] else B (decide ((x3.fNeeds.length:Int)>0)))),(65,B (z || (decide ((x3.fNeeds.length:Int)>0))))],[(49664,.var (CS p0)),(51714,.var (CS p1))],[]⟩) (fun _=>?_) (fun hx=>?_) ?_
  .exact Kee
  .have h5:=h5 hx
   refine Kg 3 (Kw0 (Qi h5 (Kg 2 (Kw0 (QL x3.fNeeds fun h6=>?_)))))
   exact Kg 1 (Kee)
  refine Kg 1 ?_
  obtain⟨x4,h7,h⟩:=h
  refine Kq2 8 ((decide (y2<0)) || (decide ((x3.fNeeds.length:Int)>0))) 66 (fun z=>⟨[(2,.ref 49664 0),(3,.ref 51714 0),(5,I v5l1),(6,I y2),(54,I y2),(55,B (decide (y2<0))),(56,B (decide (y2<0))),(57,(bif (decide (y2<0)) then .tup [] else .ref 49664 2)),(58,(bif (decide (y2<0)) then .tup [] else L p0.fFields)),(59,(bif (decide (y2<0)) then .tup [] else I y2)),(60,(bif (decide (y2<0)) then .tup [] else CP x3)),(61,(bif (decide (y2<0)) then .tup [] else .pv (.cp ((Enc.row x3).drop 7)))),(62,(bif (decide (y2<0)) then .tup [] else L x3.fNeeds)),(63,(bif (decide (y2<0)) then .tup [] else I (x3.fNeeds.length:Int))),(64,(bif (decide (y2<0)) then .tup [] else B (decide ((x3.fNeeds.length:Int)>0)))),(65,B ((decide (y2<0)) || (decide ((x3.fNeeds.length:Int)>0)))),(66,B z),(67,(bif z then .tup [] else .ref 49664 2)),(68,(bif z then .tup [] else L p0.fFields)),(69,(bif z then .tup [] else I y2)),(70,(bif z then .tup [] else CP x4)),(71,(bif z then .tup [] else .pv (.cp ((Enc.row x4).drop 1)))),(72,(bif z then .tup [] else S x4.fOf)),(73,(bif z then .tup [] else B (!(sEq x4.fOf (⟨#[105,110,116]⟩:Str))))),(74,B (z || (!(sEq x4.fOf (⟨#[105,110,116]⟩:Str)))))],[(49664,.var (CS p0)),(51714,.var (CS p1))],[]⟩) (fun _=>?_) (fun hx=>?_) ?_
  .exact Kee
  .have h7:=h7 hx
   exact Kg 3 (Kw0 (Qi h7 (Kg 3 (Kee))))
  refine Kg 1 ?_
  obtain⟨x5,h8,h⟩:=h
  refine Kq2 7 (((decide (y2<0)) || (decide ((x3.fNeeds.length:Int)>0))) || (!(sEq x4.fOf (⟨#[105,110,116]⟩:Str)))) 75 (fun z=>⟨[(2,.ref 49664 0),(3,.ref 51714 0),(5,I v5l1),(6,I y2),(54,I y2),(55,B (decide (y2<0))),(56,B (decide (y2<0))),(57,(bif (decide (y2<0)) then .tup [] else .ref 49664 2)),(58,(bif (decide (y2<0)) then .tup [] else L p0.fFields)),(59,(bif (decide (y2<0)) then .tup [] else I y2)),(60,(bif (decide (y2<0)) then .tup [] else CP x3)),(61,(bif (decide (y2<0)) then .tup [] else .pv (.cp ((Enc.row x3).drop 7)))),(62,(bif (decide (y2<0)) then .tup [] else L x3.fNeeds)),(63,(bif (decide (y2<0)) then .tup [] else I (x3.fNeeds.length:Int))),(64,(bif (decide (y2<0)) then .tup [] else B (decide ((x3.fNeeds.length:Int)>0)))),(65,B ((decide (y2<0)) || (decide ((x3.fNeeds.length:Int)>0)))),(66,B ((decide (y2<0)) || (decide ((x3.fNeeds.length:Int)>0)))),(67,(bif ((decide (y2<0)) || (decide ((x3.fNeeds.length:Int)>0))) then .tup [] else .ref 49664 2)),(68,(bif ((decide (y2<0)) || (decide ((x3.fNeeds.length:Int)>0))) then .tup [] else L p0.fFields)),(69,(bif ((decide (y2<0)) || (decide ((x3.fNeeds.length:Int)>0))) then .tup [] else I y2)),(70,(bif ((decide (y2<0)) || (decide ((x3.fNeeds.length:Int)>0))) then .tup [] else CP x4)),(71,(bif ((decide (y2<0)) || (decide ((x3.fNeeds.length:Int)>0))) then .tup [] else .pv (.cp ((Enc.row x4).drop 1)))),(72,(bif ((decide (y2<0)) || (decide ((x3.fNeeds.length:Int)>0))) then .tup [] else S x4.fOf)),(73,(bif ((decide (y2<0)) || (decide ((x3.fNeeds.length:Int)>0))) then .tup [] else B (!(sEq x4.fOf (⟨#[105,110,116]⟩:Str))))),(74,B (((decide (y2<0)) || (decide ((x3.fNeeds.length:Int)>0))) || (!(sEq x4.fOf (⟨#[105,110,116]⟩:Str))))),(75,B z),(76,(bif z then .tup [] else .ref 49664 2)),(77,(bif z then .tup [] else L p0.fFields)),(78,(bif z then .tup [] else I y2)),(79,(bif z then .tup [] else CP x5)),(80,(bif z then .tup [] else .pv (.cp ((Enc.row x5).drop 2)))),(81,(bif z then .tup [] else B x5.fList)),(82,B (z || x5.fList))],[(49664,.var (CS p0)),(51714,.var (CS p1))],[]⟩) (fun _=>?_) (fun hx=>?_) ?_
  .exact Kee
  .have h8:=h8 hx
   exact Kg 3 (Kw0 (Qi h8 (Kg 2 (Kee))))
  refine Kg 1 ?_
  obtain⟨x6,h9,h⟩:=h
  obtain⟨x7,h10,h⟩:=h
  refine Kq2 17 ((((decide (y2<0)) || (decide ((x3.fNeeds.length:Int)>0))) || (!(sEq x4.fOf (⟨#[105,110,116]⟩:Str)))) || x5.fList) 83 (fun z=>⟨[(2,.ref 49664 0),(3,.ref 51714 0),(5,I v5l1),(6,I y2),(54,I y2),(55,B (decide (y2<0))),(56,B (decide (y2<0))),(57,(bif (decide (y2<0)) then .tup [] else .ref 49664 2)),(58,(bif (decide (y2<0)) then .tup [] else L p0.fFields)),(59,(bif (decide (y2<0)) then .tup [] else I y2)),(60,(bif (decide (y2<0)) then .tup [] else CP x3)),(61,(bif (decide (y2<0)) then .tup [] else .pv (.cp ((Enc.row x3).drop 7)))),(62,(bif (decide (y2<0)) then .tup [] else L x3.fNeeds)),(63,(bif (decide (y2<0)) then .tup [] else I (x3.fNeeds.length:Int))),(64,(bif (decide (y2<0)) then .tup [] else B (decide ((x3.fNeeds.length:Int)>0)))),(65,B ((decide (y2<0)) || (decide ((x3.fNeeds.length:Int)>0)))),(66,B ((decide (y2<0)) || (decide ((x3.fNeeds.length:Int)>0)))),(67,(bif ((decide (y2<0)) || (decide ((x3.fNeeds.length:Int)>0))) then .tup [] else .ref 49664 2)),(68,(bif ((decide (y2<0)) || (decide ((x3.fNeeds.length:Int)>0))) then .tup [] else L p0.fFields)),(69,(bif ((decide (y2<0)) || (decide ((x3.fNeeds.length:Int)>0))) then .tup [] else I y2)),(70,(bif ((decide (y2<0)) || (decide ((x3.fNeeds.length:Int)>0))) then .tup [] else CP x4)),(71,(bif ((decide (y2<0)) || (decide ((x3.fNeeds.length:Int)>0))) then .tup [] else .pv (.cp ((Enc.row x4).drop 1)))),(72,(bif ((decide (y2<0)) || (decide ((x3.fNeeds.length:Int)>0))) then .tup [] else S x4.fOf)),(73,(bif ((decide (y2<0)) || (decide ((x3.fNeeds.length:Int)>0))) then .tup [] else B (!(sEq x4.fOf (⟨#[105,110,116]⟩:Str))))),(74,B (((decide (y2<0)) || (decide ((x3.fNeeds.length:Int)>0))) || (!(sEq x4.fOf (⟨#[105,110,116]⟩:Str))))),(75,B (((decide (y2<0)) || (decide ((x3.fNeeds.length:Int)>0))) || (!(sEq x4.fOf (⟨#[105,110,116]⟩:Str))))),(76,(bif (((decide (y2<0)) || (decide ((x3.fNeeds.length:Int)>0))) || (!(sEq x4.fOf (⟨#[105,110,116]⟩:Str)))) then .tup [] else .ref 49664 2)),(77,(bif (((decide (y2<0)) || (decide ((x3.fNeeds.length:Int)>0))) || (!(sEq x4.fOf (⟨#[105,110,116]⟩:Str)))) then .tup [] else L p0.fFields)),(78,(bif (((decide (y2<0)) || (decide ((x3.fNeeds.length:Int)>0))) || (!(sEq x4.fOf (⟨#[105,110,116]⟩:Str)))) then .tup [] else I y2)),(79,(bif (((decide (y2<0)) || (decide ((x3.fNeeds.length:Int)>0))) || (!(sEq x4.fOf (⟨#[105,110,116]⟩:Str)))) then .tup [] else CP x5)),(80,(bif (((decide (y2<0)) || (decide ((x3.fNeeds.length:Int)>0))) || (!(sEq x4.fOf (⟨#[105,110,116]⟩:Str)))) then .tup [] else .pv (.cp ((Enc.row x5).drop 2)))),(81,(bif (((decide (y2<0)) || (decide ((x3.fNeeds.length:Int)>0))) || (!(sEq x4.fOf (⟨#[105,110,116]⟩:Str)))) then .tup [] else B x5.fList)),(82,B ((((decide (y2<0)) || (decide ((x3.fNeeds.length:Int)>0))) || (!(sEq x4.fOf (⟨#[105,110,116]⟩:Str)))) || x5.fList)),(83,B z),(84,(bif z then .tup [] else I v5l1)),(85,(bif z then .tup [] else B (decide (v5l1>0)))),(86,(bif z then .tup [] else B (decide (v5l1>0)))),(87,(bif z then .tup [] else (bif (decide (v5l1>0)) then .ref 51714 7 else .tup []))),(88,(bif z then .tup [] else (bif (decide (v5l1>0)) then L p1.fNeeds else .tup []))),(89,(bif z then .tup [] else (bif (decide (v5l1>0)) then I v5l1 else .tup []))),(90,(bif z then .tup [] else (bif (decide (v5l1>0)) then I (IntKind.i64.wrap (v5l1-1)) else .tup []))),(91,(bif z then .tup [] else (bif (decide (v5l1>0)) then CP x6 else .tup []))),(92,(bif z then .tup [] else (bif (decide (v5l1>0)) then S x6 else .tup []))),(93,(bif z then .tup [] else (bif (decide (v5l1>0)) then .ref 51714 7 else .tup []))),(94,(bif z then .tup [] else (bif (decide (v5l1>0)) then L p1.fNeeds else .tup []))),(95,(bif z then .tup [] else (bif (decide (v5l1>0)) then I v5l1 else .tup []))),(96,(bif z then .tup [] else (bif (decide (v5l1>0)) then CP x7 else .tup []))),(97,(bif z then .tup [] else (bif (decide (v5l1>0)) then S x7 else .tup []))),(98,(bif z then .tup [] else (bif (decide (v5l1>0)) then B (!(sLt x6 x7)) else .tup []))),(99,(bif z then .tup [] else B ((decide (v5l1>0))&&(!(sLt x6 x7))))),(100,B (z || ((decide (v5l1>0))&&(!(sLt x6 x7)))))],[(49664,.var (CS p0)),(51714,.var (CS p1))],[]⟩) (fun _=>?_) (fun hx=>?_) ?_
  .exact Kee
  .have h9:=h9 hx
   have h10:=h10 hx
   refine Kg 3 (Kq2 13 (decide (v5l1>0)) 86 (fun z=>⟨[(2,.ref 49664 0),(3,.ref 51714 0),(5,I v5l1),(6,I y2),(54,I y2),(55,B (decide (y2<0))),(56,B (decide (y2<0))),(57,(bif (decide (y2<0)) then .tup [] else .ref 49664 2)),(58,(bif (decide (y2<0)) then .tup [] else L p0.fFields)),(59,(bif (decide (y2<0)) then .tup [] else I y2)),(60,(bif (decide (y2<0)) then .tup [] else CP x3)),(61,(bif (decide (y2<0)) then .tup [] else .pv (.cp ((Enc.row x3).drop 7)))),(62,(bif (decide (y2<0)) then .tup [] else L x3.fNeeds)),(63,(bif (decide (y2<0)) then .tup [] else I (x3.fNeeds.length:Int))),(64,(bif (decide (y2<0)) then .tup [] else B (decide ((x3.fNeeds.length:Int)>0)))),(65,B ((decide (y2<0)) || (decide ((x3.fNeeds.length:Int)>0)))),(66,B ((decide (y2<0)) || (decide ((x3.fNeeds.length:Int)>0)))),(67,(bif ((decide (y2<0)) || (decide ((x3.fNeeds.length:Int)>0))) then .tup [] else .ref 49664 2)),(68,(bif ((decide (y2<0)) || (decide ((x3.fNeeds.length:Int)>0))) then .tup [] else L p0.fFields)),(69,(bif ((decide (y2<0)) || (decide ((x3.fNeeds.length:Int)>0))) then .tup [] else I y2)),(70,(bif ((decide (y2<0)) || (decide ((x3.fNeeds.length:Int)>0))) then .tup [] else CP x4)),(71,(bif ((decide (y2<0)) || (decide ((x3.fNeeds.length:Int)>0))) then .tup [] else .pv (.cp ((Enc.row x4).drop 1)))),(72,(bif ((decide (y2<0)) || (decide ((x3.fNeeds.length:Int)>0))) then .tup [] else S x4.fOf)),(73,(bif ((decide (y2<0)) || (decide ((x3.fNeeds.length:Int)>0))) then .tup [] else B (!(sEq x4.fOf (⟨#[105,110,116]⟩:Str))))),(74,B (((decide (y2<0)) || (decide ((x3.fNeeds.length:Int)>0))) || (!(sEq x4.fOf (⟨#[105,110,116]⟩:Str))))),(75,B (((decide (y2<0)) || (decide ((x3.fNeeds.length:Int)>0))) || (!(sEq x4.fOf (⟨#[105,110,116]⟩:Str))))),(76,(bif (((decide (y2<0)) || (decide ((x3.fNeeds.length:Int)>0))) || (!(sEq x4.fOf (⟨#[105,110,116]⟩:Str)))) then .tup [] else .ref 49664 2)),(77,(bif (((decide (y2<0)) || (decide ((x3.fNeeds.length:Int)>0))) || (!(sEq x4.fOf (⟨#[105,110,116]⟩:Str)))) then .tup [] else L p0.fFields)),(78,(bif (((decide (y2<0)) || (decide ((x3.fNeeds.length:Int)>0))) || (!(sEq x4.fOf (⟨#[105,110,116]⟩:Str)))) then .tup [] else I y2)),(79,(bif (((decide (y2<0)) || (decide ((x3.fNeeds.length:Int)>0))) || (!(sEq x4.fOf (⟨#[105,110,116]⟩:Str)))) then .tup [] else CP x5)),(80,(bif (((decide (y2<0)) || (decide ((x3.fNeeds.length:Int)>0))) || (!(sEq x4.fOf (⟨#[105,110,116]⟩:Str)))) then .tup [] else .pv (.cp ((Enc.row x5).drop 2)))),(81,(bif (((decide (y2<0)) || (decide ((x3.fNeeds.length:Int)>0))) || (!(sEq x4.fOf (⟨#[105,110,116]⟩:Str)))) then .tup [] else B x5.fList)),(82,B ((((decide (y2<0)) || (decide ((x3.fNeeds.length:Int)>0))) || (!(sEq x4.fOf (⟨#[105,110,116]⟩:Str)))) || x5.fList)),(83,B false),(84,I v5l1),(85,B (decide (v5l1>0))),(86,B z),(87,(bif z then .ref 51714 7 else .tup [])),(88,(bif z then L p1.fNeeds else .tup [])),(89,(bif z then I v5l1 else .tup [])),(90,(bif z then I (IntKind.i64.wrap (v5l1-1)) else .tup [])),(91,(bif z then CP x6 else .tup [])),(92,(bif z then S x6 else .tup [])),(93,(bif z then .ref 51714 7 else .tup [])),(94,(bif z then L p1.fNeeds else .tup [])),(95,(bif z then I v5l1 else .tup [])),(96,(bif z then CP x7 else .tup [])),(97,(bif z then S x7 else .tup [])),(98,(bif z then B (!(sLt x6 x7)) else .tup [])),(99,B (z&&(!(sLt x6 x7))))],[(49664,.var (CS p0)),(51714,.var (CS p1))],[]⟩) (fun hx=>?_) (fun _=>?_) ?_)
   .have h9:=h9 hx
    have h10:=h10 hx
    exact Kg 4 (Kw0 (Qi h9 (Kg 4 (Kw0 (Qi h10 (Kg 2 (Kee)))))))
   .exact Kee
   exact Kee
  refine Kn (Kr (Kgh (Kc h (fun h=>?_) fun h=>?_)))
  .refine Kgh (Ks (Ko (Kg 1 (Kn (Kr ?_)))))
   cases h;exact Kt
  .exact Kgh (Ku (Kp (Kr (Ko (Kg 3 (Kn (Kl h)))))))
 .refine Kgh (Kx ?_)
  refine Kr (Ks (Ko (Kg 1 (Kn (Kr ?_)))))
  cases h;exact Kt
theorem s_l2Needs_unf (p0:Ty) (p1:Field) (r:Bool) (h:B_s_l2Needs p0 p1 r):S_s_l2Needs p0 p1 r:=by
 refine Kz (p:=l167) (Ks (Ko (Kg 3 (Kn (Kr (Ks (Ks (Ko (Kg 2 (KL h fun h=>?_))))))))))
 refine Kg 2 (Kq 28 (decide ((p1.fNeeds.length:Int)>0)) true 11 39 (fun z=>(z&&((((((!(sEq p1.fOf (⟨#[105,110,116]⟩:Str))) || p1.fList) || p1.fFar) || p1.fMust) || (sEq p0.fKey sE)) || (sEq p1.fName p0.fKey)))) (fun hx=>?_) ?_)
 .refine Kg 4 (Kq 3 (!(sEq p1.fOf (⟨#[105,110,116]⟩:Str))) false 15 18 (fun z=>(z || p1.fList)) (fun hx=>?_) ?_)
  .exact Kg 2 (Kee)
  refine Kg 1 (Kq 3 ((!(sEq p1.fOf (⟨#[105,110,116]⟩:Str))) || p1.fList) false 19 22 (fun z=>(z || p1.fFar)) (fun hx=>?_) ?_)
  .exact Kg 2 (Kee)
  refine Kg 1 (Kq 3 (((!(sEq p1.fOf (⟨#[105,110,116]⟩:Str))) || p1.fList) || p1.fFar) false 23 26 (fun z=>(z || p1.fMust)) (fun hx=>?_) ?_)
  .exact Kg 2 (Kee)
  refine Kg 1 (Kq 4 ((((!(sEq p1.fOf (⟨#[105,110,116]⟩:Str))) || p1.fList) || p1.fFar) || p1.fMust) false 27 31 (fun z=>(z || (sEq p0.fKey sE))) (fun hx=>?_) ?_)
  .exact Kg 3 (Kee)
  refine Kg 1 (Kq 6 (((((!(sEq p1.fOf (⟨#[105,110,116]⟩:Str))) || p1.fList) || p1.fFar) || p1.fMust) || (sEq p0.fKey sE)) false 32 38 (fun z=>(z || (sEq p1.fName p0.fKey))) (fun hx=>?_) ?_)
  .exact Kg 5 (Kee)
  exact Kee
 refine Kn (Kr (Kc h (fun h=>?_) fun h=>?_))
 .refine Kgh (Ks (Ko (Kg 1 (Kn (Kr ?_)))))
  cases h;exact Kt
 .exact Kgh (Ku (Kr (Ks (Ks (Ko (Kg 1 (Kn (Kr (Kb (Kv h))))))))))
def ss_l2Line_L1 (v4l1:Str) (v5l1:Int) (p0:Field):LSt:=⟨[(1,.ref 51712 0),(4,S v4l1),(5,I v5l1)],[(51712,.var (CS p0))],[]⟩
def C_s_l2Line_L1 (v4l1:Str) (v5l1:Int) (p0:Field) (r:Str):Prop:=G gE [.tmp 2] (S r,[]) [.blk 0,.sq k168_16] (.loop k168_18) (ss_l2Line_L1 v4l1 v5l1 p0)
def ss_l2Line_J6 (v4j6:Str) (p0:Field):LSt:=⟨[(1,.ref 51712 0),(4,S v4j6)],[(51712,.var (CS p0))],[]⟩
def ss_l2Line_J5 (v4j5:Str) (p0:Field):LSt:=⟨[(1,.ref 51712 0),(4,S v4j5)],[(51712,.var (CS p0))],[]⟩
def ss_l2Line_J4 (v4j4:Str) (p0:Field):LSt:=⟨[(1,.ref 51712 0),(4,S v4j4)],[(51712,.var (CS p0))],[]⟩
def ss_l2Line_J3 (v4j3:Str) (p0:Field):LSt:=⟨[(1,.ref 51712 0),(4,S v4j3)],[(51712,.var (CS p0))],[]⟩
def ss_l2Line_J2 (v3j2:Str) (p0:Field):LSt:=⟨[(1,.ref 51712 0),(3,S v3j2)],[(51712,.var (CS p0))],[]⟩
def ss_l2Line_J1 (v3j1:Str) (p0:Field):LSt:=⟨[(1,.ref 51712 0),(3,S v3j1)],[(51712,.var (CS p0))],[]⟩
def B_s_l2Line_L1 (v4l1:Str) (v5l1:Int) (p0:Field) (r:Str):Prop:=
 p0.fNeeds.length<=bigLen->(if (decide (v5l1<(p0.fNeeds.length:Int)))=true then ((v4l1.size+(⟨#[32]⟩:Str).size<=bigStr)/\(∃x1:Str,(0<=v5l1/\p0.fNeeds[v5l1.toNat]?=some x1)/\(((v4l1++(⟨#[32]⟩:Str)).size+x1.size<=bigStr)/\(C_s_l2Line_L1 ((v4l1++(⟨#[32]⟩:Str))++x1) (IntKind.i64.wrap (v5l1+1)) p0 r)))) else ((v4l1.size+(⟨#[10]⟩:Str).size<=bigStr)/\(r=(v4l1++(⟨#[10]⟩:Str)))))
def B_s_l2Line_J6 (v4j6:Str) (p0:Field) (r:Str):Prop:=
 C_s_l2Line_L1 v4j6 0 p0 r
def B_s_l2Line_J5 (v4j5:Str) (p0:Field) (r:Str):Prop:=
 p0.fNeeds.length<=bigLen->(if (decide ((p0.fNeeds.length:Int)>0))=true then ((v4j5.size+(⟨#[32,110,101,101,100,115]⟩:Str).size<=bigStr)/\(B_s_l2Line_J6 (v4j5++(⟨#[32,110,101,101,100,115]⟩:Str)) p0 r)) else (B_s_l2Line_J6 v4j5 p0 r))
def B_s_l2Line_J4 (v4j4:Str) (p0:Field) (r:Str):Prop:=
 if p0.fShared=true then ((v4j4.size+(⟨#[32,115,104,97,114,101,100]⟩:Str).size<=bigStr)/\(B_s_l2Line_J5 (v4j4++(⟨#[32,115,104,97,114,101,100]⟩:Str)) p0 r)) else (B_s_l2Line_J5 v4j4 p0 r)
def B_s_l2Line_J3 (v4j3:Str) (p0:Field) (r:Str):Prop:=
 if p0.fHidden=true then ((v4j3.size+(⟨#[32,104,105,100,100,101,110]⟩:Str).size<=bigStr)/\(B_s_l2Line_J4 (v4j3++(⟨#[32,104,105,100,100,101,110]⟩:Str)) p0 r)) else (B_s_l2Line_J4 v4j3 p0 r)
def B_s_l2Line_J2 (v3j2:Str) (p0:Field) (r:Str):Prop:=
 ((⟨#[32,32]⟩:Str).size+p0.fName.size<=bigStr)/\((((⟨#[32,32]⟩:Str)++p0.fName).size+(⟨#[32]⟩:Str).size<=bigStr)/\(((((⟨#[32,32]⟩:Str)++p0.fName)++(⟨#[32]⟩:Str)).size+v3j2.size<=bigStr)/\(if p0.fFar=true then ((((((⟨#[32,32]⟩:Str)++p0.fName)++(⟨#[32]⟩:Str))++v3j2).size+(⟨#[32,102,97,114]⟩:Str).size<=bigStr)/\(B_s_l2Line_J3 (((((⟨#[32,32]⟩:Str)++p0.fName)++(⟨#[32]⟩:Str))++v3j2)++(⟨#[32,102,97,114]⟩:Str)) p0 r)) else (B_s_l2Line_J3 ((((⟨#[32,32]⟩:Str)++p0.fName)++(⟨#[32]⟩:Str))++v3j2) p0 r))))
def B_s_l2Line_J1 (v3j1:Str) (p0:Field) (r:Str):Prop:=
 if p0.fMust=true then ((v3j1.size+(⟨#[33]⟩:Str).size<=bigStr)/\(B_s_l2Line_J2 (v3j1++(⟨#[33]⟩:Str)) p0 r)) else (B_s_l2Line_J2 v3j1 p0 r)
def B_s_l2Line (p0:Field) (r:Str):Prop:=
 if p0.fList=true then (((⟨#[91]⟩:Str).size+p0.fOf.size<=bigStr)/\((((⟨#[91]⟩:Str)++p0.fOf).size+(⟨#[93]⟩:Str).size<=bigStr)/\(B_s_l2Line_J1 (((⟨#[91]⟩:Str)++p0.fOf)++(⟨#[93]⟩:Str)) p0 r))) else (B_s_l2Line_J1 p0.fOf p0 r)
theorem s_l2Line_L1_unf (v4l1:Str) (v5l1:Int) (p0:Field) (r:Str) (h:B_s_l2Line_L1 v4l1 v5l1 p0 r):C_s_l2Line_L1 v4l1 v5l1 p0 r:=by
 refine Ky (Ks (Ks (Ko (Kg 3 (KL h fun h=>?_)))))
 refine Kg 1 (Kn (Kr (Kc h (fun h=>?_) fun h=>?_)))
 .refine Kgh (Ku (Kr (Ks (Kb (Ko (Kg 1 (Kct h fun h=>?_)))))))
  refine Kg 3 (Ki h fun x1 h=>?_)
  refine Kg 1 (Kct h fun h=>?_)
  exact Kg 1 (Kn (Kp (Kr (Ko (Kg 3 (Kn (Kl h)))))))
 .refine Kgh (Kx ?_)
  refine Kr (Ks (Ko (Kg 1 (Kct h fun h=>?_))))
  refine Kg 1 (Kn (Kr ?_))
  cases h;exact Kt
theorem s_l2Line_J6_unf (v4j6:Str) (p0:Field) (r:Str) (h:B_s_l2Line_J6 v4j6 p0 r):G gE [.tmp 2] (S r,[]) [] (.seq (.seq (.ops [oD 5 (.mv (cI 0)) []]) k168_17) k168_16) (ss_l2Line_J6 v4j6 p0):=by
 exact Ks (Ks (Ko (Kg 1 (Kn (Kr (Kb (Kv h)))))))
theorem s_l2Line_J5_unf (v4j5:Str) (p0:Field) (r:Str) (h:B_s_l2Line_J5 v4j5 p0 r):G gE [.tmp 2] (S r,[]) [] (.seq (.seq (.ops [oD 35 (.faddr 7 1) [],oD 36 (.load 1 false (some 51712) 35) [35],oD 37 (.len 36) [36],oD 38 (.bin .gtr 37 (cI 0)) [37]]) k168_15) k168_14) (ss_l2Line_J5 v4j5 p0):=by
 refine Ks (Ks (Ko (Kg 2 (KL h fun h=>?_))))
 refine Kg 1 (Kn (Kr (Kc h (fun h=>?_) fun h=>?_)))
 .refine Kgh (Ko (Kg 1 (Kct h fun h=>?_)))
  refine Kg 1 (Kn (Kr ?_))
  exact Kj (s_l2Line_J6_unf (v4j5++(⟨#[32,110,101,101,100,115]⟩:Str)) p0 r h)
 .refine Kgh (Ku (Kr ?_))
  exact Kj (s_l2Line_J6_unf v4j5 p0 r h)
theorem s_l2Line_J4_unf (v4j4:Str) (p0:Field) (r:Str) (h:B_s_l2Line_J4 v4j4 p0 r):G gE [.tmp 2] (S r,[]) [] (.seq (.seq (.ops [oD 31 (.faddr 6 1) [],oD 32 (.load 1 false (some 51712) 31) [31]]) k168_13) k168_12) (ss_l2Line_J4 v4j4 p0):=by
 refine Ks (Ks (Ko (Kg 2 (Kn (Kr (Kc h (fun h=>?_) fun h=>?_))))))
 .refine Kgh (Ko (Kg 1 (Kct h fun h=>?_)))
  refine Kg 1 (Kn (Kr ?_))
  exact Kj (s_l2Line_J5_unf (v4j4++(⟨#[32,115,104,97,114,101,100]⟩:Str)) p0 r h)
 .refine Kgh (Ku (Kr ?_))
  exact Kj (s_l2Line_J5_unf v4j4 p0 r h)
theorem s_l2Line_J3_unf (v4j3:Str) (p0:Field) (r:Str) (h:B_s_l2Line_J3 v4j3 p0 r):G gE [.tmp 2] (S r,[]) [] (.seq (.seq (.ops [oD 27 (.faddr 5 1) [],oD 28 (.load 1 false (some 51712) 27) [27]]) k168_11) k168_10) (ss_l2Line_J3 v4j3 p0):=by
 refine Ks (Ks (Ko (Kg 2 (Kn (Kr (Kc h (fun h=>?_) fun h=>?_))))))
 .refine Kgh (Ko (Kg 1 (Kct h fun h=>?_)))
  refine Kg 1 (Kn (Kr ?_))
  exact Kj (s_l2Line_J4_unf (v4j3++(⟨#[32,104,105,100,100,101,110]⟩:Str)) p0 r h)
 .refine Kgh (Ku (Kr ?_))
  exact Kj (s_l2Line_J4_unf v4j3 p0 r h)
theorem s_l2Line_J2_unf (v3j2:Str) (p0:Field) (r:Str) (h:B_s_l2Line_J2 v3j2 p0 r):G gE [.tmp 2] (S r,[]) [] (.seq (.ops [oD 17 (.faddr 0 1) [],oD 18 (.load 1 false (some 51712) 17) [17],oD 19 (.bin .add (.c (.string ⟨#[32,32]⟩)) 18) [18],oD 20 (.bin .add 19 (.c (.string ⟨#[32]⟩))) [19],oD 21 (.mv 3) [3],oD 22 (.bin .add 20 21) [20,21],oD 4 (.mv 22) [22]]) k168_7) (ss_l2Line_J2 v3j2 p0):=by
 refine Ks (Ko (Kg 2 (Kct h fun h=>?_)))
 refine Kct h fun h=>?_
 refine Kg 1 (Kct h fun h=>?_)
 refine Kg 1 (Kn (Kr (Ks (Ks (Ko (Kg 2 (Kn (Kr (Kc h (fun h=>?_) fun h=>?_)))))))))
 .refine Kgh (Ko (Kg 1 (Kct h fun h=>?_)))
  refine Kg 1 (Kn (Kr ?_))
  exact Kj (s_l2Line_J3_unf (((((⟨#[32,32]⟩:Str)++p0.fName)++(⟨#[32]⟩:Str))++v3j2)++(⟨#[32,102,97,114]⟩:Str)) p0 r h)
 .refine Kgh (Ku (Kr ?_))
  exact Kj (s_l2Line_J3_unf ((((⟨#[32,32]⟩:Str)++p0.fName)++(⟨#[32]⟩:Str))++v3j2) p0 r h)
theorem s_l2Line_J1_unf (v3j1:Str) (p0:Field) (r:Str) (h:B_s_l2Line_J1 v3j1 p0 r):G gE [.tmp 2] (S r,[]) [] (.seq (.seq (.ops [oD 13 (.faddr 3 1) [],oD 14 (.load 1 false (some 51712) 13) [13]]) k168_6) k168_5) (ss_l2Line_J1 v3j1 p0):=by
 refine Ks (Ks (Ko (Kg 2 (Kn (Kr (Kc h (fun h=>?_) fun h=>?_))))))
 .refine Kgh (Ko (Kg 1 (Kct h fun h=>?_)))
  refine Kg 1 (Kn (Kr ?_))
  exact Kj (s_l2Line_J2_unf (v3j1++(⟨#[33]⟩:Str)) p0 r h)
 .refine Kgh (Ku (Kr ?_))
  exact Kj (s_l2Line_J2_unf v3j1 p0 r h)
theorem s_l2Line_unf (p0:Field) (r:Str) (h:B_s_l2Line p0 r):S_s_l2Line p0 r:=by
 refine Kz (p:=l168) (Ks (Ko (Kg 2 (Kn (Kr (Ks (Ko (Kg 3 (Kn (Kr (Ks (Ks (Ko ?_)))))))))))))
 refine Kg 2 (Kn (Kr (Kc h (fun h=>?_) fun h=>?_)))
 .refine Kgh (Ko (Kg 1 (Kct h fun h=>?_)))
  refine Kct h fun h=>?_
  refine Kg 1 (Kn (Kr ?_))
  exact Kj (s_l2Line_J1_unf (((⟨#[91]⟩:Str)++p0.fOf)++(⟨#[93]⟩:Str)) p0 r h)
 .refine Kgh (Ku (Kr ?_))
  exact Kj (s_l2Line_J1_unf p0.fOf p0 r h)
def B_s_l1In (p0:Int) (p1:Int) (p2:Int) (r:Bool):Prop:=
 r=((decide (p0>=p1))&&(decide (p0<=p2)))
theorem s_l1In_unf (p0:Int) (p1:Int) (p2:Int) (r:Bool) (h:B_s_l1In p0 p1 p2 r):S_s_l1In p0 p1 p2 r:=by
 refine Kz (p:=l169) (Ks (Ko (Kg 1 (Kn (Kr (Ks (Ko (Kg 4 (Kq 4 (decide (p0>=p1)) true 10 14 (fun z=>(z&&(decide (p0<=p2)))) (fun hx=>?_) ?_)))))))))
 .exact Kg 3 (Kee)
 refine Kg 1 (Kn (Kr ?_))
 cases h;exact Kt
def B_i_Part_find_1 (p0:Ty) (p1:Str) (r:Bool):Prop:=
 r=(sEq p0.fName p1)
theorem i_Part_find_1_unf (p0:Ty) (p1:Str) (r:Bool) (h:B_i_Part_find_1 p0 p1 r):S_i_Part_find_1 p0 p1 r:=by
 refine Kz (p:=l171) (Ks (Ko (Kg 2 (Kn (Kr (Ks (Ko (Kg 5 (Kn (Kr (Kgh ?_)))))))))))
 cases h;exact Kt
def B_slices_ContainsFunc_string (p0:(List Str)) (p1:PV) (r:Bool):Prop:=
 ∃y1:Int,(S_slices_IndexFunc_string p0 (p1:PV) y1)/\(r=(decide (y1>=0)))
theorem slices_ContainsFunc_string_unf (p0:(List Str)) (p1:PV) (r:Bool) (h:B_slices_ContainsFunc_string p0 p1 r):S_slices_ContainsFunc_string p0 p1 r:=by
 refine Kz (p:=l175) (Ks (Ko (Kg 1 (Kn (Kr (Ks (Ko (Kg 2 (Kk h fun y1 h=>?_)))))))))
 refine Kg 2 (Kn (Kr ?_))
 cases h;exact Kt
def sslices_IndexFunc_Field_L1 (p0:(List Field)) (p1:PV) (v8l1:Int):LSt:=⟨[(0,L p0),(1,.pv p1),(7,I (p0.length:Int)),(8,I v8l1)],[],[]⟩
def C_slices_IndexFunc_Field_L1 (p0:(List Field)) (p1:PV) (v8l1:Int) (r:Int):Prop:=G gE [.tmp 4] (I r,[]) [.blk 0,.sq k191_2] (.loop k191_4) (sslices_IndexFunc_Field_L1 p0 p1 v8l1)
def B_slices_IndexFunc_Field_L1 (p0:(List Field)) (p1:PV) (v8l1:Int) (r:Int):Prop:=
 if (decide (v8l1<(p0.length:Int)))=true then (∃x1:Field,(0<=v8l1/\p0[v8l1.toNat]?=some x1)/\(∃y2:Bool,(AB gE p1 [A x1] (B y2,[]))/\(if y2=true then (r=v8l1) else (C_slices_IndexFunc_Field_L1 p0 p1 (IntKind.i64.wrap (v8l1+1)) r)))) else (r=(-1))
def B_slices_IndexFunc_Field (p0:(List Field)) (p1:PV) (r:Int):Prop:=
 p0.length<=bigLen->(C_slices_IndexFunc_Field_L1 p0 p1 0 r)
theorem slices_IndexFunc_Field_L1_unf (p0:(List Field)) (p1:PV) (v8l1:Int) (r:Int) (h:B_slices_IndexFunc_Field_L1 p0 p1 v8l1 r):C_slices_IndexFunc_Field_L1 p0 p1 v8l1 r:=by
 refine Ky (Ks (Ko (Kg 1 (Kn (Kr (Ks (Kc h (fun h=>?_) fun h=>?_)))))))
 .refine Kgh (Ku (Kr (Ks (Kb (Ks (Ko (Kg 2 (Kn (Kr (Ks (Ko (Kg 3 (Ki h fun x1 h=>?_)))))))))))))
  refine Kg 1 (Kkv h fun y2 h=>?_)
  refine Kn (Kr (Kc h (fun h=>?_) fun h=>?_))
  .refine Kgh (Ks (Ko (Kg 2 (Kn (Kr ?_)))))
   cases h;exact Kt
  .exact Kgh (Ku (Kp (Kr (Ko (Kg 2 (Kn (Kl h)))))))
 .refine Kgh (Kx ?_)
  refine Kr (Ks (Ko (Kg 1 (Kn (Kr ?_)))))
  cases h;exact Kt
theorem slices_IndexFunc_Field_unf (p0:(List Field)) (p1:PV) (r:Int) (h:B_slices_IndexFunc_Field p0 p1 r):S_slices_IndexFunc_Field p0 p1 r:=by
 refine Kz (p:=l191) (Ks (Ko (Kg 1 (Kn (Kr (Ks (Ks (Ko (Kg 1 (KL h fun h=>?_))))))))))
 exact Kg 1 (Kn (Kr (Kb (Kv h))))
def B_i_Type_find_1 (p0:Field) (p1:Str) (r:Bool):Prop:=
 r=(sEq p0.fName p1)
theorem i_Type_find_1_unf (p0:Field) (p1:Str) (r:Bool) (h:B_i_Type_find_1 p0 p1 r):S_i_Type_find_1 p0 p1 r:=by
 refine Kz (p:=l192) (Ks (Ko (Kg 2 (Kn (Kr (Ks (Ko (Kg 5 (Kn (Kr (Kgh ?_)))))))))))
 cases h;exact Kt
def B_i_Field_needy (p0:Field) (r:Bool):Prop:=
 p0.fNeeds.length<=bigLen->(r=(decide ((p0.fNeeds.length:Int)>0)))
theorem i_Field_needy_unf (p0:Field) (r:Bool) (h:B_i_Field_needy p0 r):S_i_Field_needy p0 r:=by
 refine Kz (p:=l193) (Ks (Ko (Kg 2 (Kn (Kr (Ks (Ko (Kg 2 (KL h fun h=>?_)))))))))
 refine Kg 2 (Kn (Kr (Kgh ?_)))
 cases h;exact Kt
def sslices_Index_string_L1 (p0:(List Str)) (p1:Str) (v8l1:Int):LSt:=⟨[(0,L p0),(1,S p1),(7,I (p0.length:Int)),(8,I v8l1)],[],[]⟩
def C_slices_Index_string_L1 (p0:(List Str)) (p1:Str) (v8l1:Int) (r:Int):Prop:=G gE [.tmp 4] (I r,[]) [.blk 0,.sq k194_2] (.loop k194_4) (sslices_Index_string_L1 p0 p1 v8l1)
def B_slices_Index_string_L1 (p0:(List Str)) (p1:Str) (v8l1:Int) (r:Int):Prop:=
 if (decide (v8l1<(p0.length:Int)))=true then (∃x1:Str,(0<=v8l1/\p0[v8l1.toNat]?=some x1)/\(if (sEq p1 x1)=true then (r=v8l1) else (C_slices_Index_string_L1 p0 p1 (IntKind.i64.wrap (v8l1+1)) r))) else (r=(-1))
def B_slices_Index_string (p0:(List Str)) (p1:Str) (r:Int):Prop:=
 p0.length<=bigLen->(C_slices_Index_string_L1 p0 p1 0 r)
theorem slices_Index_string_L1_unf (p0:(List Str)) (p1:Str) (v8l1:Int) (r:Int) (h:B_slices_Index_string_L1 p0 p1 v8l1 r):C_slices_Index_string_L1 p0 p1 v8l1 r:=by
 refine Ky (Ks (Ko (Kg 1 (Kn (Kr (Ks (Kc h (fun h=>?_) fun h=>?_)))))))
 .refine Kgh (Ku (Kr (Ks (Kb (Ks (Ko (Kg 2 (Kn (Kr (Ks (Ko (Kg 3 (Ki h fun x1 h=>?_)))))))))))))
  refine Kg 2 (Kn (Kr (Kc h (fun h=>?_) fun h=>?_)))
  .refine Kgh (Ks (Ko (Kg 2 (Kn (Kr ?_)))))
   cases h;exact Kt
  .exact Kgh (Ku (Kp (Kr (Ko (Kg 2 (Kn (Kl h)))))))
 .refine Kgh (Kx ?_)
  refine Kr (Ks (Ko (Kg 1 (Kn (Kr ?_)))))
  cases h;exact Kt
theorem slices_Index_string_unf (p0:(List Str)) (p1:Str) (r:Int) (h:B_slices_Index_string p0 p1 r):S_slices_Index_string p0 p1 r:=by
 refine Kz (p:=l194) (Ks (Ko (Kg 1 (Kn (Kr (Ks (Ks (Ko (Kg 1 (KL h fun h=>?_))))))))))
 exact Kg 1 (Kn (Kr (Kb (Kv h))))
def B_w_szField (p0:Field) (p1:Int) (r:Int):Prop:=
 p0.fName.size<=bigStr->(if (decide ((IntKind.i64.wrap (p1-(p0.fName.size:Int)))<0))=true then (r=(-1)) else (p0.fOf.size<=bigStr->(if (decide ((IntKind.i64.wrap ((IntKind.i64.wrap (p1-(p0.fName.size:Int)))-(p0.fOf.size:Int)))<0))=true then (r=(-1)) else (∃y1:Int,(S_w_szStringS p0.fNeeds (IntKind.i64.wrap ((IntKind.i64.wrap (p1-(p0.fName.size:Int)))-(p0.fOf.size:Int))) y1)/\(if (decide (y1<0))=true then (r=(-1)) else (r=y1))))))
theorem w_szField_unf (p0:Field) (p1:Int) (r:Int) (h:B_w_szField p0 p1 r):S_w_szField p0 p1 r:=by
 refine Kz (p:=l196) (Ks (Ko (Kg 2 (Kn (Kr (Ks (Ko (Kg 3 (KLs h fun h=>?_)))))))))
 refine Kg 2 (Kn (Kr (Ks (Ks (Ko (Kg 2 (Kn (Kr (Kc h (fun h=>?_) fun h=>?_)))))))))
 .refine Kgh (Ks (Ko (Kg 1 (Kn (Kr ?_)))))
  cases h;exact Kt
 .refine Kgh (Ku (Kr (Ks (Ko (Kg 3 (KLs h fun h=>?_))))))
  refine Kg 2 (Kn (Kr (Ks (Ks (Ko (Kg 2 (Kn (Kr (Kc h (fun h=>?_) fun h=>?_)))))))))
  .refine Kgh (Ks (Ko (Kg 1 (Kn (Kr ?_)))))
   cases h;exact Kt
  .refine Kgh (Ku (Kr (Ks (Ko (Kg 3 (Kk h fun y1 h=>?_))))))
   refine Kg 1 (Kn (Kr (Kgh (Ks (Ks (Ko (Kg 2 (Kn (Kr (Kc h (fun h=>?_) fun h=>?_))))))))))
   .refine Kgh (Ks (Ko (Kg 1 (Kn (Kr ?_)))))
    cases h;exact Kt
   .refine Kgh (Ku (Kr (Ks (Ko (Kg 2 (Kn (Kr ?_)))))))
    cases h;exact Kt
def B_w_toField (p0:Field) (r:Field):Prop:=
 ∃y1:(List Str),(S_w_toStringS p0.fNeeds y1)/\(r=(Field.mk p0.fName p0.fOf p0.fList p0.fMust p0.fFar p0.fHidden p0.fShared y1))
theorem w_toField_unf (p0:Field) (r:Field) (h:B_w_toField p0 r):S_w_toField p0 r:=by
 refine Kz (p:=l197) (Ks (Ko (Kg 2 (Kn (Kr (Ks (Ko (Kg 1 (Kn (Kr (Ks (Ko (Kg 4 ?_)))))))))))))
 refine Kn (Kr (Ks (Ko (Kg 4 (Kn (Kr (Ks (Ko (Kg 4 (Kn (Kr (Ks (Ko ?_)))))))))))))
 refine Kg 4 (Kn (Kr (Ks (Ko (Kg 4 (Kn (Kr (Ks (Ko (Kg 4 (Kn (Kr (Ks ?_)))))))))))))
 refine Ko (Kg 4 (Kn (Kr (Ks (Ko (Kg 2 (Kk h fun y1 h=>?_)))))))
 refine Kg 2 (Kn (Kr (Kgh (Ks (Ko (Kg 2 (Kn (Kr (Kgh ?_)))))))))
 cases h;exact Kt
def B_w_eqField (p0:Field) (p1:Field) (r:Bool):Prop:=
 if (!(sEq p0.fName p1.fName))=true then (r=false) else (if (!(sEq p0.fOf p1.fOf))=true then (r=false) else (if (!(p0.fList == p1.fList))=true then (r=false) else (if (!(p0.fMust == p1.fMust))=true then (r=false) else (if (!(p0.fFar == p1.fFar))=true then (r=false) else (if (!(p0.fHidden == p1.fHidden))=true then (r=false) else (if (!(p0.fShared == p1.fShared))=true then (r=false) else (∃y1:Bool,(S_w_eqStringS p0.fNeeds p1.fNeeds y1)/\(if (!y1)=true then (r=false) else (r=true)))))))))
theorem w_eqField_unf (p0:Field) (p1:Field) (r:Bool) (h:B_w_eqField p0 p1 r):S_w_eqField p0 p1 r:=by
 refine Kz (p:=l198) (Ks (Ko (Kg 3 (Kn (Kr (Ks (Ks (Ko (Kg 5 (Kn (Kr (Kc h (fun h=>?_) fun h=>?_))))))))))))
 .refine Kgh (Ks (Ko (Kg 1 (Kn (Kr ?_)))))
  cases h;exact Kt
 .refine Kgh (Ku (Kr (Ks (Ks (Ko (Kg 5 (Kn (Kr (Kc h (fun h=>?_) fun h=>?_)))))))))
  .refine Kgh (Ks (Ko (Kg 1 (Kn (Kr ?_)))))
   cases h;exact Kt
  .refine Kgh (Ku (Kr (Ks (Ks (Ko (Kg 5 (Kn (Kr (Kc h (fun h=>?_) fun h=>?_)))))))))
   .refine Kgh (Ks (Ko (Kg 1 (Kn (Kr ?_)))))
    cases h;exact Kt
   .refine Kgh (Ku (Kr (Ks (Ks (Ko (Kg 5 (Kn (Kr (Kc h (fun h=>?_) fun h=>?_)))))))))
    .refine Kgh (Ks (Ko (Kg 1 (Kn (Kr ?_)))))
     cases h;exact Kt
    .refine Kgh (Ku (Kr (Ks (Ks (Ko (Kg 5 (Kn (Kr (Kc h (fun h=>?_) fun h=>?_)))))))))
     .refine Kgh (Ks (Ko (Kg 1 (Kn (Kr ?_)))))
      cases h;exact Kt
     .refine Kgh (Ku (Kr (Ks (Ks (Ko (Kg 5 (Kn (Kr (Kc h (fun h=>?_) fun h=>?_)))))))))
      .refine Kgh (Ks (Ko (Kg 1 (Kn (Kr ?_)))))
       cases h;exact Kt
      .refine Kgh (Ku (Kr (Ks (Ks (Ko (Kg 5 (Kn (Kr (Kc h (fun h=>?_) fun h=>?_)))))))))
       .refine Kgh (Ks (Ko (Kg 1 (Kn (Kr ?_)))))
        cases h;exact Kt
       .refine Kgh (Ku (Kr (Ks (Ks (Ko (Kg 4 (Kk h fun y1 h=>?_)))))))
        refine Kg 1 (Kn (Kr (Kgh (Kc h (fun h=>?_) fun h=>?_))))
        .refine Kgh (Ks (Ko (Kg 1 (Kn (Kr ?_)))))
         cases h;exact Kt
        .refine Kgh (Ku (Kr (Ks (Ko (Kg 1 (Kn (Kr ?_)))))))
         cases h;exact Kt
def si_isWord_L1 (p0:Str) (v8l1:Int):LSt:=⟨[(0,S p0),(6,L p0.data.toList),(7,I (p0.data.toList.length:Int)),(8,I v8l1)],[],[]⟩
def C_i_isWord_L1 (p0:Str) (v8l1:Int) (r:Bool):Prop:=G gE [.tmp 2] (B r,[]) [.blk 0,.sq k199_2] (.loop k199_4) (si_isWord_L1 p0 v8l1)
def B_i_isWord_L1 (p0:Str) (v8l1:Int) (r:Bool):Prop:=
 if (decide (v8l1<(p0.data.toList.length:Int)))=true then (∃x1:UInt8,(0<=v8l1/\p0.data.toList[v8l1.toNat]?=some x1)/\(∃y2:Bool,(S_i_in (IntKind.i64.wrap (x1.toNat:Int)) 97 122 y2)/\(∃y3:Bool,(((!y2)&&((x1.toNat:Int) != 95))=true->(v8l1 == 0)=false->S_i_in (IntKind.i64.wrap (x1.toNat:Int)) 48 57 y3)/\(if (((!y2)&&((x1.toNat:Int) != 95))&&((v8l1 == 0) || (!y3)))=true then (r=false) else (C_i_isWord_L1 p0 (IntKind.i64.wrap (v8l1+1)) r))))) else (p0.size<=bigStr->(∃y4:Bool,(S_i_in (p0.size:Int) 1 9 y4)/\(r=y4)))
def B_i_isWord (p0:Str) (r:Bool):Prop:=
 p0.size<=bigStr->(p0.data.toList.length<=bigLen->(C_i_isWord_L1 p0 0 r))
theorem i_isWord_L1_unf (p0:Str) (v8l1:Int) (r:Bool) (h:B_i_isWord_L1 p0 v8l1 r):C_i_isWord_L1 p0 v8l1 r:=by
 refine Ky (Ks (Ko (Kg 1 (Kn (Kr (Ks (Kc h (fun h=>?_) fun h=>?_)))))))
 .refine Kgh (Ku (Kr (Ks (Kb (Ks (Ko (Kg 1 (Ki h fun x1 h=>?_))))))))
  refine Kg 3 (Kn (Kr (Ks (Ko (Kg 2 (Kk h fun y2 h=>?_))))))
  refine Kg 2 (Kq 3 (!y2) true 17 20 (fun z=>(z&&((x1.toNat:Int) != 95))) (fun hx=>?_) ?_)
  .exact Kg 2 (Kee)
  refine Kg 1 ?_
  obtain⟨y3,h5,h⟩:=h
  refine Kq 9 ((!y2)&&((x1.toNat:Int) != 95)) true 21 30 (fun z=>(z&&((v8l1 == 0) || (!y3)))) (fun hx=>?_) ?_
  .have h5:=h5 hx
   refine Kg 3 (Kq 5 (v8l1 == 0) false 24 29 (fun z=>(z || (!y3))) (fun hx=>?_) ?_)
   .have h5:=h5 hx
    exact Kg 2 (Kw0 (Qk h5 (Kg 1 (Kee))))
   exact Kee
  refine Kn (Kr (Kc h (fun h=>?_) fun h=>?_))
  .refine Kgh (Ks (Ko (Kg 1 (Kn (Kr ?_)))))
   cases h;exact Kt
  .exact Kgh (Ku (Kp (Kr (Ko (Kg 2 (Kn (Kl h)))))))
 .refine Kgh (Kx ?_)
  refine Kr (Ks (Ko (Kg 1 (KLs h fun h=>?_))))
  refine Kk h fun y4 h=>?_
  refine Kg 1 (Kn (Kr ?_))
  cases h;exact Kt
theorem i_isWord_unf (p0:Str) (r:Bool) (h:B_i_isWord p0 r):S_i_isWord p0 r:=by
 refine Kz (p:=l199) (Ks (Ko (Kg 1 (Kn (Kr (Ks (Ks (Ko (Kg 1 (Kby h fun h=>?_))))))))))
 refine KL h fun h=>?_
 exact Kg 1 (Kn (Kr (Kb (Kv h))))
def B_i_Part_typeFault_1 (p0:Field) (p1:Part) (r:Bool):Prop:=
 ∃y1:Ty×Bool,(S_i_Part_find p1 p0.fOf y1)/\(∃y2:Bool,(S_i_Field_ofWord p0 y2)/\(r=((!y2)&&(!y1.2))))
theorem i_Part_typeFault_1_unf (p0:Field) (p1:Part) (r:Bool) (h:B_i_Part_typeFault_1 p0 p1 r):S_i_Part_typeFault_1 p0 p1 r:=by
 refine Kz (p:=l200) (Ks (Ko (Kg 2 (Kn (Kr (Ks (Ko (Kg 3 (Kk h fun y1 h=>?_)))))))))
 refine Kg 6 (Kn (Kr (Kgh (Ks (Ko (Kg 1 (Kk h fun y2 h=>?_)))))))
 refine Kg 2 (Kq 3 (!y2) true 16 19 (fun z=>(z&&(!y1.2))) (fun hx=>?_) ?_)
 .exact Kg 2 (Kee)
 refine Kg 1 (Kn (Kr (Kgh ?_)))
 cases h;exact Kt
def B_i_Type_badLine (p0:Ty) (r:Bool):Prop:=
 ∃y1:Bool,(S_i_isName p0.fName y1)/\(∃y2:Bool,((!y1)=false->(!(sEq p0.fKey sE))=true->S_i_isName p0.fKey y2)/\(∃y3:Bool,(((!y1) || ((!(sEq p0.fKey sE))&&(!y2)))=false->S_i_in (p0.fFields.length:Int) 1 8 y3)/\(∃y4:Bool,((((!y1) || ((!(sEq p0.fKey sE))&&(!y2))) || (!y3))=false->S_slices_ContainsFunc_Field p0.fFields (.clo 224 [.cp (Enc.row (.clo 223 []:PV))]:PV) y4)/\(r=((((!y1) || ((!(sEq p0.fKey sE))&&(!y2))) || (!y3)) || y4)))))
theorem i_Type_badLine_unf (p0:Ty) (r:Bool) (h:B_i_Type_badLine p0 r):S_i_Type_badLine p0 r:=by
 refine Kz (p:=l201) (Ks (Ko (Kg 2 (Kn (Kr (Ks (Ko (Kg 2 (Kn (Kr (Ks (Kgh (Ko ?_)))))))))))))
 refine Kg 2 (Kn (Kr (Ks (Ko (Kg 2 (Kk h fun y1 h=>?_))))))
 refine Kg 2 ?_
 obtain⟨y2,h2,h⟩:=h
 refine Kq 10 (!y1) false 10 20 (fun z=>(z || ((!(sEq p0.fKey sE))&&(!y2)))) (fun hx=>?_) ?_
 .have h2:=h2 hx
  refine Kg 4 (Kq 5 (!(sEq p0.fKey sE)) true 14 19 (fun z=>(z&&(!y2))) (fun hx=>?_) ?_)
  .have h2:=h2 hx
   exact Kg 2 (Kw0 (Qk h2 (Kg 1 (Kee))))
  exact Kee
 refine Kg 1 ?_
 obtain⟨y3,h4,h⟩:=h
 refine Kq 6 ((!y1) || ((!(sEq p0.fKey sE))&&(!y2))) false 21 27 (fun z=>(z || (!y3))) (fun hx=>?_) ?_
 .have h4:=h4 hx
  refine Kg 2 (Kw0 (QL p0.fFields fun h3=>?_))
  exact Kw0 (Qk h4 (Kg 1 (Kee)))
 refine Kg 1 ?_
 obtain⟨y4,h5,h⟩:=h
 refine Kq 5 (((!y1) || ((!(sEq p0.fKey sE))&&(!y2))) || (!y3)) false 28 33 (fun z=>(z || y4)) (fun hx=>?_) ?_
 .have h5:=h5 hx
  exact Kg 3 (Kw0 (Qk h5 (Kee)))
 refine Kg 1 (Kn (Kr (Kgh ?_)))
 cases h;exact Kt
def si_Type_names_L1 (v3l1:List Str) (p0:Ty) (v9l1:Int):LSt:=⟨[(3,O 2 v3l1),(7,L p0.fFields),(8,I (p0.fFields.length:Int)),(9,I v9l1)],[],[]⟩
def C_i_Type_names_L1 (v3l1:List Str) (p0:Ty) (v9l1:Int) (r:(List Str)):Prop:=G gE [.tmp 2] (L r,[]) [.blk 0,.sq k202_3] (.loop k202_5) (si_Type_names_L1 v3l1 p0 v9l1)
def B_i_Type_names_L1 (v3l1:List Str) (p0:Ty) (v9l1:Int) (r:(List Str)):Prop:=
 if (decide (v9l1<(p0.fFields.length:Int)))=true then (∃x1:Field,(0<=v9l1/\p0.fFields[v9l1.toNat]?=some x1)/\((v3l1.length+([x1.fName]:List Str).length<=bigLen)/\(C_i_Type_names_L1 (v3l1++[x1.fName]) p0 (IntKind.i64.wrap (v9l1+1)) r))) else (r=v3l1)
def B_i_Type_names (p0:Ty) (r:(List Str)):Prop:=
 p0.fFields.length<=bigLen->(C_i_Type_names_L1 ([]:List Str) p0 0 r)
theorem i_Type_names_L1_unf (v3l1:List Str) (p0:Ty) (v9l1:Int) (r:(List Str)) (h:B_i_Type_names_L1 v3l1 p0 v9l1 r):C_i_Type_names_L1 v3l1 p0 v9l1 r:=by
 refine Ky (Ks (Ko (Kg 1 (Kn (Kr (Ks (Kc h (fun h=>?_) fun h=>?_)))))))
 .refine Kgh (Ku (Kr (Ks (Kb (Ks (Ko (Ki h fun x1 h=>?_)))))))
  refine Kg 3 (Kn (Kr (Ko (Kg 3 (Kbs ([x1.fName]:List Str) (Ka h fun h=>?_))))))
  exact Kg 1 (Kn (Kp (Kr (Kgh (Ko (Kg 2 (Kn (Kl h))))))))
 .refine Kgh (Kx ?_)
  refine Kr (Ks (Ko (Kg 2 (Kn (Kr (Kgh ?_))))))
  cases h;exact Kt
theorem i_Type_names_unf (p0:Ty) (r:(List Str)) (h:B_i_Type_names p0 r):S_i_Type_names p0 r:=by
 refine Kz (p:=l202) (Ks (Ko (Kg 2 (Kn (Kr (Ks (Ko (Kg 1 (Kn (Kr (Ks (Ks (Ko ?_)))))))))))))
 refine Kg 2 (KL h fun h=>?_)
 exact Kg 1 (Kn (Kr (Kgh (Kb (Kj h)))))
def B_i_Type_badKey (p0:Ty) (r:Bool):Prop:=
 if (sEq p0.fKey sE)=true then (r=false) else (∃y1:Field×Bool,(S_i_Type_find p0 p0.fKey y1)/\(∃y2:Bool,((!y1.2)=false->S_i_Field_plainInt y1.1 y2)/\(r=(((((!y1.2) || (!y2)) || (!y1.1.fMust)) || y1.1.fFar) || y1.1.fHidden))))
theorem i_Type_badKey_unf (p0:Ty) (r:Bool) (h:B_i_Type_badKey p0 r):S_i_Type_badKey p0 r:=by
 refine Kz (p:=l203) (Ks (Ko (Kg 2 (Kn (Kr (Ks (Ks (Ko (Kg 3 (Kn (Kr (Kc h (fun h=>?_) fun h=>?_))))))))))))
 .refine Kgh (Ks (Ko (Kg 1 (Kn (Kr ?_)))))
  cases h;exact Kt
 .refine Kgh (Ku (Kr (Ks (Ko (Kg 3 (Kk h fun y1 h=>?_))))))
  refine Kg 6 (Kn (Kr (Kgh (Ks (Ko (Kg 3 ?_))))))
  obtain⟨y2,h2,h⟩:=h
  refine Kq 4 (!y1.2) false 17 21 (fun z=>(z || (!y2))) (fun hx=>?_) ?_
  .have h2:=h2 hx
   exact Kg 1 (Kw0 (Qk h2 (Kg 1 (Kee))))
  refine Kg 1 (Kq 4 ((!y1.2) || (!y2)) false 22 26 (fun z=>(z || (!y1.1.fMust))) (fun hx=>?_) ?_)
  .exact Kg 3 (Kee)
  refine Kg 1 (Kq 3 (((!y1.2) || (!y2)) || (!y1.1.fMust)) false 27 30 (fun z=>(z || y1.1.fFar)) (fun hx=>?_) ?_)
  .exact Kg 2 (Kee)
  refine Kg 1 (Kq 3 ((((!y1.2) || (!y2)) || (!y1.1.fMust)) || y1.1.fFar) false 31 34 (fun z=>(z || y1.1.fHidden)) (fun hx=>?_) ?_)
  .exact Kg 2 (Kee)
  refine Kg 1 (Kn (Kr (Kgh ?_)))
  cases h;exact Kt
def si_Type_badNeed_L1 (p1:Field) (v48l1:Int) (p0:Ty):LSt:=⟨[(2,.ref 49664 0),(3,.ref 51714 0),(46,L p1.fNeeds),(47,I (p1.fNeeds.length:Int)),(48,I v48l1)],[(49664,.var (CS p0)),(51714,.var (CS p1))],[]⟩
def C_i_Type_badNeed_L1 (p1:Field) (v48l1:Int) (p0:Ty) (r:Bool):Prop:=G gE [.tmp 4] (B r,[]) [.blk 0,.sq k204_11] (.loop k204_13) (si_Type_badNeed_L1 p1 v48l1 p0)
def B_i_Type_badNeed_L1 (p1:Field) (v48l1:Int) (p0:Ty) (r:Bool):Prop:=
 if (decide (v48l1<(p1.fNeeds.length:Int)))=true then (∃x2:Str,(0<=v48l1/\p1.fNeeds[v48l1.toNat]?=some x2)/\(∃y3:Field×Bool,(S_i_Type_find p0 x2 y3)/\(∃y4:Bool,((!y3.2)=false->S_i_Field_plainInt y3.1 y4)/\(∃x5:Str,(((!y3.2) || (!y4))=false->(decide (v48l1>0))=true->0<=(IntKind.i64.wrap (v48l1-1))/\p1.fNeeds[(IntKind.i64.wrap (v48l1-1)).toNat]?=some x5)/\(if (((!y3.2) || (!y4)) || ((decide (v48l1>0))&&(sLt x2 x5 || sEq x2 x5)))=true then (r=true) else (C_i_Type_badNeed_L1 p1 (IntKind.i64.wrap (v48l1+1)) p0 r)))))) else (r=false)
def B_i_Type_badNeed (p0:Ty) (p1:Field) (r:Bool):Prop:=
 if (p1.fFar&&p1.fShared)=true then (r=true) else (∃y1:Bool,(S_i_Field_needy p1 y1)/\(if (!y1)=true then (r=false) else (if ((((((!(sEq p1.fOf (⟨#[105,110,116]⟩:Str))) || p1.fList) || p1.fFar) || p1.fMust) || (sEq p1.fName p0.fKey)) || (sEq p0.fKey sE))=true then (r=true) else (p1.fNeeds.length<=bigLen->(C_i_Type_badNeed_L1 p1 0 p0 r)))))
theorem i_Type_badNeed_L1_unf (p1:Field) (v48l1:Int) (p0:Ty) (r:Bool) (h:B_i_Type_badNeed_L1 p1 v48l1 p0 r):C_i_Type_badNeed_L1 p1 v48l1 p0 r:=by
 refine Ky (Ks (Ko (Kg 1 (Kn (Kr (Ks (Kc h (fun h=>?_) fun h=>?_)))))))
 .refine Kgh (Ku (Kr (Ks (Kb (Ks (Ko (Kg 1 (Ki h fun x2 h=>?_))))))))
  refine Kg 3 (Kn (Kr (Ks (Ko (Kg 2 (Kk h fun y3 h=>?_))))))
  refine Kg 6 (Kn (Kr (Ks (Ko (Kg 3 ?_)))))
  obtain⟨y4,h5,h⟩:=h
  refine Kq 4 (!y3.2) false 61 65 (fun z=>(z || (!y4))) (fun hx=>?_) ?_
  .have h5:=h5 hx
   exact Kg 1 (Kw0 (Qk h5 (Kg 1 (Kee))))
  refine Kg 1 ?_
  obtain⟨x5,h6,h⟩:=h
  refine Kq 13 ((!y3.2) || (!y4)) false 66 79 (fun z=>(z || ((decide (v48l1>0))&&(sLt x2 x5 || sEq x2 x5)))) (fun hx=>?_) ?_
  .have h6:=h6 hx
   refine Kg 3 (Kq 9 (decide (v48l1>0)) true 69 78 (fun z=>(z&&(sLt x2 x5 || sEq x2 x5))) (fun hx=>?_) ?_)
   .have h6:=h6 hx
    exact Kg 5 (Kw0 (Qi h6 (Kg 2 (Kee))))
   exact Kee
  refine Kn (Kr (Kgh (Kc h (fun h=>?_) fun h=>?_)))
  .refine Kgh (Ks (Ko (Kg 1 (Kn (Kr ?_)))))
   cases h;exact Kt
  .exact Kgh (Ku (Kp (Kr (Ko (Kg 2 (Kn (Kl h)))))))
 .refine Kgh (Kx ?_)
  refine Kr (Ks (Ko (Kg 1 (Kn (Kr ?_)))))
  cases h;exact Kt
theorem i_Type_badNeed_unf (p0:Ty) (p1:Field) (r:Bool) (h:B_i_Type_badNeed p0 p1 r):S_i_Type_badNeed p0 p1 r:=by
 refine Kz (p:=l204) (Ks (Ko (Kg 3 (Kn (Kr (Ks (Ks (Ko (Kg 3 (Kq 3 p1.fFar true 11 14 (fun z=>(z&&p1.fShared)) (fun hx=>?_) ?_))))))))))
 .exact Kg 2 (Kee)
 refine Kn (Kr (Kc h (fun h=>?_) fun h=>?_))
 .refine Kgh (Ks (Ko (Kg 1 (Kn (Kr ?_)))))
  cases h;exact Kt
 .refine Kgh (Ku (Kr (Ks (Ks (Ko (Kg 1 (Kk h fun y1 h=>?_)))))))
  refine Kg 1 (Kn (Kr (Kc h (fun h=>?_) fun h=>?_)))
  .refine Kgh (Ks (Ko (Kg 1 (Kn (Kr ?_)))))
   cases h;exact Kt
  .refine Kgh (Ku (Kr (Ks (Ks (Ko (Kg 4 (Kq 3 (!(sEq p1.fOf (⟨#[105,110,116]⟩:Str))) false 21 24 (fun z=>(z || p1.fList)) (fun hx=>?_) ?_)))))))
   .exact Kg 2 (Kee)
   refine Kg 1 (Kq 3 ((!(sEq p1.fOf (⟨#[105,110,116]⟩:Str))) || p1.fList) false 25 28 (fun z=>(z || p1.fFar)) (fun hx=>?_) ?_)
   .exact Kg 2 (Kee)
   refine Kg 1 (Kq 3 (((!(sEq p1.fOf (⟨#[105,110,116]⟩:Str))) || p1.fList) || p1.fFar) false 29 32 (fun z=>(z || p1.fMust)) (fun hx=>?_) ?_)
   .exact Kg 2 (Kee)
   refine Kg 1 (Kq 6 ((((!(sEq p1.fOf (⟨#[105,110,116]⟩:Str))) || p1.fList) || p1.fFar) || p1.fMust) false 33 39 (fun z=>(z || (sEq p1.fName p0.fKey))) (fun hx=>?_) ?_)
   .exact Kg 5 (Kee)
   refine Kg 1 (Kq 4 (((((!(sEq p1.fOf (⟨#[105,110,116]⟩:Str))) || p1.fList) || p1.fFar) || p1.fMust) || (sEq p1.fName p0.fKey)) false 40 44 (fun z=>(z || (sEq p0.fKey sE))) (fun hx=>?_) ?_)
   .exact Kg 3 (Kee)
   refine Kn (Kr (Kc h (fun h=>?_) fun h=>?_))
   .refine Kgh (Ks (Ko (Kg 1 (Kn (Kr ?_)))))
    cases h;exact Kt
   .refine Kgh (Ku (Kr (Ks (Ks (Ko (Kg 2 (KL h fun h=>?_)))))))
    exact Kg 1 (Kn (Kr (Kb (Kv h))))
def B_i_Part_typeFault_2 (p0:Field) (r:Bool):Prop:=
 r=(sEq p0.fOf (⟨#[113,117,101,114,121]⟩:Str))
theorem i_Part_typeFault_2_unf (p0:Field) (r:Bool) (h:B_i_Part_typeFault_2 p0 r):S_i_Part_typeFault_2 p0 r:=by
 refine Kz (p:=l205) (Ks (Ko (Kg 2 (Kn (Kr (Ks (Ko (Kg 4 (Kn (Kr (Kgh ?_)))))))))))
 cases h;exact Kt
def si_Field_line_J3 (v3j3:Str) (p0:Field) (v31l1:Int):LSt:=⟨[(1,.ref 51712 0),(3,S v3j3),(29,O 1 ([p0.fFar,p0.fHidden,p0.fShared]:List Bool)),(30,I ([p0.fFar,p0.fHidden,p0.fShared].length:Int)),(31,I v31l1)],[(51712,.var (CS p0))],[]⟩
def si_Field_line_J4 (v3j4:Str):LSt:=⟨[(3,S v3j4)],[],[]⟩
def si_Field_line_L1 (v3l1:Str) (p0:Field) (v31l1:Int):LSt:=⟨[(1,.ref 51712 0),(3,S v3l1),(29,O 1 ([p0.fFar,p0.fHidden,p0.fShared]:List Bool)),(30,I ([p0.fFar,p0.fHidden,p0.fShared].length:Int)),(31,I v31l1)],[(51712,.var (CS p0))],[]⟩
def C_i_Field_line_L1 (v3l1:Str) (p0:Field) (v31l1:Int) (r:Str):Prop:=G gE [.tmp 2] (S r,[]) [.blk 0,.sq k207_8] (.loop k207_10) (si_Field_line_L1 v3l1 p0 v31l1)
def si_Field_line_J2 (v3j2:Str) (p0:Field):LSt:=⟨[(1,.ref 51712 0),(3,S v3j2)],[(51712,.var (CS p0))],[]⟩
def si_Field_line_J1 (v3j1:Str) (p0:Field):LSt:=⟨[(1,.ref 51712 0),(3,S v3j1)],[(51712,.var (CS p0))],[]⟩
def B_i_Field_line_J3 (v3j3:Str) (p0:Field) (v31l1:Int) (r:Str):Prop:=
 C_i_Field_line_L1 v3j3 p0 (IntKind.i64.wrap (v31l1+1)) r
def B_i_Field_line_J4 (v3j4:Str) (r:Str):Prop:=
 (v3j4.size+(⟨#[10]⟩:Str).size<=bigStr)/\(r=(v3j4++(⟨#[10]⟩:Str)))
def B_i_Field_line_L1 (v3l1:Str) (p0:Field) (v31l1:Int) (r:Str):Prop:=
 if (decide (v31l1<([p0.fFar,p0.fHidden,p0.fShared].length:Int)))=true then (∃x1:Bool,(0<=v31l1/\([p0.fFar,p0.fHidden,p0.fShared]:List Bool)[v31l1.toNat]?=some x1)/\(if x1=true then (∃x2:Str,(0<=v31l1/\([(⟨#[32,102,97,114]⟩:Str),(⟨#[32,104,105,100,100,101,110]⟩:Str),(⟨#[32,115,104,97,114,101,100]⟩:Str)]:List Str)[v31l1.toNat]?=some x2)/\((v3l1.size+x2.size<=bigStr)/\(B_i_Field_line_J3 (v3l1++x2) p0 v31l1 r))) else (B_i_Field_line_J3 v3l1 p0 v31l1 r))) else (∃y3:Bool,(S_i_Field_needy p0 y3)/\(if y3=true then (∃y4:Str,(S_strings_Join p0.fNeeds (⟨#[32]⟩:Str) y4)/\(((⟨#[32,110,101,101,100,115,32]⟩:Str).size+y4.size<=bigStr)/\((v3l1.size+((⟨#[32,110,101,101,100,115,32]⟩:Str)++y4).size<=bigStr)/\(B_i_Field_line_J4 (v3l1++((⟨#[32,110,101,101,100,115,32]⟩:Str)++y4)) r)))) else (B_i_Field_line_J4 v3l1 r)))
def B_i_Field_line_J2 (v3j2:Str) (p0:Field) (r:Str):Prop:=
 ((⟨#[32,32]⟩:Str).size+p0.fName.size<=bigStr)/\((((⟨#[32,32]⟩:Str)++p0.fName).size+(⟨#[32]⟩:Str).size<=bigStr)/\(((((⟨#[32,32]⟩:Str)++p0.fName)++(⟨#[32]⟩:Str)).size+v3j2.size<=bigStr)/\(([p0.fFar,p0.fHidden,p0.fShared]:List Bool).length<=bigLen->(C_i_Field_line_L1 ((((⟨#[32,32]⟩:Str)++p0.fName)++(⟨#[32]⟩:Str))++v3j2) p0 0 r))))
def B_i_Field_line_J1 (v3j1:Str) (p0:Field) (r:Str):Prop:=
 if p0.fMust=true then ((v3j1.size+(⟨#[33]⟩:Str).size<=bigStr)/\(B_i_Field_line_J2 (v3j1++(⟨#[33]⟩:Str)) p0 r)) else (B_i_Field_line_J2 v3j1 p0 r)
def B_i_Field_line (p0:Field) (r:Str):Prop:=
 if p0.fList=true then (((⟨#[91]⟩:Str).size+p0.fOf.size<=bigStr)/\((((⟨#[91]⟩:Str)++p0.fOf).size+(⟨#[93]⟩:Str).size<=bigStr)/\(B_i_Field_line_J1 (((⟨#[91]⟩:Str)++p0.fOf)++(⟨#[93]⟩:Str)) p0 r))) else (B_i_Field_line_J1 p0.fOf p0 r)
theorem i_Field_line_J3_unf (v3j3:Str) (p0:Field) (v31l1:Int) (r:Str) (h:B_i_Field_line_J3 v3j3 p0 v31l1 r):G gE [.tmp 2] (S r,[]) [.lp k207_10,.blk 0,.sq k207_8] (.ops [oD 43 (.bin .add 31 (cI 1)) [31],oD 31 (.mv 43) [43]]) (si_Field_line_J3 v3j3 p0 v31l1):=by
 exact Ko (Kg 2 (Kn (Kl h)))
theorem i_Field_line_J4_unf (v3j4:Str) (r:Str) (h:B_i_Field_line_J4 v3j4 r):G gE [.tmp 2] (S r,[]) [] (.seq (.ops [oD 52 (.mv 3) [3],oD 53 (.bin .add 52 (.c (.string ⟨#[10]⟩))) [52],oD 2 (.mv 53) [53]]) k207_18) (si_Field_line_J4 v3j4):=by
 refine Ks (Ko (Kg 1 (Kct h fun h=>?_)))
 refine Kg 1 (Kn (Kr ?_))
 cases h;exact Kt
theorem i_Field_line_L1_unf (v3l1:Str) (p0:Field) (v31l1:Int) (r:Str) (h:B_i_Field_line_L1 v3l1 p0 v31l1 r):C_i_Field_line_L1 v3l1 p0 v31l1 r:=by
 refine Ky (Ks (Ko (Kg 1 (Kn (Kr (Ks (Kc h (fun h=>?_) fun h=>?_)))))))
 .refine Kgh (Ku (Kr (Ks (Kb (Ks (Ko (Kg 1 (Ki h fun x1 h=>?_))))))))
  refine Kg 3 (Kn (Kr (Ks (Ko (Kg 1 (Kn (Kr (Kc h (fun h=>?_) fun h=>?_))))))))
  .refine Kgh (Ko (Kg 1 (Kbs ([(⟨#[32,102,97,114]⟩:Str),(⟨#[32,104,105,100,100,101,110]⟩:Str),(⟨#[32,115,104,97,114,101,100]⟩:Str)]:List Str) (Kg 1 (Ki h fun x2 h=>?_)))))
   refine Kg 1 (Kct h fun h=>?_)
   refine Kg 1 (Kn (Kp (Kr ?_)))
   exact Kj (i_Field_line_J3_unf (v3l1++x2) p0 v31l1 r h)
  .refine Kgh (Ku (Kp (Kr ?_)))
   exact Kj (i_Field_line_J3_unf v3l1 p0 v31l1 r h)
 .refine Kgh (Kx ?_)
  refine Kr (Ks (Ks (Ko (Kg 1 (Kk h fun y3 h=>?_)))))
  refine Kn (Kr (Kc h (fun h=>?_) fun h=>?_))
  .refine Kgh (Ko (Kg 3 (Kk h fun y4 h=>?_)))
   refine Kct h fun h=>?_
   refine Kct h fun h=>?_
   refine Kg 1 (Kn (Kr ?_))
   exact Kj (i_Field_line_J4_unf (v3l1++((⟨#[32,110,101,101,100,115,32]⟩:Str)++y4)) r h)
  .refine Kgh (Ku (Kr ?_))
   exact Kj (i_Field_line_J4_unf v3l1 r h)
theorem i_Field_line_J2_unf (v3j2:Str) (p0:Field) (r:Str) (h:B_i_Field_line_J2 v3j2 p0 r):G gE [.tmp 2] (S r,[]) [] (.seq (.ops [oD 17 (.faddr 0 1) [],oD 18 (.load 1 false (some 51712) 17) [17],oD 19 (.bin .add (.c (.string ⟨#[32,32]⟩)) 18) [18],oD 20 (.bin .add 19 (.c (.string ⟨#[32]⟩))) [19],oD 21 (.mv 3) [3],oD 22 (.bin .add 20 21) [20,21],oD 3 (.mv 22) [22]]) k207_7) (si_Field_line_J2 v3j2 p0):=by
 refine Ks (Ko (Kg 2 (Kct h fun h=>?_)))
 refine Kct h fun h=>?_
 refine Kg 1 (Kct h fun h=>?_)
 refine Kg 1 (Kn (Kr (Ks (Ks (Ko (Kg 6 (Kbs ([p0.fFar,p0.fHidden,p0.fShared]:List Bool) (KL h fun h=>?_))))))))
 exact Kg 1 (Kn (Kr (Kb (Kv h))))
theorem i_Field_line_J1_unf (v3j1:Str) (p0:Field) (r:Str) (h:B_i_Field_line_J1 v3j1 p0 r):G gE [.tmp 2] (S r,[]) [] (.seq (.seq (.ops [oD 13 (.faddr 3 1) [],oD 14 (.load 1 false (some 51712) 13) [13]]) k207_6) k207_5) (si_Field_line_J1 v3j1 p0):=by
 refine Ks (Ks (Ko (Kg 2 (Kn (Kr (Kc h (fun h=>?_) fun h=>?_))))))
 .refine Kgh (Ko (Kg 1 (Kct h fun h=>?_)))
  refine Kg 1 (Kn (Kr ?_))
  exact Kj (i_Field_line_J2_unf (v3j1++(⟨#[33]⟩:Str)) p0 r h)
 .refine Kgh (Ku (Kr ?_))
  exact Kj (i_Field_line_J2_unf v3j1 p0 r h)
theorem i_Field_line_unf (p0:Field) (r:Str) (h:B_i_Field_line p0 r):S_i_Field_line p0 r:=by
 refine Kz (p:=l207) (Ks (Ko (Kg 2 (Kn (Kr (Ks (Ko (Kg 3 (Kn (Kr (Ks (Ks (Ko ?_)))))))))))))
 refine Kg 2 (Kn (Kr (Kc h (fun h=>?_) fun h=>?_)))
 .refine Kgh (Ko (Kg 1 (Kct h fun h=>?_)))
  refine Kct h fun h=>?_
  refine Kg 1 (Kn (Kr ?_))
  exact Kj (i_Field_line_J1_unf (((⟨#[91]⟩:Str)++p0.fOf)++(⟨#[93]⟩:Str)) p0 r h)
 .refine Kgh (Ku (Kr ?_))
  exact Kj (i_Field_line_J1_unf p0.fOf p0 r h)
def sslices_IndexFunc_Sel_L1 (p0:(List Sel)) (p1:PV) (v8l1:Int):LSt:=⟨[(0,L p0),(1,.pv p1),(7,I (p0.length:Int)),(8,I v8l1)],[],[]⟩
def C_slices_IndexFunc_Sel_L1 (p0:(List Sel)) (p1:PV) (v8l1:Int) (r:Int):Prop:=G gE [.tmp 4] (I r,[]) [.blk 0,.sq k209_2] (.loop k209_4) (sslices_IndexFunc_Sel_L1 p0 p1 v8l1)
def B_slices_IndexFunc_Sel_L1 (p0:(List Sel)) (p1:PV) (v8l1:Int) (r:Int):Prop:=
 if (decide (v8l1<(p0.length:Int)))=true then (∃x1:Sel,(0<=v8l1/\p0[v8l1.toNat]?=some x1)/\(∃y2:Bool,(AB gE p1 [A x1] (B y2,[]))/\(if y2=true then (r=v8l1) else (C_slices_IndexFunc_Sel_L1 p0 p1 (IntKind.i64.wrap (v8l1+1)) r)))) else (r=(-1))
def B_slices_IndexFunc_Sel (p0:(List Sel)) (p1:PV) (r:Int):Prop:=
 p0.length<=bigLen->(C_slices_IndexFunc_Sel_L1 p0 p1 0 r)
theorem slices_IndexFunc_Sel_L1_unf (p0:(List Sel)) (p1:PV) (v8l1:Int) (r:Int) (h:B_slices_IndexFunc_Sel_L1 p0 p1 v8l1 r):C_slices_IndexFunc_Sel_L1 p0 p1 v8l1 r:=by
 refine Ky (Ks (Ko (Kg 1 (Kn (Kr (Ks (Kc h (fun h=>?_) fun h=>?_)))))))
 .refine Kgh (Ku (Kr (Ks (Kb (Ks (Ko (Kg 2 (Kn (Kr (Ks (Ko (Kg 3 (Ki h fun x1 h=>?_)))))))))))))
  refine Kg 1 (Kkv h fun y2 h=>?_)
  refine Kn (Kr (Kc h (fun h=>?_) fun h=>?_))
  .refine Kgh (Ks (Ko (Kg 2 (Kn (Kr ?_)))))
   cases h;exact Kt
  .exact Kgh (Ku (Kp (Kr (Ko (Kg 2 (Kn (Kl h)))))))
 .refine Kgh (Kx ?_)
  refine Kr (Ks (Ko (Kg 1 (Kn (Kr ?_)))))
  cases h;exact Kt
theorem slices_IndexFunc_Sel_unf (p0:(List Sel)) (p1:PV) (r:Int) (h:B_slices_IndexFunc_Sel p0 p1 r):S_slices_IndexFunc_Sel p0 p1 r:=by
 refine Kz (p:=l209) (Ks (Ko (Kg 1 (Kn (Kr (Ks (Ks (Ko (Kg 1 (KL h fun h=>?_))))))))))
 exact Kg 1 (Kn (Kr (Kb (Kv h))))
def sslices_IndexFunc_string_L1 (p0:(List Str)) (p1:PV) (v8l1:Int):LSt:=⟨[(0,L p0),(1,.pv p1),(7,I (p0.length:Int)),(8,I v8l1)],[],[]⟩
def C_slices_IndexFunc_string_L1 (p0:(List Str)) (p1:PV) (v8l1:Int) (r:Int):Prop:=G gE [.tmp 4] (I r,[]) [.blk 0,.sq k213_2] (.loop k213_4) (sslices_IndexFunc_string_L1 p0 p1 v8l1)
def B_slices_IndexFunc_string_L1 (p0:(List Str)) (p1:PV) (v8l1:Int) (r:Int):Prop:=
 if (decide (v8l1<(p0.length:Int)))=true then (∃x1:Str,(0<=v8l1/\p0[v8l1.toNat]?=some x1)/\(∃y2:Bool,(AB gE p1 [S x1] (B y2,[]))/\(if y2=true then (r=v8l1) else (C_slices_IndexFunc_string_L1 p0 p1 (IntKind.i64.wrap (v8l1+1)) r)))) else (r=(-1))
def B_slices_IndexFunc_string (p0:(List Str)) (p1:PV) (r:Int):Prop:=
 p0.length<=bigLen->(C_slices_IndexFunc_string_L1 p0 p1 0 r)
theorem slices_IndexFunc_string_L1_unf (p0:(List Str)) (p1:PV) (v8l1:Int) (r:Int) (h:B_slices_IndexFunc_string_L1 p0 p1 v8l1 r):C_slices_IndexFunc_string_L1 p0 p1 v8l1 r:=by
 refine Ky (Ks (Ko (Kg 1 (Kn (Kr (Ks (Kc h (fun h=>?_) fun h=>?_)))))))
 .refine Kgh (Ku (Kr (Ks (Kb (Ks (Ko (Kg 2 (Kn (Kr (Ks (Ko (Kg 3 (Ki h fun x1 h=>?_)))))))))))))
  refine Kg 1 (Kkv h fun y2 h=>?_)
  refine Kn (Kr (Kc h (fun h=>?_) fun h=>?_))
  .refine Kgh (Ks (Ko (Kg 2 (Kn (Kr ?_)))))
   cases h;exact Kt
  .exact Kgh (Ku (Kp (Kr (Ko (Kg 2 (Kn (Kl h)))))))
 .refine Kgh (Kx ?_)
  refine Kr (Ks (Ko (Kg 1 (Kn (Kr ?_)))))
  cases h;exact Kt
theorem slices_IndexFunc_string_unf (p0:(List Str)) (p1:PV) (r:Int) (h:B_slices_IndexFunc_string p0 p1 r):S_slices_IndexFunc_string p0 p1 r:=by
 refine Kz (p:=l213) (Ks (Ko (Kg 1 (Kn (Kr (Ks (Ks (Ko (Kg 1 (KL h fun h=>?_))))))))))
 exact Kg 1 (Kn (Kr (Kb (Kv h))))
def sw_szStringS_L1 (p0:(List Str)) (v1l1:Int) (v5l1:Int):LSt:=⟨[(0,L p0),(1,I v1l1),(5,I v5l1)],[],[]⟩
def C_w_szStringS_L1 (p0:(List Str)) (v1l1:Int) (v5l1:Int) (r:Int):Prop:=G gE [.tmp 4] (I r,[]) [.blk 0,.sq k221_6] (.loop k221_8) (sw_szStringS_L1 p0 v1l1 v5l1)
def B_w_szStringS_L1 (p0:(List Str)) (v1l1:Int) (v5l1:Int) (r:Int):Prop:=
 p0.length<=bigLen->(if (decide (v5l1<(p0.length:Int)))=true then (∃x1:Str,(0<=v5l1/\p0[v5l1.toNat]?=some x1)/\(x1.size<=bigStr->(if (decide ((IntKind.i64.wrap (v1l1-(x1.size:Int)))<0))=true then (r=(-1)) else (C_w_szStringS_L1 p0 (IntKind.i64.wrap (v1l1-(x1.size:Int))) (IntKind.i64.wrap (v5l1+1)) r)))) else (r=v1l1))
def B_w_szStringS (p0:(List Str)) (p1:Int) (r:Int):Prop:=
 p0.length<=bigLen->(if (decide ((IntKind.i64.wrap (p1-(p0.length:Int)))<0))=true then (r=(-1)) else (C_w_szStringS_L1 p0 (IntKind.i64.wrap (p1-(p0.length:Int))) 0 r))
theorem w_szStringS_L1_unf (p0:(List Str)) (v1l1:Int) (v5l1:Int) (r:Int) (h:B_w_szStringS_L1 p0 v1l1 v5l1 r):C_w_szStringS_L1 p0 v1l1 v5l1 r:=by
 refine Ky (Ks (Ks (Ko (Kg 2 (KL h fun h=>?_)))))
 refine Kg 1 (Kn (Kr (Kc h (fun h=>?_) fun h=>?_)))
 .refine Kgh (Ku (Kr (Ks (Kb (Ks (Ko (Kg 3 (Ki h fun x1 h=>?_))))))))
  refine Kg 1 (KLs h fun h=>?_)
  refine Kg 2 (Kn (Kr (Ks (Ko (Kg 2 (Kn (Kr (Kc h (fun h=>?_) fun h=>?_))))))))
  .refine Kgh (Ks (Ko (Kg 1 (Kn (Kr ?_)))))
   cases h;exact Kt
  .exact Kgh (Ku (Kp (Kr (Ko (Kg 3 (Kn (Kl h)))))))
 .refine Kgh (Kx ?_)
  refine Kr (Ks (Ko (Kg 2 (Kn (Kr ?_)))))
  cases h;exact Kt
theorem w_szStringS_unf (p0:(List Str)) (p1:Int) (r:Int) (h:B_w_szStringS p0 p1 r):S_w_szStringS p0 p1 r:=by
 refine Kz (p:=l221) (Ks (Ko (Kg 1 (Kn (Kr (Ks (Ko (Kg 2 (KL h fun h=>?_)))))))))
 refine Kg 2 (Kn (Kr (Ks (Ks (Ko (Kg 2 (Kn (Kr (Kc h (fun h=>?_) fun h=>?_)))))))))
 .refine Kgh (Ks (Ko (Kg 1 (Kn (Kr ?_)))))
  cases h;exact Kt
 .exact Kgh (Ku (Kr (Ks (Ks (Ko (Kg 1 (Kn (Kr (Kb (Kv h))))))))))
def sw_toStringS_L1 (p0:(List Str)) (v4l1:Int) (o512_ysl1:List Str) (o512_kl1:Nat):LSt:=⟨[(0,L p0),(3,.arr 42496 p0.length),(4,I v4l1)],[(42496,.rows 1 (fillR o512_ysl1 o512_kl1 [.sc (.string sE)]) [] none)],[]⟩
def C_w_toStringS_L1 (p0:(List Str)) (v4l1:Int) (o512_ysl1:List Str) (o512_kl1:Nat) (r:(List Str)):Prop:=G gE [.tmp 2] (L r,[]) [.blk 0,.sq k222_3] (.loop k222_5) (sw_toStringS_L1 p0 v4l1 o512_ysl1 o512_kl1)
def B_w_toStringS_L1 (p0:(List Str)) (v4l1:Int) (o512_ysl1:List Str) (o512_kl1:Nat) (r:(List Str)):Prop:=
 p0.length<=bigLen->(if (decide (v4l1<(p0.length:Int)))=true then (∃x1:Str,(0<=v4l1/\p0[v4l1.toNat]?=some x1)/\((0<=v4l1/\v4l1<(p0.length:Int))/\(∃k2:Nat,(o512_kl1=k2+1/\v4l1.toNat=o512_ysl1.length)/\(C_w_toStringS_L1 p0 (IntKind.i64.wrap (v4l1+1)) (o512_ysl1++[x1]) k2 r)))) else ((o512_kl1=0/\p0.length=o512_ysl1.length)/\(r=o512_ysl1)))
def B_w_toStringS (p0:(List Str)) (r:(List Str)):Prop:=
 p0.length<=bigLen->((p0.length<=bigLen)/\(C_w_toStringS_L1 p0 0 ([]:List Str) p0.length r))
theorem w_toStringS_L1_unf (p0:(List Str)) (v4l1:Int) (o512_ysl1:List Str) (o512_kl1:Nat) (r:(List Str)) (h:B_w_toStringS_L1 p0 v4l1 o512_ysl1 o512_kl1 r):C_w_toStringS_L1 p0 v4l1 o512_ysl1 o512_kl1 r:=by
 refine Ky (Ks (Ks (Ko (Kg 2 (KL h fun h=>?_)))))
 refine Kg 1 (Kn (Kr (Kc h (fun h=>?_) fun h=>?_)))
 .refine Kgh (Ku (Kr (Ks (Kb (Ko (Kg 4 (Ki h fun x1 h=>?_)))))))
  refine Kg 1 (Kpl (T:=Str) h fun h=>?_)
  refine Kfi [.sc (.string sE)] o512_ysl1 x1 v4l1.toNat h fun k2 h=>?_
  exact Kn (Kp (Kr (Ko (Kg 3 (Kn (Kl h))))))
 .refine Kgh (Kx ?_)
  refine Kr (Ks (Ko (Kg 2 (Kn (Kr (Kff 42496 [.sc (.string sE)] o512_ysl1 h fun h=>?_))))))
  refine Kfz (g:=942) o512_ysl1 (Kgh ?_)
  cases h;exact Kt
theorem w_toStringS_unf (p0:(List Str)) (r:(List Str)) (h:B_w_toStringS p0 r):S_w_toStringS p0 r:=by
 refine Kz (p:=l222) (Ks (Ko (Kg 1 (Kn (Kr (Ks (Ko (Kg 1 (KL h fun h=>?_)))))))))
 refine Kmk (T:=Str) h fun h=>?_
 exact Kg 1 (Kn (Kr (Ks (Ks (Ko (Kg 1 (Kn (Kr (Kb (Kv h))))))))))
def B_i_Type_badLine_1 (p0:Str) (r:Bool):Prop:=
 ∃y1:Bool,(S_i_isName p0 y1)/\(r=(!y1))
theorem i_Type_badLine_1_unf (p0:Str) (r:Bool) (h:B_i_Type_badLine_1 p0 r):S_i_Type_badLine_1 p0 r:=by
 refine Kz (p:=l223) (Ks (Ko (Kg 1 (Kn (Kr (Ks (Ko (Kg 1 (Kk h fun y1 h=>?_)))))))))
 refine Kg 2 (Kn (Kr ?_))
 cases h;exact Kt
def B_i_Type_badLine_2 (p0:Field) (p1:PV) (r:Bool):Prop:=
 ∃y1:Bool,(S_i_isName p0.fName y1)/\(∃y2:Bool,((!y1)=false->S_i_isName p0.fOf y2)/\(∃y3:Bool,((!y1)=false->(!y2)=true->S_i_Field_ofWord p0 y3)/\(∃y4:Bool,(((!y1) || ((!y2)&&(!y3)))=false->S_slices_ContainsFunc_string p0.fNeeds (p1:PV) y4)/\(r=(((!y1) || ((!y2)&&(!y3))) || y4)))))
theorem i_Type_badLine_2_unf (p0:Field) (p1:PV) (r:Bool) (h:B_i_Type_badLine_2 p0 p1 r):S_i_Type_badLine_2 p0 p1 r:=by
 refine Kz (p:=l224) (Ks (Ko (Kg 2 (Kn (Kr (Ks (Ko (Kg 2 (Kk h fun y1 h=>?_)))))))))
 refine Kg 2 ?_
 obtain⟨y2,h2,h⟩:=h
 obtain⟨y3,h3,h⟩:=h
 refine Kq 10 (!y1) false 8 18 (fun z=>(z || ((!y2)&&(!y3)))) (fun hx=>?_) ?_
 .have h2:=h2 hx
  have h3:=h3 hx
  refine Kg 2 (Kw0 (Qk h2 (Kg 2 (Kq 4 (!y2) true 13 17 (fun z=>(z&&(!y3))) (fun hx=>?_) ?_))))
  .have h3:=h3 hx
   exact Kg 1 (Kw0 (Qk h3 (Kg 1 (Kee))))
  exact Kee
 refine Kg 1 ?_
 obtain⟨y4,h4,h⟩:=h
 refine Kq 5 ((!y1) || ((!y2)&&(!y3))) false 19 24 (fun z=>(z || y4)) (fun hx=>?_) ?_
 .have h4:=h4 hx
  exact Kg 3 (Kw0 (Qk h4 (Kee)))
 refine Kg 1 (Kn (Kr (Kgh ?_)))
 cases h;exact Kt
def B_i_Field_plainInt (p0:Field) (r:Bool):Prop:=
 ∃y1:Bool,(((sEq p0.fOf (⟨#[105,110,116]⟩:Str))&&(!p0.fList))=true->S_i_Field_needy p0 y1)/\(r=(((sEq p0.fOf (⟨#[105,110,116]⟩:Str))&&(!p0.fList))&&(!y1)))
theorem i_Field_plainInt_unf (p0:Field) (r:Bool) (h:B_i_Field_plainInt p0 r):S_i_Field_plainInt p0 r:=by
 refine Kz (p:=l225) (Ks (Ko (Kg 2 (Kn (Kr (Ks (Ko (Kg 4 (Kq 4 (sEq p0.fOf (⟨#[105,110,116]⟩:Str)) true 6 10 (fun z=>(z&&(!p0.fList))) (fun hx=>?_) ?_)))))))))
 .exact Kg 3 (Kee)
 refine Kg 1 ?_
 obtain⟨y1,h1,h⟩:=h
 refine Kq 4 ((sEq p0.fOf (⟨#[105,110,116]⟩:Str))&&(!p0.fList)) true 11 15 (fun z=>(z&&(!y1))) (fun hx=>?_) ?_
 .have h1:=h1 hx
  exact Kg 1 (Kw0 (Qk h1 (Kg 1 (Kee))))
 refine Kg 1 (Kn (Kr (Kgh ?_)))
 cases h;exact Kt
def B_w_toPart_u (p0:Part) (r:Part):Prop:=
 ∃y1:(List Ty),(S_w_toTypeS_u p0.fTypes y1)/\(r=(Part.mk p0.fName y1))
theorem w_toPart_u_unf (p0:Part) (r:Part) (h:B_w_toPart_u p0 r):S_w_toPart_u p0 r:=by
 refine Kz (p:=l65549) (Ks (Ko (Kg 2 (Kn (Kr (Ks (Ko (Kg 1 (Kn (Kr (Ks (Ko (Kg 4 ?_)))))))))))))
 refine Kn (Kr (Ks (Ko (Kg 2 (Kk h fun y1 h=>?_)))))
 refine Kg 2 (Kn (Kr (Kgh (Ks (Ko (Kg 2 (Kn (Kr (Kgh ?_)))))))))
 cases h;exact Kt
def sw_toSelS_u_L1 (p0:(List Sel)) (v4l1:Int) (o512_ysl1:List Sel) (o512_kl1:Nat):LSt:=⟨[(0,L p0),(3,.arr 34304 p0.length),(4,I v4l1)],[(34304,.rows 5 (fillR o512_ysl1 o512_kl1 [.sc (.string sE),.sc (.string sE),.sc (.bool false),.sc (.int .i64 0),.lst 5 []]) zh2 none)],[]⟩
def C_w_toSelS_u_L1 (p0:(List Sel)) (v4l1:Int) (o512_ysl1:List Sel) (o512_kl1:Nat) (r:(List Sel)):Prop:=G gE [.tmp 2] (.arr 1099511627776 r.length,[some (.rows 5 (Enc.E r) zh2 none)]) [.blk 0,.sq k65550_3] (.loop k65550_5) (sw_toSelS_u_L1 p0 v4l1 o512_ysl1 o512_kl1)
def B_w_toSelS_u_L1 (p0:(List Sel)) (v4l1:Int) (o512_ysl1:List Sel) (o512_kl1:Nat) (r:(List Sel)):Prop:=
 p0.length<=bigLen->(if (decide (v4l1<(p0.length:Int)))=true then (∃x1:Sel,(0<=v4l1/\p0[v4l1.toNat]?=some x1)/\(∃y2:Sel,(S_w_toSel_u x1 y2)/\((0<=v4l1/\v4l1<(p0.length:Int))/\(∃k3:Nat,(o512_kl1=k3+1/\v4l1.toNat=o512_ysl1.length)/\(C_w_toSelS_u_L1 p0 (IntKind.i64.wrap (v4l1+1)) (o512_ysl1++[y2]) k3 r))))) else ((o512_kl1=0/\p0.length=o512_ysl1.length)/\(r=o512_ysl1)))
def B_w_toSelS_u (p0:(List Sel)) (r:(List Sel)):Prop:=
 p0.length<=bigLen->((p0.length<=bigLen)/\(C_w_toSelS_u_L1 p0 0 ([]:List Sel) p0.length r))
theorem w_toSelS_u_L1_unf (p0:(List Sel)) (v4l1:Int) (o512_ysl1:List Sel) (o512_kl1:Nat) (r:(List Sel)) (h:B_w_toSelS_u_L1 p0 v4l1 o512_ysl1 o512_kl1 r):C_w_toSelS_u_L1 p0 v4l1 o512_ysl1 o512_kl1 r:=by
 refine Ky (Ks (Ks (Ko (Kg 2 (KL h fun h=>?_)))))
 refine Kg 1 (Kn (Kr (Kc h (fun h=>?_) fun h=>?_)))
 .refine Kgh (Ku (Kr (Ks (Kb (Ko (Kg 4 (Ki h fun x1 h=>?_)))))))
  refine Kg 1 (Kk h fun y2 h=>?_)
  refine Kpl (T:=Sel) h fun h=>?_
  refine Kfi [.sc (.string sE),.sc (.string sE),.sc (.bool false),.sc (.int .i64 0),.lst 5 []] o512_ysl1 y2 v4l1.toNat h fun k3 h=>?_
  exact Kn (Kp (Kr (Ko (Kg 3 (Kn (Kl h))))))
 .refine Kgh (Kx ?_)
  refine Kr (Ks (Ko (Kg 2 (Kn (Kr (Kff 34304 [.sc (.string sE),.sc (.string sE),.sc (.bool false),.sc (.int .i64 0),.lst 5 []] o512_ysl1 h fun h=>?_))))))
  cases h;exact Kt
theorem w_toSelS_u_unf (p0:(List Sel)) (r:(List Sel)) (h:B_w_toSelS_u p0 r):S_w_toSelS_u p0 r:=by
 refine Kz (p:=l65550) (Ks (Ko (Kg 1 (Kn (Kr (Ks (Ko (Kg 1 (KL h fun h=>?_)))))))))
 refine Kmk (T:=Sel) h fun h=>?_
 exact Kg 1 (Kn (Kr (Ks (Ks (Ko (Kg 1 (Kn (Kr (Kb (Kv h))))))))))
def B_i_AskCheck_u (p0:Part) (p1:(List Sel)) (r:AskFault):Prop:=
 ∃y1:Bool,(S_i_partOk p0 y1)/\(∃y2:Bool,((!y1)=false->S_i_AskOk p1 y2)/\(if ((!y1) || (!y2))=true then (r=(AskFault.mk [] 1)) else (∃y3:AskFault,(S_i_askFault_u p0 (⟨#[113,117,101,114,121]⟩:Str) p1 [] y3)/\(r=(AskFault.mk y3.fWay y3.fCode)))))
theorem i_AskCheck_u_unf (p0:Part) (p1:(List Sel)) (r:AskFault) (h:B_i_AskCheck_u p0 p1 r):S_i_AskCheck_u p0 p1 r:=by
 refine Kz (p:=l65555) (Ks (Ko (Kg 2 (Kn (Kr (Ks (Ks (Ko (Kg 1 (Kk h fun y1 h=>?_))))))))))
 refine Kg 2 ?_
 obtain⟨y2,h2,h⟩:=h
 refine Kq 4 (!y1) false 8 12 (fun z=>(z || (!y2))) (fun hx=>?_) ?_
 .have h2:=h2 hx
  exact Kg 1 (Kw0 (Qk h2 (Kg 1 (Kee))))
 refine Kn (Kr (Kc h (fun h=>?_) fun h=>?_))
 .refine Kgh (Ks (Ko (Kg 2 (Kn (Kr (Kgh ?_))))))
  cases h;exact Kt
 .refine Kgh (Ku (Kr (Ks (Ko (Kg 2 (Kk h fun y3 h=>?_))))))
  refine Kg 1 (Kn (Kr (Kgh ?_)))
  cases h;exact Kt
def sw_toTypeS_u_L1 (p0:(List Ty)) (v4l1:Int) (o512_ysl1:List Ty) (o512_kl1:Nat):LSt:=⟨[(0,L p0),(3,.arr 30208 p0.length),(4,I v4l1)],[(30208,.rows 3 (fillR o512_ysl1 o512_kl1 [.sc (.string sE),.sc (.string sE),.lst 8 []]) zh1 none)],[]⟩
def C_w_toTypeS_u_L1 (p0:(List Ty)) (v4l1:Int) (o512_ysl1:List Ty) (o512_kl1:Nat) (r:(List Ty)):Prop:=G gE [.tmp 2] (.arr 1099511627776 r.length,[some (.rows 3 (Enc.E r) zh1 none)]) [.blk 0,.sq k65587_3] (.loop k65587_5) (sw_toTypeS_u_L1 p0 v4l1 o512_ysl1 o512_kl1)
def B_w_toTypeS_u_L1 (p0:(List Ty)) (v4l1:Int) (o512_ysl1:List Ty) (o512_kl1:Nat) (r:(List Ty)):Prop:=
 p0.length<=bigLen->(if (decide (v4l1<(p0.length:Int)))=true then (∃x1:Ty,(0<=v4l1/\p0[v4l1.toNat]?=some x1)/\(∃y2:Ty,(S_w_toType_u x1 y2)/\((0<=v4l1/\v4l1<(p0.length:Int))/\(∃k3:Nat,(o512_kl1=k3+1/\v4l1.toNat=o512_ysl1.length)/\(C_w_toTypeS_u_L1 p0 (IntKind.i64.wrap (v4l1+1)) (o512_ysl1++[y2]) k3 r))))) else ((o512_kl1=0/\p0.length=o512_ysl1.length)/\(r=o512_ysl1)))
def B_w_toTypeS_u (p0:(List Ty)) (r:(List Ty)):Prop:=
 p0.length<=bigLen->((p0.length<=bigLen)/\(C_w_toTypeS_u_L1 p0 0 ([]:List Ty) p0.length r))
theorem w_toTypeS_u_L1_unf (p0:(List Ty)) (v4l1:Int) (o512_ysl1:List Ty) (o512_kl1:Nat) (r:(List Ty)) (h:B_w_toTypeS_u_L1 p0 v4l1 o512_ysl1 o512_kl1 r):C_w_toTypeS_u_L1 p0 v4l1 o512_ysl1 o512_kl1 r:=by
 refine Ky (Ks (Ks (Ko (Kg 2 (KL h fun h=>?_)))))
 refine Kg 1 (Kn (Kr (Kc h (fun h=>?_) fun h=>?_)))
 .refine Kgh (Ku (Kr (Ks (Kb (Ko (Kg 4 (Ki h fun x1 h=>?_)))))))
  refine Kg 1 (Kk h fun y2 h=>?_)
  refine Kpl (T:=Ty) h fun h=>?_
  refine Kfi [.sc (.string sE),.sc (.string sE),.lst 8 []] o512_ysl1 y2 v4l1.toNat h fun k3 h=>?_
  exact Kn (Kp (Kr (Ko (Kg 3 (Kn (Kl h))))))
 .refine Kgh (Kx ?_)
  refine Kr (Ks (Ko (Kg 2 (Kn (Kr (Kff 30208 [.sc (.string sE),.sc (.string sE),.lst 8 []] o512_ysl1 h fun h=>?_))))))
  cases h;exact Kt
theorem w_toTypeS_u_unf (p0:(List Ty)) (r:(List Ty)) (h:B_w_toTypeS_u p0 r):S_w_toTypeS_u p0 r:=by
 refine Kz (p:=l65587) (Ks (Ko (Kg 1 (Kn (Kr (Ks (Ko (Kg 1 (KL h fun h=>?_)))))))))
 refine Kmk (T:=Ty) h fun h=>?_
 exact Kg 1 (Kn (Kr (Ks (Ks (Ko (Kg 1 (Kn (Kr (Kb (Kv h))))))))))
def B_w_toSel_u (p0:Sel) (r:Sel):Prop:=
 ∃y1:(List Sel),(S_w_toSelS_u p0.fKids y1)/\(r=(Sel.mk p0.fAs p0.fName p0.fOne p0.fId y1))
theorem w_toSel_u_unf (p0:Sel) (r:Sel) (h:B_w_toSel_u p0 r):S_w_toSel_u p0 r:=by
 refine Kz (p:=l65588) (Ks (Ko (Kg 2 (Kn (Kr (Ks (Ko (Kg 1 (Kn (Kr (Ks (Ko (Kg 4 ?_)))))))))))))
 refine Kn (Kr (Ks (Ko (Kg 4 (Kn (Kr (Ks (Ko (Kg 4 (Kn (Kr (Ks (Ko ?_)))))))))))))
 refine Kg 4 (Kn (Kr (Ks (Ko (Kg 2 (Kk h fun y1 h=>?_))))))
 refine Kg 2 (Kn (Kr (Kgh (Ks (Ko (Kg 2 (Kn (Kr (Kgh ?_)))))))))
 cases h;exact Kt
def si_askFault_u_L1 (p1:Str) (p3:(List Str)) (p2:(List Sel)) (v18l1:Int) (p0:Part):LSt:=⟨[(1,S p1),(3,L p3),(4,.ref 32256 0),(8,.ref 44546 0),(16,L p2),(17,I (p2.length:Int)),(18,I v18l1)],[(32256,.var (CS p0)),(44546,.var [.nils 1,I 0])],[]⟩
def C_i_askFault_u_L1 (p1:Str) (p3:(List Str)) (p2:(List Sel)) (v18l1:Int) (p0:Part) (r:AskFault):Prop:=G gE [.cell 8 2 true] (.agg [.arr 1099511627776 r.fWay.length,I r.fCode],[some (.rows 1 (Enc.E r.fWay) [] none)]) [.blk 0,.sq k65601_2] (.loop k65601_4) (si_askFault_u_L1 p1 p3 p2 v18l1 p0)
def B_i_askFault_u_L1 (p1:Str) (p3:(List Str)) (p2:(List Sel)) (v18l1:Int) (p0:Part) (r:AskFault):Prop:=
 if (decide (v18l1<(p2.length:Int)))=true then (∃x1:Sel,(0<=v18l1/\p2[v18l1.toNat]?=some x1)/\(∃y2:Field×Bool,(S_i_Part_field p0 p1 x1.fName y2)/\(∃y3:Str,(S_i_Sel_under x1 y3)/\(∃y4:(List Str),(S_i_along_u p3 y3 y4)/\(∃y5:Int,(S_i_askCode p1 y2.1 y2.2 x1 y5)/\(if (decide (y5>0))=true then (r=(AskFault.mk y4 y5)) else (∃y6:AskFault,(S_i_askFault_u p0 y2.1.fOf x1.fKids y4 y6)/\(if (decide (y6.fCode>0))=true then (r=(AskFault.mk y6.fWay y6.fCode)) else (C_i_askFault_u_L1 p1 p3 p2 (IntKind.i64.wrap (v18l1+1)) p0 r))))))))) else (r=(AskFault.mk [] 0))
def B_i_askFault_u (p0:Part) (p1:Str) (p2:(List Sel)) (p3:(List Str)) (r:AskFault):Prop:=
 p2.length<=bigLen->(C_i_askFault_u_L1 p1 p3 p2 0 p0 r)
theorem i_askFault_u_L1_unf (p1:Str) (p3:(List Str)) (p2:(List Sel)) (v18l1:Int) (p0:Part) (r:AskFault) (h:B_i_askFault_u_L1 p1 p3 p2 v18l1 p0 r):C_i_askFault_u_L1 p1 p3 p2 v18l1 p0 r:=by
 refine Ky (Ks (Ko (Kg 1 (Kn (Kr (Ks (Kc h (fun h=>?_) fun h=>?_)))))))
 .refine Kgh (Ku (Kr (Ks (Kb (Ks (Ko (Ki h fun x1 h=>?_)))))))
  refine Kg 3 (Kn (Kr (Ks (Ko (Kg 4 (Kk h fun y2 h=>?_))))))
  refine Kg 6 (Kn (Kr (Ks (Ko (Kg 2 (Kk h fun y3 h=>?_))))))
  refine Kk h fun y4 h=>?_
  refine Kg 1 (Kn (Kr (Ks (Ks (Ko (Kg 4 (Kk h fun y5 h=>?_)))))))
  refine Kg 1 (Kn (Kr (Ks (Ko (Kg 2 (Kn (Kr (Kc h (fun h=>?_) fun h=>?_))))))))
  .refine Kgh (Ks (Ko (Kg 4 (Kn (Kr ?_)))))
   cases h;exact Kt
  .refine Kgh (Ku (Kr (Ks (Ko (Kg 6 (Kkb h (fun y=>by simp[kfreeO,kf0]) fun y6 h=>?_))))))
   refine Kg 2 (Kn (Kr (Kgh (Ks (Ko (Kg 3 (Kn (Kr (Kc h (fun h=>?_) fun h=>?_)))))))))
   .refine Kgh (Ks (Ko (Kg 2 (Kn (Kr (Kgh ?_))))))
    cases h;exact Kt
   .exact Kgh (Ku (Kp (Kr (Ko (Kg 2 (Kn (Kl h)))))))
 .refine Kgh (Kx ?_)
  refine Kr (Ks (Ko (Kg 2 (Kn (Kr (Kgh ?_))))))
  cases h;exact Kt
theorem i_askFault_u_unf (p0:Part) (p1:Str) (p2:(List Sel)) (p3:(List Str)) (r:AskFault) (h:B_i_askFault_u p0 p1 p2 p3 r):S_i_askFault_u p0 p1 p2 p3 r:=by
 refine Kz (p:=l65601) (Ks (Ko (Kg 2 (Kn (Kr (Ks (Ks (Ko (Kg 1 (KL h fun h=>?_))))))))))
 exact Kg 1 (Kn (Kr (Kb (Kv h))))
def B_w_toType_u (p0:Ty) (r:Ty):Prop:=
 ∃y1:(List Field),(S_w_toFieldS_u p0.fFields y1)/\(r=(Ty.mk p0.fName p0.fKey y1))
theorem w_toType_u_unf (p0:Ty) (r:Ty) (h:B_w_toType_u p0 r):S_w_toType_u p0 r:=by
 refine Kz (p:=l65629) (Ks (Ko (Kg 2 (Kn (Kr (Ks (Ko (Kg 1 (Kn (Kr (Ks (Ko (Kg 4 ?_)))))))))))))
 refine Kn (Kr (Ks (Ko (Kg 4 (Kn (Kr (Ks (Ko (Kg 2 (Kk h fun y1 h=>?_))))))))))
 refine Kg 2 (Kn (Kr (Kgh (Ks (Ko (Kg 2 (Kn (Kr (Kgh ?_)))))))))
 cases h;exact Kt
def B_i_along_u (p0:(List Str)) (p1:Str) (r:(List Str)):Prop:=
 ∃y1:(List Str),(S_slices_Clone_string_u p0 y1)/\((y1.length+([p1]:List Str).length<=bigLen)/\(r=(y1++[p1])))
theorem i_along_u_unf (p0:(List Str)) (p1:Str) (r:(List Str)) (h:B_i_along_u p0 p1 r):S_i_along_u p0 p1 r:=by
 refine Kz (p:=l65643) (Ks (Ko (Kg 1 (Kn (Kr (Ks (Ko (Kg 1 (Kk h fun y1 h=>?_)))))))))
 refine Kg 1 (Kbs ([p1]:List Str) (Kap h fun h=>?_))
 refine Kg 1 (Kn (Kr ?_))
 cases h;exact Kt
def B_slices_Clone_string_u (p0:(List Str)) (nb:Bool) (r:(List Str)):Prop:=
 if (nb != false)=true then (r=[]) else ((([]:List Str).length+p0.length<=bigLen)/\(r=p0))
theorem slices_Clone_string_u_unf0 (p0:(List Str)) (nb:Bool) (r:(List Str)) (h:B_slices_Clone_string_u p0 nb r):GF gE l65678 [.nk nb 1 (Enc.E p0)] [] (.arr 1099511627776 r.length,[some (.rows 1 (Enc.E r) [] none)]):=by
 unfold GF
 refine Ks (Ko (Kg 1 (Kn (Kr (Ks (Ks (Ko (Kg 2 (Kn (Kr (Kc h (fun h=>?_) fun h=>?_)))))))))))
 .refine Kgh (Ks (Ko (Kg 1 (Kn (Kr (Kgh ?_))))))
  cases h;exact Kt
 .refine Kgh (Ku (Kr (Ks (Ko (Kbu ([]:List Str) (Kg 1 (Kap h fun h=>?_)))))))
  refine Kg 1 (Kn (Kr ?_))
  cases h;exact Kt
theorem slices_Clone_string_u_unf (p0:(List Str)) (r:(List Str)) (h:B_slices_Clone_string_u p0 false r) (h1:p0=[]->B_slices_Clone_string_u p0 true r):S_slices_Clone_string_u p0 r:=by
 refine FB.body2 (p:=l65678) (k:=0) (a0:=[.nk false 1 (Enc.E p0)]) rfl rfl rfl rfl rfl (slices_Clone_string_u_unf0 p0 false r h) ?_
 intro a1 ha
 cases p0 with
 | nil=>cases ha;exact slices_Clone_string_u_unf0 [] true r (h1 rfl)
 | cons x xs=>simp[splitArg,L,PL,Enc.E_eq]at ha
def sw_toFieldS_u_L1 (p0:(List Field)) (v4l1:Int) (o512_ysl1:List Field) (o512_kl1:Nat):LSt:=⟨[(0,L p0),(3,.arr 47616 p0.length),(4,I v4l1)],[(47616,.rows 8 (fillR o512_ysl1 o512_kl1 [.sc (.string sE),.sc (.string sE),.sc (.bool false),.sc (.bool false),.sc (.bool false),.sc (.bool false),.sc (.bool false),.lst 1 []]) zh0 none)],[]⟩
def C_w_toFieldS_u_L1 (p0:(List Field)) (v4l1:Int) (o512_ysl1:List Field) (o512_kl1:Nat) (r:(List Field)):Prop:=G gE [.tmp 2] (.arr 1099511627776 r.length,[some (.rows 8 (Enc.E r) zh0 none)]) [.blk 0,.sq k65688_3] (.loop k65688_5) (sw_toFieldS_u_L1 p0 v4l1 o512_ysl1 o512_kl1)
def B_w_toFieldS_u_L1 (p0:(List Field)) (v4l1:Int) (o512_ysl1:List Field) (o512_kl1:Nat) (r:(List Field)):Prop:=
 p0.length<=bigLen->(if (decide (v4l1<(p0.length:Int)))=true then (∃x1:Field,(0<=v4l1/\p0[v4l1.toNat]?=some x1)/\(∃y2:Field,(S_w_toField_u x1 y2)/\((0<=v4l1/\v4l1<(p0.length:Int))/\(∃k3:Nat,(o512_kl1=k3+1/\v4l1.toNat=o512_ysl1.length)/\(C_w_toFieldS_u_L1 p0 (IntKind.i64.wrap (v4l1+1)) (o512_ysl1++[y2]) k3 r))))) else ((o512_kl1=0/\p0.length=o512_ysl1.length)/\(r=o512_ysl1)))
def B_w_toFieldS_u (p0:(List Field)) (r:(List Field)):Prop:=
 p0.length<=bigLen->((p0.length<=bigLen)/\(C_w_toFieldS_u_L1 p0 0 ([]:List Field) p0.length r))
theorem w_toFieldS_u_L1_unf (p0:(List Field)) (v4l1:Int) (o512_ysl1:List Field) (o512_kl1:Nat) (r:(List Field)) (h:B_w_toFieldS_u_L1 p0 v4l1 o512_ysl1 o512_kl1 r):C_w_toFieldS_u_L1 p0 v4l1 o512_ysl1 o512_kl1 r:=by
 refine Ky (Ks (Ks (Ko (Kg 2 (KL h fun h=>?_)))))
 refine Kg 1 (Kn (Kr (Kc h (fun h=>?_) fun h=>?_)))
 .refine Kgh (Ku (Kr (Ks (Kb (Ko (Kg 4 (Ki h fun x1 h=>?_)))))))
  refine Kg 1 (Kk h fun y2 h=>?_)
  refine Kpl (T:=Field) h fun h=>?_
  refine Kfi [.sc (.string sE),.sc (.string sE),.sc (.bool false),.sc (.bool false),.sc (.bool false),.sc (.bool false),.sc (.bool false),.lst 1 []] o512_ysl1 y2 v4l1.toNat h fun k3 h=>?_
  exact Kn (Kp (Kr (Ko (Kg 3 (Kn (Kl h))))))
 .refine Kgh (Kx ?_)
  refine Kr (Ks (Ko (Kg 2 (Kn (Kr (Kff 47616 [.sc (.string sE),.sc (.string sE),.sc (.bool false),.sc (.bool false),.sc (.bool false),.sc (.bool false),.sc (.bool false),.lst 1 []] o512_ysl1 h fun h=>?_))))))
  cases h;exact Kt
theorem w_toFieldS_u_unf (p0:(List Field)) (r:(List Field)) (h:B_w_toFieldS_u p0 r):S_w_toFieldS_u p0 r:=by
 refine Kz (p:=l65688) (Ks (Ko (Kg 1 (Kn (Kr (Ks (Ko (Kg 1 (KL h fun h=>?_)))))))))
 refine Kmk (T:=Field) h fun h=>?_
 exact Kg 1 (Kn (Kr (Ks (Ks (Ko (Kg 1 (Kn (Kr (Kb (Kv h))))))))))
def B_w_toField_u (p0:Field) (r:Field):Prop:=
 ∃y1:(List Str),(S_w_toStringS_u p0.fNeeds y1)/\(r=(Field.mk p0.fName p0.fOf p0.fList p0.fMust p0.fFar p0.fHidden p0.fShared y1))
theorem w_toField_u_unf (p0:Field) (r:Field) (h:B_w_toField_u p0 r):S_w_toField_u p0 r:=by
 refine Kz (p:=l65733) (Ks (Ko (Kg 2 (Kn (Kr (Ks (Ko (Kg 1 (Kn (Kr (Ks (Ko (Kg 4 ?_)))))))))))))
 refine Kn (Kr (Ks (Ko (Kg 4 (Kn (Kr (Ks (Ko (Kg 4 (Kn (Kr (Ks (Ko ?_)))))))))))))
 refine Kg 4 (Kn (Kr (Ks (Ko (Kg 4 (Kn (Kr (Ks (Ko (Kg 4 (Kn (Kr (Ks ?_)))))))))))))
 refine Ko (Kg 4 (Kn (Kr (Ks (Ko (Kg 2 (Kk h fun y1 h=>?_)))))))
 refine Kg 2 (Kn (Kr (Kgh (Ks (Ko (Kg 2 (Kn (Kr (Kgh ?_)))))))))
 cases h;exact Kt
def sw_toStringS_u_L1 (p0:(List Str)) (v4l1:Int) (o512_ysl1:List Str) (o512_kl1:Nat):LSt:=⟨[(0,L p0),(3,.arr 42496 p0.length),(4,I v4l1)],[(42496,.rows 1 (fillR o512_ysl1 o512_kl1 [.sc (.string sE)]) [] none)],[]⟩
def C_w_toStringS_u_L1 (p0:(List Str)) (v4l1:Int) (o512_ysl1:List Str) (o512_kl1:Nat) (r:(List Str)):Prop:=G gE [.tmp 2] (.arr 1099511627776 r.length,[some (.rows 1 (Enc.E r) [] none)]) [.blk 0,.sq k65758_3] (.loop k65758_5) (sw_toStringS_u_L1 p0 v4l1 o512_ysl1 o512_kl1)
def B_w_toStringS_u_L1 (p0:(List Str)) (v4l1:Int) (o512_ysl1:List Str) (o512_kl1:Nat) (r:(List Str)):Prop:=
 p0.length<=bigLen->(if (decide (v4l1<(p0.length:Int)))=true then (∃x1:Str,(0<=v4l1/\p0[v4l1.toNat]?=some x1)/\((0<=v4l1/\v4l1<(p0.length:Int))/\(∃k2:Nat,(o512_kl1=k2+1/\v4l1.toNat=o512_ysl1.length)/\(C_w_toStringS_u_L1 p0 (IntKind.i64.wrap (v4l1+1)) (o512_ysl1++[x1]) k2 r)))) else ((o512_kl1=0/\p0.length=o512_ysl1.length)/\(r=o512_ysl1)))
def B_w_toStringS_u (p0:(List Str)) (r:(List Str)):Prop:=
 p0.length<=bigLen->((p0.length<=bigLen)/\(C_w_toStringS_u_L1 p0 0 ([]:List Str) p0.length r))
theorem w_toStringS_u_L1_unf (p0:(List Str)) (v4l1:Int) (o512_ysl1:List Str) (o512_kl1:Nat) (r:(List Str)) (h:B_w_toStringS_u_L1 p0 v4l1 o512_ysl1 o512_kl1 r):C_w_toStringS_u_L1 p0 v4l1 o512_ysl1 o512_kl1 r:=by
 refine Ky (Ks (Ks (Ko (Kg 2 (KL h fun h=>?_)))))
 refine Kg 1 (Kn (Kr (Kc h (fun h=>?_) fun h=>?_)))
 .refine Kgh (Ku (Kr (Ks (Kb (Ko (Kg 4 (Ki h fun x1 h=>?_)))))))
  refine Kg 1 (Kpl (T:=Str) h fun h=>?_)
  refine Kfi [.sc (.string sE)] o512_ysl1 x1 v4l1.toNat h fun k2 h=>?_
  exact Kn (Kp (Kr (Ko (Kg 3 (Kn (Kl h))))))
 .refine Kgh (Kx ?_)
  refine Kr (Ks (Ko (Kg 2 (Kn (Kr (Kff 42496 [.sc (.string sE)] o512_ysl1 h fun h=>?_))))))
  cases h;exact Kt
theorem w_toStringS_u_unf (p0:(List Str)) (r:(List Str)) (h:B_w_toStringS_u p0 r):S_w_toStringS_u p0 r:=by
 refine Kz (p:=l65758) (Ks (Ko (Kg 1 (Kn (Kr (Ks (Ko (Kg 1 (KL h fun h=>?_)))))))))
 refine Kmk (T:=Str) h fun h=>?_
 exact Kg 1 (Kn (Kr (Ks (Ks (Ko (Kg 1 (Kn (Kr (Kb (Kv h))))))))))
end Go.Proofs.YtpgmljkhleidjaaGreatDoor.LM
