/- laws.FnExactAskCheck returns true for every input whose arguments and package variables hold together at most 1048576 values and letters; the input reads as it did. -/
import Derived.Test.YtpgmljkhleidjaaGreatDoorL1
import Derived.Lib.Join
import Derived.Lib.ItoaNum
set_option linter.unusedVariables false
set_option linter.unusedSimpArgs false
namespace Go.Proofs.YtpgmljkhleidjaaGreatDoor.LM
open Go.RowKit
section
variable {call:CallF}{P:Program}{nt:Nat}{F:Fr}{Wr:Nat->Prop}{K:Know}{N:Names}{a:Act}{w:World}{s:LSt}{o:Oper}
theorem mapEnv_mem {f:LV->Option LV}{env env':List (Nat×LV)}(h:mapEnv f env=some env'){x:Nat×LV}(hx:x∈env'):∃l,(x.1,l)∈env/\f l=some x.2:=by
 induction env generalizing env' with
 | nil=>simp only[mapEnv,osi]at h;subst h;simp at hx
 | cons y env ih=>
  obtain⟨t,l⟩:=y
  simp only[mapEnv]at h
  obtain⟨l',hl,h⟩:=obs h
  obtain⟨r',hr,h⟩:=obs h
  simp only[osi]at h
  subst h
  cases hx with
  | head=>exact⟨l,by simp,hl⟩
  | tail _ hx=>obtain⟨l0,h1,h2⟩:=ih hr hx;exact⟨l0,by simp[h1],h2⟩
inductive Each (f:LV->Option LV):List LV->List LV->Prop
 | nil:Each f [] []
 | cons {l l':LV}{r r':List LV}:f l=some l'->Each f r r'->Each f (l::r) (l'::r')
theorem mapCells_each {f:LV->Option LV}{cs cs':List LV}(h:mapCells f cs=some cs'):Each f cs cs':=by
 induction cs generalizing cs' with
 | nil=>simp only[mapCells,osi]at h;subst h;exact .nil
 | cons c cs ih=>
  simp only[mapCells]at h
  obtain⟨l',hl,h⟩:=obs h
  obtain⟨r',hr,h⟩:=obs h
  simp only[osi]at h
  subst h
  exact .cons hl (ih hr)
theorem Each.append {f:LV->Option LV}{a a' b b':List LV}(h:Each f a a') (h':Each f b b'):Each f (a++b) (a'++b'):=by
 induction h with
 | nil=>exact h'
 | cons h1 _ ih=>exact .cons h1 ih
theorem Each.length {f:LV->Option LV}{a a':List LV}(h:Each f a a'):a'.length=a.length:=by
 induction h with
 | nil=>rfl
 | cons _ _ ih=>simp[ih]
theorem Each.mem {f:LV->Option LV}{a a':List LV}(h:Each f a a'){c:LV}(hc:c∈a'):∃l∈a,f l=some c:=by
 induction h with
 | nil=>simp at hc
 | cons h1 _ ih=>
  cases hc with
  | head=>exact⟨_,by simp,h1⟩
  | tail _ hc=>obtain⟨l,h2,h3⟩:=ih hc;exact⟨l,by simp[h2],h3⟩
structure Still (f:LV->Option LV):Prop where
 arr:∀o n o' n',f (.arr o n)=some (.arr o' n')->o'=o/\n'=n
 box:∀z es sh l,f (.box z es sh)=some l->l = .box z es sh
theorem Each.rep {f:LV->Option LV}{K':Know}{N':Names}{hp:Heap}{a a':List LV}{vs:List Value}{F:List Nat}(h:Each f a a') (hs:Still f) (hf:∀l∈a,∀l' v,f l=some l'->RepL K N l v->RepL K' N' l' v/\l'.flat=l.flat) (hk:K.le K') (hr:RepCs K N hp a vs F):RepCs K' N' hp a' vs F/\(a.all LV.flat=true->a'.all LV.flat=true):=by
 induction h generalizing vs F with
 | nil=>exact⟨hr,id⟩
 | @cons l l' r r' h1 _ ih=>
  obtain⟨v,r,F1,F2,e1,e2,hv,hr⟩:=hr
  obtain⟨i1,i2⟩:=ih (fun l hl=>hf l (by simp[hl])) hr
  have hc:RepC K' N' hp l' v F1/\(l.flat=true->l'.flat=true):=by
   cases hb:l with
   | box z es sh=>
    rw[hb]at h1 hv
    have:=hs.box z es sh _ h1
    subst this
    exact⟨RepC.named (N:=N) ⟨by simp[LV.names],by simp[LV.toks]⟩ (RepC.mono (l := .box z es sh) hk hv),id⟩
   | _=>
    have hx:F1=[]/\RepL K N l v:=by rw[hb]at hv ⊢;exact hv
    rw[<-hb]
    obtain⟨q1,q2⟩:=hf l (by simp) _ _ h1 hx.2
    rw[hx.1]
    exact⟨RepC.of q1,fun h=>by rw[q2];exact h⟩
  refine⟨⟨v,_,F1,F2,e1,e2,hc.1,i1⟩,fun hfl=>?_⟩
  simp only[List.all_cons,bat]at hfl ⊢
  exact⟨hc.2 hfl.1,i2 hfl.2⟩
theorem mapObjs_mem {f:LV->Option LV}{os os':List (Nat×Obj)}(h:mapObjs f os=some os'){x:Nat×Obj}(hx:x∈os'):∃y,(x.1,y)∈os/\mapObj f y=some x.2:=by
 induction os generalizing os' with
 | nil=>simp only[mapObjs,osi]at h;subst h;simp at hx
 | cons y os ih=>
  obtain⟨t,l⟩:=y
  simp only[mapObjs]at h
  obtain⟨l',hl,h⟩:=obs h
  obtain⟨r',hr,h⟩:=obs h
  simp only[osi]at h
  subst h
  cases hx with
  | head=>exact⟨l,by simp,hl⟩
  | tail _ hx=>obtain⟨l0,h1,h2⟩:=ih hr hx;exact⟨l0,by simp[h1],h2⟩
theorem mapObj_cases {f:LV->Option LV}{x x':Obj}(h:mapObj f x=some x') (hs:Still f):(∃cs cs',x = .var cs/\x' = .var cs'/\Each f cs cs')\/(x'=x/\∃z es sh hole,x = .rows z es sh hole):=by
 cases x with
 | var cs=>
  simp only[mapObj]at h
  obtain⟨cs',h1,h⟩:=obs h
  simp only[osi]at h
  subst h
  exact .inl ⟨cs,cs',rfl,rfl,mapCells_each h1⟩
 | rows z es sh hole=>
  right
  cases hole with
  | none=>simp only[mapObj,osi]at h;exact⟨h.symm,_,_,_,_,rfl⟩
  | some y=>
   obtain⟨i,off,o,n⟩:=y
   simp only[mapObj]at h
   obtain⟨l,h1,h2⟩:=obs h
   clear h
   split at h2
   .simp only[osi]at h2
    obtain⟨e1,e2⟩:=hs.arr _ _ _ _ h1
    rw[e1,e2]at h2
    exact⟨h2.symm,_,_,_,_,rfl⟩
   .cases h2
theorem Inv.more {Wr:Nat->Prop}{K K':Know}{N:Names}{h:Heap}{ps:List (Value×LV)}{os:List (Nat×Obj)}(hi:Inv Wr K N h ps os) (hk:K.le K') (hs:∀b o v,K' b o=some v->hcell h b o=some v)
  (ho:∀x∈os,∀b∈N.F x.1,∀k,K' b k=none) (ht:∀g,Occ ps os g->∀b,spare (N.G g).1=some b->∀k,K' b k=K b k):Inv Wr K' N h ps os:=by
 refine⟨hs,fun p hp=>(hi.vals p hp).mono hk,fun x hx=>?_,hi.inj,fun g hg=>?_,hi.tinj,hi.tobj⟩
 .obtain⟨t,nd,r⟩:=hi.objs x hx
  exact⟨t.mono hk,nd,fun b hb=>⟨(r b hb).1,ho x hx b hb⟩⟩
 .exact (hi.toks g hg).turn fun b hs hw _=>⟨rfl,hw,fun k hk=>by rw[ht g hg b hs];exact hk⟩
theorem Rel.map {K':Know}{f:LV->Option LV}{env':List (Nat×LV)}{objs objs':List (Nat×Obj)}(h:Rel nt F Wr K N a w { s with objs:=objs }) (hst:Still f) (G:Nat->Value×Nat) (T:Nat->Prop)
  (he:mapEnv f s.env=some env') (ho:mapObjs f objs=some objs') (hi:Inv Wr K' N w.heap (pairs a s.env) objs)
  (hf:∀l l' v,(∀g∈l.toks,Occ (pairs a s.env) objs g)->f l=some l'->RepL K' N l v->RepL K' { N with G:=G } l' v/\l'.flat=l.flat/\∀t∈l'.toks,T t\/t∈l.toks)
  (hG:∀g,¬T g->G g=N.G g) (hTi:∀g g',T g->T g'->g=g')
  (hT:∀g0,T g0->Tip Wr K' w.heap (G g0)/\∀b,spare (G g0).1=some b->(∀g',Occ (pairs a s.env) objs g'->spare (N.G g').1≠some b)/\∀x∈objs,b∉N.F x.1):
  Rel nt F Wr K' { N with G:=G } a w { s with env:=env',objs:=objs' }:=by
 have hobjM:∀x∈objs',∃y,(x.1,y)∈objs/\mapObj f y=some x.2:=fun x hx=>mapObjs_mem ho hx
 have hocc:∀g,Occ (pairs a env') objs' g->(Occ (pairs a s.env) objs g/\G g=N.G g)\/T g:=by
  intro g hg
  have:T g\/Occ (pairs a s.env) objs g:=by
   rcases hg with⟨p,hp,ht⟩ | ⟨x,hx,ht⟩
   .obtain⟨z,hz,rfl⟩:=List.mem_map.1 hp
    obtain⟨l,h1,h2⟩:=mapEnv_mem he hz
    have hmm:(a.tmps.getD z.1 undef,l)∈pairs a s.env:=List.mem_map.2 ⟨_,h1,rfl⟩
    exact ((hf l _ _ (fun g hg => .inl ⟨_,hmm,hg⟩) h2 (hi.vals _ hmm)).2.2 g ht).imp id fun hh => .inl ⟨_,hmm,hh⟩
   .obtain⟨y,h1,h2⟩:=hobjM x hx
    rcases mapObj_cases h2 hst with⟨cs,cs',rfl,e2,hea⟩ | ⟨e1,_⟩
    .rw[e2]at ht
     simp only[Obj.cells]at ht
     obtain⟨c,hc,hct⟩:=toksL_mem.1 ht
     obtain⟨t1,_⟩:=(hi.objs _ h1).1
     rcases t1 with⟨vs,el,G',_,_,hr,_⟩ | ⟨e,_⟩
     case inr=>exact e.elim
     have:∀ (cs cs':List LV) (vs:List Value) (F:List Nat),Each f cs cs'->RepCs K' N w.heap cs vs F->(∀l∈cs,∀g∈l.toks,Occ (pairs a s.env) objs g)->c∈cs'->∃l∈cs,∀t∈c.toks,T t\/t∈l.toks:=by
      intro cs cs' vs F he
      induction he generalizing vs F with
      | nil=>intro _ _ hc;simp at hc
      | @cons l l' r r' h1 _ ih=>
       rintro ⟨v,r,F1,F2,rfl,_,hv,hr⟩ ht hc
       cases hc with
       | head=>
        refine⟨l,by simp,?_⟩
        cases hb:l with
        | box z es sh=>
         rw[hb]at h1
         have:=hst.box z es sh _ h1
         subst this
         simp[LV.toks]
        | _=>
         have hx:RepL K' N l v:=by rw[hb]at hv ⊢;exact hv.2
         rw[<-hb]
         exact (hf l _ v (ht l (by simp)) h1 hx).2.2
       | tail _ hc=>obtain⟨l,h3,h4⟩:=ih r F2 hr (fun l hl=>ht l (by simp[hl])) hc;exact⟨l,by simp[h3],h4⟩
     obtain⟨l,h3,h4⟩:=this _ _ vs _ hea hr (fun l hl g hg => .inr ⟨_,h1,toksL_mem.2 ⟨l,hl,hg⟩⟩) hc
     exact (h4 g hct).imp id fun hh => .inr ⟨_,h1,toksL_mem.2 ⟨l,h3,hh⟩⟩
    .rw[e1]at ht
     exact .inr (.inr ⟨_,h1,ht⟩)
  rcases this with hh | hh
  .exact .inr hh
  .by_cases e:T g
   .exact .inr e
   .exact .inl ⟨hh,hG g e⟩
 refine⟨⟨hi.sat,?_,?_,?_,?_,?_,?_⟩,?_,h.size,h.new,h.k0,h.fx,h.pin⟩
 .intro p hp
  obtain⟨x,hx,rfl⟩:=List.mem_map.1 hp
  obtain⟨l,h1,h2⟩:=mapEnv_mem he hx
  have hm:(a.tmps.getD x.1 undef,l)∈pairs a s.env:=List.mem_map.2 ⟨_,h1,rfl⟩
  exact (hf l _ _ (fun g hg => .inl ⟨_,hm,hg⟩) h2 (hi.vals _ hm)).1
 .intro x hx
  obtain⟨y,h1,h2⟩:=hobjM x hx
  obtain⟨⟨t1,t2⟩,nd,r⟩:=hi.objs _ h1
  refine⟨?_,nd,r⟩
  rcases mapObj_cases h2 hst with⟨cs,cs',rfl,e2,hea⟩ | ⟨e1,z,es,sh,hole,e2⟩
  .rw[e2]
   rcases t1 with⟨vs,el,G',e3,e4,e5,e6⟩ | ⟨e,_⟩
   case inr=>exact e.elim
   obtain⟨q1,q2⟩:=hea.rep (K':=K') (N':={ N with G:=G }) hst (fun l hl l' v h3 h4=>by
    obtain⟨p1,p2,_⟩:=hf l l' v (fun g hg => .inr ⟨_,h1,toksL_mem.2 ⟨l,hl,hg⟩⟩) h3 h4
    exact⟨p1,p2⟩) (Know.le_refl _) e5
   exact⟨.inl ⟨vs,el,G',e3,e4,q1,by rw[hea.length];exact e6.1,e6.2⟩,q2 t2⟩
  .rw[e1]
   subst e2
   exact ObjAt.named (N:=N) ⟨rfl,rfl,rfl,rfl⟩ ⟨fun _ _=>⟨rfl,rfl,rfl⟩,fun g hg=>by cases hole<;>simp[Obj.cells,LV.toksL,LV.toks]at hg⟩ ⟨t1,t2⟩
 .intro x hx x' hx' b hM hM'
  obtain⟨y,h1,h2⟩:=hobjM x hx
  obtain⟨y',h1',h2'⟩:=hobjM x' hx'
  have:=hi.inj _ h1 _ h1' b hM hM'
  simp only[Prod.mk.injEq]at this
  obtain⟨e1,rfl⟩:=this
  rw[h2]at h2'
  simp only[osi]at h2'
  exact Prod.ext e1 h2'
 .intro g hg
  rcases hocc g hg with⟨h1,h2⟩ | h1
  .show Tip Wr K' w.heap (G g)
   rw[h2];exact hi.toks g h1
  .exact (hT g h1).1
 .intro g g' b h1 h2 s1 s2
  simp only at s1 s2
  rcases hocc g h1 with⟨p1,q1⟩ | t1
  .rcases hocc g' h2 with⟨p2,q2⟩ | t2
   .rw[q1]at s1
    rw[q2]at s2
    exact hi.tinj g g' b p1 p2 s1 s2
   .rw[q1]at s1
    exact absurd s1 (((hT g' t2).2 b s2).1 g p1)
  .rcases hocc g' h2 with⟨p2,q2⟩ | t2
   .rw[q2]at s2
    exact absurd s2 (((hT g t1).2 b s1).1 g' p2)
   .exact hTi g g' t1 t2
 .intro g x hg hx b hs
  obtain⟨y,h1,_⟩:=hobjM x hx
  simp only at hs
  rcases hocc g hg with⟨p1,q1⟩ | t1
  .rw[q1]at hs;exact hi.tobj g _ p1 h1 b hs
  .exact ((hT g t1).2 b hs).2 (x.1,y) h1
 .intro x hx
  obtain⟨l,h1,_⟩:=mapEnv_mem he hx
  exact h.bnd (x.1,l) h1
mutual
theorem frzv_rep {o':Nat}{ps:List PV}(hc:RepRow K ps (N.M o') 0):∀ {l l':LV}{v:Value},l.frzv o' ps=some l'->RepL K N l v->RepL K N l' v/\l'.flat=l.flat/\l'.toks=l.toks
 | .pv _,_,_,h,r=>by simp only[LV.frzv,osi]at h;subst h;exact⟨r,rfl,rfl⟩
 | .nk _ _ _,_,_,h,r=>by simp only[LV.frzv,osi]at h;subst h;exact⟨r,rfl,rfl⟩
 | .nils _,_,_,h,r=>by simp only[LV.frzv,osi]at h;subst h;exact⟨r,rfl,rfl⟩
 | .own _ _ _,_,_,h,r=>by simp only[LV.frzv,osi]at h;subst h;exact⟨r,rfl,rfl⟩
 | .ref o2 k,_,_,h,r=>by
  simp only[LV.frzv]at h
  split at h<;>simp only[osi]at h<;>subst h
  .rename_i e;subst e
   simp only[RepL]at r
   exact⟨⟨_,_,r,by have:=hc.drop k;rwa [Nat.zero_add]at this⟩,rfl,rfl⟩
  .exact⟨r,rfl,rfl⟩
 | .eref _ _ _,_,_,h,r=>by
  simp only[LV.frzv]at h
  split at h<;>simp only[osi,reduceCtorEq]at h
  subst h;exact⟨r,rfl,rfl⟩
 | .arr _ _,_,_,h,r=>by
  simp only[LV.frzv]at h
  split at h<;>simp only[osi,reduceCtorEq]at h
  subst h;exact⟨r,rfl,rfl⟩
 | .agg ls,_,_,h,⟨vs,e,hf,r⟩=>by
  simp only[LV.frzv]at h
  obtain⟨ls',hls,h⟩:=obs h
  simp only[osi]at h
  subst h
  obtain⟨a1,a2,a3⟩:=frzvL_rep hc hls r
  exact⟨⟨vs,e,a2▸hf,a1⟩,rfl,a3⟩
 | .tup ls,_,_,h,⟨vs,e,r⟩=>by
  simp only[LV.frzv]at h
  obtain⟨ls',hls,h⟩:=obs h
  simp only[osi]at h
  subst h
  obtain⟨a1,a2,a3⟩:=frzvL_rep hc hls r
  exact⟨⟨vs,e,a1⟩,rfl,a3⟩
 | .clo _ ls,_,_,h,⟨vs,e,r⟩=>by
  simp only[LV.frzv]at h
  obtain⟨ls',hls,h⟩:=obs h
  simp only[osi]at h
  subst h
  obtain⟨a1,a2,a3⟩:=frzvL_rep hc hls r
  exact⟨⟨vs,e,a1⟩,rfl,a3⟩
 | .box _ _ _,_,_,_,r=>r.elim
 | .dead,_,_,h,r=>by simp only[LV.frzv,osi]at h;subst h;exact⟨r,rfl,rfl⟩
theorem frzvL_rep {o':Nat}{ps:List PV}(hc:RepRow K ps (N.M o') 0):∀ {l l':List LV}{v:List Value},LV.frzvL o' ps l=some l'->RepLs K N l v->RepLs K N l' v/\l'.all LV.flat=l.all LV.flat/\LV.toksL l'=LV.toksL l
 | [],_,_,h,e=>by simp only[LV.frzvL,osi]at h;subst h;exact⟨e,rfl,rfl⟩
 | l::ls,_,_,h,⟨v,r,e,x,y⟩=>by
  simp only[LV.frzvL]at h
  obtain⟨p,hp,h⟩:=obs h
  obtain⟨q,hq,h⟩:=obs h
  simp only[osi]at h
  subst h
  obtain⟨a1,a2,a3⟩:=frzv_rep hc hp x
  obtain⟨b1,b2,b3⟩:=frzvL_rep hc hq y
  exact⟨⟨v,r,e,a1,b1⟩,by simp[a2,b2],by simp[LV.toksL,a3,b3]⟩
end
mutual
theorem frz_rep {o' g sz:Nat}{es:List (List PV)}{N':Names}(hM:N'.M=N.M) (hS:N'.S=N.S) (hA:N'.A=N.A) (hg:N'.G g=(N.A o',sz)) (hG:∀t,t≠g->N'.G t=N.G t)
  (hc:RepP K (.lst sz es) (N.A o')):∀ {l l':LV}{v:Value},l.frz o' g sz es=some l'->RepL K N l v->RepL K N' l' v/\l'.flat=l.flat/\(∀t∈l'.toks,t=g\/t∈l.toks)
 | .pv _,_,_,h,r=>by simp only[LV.frz,osi]at h;subst h;exact⟨r,rfl,by simp[LV.toks]⟩
 | .nk _ _ _,_,_,h,r=>by simp only[LV.frz,osi]at h;subst h;exact⟨r,rfl,by simp[LV.toks]⟩
 | .nils _,_,_,h,r=>by simp only[LV.frz,osi]at h;subst h;exact⟨r,rfl,by simp[LV.toks]⟩
 | .own t _ _,_,_,h,⟨a,b,c⟩=>by
  simp only[LV.frz]at h
  split at h<;>simp only[osi,reduceCtorEq]at h
  rename_i hne
  subst h
  exact⟨⟨by rw[hG t hne];exact a,by rw[hG t hne];exact b,c⟩,rfl,by simp[LV.toks]⟩
 | .ref o2 k,_,_,h,r=>by
  simp only[LV.frz]at h
  split at h<;>simp only[osi,reduceCtorEq]at h
  subst h
  exact⟨by simp only[RepL,hM]at *;exact r,rfl,by simp[LV.toks]⟩
 | .eref _ _ _,_,_,h,r=>by
  simp only[LV.frz]at h
  split at h<;>simp only[osi,reduceCtorEq]at h
  subst h
  exact⟨by simp only[RepL,hM,hS]at *;exact r,rfl,by simp[LV.toks]⟩
 | .arr o2 n,_,_,h,r=>by
  simp only[LV.frz]at h
  split at h
  .rename_i e;subst e
   split at h<;>simp only[osi,reduceCtorEq]at h
   subst h
   refine⟨⟨by rw[hg,r.1],by rw[hg],by rw[r.1];exact hc⟩,rfl,by simp[LV.toks]⟩
  .simp only[osi]at h
   subst h
   exact⟨by simp only[RepL,hA]at *;exact r,rfl,by simp[LV.toks]⟩
 | .agg ls,_,_,h,⟨vs,e,hf,r⟩=>by
  simp only[LV.frz]at h
  obtain⟨ls',hls,h⟩:=obs h
  simp only[osi]at h
  subst h
  obtain⟨a1,a2,a3⟩:=frzL_rep hM hS hA hg hG hc hls r
  exact⟨⟨vs,e,a2▸hf,a1⟩,rfl,by simpa[LV.toks]using a3⟩
 | .tup ls,_,_,h,⟨vs,e,r⟩=>by
  simp only[LV.frz]at h
  obtain⟨ls',hls,h⟩:=obs h
  simp only[osi]at h
  subst h
  obtain⟨a1,a2,a3⟩:=frzL_rep hM hS hA hg hG hc hls r
  exact⟨⟨vs,e,a1⟩,rfl,by simpa[LV.toks]using a3⟩
 | .clo _ ls,_,_,h,⟨vs,e,r⟩=>by
  simp only[LV.frz]at h
  obtain⟨ls',hls,h⟩:=obs h
  simp only[osi]at h
  subst h
  obtain⟨a1,a2,a3⟩:=frzL_rep hM hS hA hg hG hc hls r
  exact⟨⟨vs,e,a1⟩,rfl,by simpa[LV.toks]using a3⟩
 | .box _ _ _,_,_,_,r=>r.elim
 | .dead,_,_,h,r=>by simp only[LV.frz,osi]at h;subst h;exact⟨r,rfl,by simp[LV.toks]⟩
theorem frzL_rep {o' g sz:Nat}{es:List (List PV)}{N':Names}(hM:N'.M=N.M) (hS:N'.S=N.S) (hA:N'.A=N.A) (hg:N'.G g=(N.A o',sz)) (hG:∀t,t≠g->N'.G t=N.G t)
  (hc:RepP K (.lst sz es) (N.A o')):∀ {l l':List LV}{v:List Value},LV.frzL o' g sz es l=some l'->RepLs K N l v->RepLs K N' l' v/\l'.all LV.flat=l.all LV.flat/\(∀t∈LV.toksL l',t=g\/t∈LV.toksL l)
 | [],_,_,h,e=>by simp only[LV.frzL,osi]at h;subst h;exact⟨e,rfl,by simp[LV.toksL]⟩
 | l::ls,_,_,h,⟨v,r,e,x,y⟩=>by
  simp only[LV.frzL]at h
  obtain⟨p,hp,h⟩:=obs h
  obtain⟨q,hq,h⟩:=obs h
  simp only[osi]at h
  subst h
  obtain⟨a1,a2,a3⟩:=frz_rep hM hS hA hg hG hc hp x
  obtain⟨b1,b2,b3⟩:=frzL_rep hM hS hA hg hG hc hq y
  refine⟨⟨v,r,e,a1,b1⟩,by simp[a2,b2],fun t ht=>?_⟩
  simp only[LV.toksL,List.mem_append]at ht ⊢
  rcases ht with ht | ht
  .exact (a3 t ht).imp id .inl
  .exact (b3 t ht).imp id .inr
end
theorem Inv.regroup {Wr:Nat->Prop}{K:Know}{N N':Names}{h:Heap}{ps ps':List (Value×LV)}{os os':List (Nat×Obj)}(hi:Inv Wr K N h ps os) (hG:∀g,Occ ps' os' g->Occ ps os g/\N'.G g=N.G g) (hv:∀p∈ps',RepL K N' p.2 p.1)
  (ho:∀y∈os',ObjAt K N' h y.1 y.2/\(N'.F y.1).Nodup/\∀b∈N'.F y.1,∃x∈os,b∈N.F x.1) (hinj:∀x∈os',∀y∈os',∀b,b∈N'.F x.1->b∈N'.F y.1->x=y):Inv Wr K N' h ps' os':=by
 refine⟨hi.sat,hv,fun y hy=>?_,hinj,fun g hg=>?_,fun g g' b h1 h2 s1 s2=>?_,fun g y hg hy b hs hb=>?_⟩
 .obtain⟨t,nd,r⟩:=ho y hy
  refine⟨t,nd,fun b hb=>?_⟩
  obtain⟨x,hx,hbx⟩:=r b hb
  exact (hi.objs x hx).2.2 b hbx
 .rw[(hG g hg).2];exact hi.toks g (hG g hg).1
 .rw[(hG g h1).2]at s1
  rw[(hG g' h2).2]at s2
  exact hi.tinj g g' b (hG g h1).1 (hG g' h2).1 s1 s2
 .rw[(hG g hg).2]at hs
  obtain⟨x,hx,hbx⟩:=(ho y hy).2.2 b hb
  exact hi.tobj g x (hG g hg).1 hx b hs hbx
theorem Inv.recell {Wr:Nat->Prop}{K:Know}{N:Names}{h:Heap}{ps:List (Value×LV)}{os:List (Nat×Obj)}(hi:Inv Wr K N h ps os){o:Nat}{cs cs':List LV}(hm:(o,Obj.var cs)∈os)
  (hr:∀vs F,RepCs K N h cs vs F->RepCs K N h cs' vs F) (hl:cs'.length=cs.length) (hf:cs'.all LV.flat=true) (ht:∀g∈LV.toksL cs',Occ ps os g):Inv Wr K N h ps (aset os o (.var cs')):=by
 have ho:∀g,Occ ps (aset os o (.var cs')) g->Occ ps os g:=by
  rintro g (hx | ⟨x,hx,hg⟩)
  .exact .inl hx
  .rcases aset_mem hx with rfl | ⟨hx,_⟩
   .exact ht g hg
   .exact .inr ⟨x,hx,hg⟩
 obtain⟨⟨t1,_⟩,nd,_⟩:=hi.objs _ hm
 rcases t1 with⟨vs,el,G,e1,e2,e3,e4,e5⟩ | ⟨e,_⟩
 case inr=>exact e.elim
 refine hi.regroup (fun g hg=>⟨ho g hg,rfl⟩) hi.vals (fun y hy=>?_) fun x hx y hy b h1 h2=>?_
 .rcases aset_mem hy with rfl | ⟨hy,_⟩
  .exact⟨⟨.inl ⟨vs,el,G,e1,e2,hr vs G e3,by rw[hl];exact e4,e5⟩,hf⟩,nd,fun b hb=>⟨_,hm,hb⟩⟩
  .obtain⟨t,nd,r⟩:=hi.objs y hy
   exact⟨t,nd,fun b hb=>⟨_,hy,hb⟩⟩
 .rcases aset_mem hx with rfl | ⟨hx,hnx⟩
  .rcases aset_mem hy with rfl | ⟨hy,hny⟩
   .rfl
   .have:=hi.inj _ hm _ hy b h1 h2
    exact absurd (by rw[<-this]) hny
  .rcases aset_mem hy with rfl | ⟨hy,hny⟩
   .have:=hi.inj _ hx _ hm b h1 h2
    exact absurd (by rw[this]) hnx
   .exact hi.inj x hx y hy b h1 h2
theorem Inv.sub' {Wr:Nat->Prop}{K:Know}{N:Names}{h:Heap}{ps ps':List (Value×LV)}{os:List (Nat×Obj)}(hi:Inv Wr K N h ps os) (hp:∀p∈ps',p∈ps):Inv Wr K N h ps' os:=hi.sub hp fun _ h=>h
theorem RepC.same {K:Know}{N N':Names}{hp:Heap}(hG:N'.G=N.G) (l:LV) (v:Value) (F:List Nat) (h:RepC K N hp l v F) (hn:∀o∈l.names,N'.at o=N.at o):RepC K N' hp l v F:=
 h.named ⟨fun o ho=>Names.same_at (hn o ho),fun g _=>by rw[hG]⟩
theorem RepCs.same {K:Know}{N N':Names}{hp:Heap}(hG:N'.G=N.G):∀ {cs:List LV}{vs:List Value}{F:List Nat},RepCs K N hp cs vs F->(∀l∈cs,∀o∈l.names,N'.at o=N.at o)->RepCs K N' hp cs vs F
 | [],_,_,h,_=>h
 | l::cs,_,_,⟨v,r,F1,F2,e1,e2,a,b⟩,hn=>⟨v,r,F1,F2,e1,e2,RepC.same hG _ _ _ a (hn l (by simp)),RepCs.same hG b fun l hl=>hn l (by simp[hl])⟩
theorem RepCs.swap {K:Know}{N:Names}{hp:Heap}:∀ {cs:List LV}{i:Nat}{c:LV}{vs:List Value}{F:List Nat},cs[i]?=some c->RepCs K N hp cs vs F ->
  ∃v A Fc B,F=A++Fc++B/\RepC K N hp c v Fc/\∀N':Names,N'.G=N.G->(∀l∈cs,∀o∈l.names,N'.at o=N.at o)->∀c' Fc',RepC K N' hp c' v Fc'->RepCs K N' hp (cs.set i c') vs (A++Fc'++B)
 | [],_,_,_,_,h,_=>by simp at h
 | l::cs,0,c,vs,F,h,⟨v,r,F1,F2,e1,e2,a,b⟩=>by
  simp only[List.getElem?_cons_zero,osi]at h
  subst h
  exact⟨v,[],F1,F2,by simp[e2],a,fun N' hG hn c' Fc' hc=>⟨v,r,Fc',F2,e1,by simp,hc,RepCs.same hG b fun l hl=>hn l (by simp[hl])⟩⟩
 | l::cs,i+1,c,vs,F,h,⟨v,r,F1,F2,e1,e2,a,b⟩=>by
  obtain⟨v',A,Fc,B,q1,q2,q3⟩:=RepCs.swap (by simpa using h) b
  exact⟨v',F1++A,Fc,B,by rw[e2,q1];simp,q2,fun N' hG hn c' Fc' hc=>⟨v,r,F1,A++Fc'++B,e1,by simp,RepC.same hG _ _ _ a (hn l (by simp)),q3 N' hG (fun l hl=>hn l (by simp[hl])) c' Fc' hc⟩⟩
theorem mem_ains {α:Type}{l:List (Nat×α)}{n:Nat}{x:α}{y:Nat×α}(h:y=(n,x)\/y∈l):y∈ains l n x:=by
 induction l with
 | nil=>simpa[ains]using h
 | cons z l ih=>
  obtain⟨k,v⟩:=z
  unfold ains
  split
  .simpa using h
  .rcases h with h | h
   .exact lmc _ (ih (.inl h))
   .rcases lm1 h with rfl | h
    .simp
    .exact lmc _ (ih (.inr h))
theorem mem_adel {α:Type}{l:List (Nat×α)}{n:Nat}{y:Nat×α}(h:y∈l) (hn:y.1≠n):y∈adel l n:=by
 induction l with
 | nil=>cases h
 | cons z l ih=>
  obtain⟨k,v⟩:=z
  unfold adel
  rcases lm1 h with rfl | h
  .rw[if_neg fun e=>hn e.symm];simp
  .split
   .exact ih h
   .exact lmc _ (ih h)
theorem mem_aset {α:Type}{l:List (Nat×α)}{n:Nat}{x:α}:(n,x)∈aset l n x:=mem_ains (.inl rfl)
theorem mem_aset_of {α:Type}{l:List (Nat×α)}{n:Nat}{x:α}{y:Nat×α}(hn:y.1≠n) (h:y∈l):y∈aset l n x:=mem_ains (.inr (mem_adel h hn))
theorem RepUs.swap {K:Know}{hp:Heap}:∀ {e:List PV}{sh:List Shp}{off:Nat}{c:PV}{vs:List Value}{F:List Nat},e[off]?=some c->RepUs K hp e sh vs F->∃v A Fc B,F=A++Fc++B/\RepU K hp c (shpAt sh off) v Fc/\∀c' Fc',RepU K hp c' (shpAt sh off) v Fc'->RepUs K hp (e.set off c') sh vs (A++Fc'++B)
 | [],_,_,_,_,_,h,_=>by simp at h
 | p::e,sh,0,c,vs,F,h,⟨v,r,F1,F2,e1,e2,a,b⟩=>by
  simp only[List.getElem?_cons_zero,osi]at h
  subst h
  exact⟨v,[],F1,F2,by simp[e2],a,fun c' Fc' hc=>⟨v,r,Fc',F2,e1,by simp,hc,b⟩⟩
 | p::e,sh,off+1,c,vs,F,h,⟨v,r,F1,F2,e1,e2,a,b⟩=>by
  obtain⟨v',A,Fc,B,q1,q2,q3⟩:=RepUs.swap (by simpa using h) b
  rw[shpAt_tail]at q2 q3
  exact⟨v',F1++A,Fc,B,by rw[e2,q1];simp,q2,fun c' Fc' hc=>⟨v,r,F1,A++Fc'++B,e1,by simp,a,q3 c' Fc' hc⟩⟩
theorem RepUR.swap {K:Know}{hp:Heap}{sz:Nat}{sh:List Shp}:∀ {es:List (List PV)}{i off:Nat}{e:List PV}{c:PV}{vs:List Value}{F:List Nat},es[i]?=some e->e[off]?=some c->RepUR K hp sz sh es vs F ->
  ∃v A Fc B,F=A++Fc++B/\RepU K hp c (shpAt (ush sh) off) v Fc/\∀c' Fc',RepU K hp c' (shpAt (ush sh) off) v Fc'->RepUR K hp sz sh (es.set i (e.set off c')) vs (A++Fc'++B)
 | [],_,_,_,_,_,_,h,_,_=>by simp at h
 | x::es,0,off,e,c,vs,F,h,hc,⟨e1,F1,F2,e2,a,b⟩=>by
  simp only[List.getElem?_cons_zero,osi]at h
  subst h
  obtain⟨v,A,Fc,B,q1,q2,q3⟩:=a.swap hc
  exact⟨v,A,Fc,B++F2,by rw[e2,q1];simp,q2,fun c' Fc' hc'=>⟨by simpa using e1,A++Fc'++B,F2,by simp,q3 c' Fc' hc',b⟩⟩
 | x::es,i+1,off,e,c,vs,F,h,hc,⟨e1,F1,F2,e2,a,b⟩=>by
  obtain⟨v,A,Fc,B,q1,q2,q3⟩:=RepUR.swap (by simpa using h) hc b
  exact⟨v,F1++A,Fc,B,by rw[e2,q1];simp,q2,fun c' Fc' hc'=>⟨e1,F1,A++Fc'++B,by simp,a,q3 c' Fc' hc'⟩⟩
theorem RepU.obj {K:Know}{hp:Heap}{o z:Nat}{ys:List (List PV)}{sh:List Shp}{v:Value}{Fc:List Nat}(h:RepU K hp (.lst z ys) (.u sh) v Fc):∃b,(∃a cap,v = .slice a ys.length cap) /\
  ∀N:Names,N.M o=b->N.S o=z->N.A o=v->N.F o=Fc->ObjAt K N hp o (.rows z ys sh none):=by
 rcases h with⟨e1,e2,e3⟩ | ⟨b,cap,cs,el,G,e1,e2,e3,e4,e5,e6⟩
 .exact⟨0,⟨none,0,by rw[e3,e1];rfl⟩,fun N _ hS hA hF=>⟨.inr ⟨⟨e1,by rw[hA];exact e3⟩,by rw[hF];exact e2⟩,hS,trivial⟩⟩
 .exact⟨b,⟨_,cap,e1⟩,fun N hM hS hA hF=>⟨.inl ⟨cs,el,G,by rw[hM];exact e3,by rw[hF,hM];exact e5,e6,cap,by rw[hA,hM];exact e1,e2,e4⟩,hS,trivial⟩⟩
theorem ObjAt.own {K:Know}{N:Names}{hp:Heap}{o z:Nat}{ys:List (List PV)}{sh:List Shp}(h:ObjAt K N hp o (.rows z ys sh none)):RepU K hp (.lst z ys) (.u sh) (N.A o) (N.F o):=by
 obtain⟨t1,_⟩:=h
 rcases t1 with⟨vs,el,G,e1,e2,e3,cap,e4,e5,e6⟩ | ⟨⟨e1,e2⟩,e3⟩
 .exact .inr ⟨_,cap,vs,el,G,e4,e5,e1,e6,e2,e3⟩
 .exact .inl ⟨e1,e3,e2⟩
theorem RepCs.setOwn {K:Know}{N:Names}{hp:Heap}{g sz:Nat}(hg:N.G g=(.slice none 0 0,sz)){cs:List LV}{i:Nat}{vs:List Value}{F:List Nat}(h:cs[i]?=some (.nils sz)) (hr:RepCs K N hp cs vs F):RepCs K N hp (cs.set i (.own g sz [])) vs F:=by
 obtain⟨v,A,Fc,B,q1,q2,q3⟩:=RepCs.swap h hr
 obtain⟨q2,q4⟩:=q2
 simp only[RepL]at q4
 subst q2
 rw[q1]
 exact q3 N rfl (fun _ _ _ _=>rfl) _ [] (RepC.of ⟨by rw[hg,q4],by rw[hg],⟨none,0,0,q4,rfl,Nat.le_refl _,.inl rfl⟩⟩)
theorem toks_set {c':LV}:∀ {cs:List LV}{i:Nat}{t:Nat},t∈LV.toksL (cs.set i c')->t∈c'.toks\/t∈LV.toksL cs
 | [],_,_,h=>by simp[LV.toksL]at h
 | c::cs,0,t,h=>by
  simp only[List.set_cons_zero,LV.toksL,List.mem_append]at h ⊢
  exact h.imp id .inr
 | c::cs,i+1,t,h=>by
  simp only[List.set_cons_succ,LV.toksL,List.mem_append]at h ⊢
  rcases h with h | h
  .exact .inr (.inl h)
  .exact (toks_set h).imp id .inr
theorem flat_set {c':LV}(hc:c'.flat=true):∀ {cs:List LV}{i:Nat},cs.all LV.flat=true->(cs.set i c').all LV.flat=true
 | [],_,h=>h
 | c::cs,0,h=>by simp only[List.set_cons_zero,List.all_cons,bat]at h ⊢;exact⟨hc,h.2⟩
 | c::cs,i+1,h=>by simp only[List.set_cons_succ,List.all_cons,bat]at h ⊢;exact⟨h.1,flat_set hc h.2⟩
def Know.opn (K:Know) (h:Heap) (F:List Nat) (b0 n:Nat):Know:=fun b k=>if b∈F/\(b=b0->k<n) then hcell h b k else K b k
theorem Know.opn_le {K:Know}{h:Heap}{F:List Nat}{b0 n:Nat}(hK:∀b∈F,∀k,K b k=none):K.le (K.opn h F b0 n):=fun b k v hk=>by
 unfold Know.opn
 by_cases hb:b∈F
 .rw[hK b hb]at hk;cases hk
 .simp[hb,hk]
theorem Know.opn_not {K:Know}{h:Heap}{F:List Nat}{b0 n b k:Nat}(hb:b∉F):K.opn h F b0 n b k=K b k:=by simp[Know.opn,hb]
theorem Know.opn_in {K:Know}{h:Heap}{F:List Nat}{b0 n b k:Nat}(hb:b∈F) (hk:b=b0->k<n):K.opn h F b0 n b k=hcell h b k:=by unfold Know.opn;rw[if_pos ⟨hb,hk⟩]
theorem KExt.opn {Wr:Nat->Prop}{K:Know}{h:Heap}{F:List Nat}{b0 n:Nat}(hK:∀b∈F,Wr b/\∀k,K b k=none):KExt Wr K (K.opn h F b0 n):=
 ⟨Know.opn_le fun b hb=>(hK b hb).2,fun b hb k=>Know.opn_not fun hf=>hb (hK b hf).1⟩
theorem RepCs.row {K K':Know}{N:Names}{h:Heap}(hk:K.le K'):∀ {cs:List LV}{ps:List PV}{vs:List Value}{F:List Nat}{b o:Nat},toPVs cs=some ps->RepCs K N h cs vs F->(∀i u,vs[i]?=some u->K' b (o+i)=some u)->RepRow K' ps b o
 | [],_,_,_,_,_,hp,_,_=>by simp only[toPVs,osi]at hp;subst hp;trivial
 | c::cs,_,_,_,b',o,hp,⟨v,r,F1,F2,e1,e2,a,b⟩,hv=>by
  simp only[toPVs]at hp
  obtain⟨p,h1,hp⟩:=obs hp
  obtain⟨q,h2,hp⟩:=obs hp
  simp only[osi]at hp
  subst hp
  have ha:RepL K N c v:=by
   cases c with
   | box _ _ _=>cases h1
   | _=>exact a.2
  have hp1:=toPVs_rep (ls:=[c]) (ps:=[p]) (vs:=[v]) (by simp[toPVs,h1]) ⟨v,[],rfl,ha,rfl⟩
  obtain⟨v',r',e3,hp1,_⟩:=hp1
  simp only[List.cons.injEq]at e3
  refine⟨⟨v,by simpa using hv 0 v (by rw[e1];rfl),RepP.mono hk (e3.1▸hp1)⟩,RepCs.row hk h2 b fun i u hu=>?_⟩
  have:=hv (i+1) u (by rw[e1];simpa using hu)
  rwa [show o+1+i=o+(i+1) by omega]
theorem RepCs.ren {K:Know}{N N':Names}{hp:Heap}(f:Nat->Nat) (hG:N'.G=N.G):∀ {l:List LV}{v:List Value}{F:List Nat},(∀o∈LV.namesL l,N'.at (f o)=N.at o)->RepCs K N hp l v F->RepCs K N' hp (LV.renL f l) v F
 | [],_,_,_,e=>e
 | l::ls,_,_,hn,⟨v,r,F1,F2,e1,e2,a,b⟩=>by
  refine⟨v,r,F1,F2,e1,e2,?_,RepCs.ren f hG (fun o ho=>hn o (by simp[LV.namesL,ho])) b⟩
  cases hb:l with
  | box z es sh=>rw[hb]at a;exact RepC.named (N:=N) ⟨by simp[LV.ren,LV.names],by simp[LV.ren,LV.toks]⟩ a
  | _=>
   have ha:F1=[]/\RepL K N l v:=by rw[hb]at a ⊢;exact a
   rw[<-hb,ha.1]
   exact RepC.of (RepL.ren f (fun o ho=>hn o (by simp[LV.namesL,ho])) (fun _ _=>by rw[hG]) ha.2)
theorem renL_length {f:Nat->Nat}:∀ {l:List LV},(LV.renL f l).length=l.length
 | []=>rfl
 | _::l=>by simp[LV.renL,renL_length (l:=l)]
theorem ObjAt.ren {K:Know}{N N':Names}{hp:Heap}{o o':Nat}{x:Obj}(f:Nat->Nat) (hG:N'.G=N.G) (hM:N'.M o'=N.M o/\N'.S o'=N.S o/\N'.A o'=N.A o/\N'.F o'=N.F o) (ht:o'/1024=o/1024)
  (hn:∀y∈LV.namesL x.cells,N'.at (f y)=N.at y) (t:ObjAt K N hp o x):ObjAt K N' hp o' (renObj f x):=by
 obtain⟨m1,m2,m3,m4⟩:=hM
 obtain⟨t1,t2⟩:=t
 cases x with
 | var cs=>
  rcases t1 with⟨vs,el,G,e1,e2,e3,e4,e5⟩ | ⟨e,_⟩
  case inr=>exact e.elim
  exact⟨.inl ⟨vs,el,G,by rw[m1];exact e1,by rw[m4,m1];exact e2,e3.ren f hG hn,by rw[renL_length];exact e4,by rw[ht];exact fun k1=>e5 (by omega)⟩,by show (LV.renL f cs).all LV.flat=true;rw[LV.flat_renL];exact t2⟩
 | rows sz es sh hole=>
  have hpl:plug N' (hole.map fun x=>(x.1,x.2.1,f x.2.2.1,x.2.2.2)) es=plug N hole es:=by
   cases hole with
   | none=>rfl
   | some x=>
    obtain⟨i,off,y,n⟩:=x
    have:=(Names.same_at (hn y (by simp[Obj.cells,LV.namesL,LV.names]))).2.2
    simp only[Option.map_some,plug,this]
  have hho:holeOk N' sh es (hole.map fun x=>(x.1,x.2.1,f x.2.2.1,x.2.2.2)):=by
   cases hole with
   | none=>trivial
   | some x=>
    obtain⟨i,off,y,n⟩:=x
    have:=(Names.same_at (hn y (by simp[Obj.cells,LV.namesL,LV.names]))).2.2
    obtain⟨h1,h2,h3⟩:=t2.2
    exact⟨h1,h2,by rw[this];exact h3⟩
  have:renObj f (.rows sz es sh hole) = .rows sz es sh (hole.map fun x=>(x.1,x.2.1,f x.2.2.1,x.2.2.2)):=by cases hole<;>rfl
  rw[this]
  refine⟨t1.imp (fun⟨vs,el,G,e1,e2,e3,cap,c1,c2⟩=>⟨vs,el,G,by rw[m1];exact e1,by rw[m4,m1];exact e2,by rw[hpl];exact e3,cap,by rw[m3,m1];exact c1,c2⟩)
   (fun⟨e1,e2⟩=>⟨⟨e1.1,by rw[m3];exact e1.2⟩,by rw[m4];exact e2⟩),by rw[m2];exact t2.1,hho⟩
theorem Rel.lend (h:Rel nt F Wr K N a w s) {o o' b z:Nat}{v:Value}{Fo Fc:List Nat}{x x' y:Go.Proofs.YtpgmljkhleidjaaGreatDoor.LM.Obj}(hm:(o,x)∈s.objs) (hn:noName s o'=true)
  (hF:∀c,(c∈Fo\/c∈Fc)->c∈N.F o) (hd:(Fo++Fc).Nodup) (ho:ObjAt K ((N.setF o Fo).setO o' b z v Fc) w.heap o x') (hy:ObjAt K ((N.setF o Fo).setO o' b z v Fc) w.heap o' y)
  (ht:∀g∈LV.toksL x'.cells,Occ (pairs a s.env) s.objs g) (hty:LV.toksL y.cells=[]):
  ∃K' N',KExt Wr K K'/\Rel nt F Wr K' N' a w { s with objs:=aset (aset s.objs o x') o' y }:=by
 obtain⟨n1,n2,n3,n4⟩:=noName_spec hn
 have hne:o≠o':=n3 _ hm
 have hFo:((N.setF o Fo).setO o' b z v Fc).F o=Fo:=by simp[Names.setO,Names.setF,hne]
 have hFc:((N.setF o Fo).setO o' b z v Fc).F o'=Fc:=by simp[Names.setO]
 have hFr:∀q,q≠o->q≠o'->((N.setF o Fo).setO o' b z v Fc).F q=N.F q:=fun q h1 h2=>by simp[Names.setO,Names.setF,h1,h2]
 have hmem:∀q∈aset (aset s.objs o x') o' y,q=(o',y)\/q=(o,x')\/(q∈s.objs/\q.1≠o/\q.1≠o'):=fun q hq=>by
  rcases aset_mem hq with rfl | ⟨hq,h2⟩
  .exact .inl rfl
  .rcases aset_mem hq with rfl | ⟨hq,h3⟩
   .exact .inr (.inl rfl)
   .exact .inr (.inr ⟨hq,h3,h2⟩)
 have hdj:∀c∈Fo,c∉Fc:=fun c h1 h2=>(List.nodup_append.1 hd).2.2 c h1 c h2 rfl
 have hsep:∀q∈s.objs,q.1≠o->∀c∈N.F q.1,c∉N.F o:=fun q hq h1 c h2 h3=>h1 (congrArg Prod.fst (h.inv.inj q hq _ hm c h2 h3))
 refine⟨K,(N.setF o Fo).setO o' b z v Fc,KExt.refl,⟨h.inv.regroup (fun g hg=>⟨?_,rfl⟩) (fun p hp=>?_) (fun q hq=>?_) fun q hq q' hq' c h1 h2=>?_,h.bnd,h.size,h.new,h.k0,h.fx,fun q hq=>?_⟩⟩
 .rcases hg with hg | ⟨q,hq,hg⟩
  .exact .inl hg
  .rcases hmem q hq with rfl | rfl | ⟨hq,_⟩
   .rw[hty]at hg;cases hg
   .exact ht g hg
   .exact .inr ⟨q,hq,hg⟩
 .have hr:=h.inv.vals p hp
  obtain⟨q,hq,rfl⟩:=List.mem_map.1 hp
  exact RepL.named (N:=N) ⟨fun k hk=>by
   have:k≠o':=fun e=>n1 q hq (e▸hk)
   simp[Names.setO,Names.setF,this],fun _ _=>rfl⟩ hr
 .rcases hmem q hq with rfl | rfl | ⟨hq,h1,h2⟩
  .exact⟨hy,by rw[hFc];exact (List.nodup_append.1 hd).2.1,fun c hc=>⟨_,hm,hF c (.inr (by rwa [hFc]at hc))⟩⟩
  .exact⟨ho,by rw[hFo];exact (List.nodup_append.1 hd).1,fun c hc=>⟨_,hm,hF c (.inl (by rwa [hFo]at hc))⟩⟩
  .obtain⟨t,nd,_⟩:=h.inv.objs q hq
   refine⟨t.named ⟨by simp[Names.setO,Names.setF,h2],by simp[Names.setO,Names.setF,h2],by simp[Names.setO,Names.setF,h2],hFr _ h1 h2⟩ ⟨fun k hk=>by
    have:k≠o':=fun e=>n2 q hq (e▸hk)
    simp[Names.setO,Names.setF,this],fun _ _=>rfl⟩,by rw[hFr _ h1 h2];exact nd,fun c hc=>⟨q,hq,by rwa [hFr _ h1 h2]at hc⟩⟩
 .rcases hmem q hq with rfl | rfl | ⟨hq,e1,e2⟩
  .rw[hFc]at h1
   rcases hmem q' hq' with rfl | rfl | ⟨hq',e1',e2'⟩
   .rfl
   .rw[hFo]at h2;exact absurd h1 (hdj c h2)
   .rw[hFr _ e1' e2']at h2;exact absurd (hF c (.inr h1)) (hsep q' hq' e1' c h2)
  .rw[hFo]at h1
   rcases hmem q' hq' with rfl | rfl | ⟨hq',e1',e2'⟩
   .rw[hFc]at h2;exact absurd h2 (hdj c h1)
   .rfl
   .rw[hFr _ e1' e2']at h2;exact absurd (hF c (.inl h1)) (hsep q' hq' e1' c h2)
  .rw[hFr _ e1 e2]at h1
   rcases hmem q' hq' with rfl | rfl | ⟨hq',e1',e2'⟩
   .rw[hFc]at h2;exact absurd (hF c (.inr h2)) (hsep q hq e1 c h1)
   .rw[hFo]at h2;exact absurd (hF c (.inl h2)) (hsep q hq e1 c h1)
   .rw[hFr _ e1' e2']at h2;exact h.inv.inj q hq q' hq' c h1 h2
 .have:q≠o':=fun e=>n4 (by rw[h.fx];exact e▸hq)
  have hp:=h.pin q hq
  rw[<-hp]
  simp[Names.at,Names.setO,Names.setF,this]
theorem Rel.back (h:Rel nt F Wr K N a w s) {o o':Nat}{Fo:List Nat}{x x' y:Go.Proofs.YtpgmljkhleidjaaGreatDoor.LM.Obj}(hm:(o,x)∈s.objs) (hm':(o',y)∈s.objs) (hF:∀c∈Fo,c∈N.F o\/c∈N.F o') (hd:Fo.Nodup)
  (ho:ObjAt K (N.setF o Fo) w.heap o x') (ht:∀g∈LV.toksL x'.cells,Occ (pairs a s.env) s.objs g):
  ∃K' N',KExt Wr K K'/\Rel nt F Wr K' N' a w { s with objs:=aset (adel s.objs o') o x' }:=by
 have hFo:(N.setF o Fo).F o=Fo:=by simp[Names.setF]
 have hFr:∀q,q≠o->(N.setF o Fo).F q=N.F q:=fun q h1=>by simp[Names.setF,h1]
 have hmem:∀q∈aset (adel s.objs o') o x',q=(o,x')\/(q∈s.objs/\q.1≠o/\q.1≠o'):=fun q hq=>by
  rcases aset_mem hq with rfl | ⟨hq,h2⟩
  .exact .inl rfl
  .obtain⟨h3,h4⟩:=adel_mem hq
   exact .inr ⟨h3,h2,h4⟩
 have hsep:∀q∈s.objs,q.1≠o->q.1≠o'->∀c∈N.F q.1,c∉Fo:=fun q hq h1 h1' c h2 h3=>by
  rcases hF c h3 with h3 | h3
  .exact h1 (congrArg Prod.fst (h.inv.inj q hq _ hm c h2 h3))
  .exact h1' (congrArg Prod.fst (h.inv.inj q hq _ hm' c h2 h3))
 refine⟨K,N.setF o Fo,KExt.refl,⟨h.inv.regroup (fun g hg=>⟨?_,rfl⟩) (fun p hp=>(h.inv.vals p hp).named (N:=N) ⟨fun k hk=>⟨rfl,rfl,rfl⟩,fun _ _=>rfl⟩) (fun q hq=>?_) fun q hq q' hq' c h1 h2=>?_,h.bnd,h.size,h.new,h.k0,h.fx,h.pin⟩⟩
 .rcases hg with hg | ⟨q,hq,hg⟩
  .exact .inl hg
  .rcases hmem q hq with rfl | ⟨hq,_⟩
   .exact ht g hg
   .exact .inr ⟨q,hq,hg⟩
 .rcases hmem q hq with rfl | ⟨hq,h1,h2⟩
  .refine⟨ho,by rw[hFo];exact hd,fun c hc=>?_⟩
   rw[hFo]at hc
   rcases hF c hc with hc | hc
   .exact⟨_,hm,hc⟩
   .exact⟨_,hm',hc⟩
  .obtain⟨t,nd,_⟩:=h.inv.objs q hq
   exact⟨t.named (N:=N) ⟨rfl,rfl,rfl,hFr _ h1⟩ ⟨fun k hk=>⟨rfl,rfl,rfl⟩,fun _ _=>rfl⟩,by rw[hFr _ h1];exact nd,fun c hc=>⟨q,hq,by rwa [hFr _ h1]at hc⟩⟩
 .rcases hmem q hq with rfl | ⟨hq,e1,e2⟩
  .rw[hFo]at h1
   rcases hmem q' hq' with rfl | ⟨hq',e1',e2'⟩
   .rfl
   .rw[hFr _ e1']at h2;exact absurd h1 (hsep q' hq' e1' e2' c h2)
  .rw[hFr _ e1]at h1
   rcases hmem q' hq' with rfl | ⟨hq',e1',e2'⟩
   .rw[hFo]at h2;exact absurd h2 (hsep q hq e1 e2 c h1)
   .rw[hFr _ e1']at h2;exact h.inv.inj q hq q' hq' c h1 h2
theorem noTok_occ {g:Nat}(hn:noTok s g=true):¬Occ (pairs a s.env) s.objs g:=by
 simp only[noTok,bat,List.all_eq_true]at hn
 rintro (⟨p,hp,hg⟩ | ⟨x,hx,hg⟩)
 .obtain⟨y,hy,rfl⟩:=List.mem_map.1 hp
  have:=hn.1 y hy
  simp[hg]at this
 .have:=hn.2 x hx
  simp[hg]at this
theorem Rel.opn (h:Rel nt F Wr K N a w s) {o' b0 n:Nat}{x:Go.Proofs.YtpgmljkhleidjaaGreatDoor.LM.Obj}(hm:(o',x)∈s.objs):KExt Wr K (K.opn w.heap (N.F o') b0 n)/\Rel nt F Wr K N a w { s with objs:=adel s.objs o' } /\
  Inv Wr (K.opn w.heap (N.F o') b0 n) N w.heap (pairs a s.env) (adel s.objs o'):=by
 have hsub:=h.sub (s':={ s with objs:=adel s.objs o' }) (fun _ h=>h) (fun y hy=>(adel_mem hy).1)
 have hx:=KExt.opn (Wr:=Wr) (K:=K) (h:=w.heap) (b0:=b0) (n:=n) (h.inv.objs _ hm).2.2
 refine⟨hx,hsub,hsub.inv.more hx.le (fun b o v hk=>?_) (fun y hy b hb k=>?_) fun g hg b hs k=>Know.opn_not (h.inv.tobj g _ (hg.sub (fun _ h=>h) fun y hy=>(adel_mem hy).1) hm b hs)⟩
 .unfold Know.opn at hk
  split at hk
  .exact hk
  .exact h.inv.sat b o v hk
 .obtain⟨h1,h2⟩:=adel_mem hy
  rw[Know.opn_not fun hf=>h2 (congrArg Prod.fst (h.inv.inj y h1 _ hm b hb hf))]
  exact (h.inv.objs y h1).2.2 b hb |>.2 k
theorem ghost_ok {g:Ghost}{s':LSt}(he:evGhost s g=some s') (h:Rel nt F Wr K N a w s):∃K' N',KExt Wr K K'/\Rel nt F Wr K' N' a w s':=by
 cases g with
 | kill ts=>simp only[evGhost,osi]at he;subst he;exact⟨K,N,KExt.refl,h.sub (fun x hx=>killEnv_mem hx) fun _ h=>h⟩
 | keep ts=>simp only[evGhost,osi]at he;subst he;exact⟨K,N,KExt.refl,h.sub (fun x hx=>(List.mem_filter.1 hx).1) fun _ h=>h⟩
 | drop o'=>simp only[evGhost,osi]at he;subst he;exact⟨K,N,KExt.refl,h.sub (fun _ h=>h) fun x hx=>(adel_mem hx).1⟩
 | gc=>simp only[evGhost,osi]at he;subst he;exact⟨K,N,KExt.refl,h.sub (fun _ h=>h) fun x hx=>(List.mem_filter.1 hx).1⟩
 | dem gs=>
  simp only[evGhost,osi]at he
  subst he
  refine⟨K,N,KExt.refl,⟨?_,?_,h.size,h.new,h.k0,h.fx,h.pin⟩⟩
  .have:=(h.inv.dem gs).1
   simp only[demObjs_eq,demEnv_eq]
   simpa[pairs,List.map_map,Function.comp_def]using this
  .intro x hx
   simp only[demEnv_eq]at hx
   obtain⟨y,hy,rfl⟩:=List.mem_map.1 hx
   exact h.bnd y hy
 | castc o' i g=>
  simp only[evGhost]at he
  obtain⟨ob,hob,he⟩:=obs he
  cases ob with
  | rows _ _ _ _=>cases he
  | var cs=>
   simp only at he
   split at he
   case h_2=>simp only[osi]at he;subst he;exact⟨K,N,KExt.refl,h⟩
   rename_i sz hci
   split at he<;>simp only[osi,reduceCtorEq]at he
   rename_i hn
   subst he
   have hm:=aget_mem hob
   have j:=h.inv.addTok (g:=g) (sz:=sz) (v := .slice none 0 0) (es:=[]) (noTok_occ hn) (.inl rfl) (by intro b hb;simp[spare]at hb) ⟨_,_,_,rfl,rfl,Nat.le_refl _,.inl rfl⟩
   have j2:=j.recell (cs':=cs.set i (.own g sz [])) hm (fun vs F hr=>RepCs.setOwn (by simp[Names.setG]) hci hr) (by simp) (flat_set rfl (h.inv.objs _ hm).1.2) (fun t ht=>by
    rcases toks_set ht with ht | ht
    .simp only[LV.toks,List.mem_singleton]at ht
     subst ht
     exact .inl ⟨_,List.mem_cons_self ..,by simp[LV.toks]⟩
    .exact .inr ⟨_,hm,ht⟩)
   exact⟨K,N.setG g (.slice none 0 0,sz),KExt.refl,⟨j2.sub' (fun p hp=>lmc _ hp),h.bnd,h.size,h.new,h.k0,h.fx,h.pin⟩⟩
 | cast t g=>
  simp only[evGhost]at he
  obtain⟨l,hl,he⟩:=obs he
  cases l with
  | nils sz=>
   simp only at he
   split at he<;>simp only[osi,reduceCtorEq]at he
   rename_i hn
   subst he
   have hm:=aget_mem hl
   have hv:=h.inv.vals (a.tmps.getD t undef,.nils sz) (List.mem_map.2 ⟨_,hm,rfl⟩)
   simp only[RepL]at hv
   have j:=h.inv.addTok (g:=g) (sz:=sz) (v := .slice none 0 0) (es:=[]) (noTok_occ hn) (.inl rfl) (by intro b hb;simp[spare]at hb) ⟨_,_,_,rfl,rfl,Nat.le_refl _,.inl rfl⟩
   refine⟨K,N.setG g (.slice none 0 0,sz),KExt.refl,⟨j.sub ?_ (fun _ h=>h),?_,h.size,h.new,h.k0,h.fx,h.pin⟩⟩
   .intro p hp
    obtain⟨x,hx,rfl⟩:=List.mem_map.1 hp
    rcases aset_mem hx with rfl | ⟨hx,_⟩
    .simp[hv]
    .exact lmc _ (List.mem_map.2 ⟨x,hx,rfl⟩)
   .intro x hx
    rcases aset_mem hx with rfl | ⟨hx,_⟩
    .exact h.bnd (t,.nils sz) hm
    .exact h.bnd x hx
  | _=>simp only[osi]at he;subst he;exact⟨K,N,KExt.refl,h⟩
 | castu t o' sh=>
  simp only[evGhost]at he
  obtain⟨l,hl,he⟩:=obs he
  cases l with
  | nils sz=>
   simp only at he
   split at he<;>simp only[osi,reduceCtorEq]at he
   rename_i hn
   subst he
   have hm:=aget_mem hl
   have hv:=h.inv.vals (a.tmps.getD t undef,.nils sz) (List.mem_map.2 ⟨_,hm,rfl⟩)
   simp only[RepL]at hv
   obtain⟨n1,n2,n3,n4⟩:=noName_spec hn
   have j:=h.inv.newObj (o:=o') (b:=0) (z:=sz) (v := .slice none 0 0) (F:=[]) (x := .rows sz [] sh none) (HExt.refl _) (fun p hp=>by obtain⟨y,hy,rfl⟩:=List.mem_map.1 hp;exact n1 y hy) n2 n3
    ⟨.inr ⟨⟨rfl,by simp[Names.setO]⟩,by simp[Names.setO]⟩,by simp[Names.setO],trivial⟩ List.nodup_nil (by simp) (by simp[Obj.cells,LV.toksL])
   have j2:=j.add (v := .slice none 0 0) (l := .arr o' 0) ⟨by simp[Names.setO],none,0,rfl⟩ (by simp[LV.toks])
   refine⟨K,_,KExt.refl,⟨j2.sub ?_ ?_,?_,h.size,h.new,h.k0,h.fx,fun x hx=>?_⟩⟩
   .intro p hp
    obtain⟨x,hx,rfl⟩:=List.mem_map.1 hp
    rcases aset_mem hx with rfl | ⟨hx,_⟩
    .simp[hv]
    .exact lmc _ (List.mem_map.2 ⟨x,hx,rfl⟩)
   .intro y hy
    rcases aset_mem hy with rfl | ⟨hy,_⟩
    .simp
    .simp[hy]
   .intro x hx
    rcases aset_mem hx with rfl | ⟨hx,_⟩
    .exact h.bnd (t,.nils sz) hm
    .exact h.bnd x hx
   .have:x≠o':=fun e=>n4 (by rw[h.fx];exact e▸hx)
    simp only[Names.at,Names.setO,this,if_false];exact h.pin x hx
  | _=>simp only[osi]at he;subst he;exact⟨K,N,KExt.refl,h⟩
 | castuc o i o' sh=>
  simp only[evGhost]at he
  obtain⟨ob,hob,he⟩:=obs he
  cases ob with
  | rows _ _ _ _=>cases he
  | var cs=>
   simp only at he
   split at he
   case h_2=>simp only[osi]at he;subst he;exact⟨K,N,KExt.refl,h⟩
   rename_i sz hci
   split at he<;>simp only[osi,reduceCtorEq]at he
   rename_i hn
   subst he
   have hm:=aget_mem hob
   obtain⟨n1,n2,n3,n4⟩:=noName_spec hn
   have j:=h.inv.newObj (o:=o') (b:=0) (z:=sz) (v := .slice none 0 0) (F:=[]) (x := .rows sz [] sh none) (HExt.refl _) (fun p hp=>by obtain⟨y,hy,rfl⟩:=List.mem_map.1 hp;exact n1 y hy) n2 n3
    ⟨.inr ⟨⟨rfl,by simp[Names.setO]⟩,by simp[Names.setO]⟩,by simp[Names.setO],trivial⟩ List.nodup_nil (by simp) (by simp[Obj.cells,LV.toksL])
   have j2:=j.recell (cs':=cs.set i (.arr o' 0)) (lmc _ hm) (fun vs F hr=>by
     obtain⟨v,A,Fc,B,q1,q2,q3⟩:=RepCs.swap hci hr
     obtain⟨q2,q4⟩:=q2
     simp only[RepL]at q4
     subst q2
     rw[q1]
     exact q3 _ rfl (fun _ _ _ _=>rfl) _ [] (RepC.of ⟨by rw[q4];simp[Names.setO],none,0,q4⟩)) (by simp) (flat_set rfl (h.inv.objs _ hm).1.2) (fun t ht=>by
    rcases toks_set ht with ht | ht
    .simp[LV.toks]at ht
    .exact .inr ⟨_,lmc _ hm,ht⟩)
   refine⟨K,_,KExt.refl,⟨j2.sub (fun _ h=>h) ?_,h.bnd,h.size,h.new,h.k0,h.fx,fun x hx=>?_⟩⟩
   .intro y hy
    have hne:o≠o':=n3 _ hm
    rcases aset_mem hy with rfl | ⟨hy,_⟩
    .exact mem_aset_of (by simpa using hne.symm) (by simp)
    .rcases aset_mem hy with rfl | ⟨hy,hy'⟩
     .exact mem_aset
     .exact mem_aset_of hy' (by simp[hy])
   .have:x≠o':=fun e=>n4 (by rw[h.fx];exact e▸hx)
    simp only[Names.at,Names.setO,this,if_false];exact h.pin x hx
 | frzv o'=>
  simp only[evGhost]at he
  obtain⟨x,hx,he⟩:=obs he
  cases x with
  | rows _ _ _ _=>simp at he
  | var cs=>
   simp only at he
   obtain⟨ps,hps,he⟩:=obs he
   obtain⟨env',henv,he⟩:=obs he
   obtain⟨objs',hobjs,he⟩:=obs he
   simp only[osi]at he
   subst he
   have hm:=aget_mem hx
   obtain⟨⟨t1,_⟩,_⟩:=h.inv.objs _ hm
   rcases t1 with⟨vs,el,G,e1,e2,e3,e4,e5⟩ | ⟨e,_⟩
   case inr=>exact e.elim
   obtain⟨k1,k2,k3⟩:=h.opn (b0:=N.M o') (n:=vs.length) hm
   have hrow:RepRow (K.opn w.heap (N.F o') (N.M o') vs.length) ps (N.M o') 0:=e3.row k1.le hps fun i u hu=>by
    rw[Nat.zero_add,Know.opn_in (by simp[e2]) fun _=>(lgs hu).1]
    simp only[hcell,e1,List.getElem?_toArray];exact hu
   have hr:=Rel.map (f:=LV.frzv o' ps) (objs:=adel s.objs o') k2 ⟨fun o n o1 n1 hh=>by
     simp only[LV.frzv]at hh
     split at hh<;>simp only[osi,reduceCtorEq,LV.arr.injEq]at hh
     exact⟨hh.1.symm,hh.2.symm⟩,fun z es sh l hh=>by simp only[LV.frzv,osi]at hh;exact hh.symm⟩ N.G (fun _=>False) henv hobjs k3
    (fun l l' v _ h1 h2=>by
     obtain⟨q1,q2,q3⟩:=frzv_rep hrow h1 h2
     exact⟨q1,q2,fun t ht => .inr (q3▸ht)⟩) (fun _ _=>rfl) (fun _ _ hh=>hh.elim) (fun _ hh=>hh.elim)
   exact⟨_,_,k1,hr⟩
 | frz o' g=>
  simp only[evGhost]at he
  obtain⟨r,hr,he⟩:=obs he
  split at he
  case isFalse=>cases he
  rename_i hn
  obtain⟨env',henv,he⟩:=obs he
  obtain⟨objs',hobjs,he⟩:=obs he
  simp only[osi]at he
  subst he
  obtain⟨hm,hS,m3⟩:=rowsOfO_rep h hr
  obtain⟨k1,k2,k3⟩:=h.opn (b0:=N.M o') (n:=r.2.1.length*r.1) hm
  have hnd:=(h.inv.objs _ hm).2.1
  have hWr:=(h.inv.objs _ hm).2.2
  have hnt:¬Occ (pairs a s.env) (adel s.objs o') g:=fun hh=>noTok_occ hn (hh.sub (fun _ h=>h) fun y hy=>(adel_mem hy).1)
  have hrep:RepP (K.opn w.heap (N.F o') (N.M o') (r.2.1.length*r.1)) (.lst r.1 r.2.1) (N.A o'):=by
   rcases m3 with⟨vs,el,G,cap,e1,e2,e3,e4,e5,e6⟩ | ⟨⟨e1,e2⟩,_⟩
   .refine⟨_,_,_,e4,rfl,e5,.inr ⟨_,_,rfl,?_⟩⟩
    have hle:r.2.1.length*r.1<=vs.length:=Nat.le_trans (Nat.mul_le_mul_right _ e5) e6
    refine RepUR.view k1.le (e3.pre (l':=vs.take (r.2.1.length*r.1)) fun k hk=>by rw[List.getElem?_take_of_lt hk]) (fun i u hu=>?_) fun b hb k v hv=>?_
    .have hi:i<r.2.1.length*r.1:=by
      have:=(lgs hu).1
      simp only[List.length_take]at this
      omega
     rw[List.getElem?_take_of_lt hi]at hu
     rw[Nat.zero_add,Know.opn_in (by simp[e2]) fun _=>hi]
     simp only[hcell,e1,List.getElem?_toArray];exact hu
    .rw[Know.opn_in (by simp[e2,hb]) fun e=>?_]
     .exact hv
     .rw[e2]at hnd
      exact absurd (e▸hb) (List.nodup_cons.1 hnd).1
   .exact⟨none,0,0,e2,by rw[e1];rfl,Nat.le_refl _,.inl e1⟩
  let Gf:Nat->Value×Nat:=fun t=>if t=g then (N.A o',r.1) else N.G t
  have hr:=Rel.map (f:=LV.frz o' g r.1 r.2.1) (objs:=adel s.objs o') k2 ⟨fun o n o1 n1 hh=>by
    simp only[LV.frz]at hh
    split at hh
    .split at hh<;>simp at hh
    .simp only[osi,LV.arr.injEq]at hh
     exact⟨hh.1.symm,hh.2.symm⟩,fun z es sh l hh=>by simp only[LV.frz,osi]at hh;exact hh.symm⟩ Gf (fun t=>t=g) henv hobjs k3
   (fun l l' v _ h1 h2=>frz_rep (N:=N) (N':={ N with G:=Gf }) rfl rfl rfl (by simp[Gf]) (fun t ht=>by simp[Gf,ht]) hrep h1 h2) (fun t ht=>by simp[Gf,ht]) (fun _ _ h1 h2=>h1.trans h2.symm)
   (fun g0 hg0=>by
    subst hg0
    simp only[Gf,if_true]
    rcases m3 with⟨vs,el,G,cap,e1,e2,e3,e4,e5,e6⟩ | ⟨⟨e1,e2⟩,_⟩
    .refine⟨.inr ⟨_,_,_,_,_,e4,e1,(hWr _ (by simp[e2])).1,by simpa using e6,fun k hk=>?_⟩,fun b hb=>?_⟩
     .unfold Know.opn
      rw[if_neg fun hh=>absurd (hh.2 rfl) (by simpa using hk)]
      exact (hWr _ (by simp[e2])).2 k
     .have hb':b=N.M o':=by
       rw[e4]at hb
       cases hb;rfl
      subst hb'
      refine⟨fun g' hg' hs=>h.inv.tobj g' _ (hg'.sub (fun _ h=>h) fun y hy=>(adel_mem hy).1) hm _ hs (by simp[e2]),fun y hy hb=>?_⟩
      obtain⟨h1,h2⟩:=adel_mem hy
      exact h2 (congrArg Prod.fst (h.inv.inj y h1 _ hm _ hb (by simp[e2])))
    .refine⟨.inl e2,fun b hb=>?_⟩
     rw[e2]at hb
     cases hb)
  exact⟨_,_,k1,hr⟩
 | castb o i t=>
  simp only[evGhost]at he
  obtain⟨ob,hob,he⟩:=obs he
  cases ob with
  | rows _ _ _ _=>cases he
  | var cs=>
   simp only at he
   split at he<;>simp only[osi,reduceCtorEq]at he
   rename_i hci
   subst he
   have hm:=aget_mem hob
   have j2:=h.inv.recell (cs':=cs.set i (.box 0 [] (List.replicate t .v))) hm (fun vs F hr=>by
     obtain⟨v,A,Fc,B,q1,q2,q3⟩:=RepCs.swap hci hr
     obtain⟨q2,q4⟩:=q2
     simp only[RepL]at q4
     subst q2
     rw[q1]
     exact q3 _ rfl (fun _ _ _ _=>rfl) _ [] ⟨[],rfl,.inl ⟨q4,rfl,rfl⟩⟩) (by simp) (flat_set rfl (h.inv.objs _ hm).1.2) (fun t ht=>by
    rcases toks_set ht with ht | ht
    .simp[LV.toks]at ht
    .exact .inr ⟨_,hm,ht⟩)
   exact⟨K,N,KExt.refl,⟨j2,h.bnd,h.size,h.new,h.k0,h.fx,h.pin⟩⟩
 | take o x off o'=>
  simp only[evGhost]at he
  obtain⟨i,hi,he⟩:=obs he
  obtain⟨ob,hob,he⟩:=obs he
  split at he
  case h_2=>cases he
  rename_i sz es sh
  obtain⟨e,hei,he⟩:=obs he
  split at he
  case h_2=>cases he
  rename_i sh' z ys hsh hc
  split at he<;>simp only[osi,reduceCtorEq]at he
  rename_i hn
  subst he
  have hm:=aget_mem hob
  obtain⟨⟨t1,t2⟩,nd,_⟩:=h.inv.objs _ hm
  obtain⟨n1,n2,n3,n4⟩:=noName_spec hn
  have hne:o≠o':=n3 _ hm
  rcases t1 with⟨vs,el,G,e1,e2,e3,cap,e4,e5,e6⟩ | ⟨⟨e',_⟩,_⟩
  case inr=>subst e';simp at hei
  obtain⟨v,A,Fc,B,q1,q2,q3⟩:=RepUR.swap hei hc e3
  rw[hsh]at q2
  obtain⟨b,hsl,hob'⟩:=q2.obj (o:=o')
  have hv1:=RepU.one q2
  rw[e2,q1]at nd
  refine h.lend (o:=o) (o':=o') (b:=b) (z:=z) (v:=v) (Fo:=N.M o::(A++B)) (Fc:=Fc) (x' := .rows sz es sh (some (i.toNat,off,o',ys.length))) (y := .rows z ys sh' none) hm hn (fun c hc=>?_) ?_ ?_ ?_ (by simp[Obj.cells,LV.toksL,LV.toks]) (by simp[Obj.cells,LV.toksL])
  .rw[e2,q1];simp only[List.mem_cons,List.mem_append]at hc ⊢;grind
  .simp only[List.cons_append,List.append_assoc,List.nodup_cons,List.nodup_append,List.mem_append]at nd ⊢;grind
  .have hp:plug ((N.setF o (N.M o::(A++B))).setO o' b z v Fc) (some (i.toNat,off,o',ys.length)) es=es.set i.toNat (e.set off (.sc v)):=by simp[plug,hei,Names.setO]
   have hA:=q3 (.sc v) [] (by rw[hsh];exact⟨rfl,rfl,hv1⟩)
   exact⟨.inl ⟨vs,el,A++[]++B,by simp[Names.setO,Names.setF,hne];exact e1,by simp[Names.setO,Names.setF,hne],by rw[hp];exact hA,cap,by simp[Names.setO,Names.setF,hne];exact e4,e5,e6⟩,by simp[Names.setO,Names.setF,hne];exact t2.1,⟨⟨e,_,hei,hc⟩,⟨_,hsh⟩,by simp[Names.setO];exact hsl⟩⟩
  .exact hob' _ (by simp[Names.setO]) (by simp[Names.setO]) (by simp[Names.setO]) (by simp[Names.setO])
 | put o=>
  simp only[evGhost]at he
  obtain⟨ob,hob,he⟩:=obs he
  split at he
  case h_1=>simp only[osi]at he;subst he;exact⟨K,N,KExt.refl,h⟩
  case h_3=>cases he
  rename_i sz es sh i off o' n
  obtain⟨r,hr,he⟩:=obs he
  obtain⟨e,hei,he⟩:=obs he
  split at he<;>simp only[osi,reduceCtorEq]at he
  rename_i hc
  obtain⟨hne,hoff,hsh⟩:=hc
  subst he
  have hsh:=Shp.eq_of hsh
  have hm:=aget_mem hob
  have hm':=(rowsOfO_rep h hr).1
  obtain⟨⟨t1,t2⟩,nd,_⟩:=h.inv.objs _ hm
  obtain⟨ta,nd',_⟩:=h.inv.objs _ hm'
  have hu:=ta.own
  rcases t1 with⟨vs,el,G,e1,e2,e3,cap,e4,e5,e6⟩ | ⟨⟨e',_⟩,_⟩
  case inr=>subst e';simp at hei
  have hp:plug N (some (i,off,o',n)) es=es.set i (e.set off (.sc (N.A o'))):=by simp[plug,hei]
  have hil:i<es.length:=(lgs hei).1
  rw[hp]at e3
  obtain⟨v,A,Fc,B,q1,q2,q3⟩:=RepUR.swap (i:=i) (off:=off) (e:=e.set off (.sc (N.A o'))) (c := .sc (N.A o')) (by rw[List.getElem?_set_self hil]) (by rw[List.getElem?_set_self hoff]) e3
  rw[hsh]at q2
  obtain⟨rfl,hv,_⟩:=q2
  subst hv
  have q4:=q3 (.lst r.1 r.2.1) (N.F o') (by rw[hsh];exact hu)
  simp only[List.set_set]at q4
  have hdj:∀c∈N.F o',c∉N.F o:=fun c h1 h2=>hne (congrArg Prod.fst (h.inv.inj _ hm' _ hm c h1 h2))
  rw[e2,q1]at nd hdj
  refine h.back (o:=o) (o':=o') (Fo:=N.M o::(A++N.F o'++B)) hm hm' (fun c hc=>?_) ?_ ?_ (by simp[Obj.cells,LV.toksL])
  .rw[e2,q1];simp only[List.mem_cons,List.mem_append]at hc ⊢;grind
  .simp only[List.append_nil,List.nodup_cons,List.nodup_append,List.mem_append,List.mem_cons]at nd hdj ⊢;grind
  .exact⟨.inl ⟨vs,el,_,e1,by simp[Names.setF],q4,cap,by simpa[Names.setF]using e4,by simpa using e5,e6⟩,t2.1,trivial⟩
 | takev o off o'=>
  simp only[evGhost]at he
  obtain⟨ob,hob,he⟩:=obs he
  cases ob with
  | rows _ _ _ _=>cases he
  | var cs=>
   simp only at he
   split at he
   case h_2=>cases he
   rename_i z ys sh hci
   split at he<;>simp only[osi,reduceCtorEq]at he
   rename_i hn
   obtain⟨hn,hz0⟩:=hn
   obtain⟨z,rfl⟩:=Nat.exists_eq_succ_of_ne_zero hz0
   subst he
   have hm:=aget_mem hob
   obtain⟨⟨t1,t2⟩,nd,_⟩:=h.inv.objs _ hm
   obtain⟨n1,n2,n3,n4⟩:=noName_spec hn
   have hne:o≠o':=n3 _ hm
   rcases t1 with⟨vs,el,G,e1,e2,e3,e4,e5⟩ | ⟨e',_⟩
   case inr=>exact e'.elim
   obtain⟨v,A,Fc,B,q1,q2,q3⟩:=RepCs.swap hci e3
   obtain⟨b,hsl,hob'⟩:=RepU.obj (o:=o') q2
   rw[e2,q1]at nd
   refine h.lend (o:=o) (o':=o') (b:=b) (z:=z+1) (v:=v) (Fo:=N.M o::(A++B)) (Fc:=Fc) (x' := .var (cs.set off (.arr o' ys.length))) (y := .rows (z+1) ys sh none) hm hn (fun c hc=>?_) ?_ ?_ ?_ (fun g hg=>?_) (by simp[Obj.cells,LV.toksL])
   .rw[e2,q1];simp only[List.mem_cons,List.mem_append]at hc ⊢;grind
   .simp only[List.cons_append,List.append_assoc,List.nodup_cons,List.nodup_append,List.mem_append]at nd ⊢;grind
   .have hA:=q3 ((N.setF o (N.M o::(A++B))).setO o' b (z+1) v Fc) rfl (fun l hl k hk=>by
     have:k≠o':=fun e=>n2 _ hm (namesL_mem.2 ⟨l,hl,e▸hk⟩)
     simp[Names.at,Names.setO,Names.setF,this]) (.arr o' ys.length) [] (RepC.of ⟨by simp[Names.setO],hsl⟩)
    exact⟨.inl ⟨vs,el,A++[]++B,by simp[Names.setO,Names.setF,hne];exact e1,by simp[Names.setO,Names.setF,hne],hA,by simpa using e4,e5⟩,flat_set rfl t2⟩
   .exact hob' _ (by simp[Names.setO]) (by simp[Names.setO]) (by simp[Names.setO]) (by simp[Names.setO])
   .rcases toks_set hg with hg | hg
    .simp[LV.toks]at hg
    .exact .inr ⟨_,hm,hg⟩
 | putv o off=>
  simp only[evGhost]at he
  obtain⟨ob,hob,he⟩:=obs he
  cases ob with
  | rows _ _ _ _=>cases he
  | var cs=>
   simp only at he
   split at he
   case h_2=>cases he
   rename_i o' n hci
   obtain⟨r,hr,he⟩:=obs he
   split at he<;>simp only[osi,reduceCtorEq]at he
   rename_i hne
   obtain⟨hne,hz0⟩:=hne
   obtain⟨r1,r2,r3⟩:=r
   obtain⟨z,hz⟩:=Nat.exists_eq_succ_of_ne_zero hz0
   simp only at hz
   subst hz
   subst he
   have hm:=aget_mem hob
   have hm':=(rowsOfO_rep h hr).1
   obtain⟨⟨t1,t2⟩,nd,_⟩:=h.inv.objs _ hm
   obtain⟨ta,nd',_⟩:=h.inv.objs _ hm'
   have hu:=ta.own
   rcases t1 with⟨vs,el,G,e1,e2,e3,e4,e5⟩ | ⟨e',_⟩
   case inr=>exact e'.elim
   obtain⟨v,A,Fc,B,q1,q2,q3⟩:=RepCs.swap hci e3
   obtain⟨rfl,hv,_⟩:=q2
   subst hv
   have q4:=q3 (N.setF o (N.M o::(A++N.F o'++B))) rfl (fun _ _ _ _=>rfl) (.box (z+1) r2 r3) (N.F o') hu
   have hdj:∀c∈N.F o',c∉N.F o:=fun c h1 h2=>hne (congrArg Prod.fst (h.inv.inj _ hm' _ hm c h1 h2))
   rw[e2,q1]at nd hdj
   refine h.back (o:=o) (o':=o') (Fo:=N.M o::(A++N.F o'++B)) hm hm' (fun c hc=>?_) ?_ ?_ (fun g hg=>?_)
   .rw[e2,q1];simp only[List.mem_cons,List.mem_append]at hc ⊢;grind
   .simp only[List.append_nil,List.nodup_cons,List.nodup_append,List.mem_append,List.mem_cons]at nd hdj ⊢;grind
   .exact⟨.inl ⟨vs,el,_,e1,by simp[Names.setF],q4,by simpa using e4,e5⟩,flat_set rfl t2⟩
   .rcases toks_set hg with hg | hg
    .simp[LV.toks]at hg
    .exact .inr ⟨_,hm,hg⟩
 | ren o o'=>
  simp only[evGhost]at he
  split at he
  .simp only[osi]at he;subst he;exact⟨K,N,KExt.refl,h⟩
  split at he<;>simp only[osi,reduceCtorEq]at he
  rename_i hc
  obtain⟨hn,hfx,hty⟩:=hc
  subst he
  obtain⟨n1,n2,n3,n4⟩:=noName_spec hn
  have hfo:o∉s.fix:=by simpa using hfx
  let f:Nat->Nat:=fun y=>if y=o then o' else y
  let N':Names:=N.setO o' (N.M o) (N.S o) (N.A o) (N.F o)
  have hat:∀y,y≠o'->N'.at (f y)=N.at y:=fun y hy=>by
   simp only[f]
   split
   .rename_i e;subst e;simp[N',Names.at,Names.setO]
   .simp[N',Names.at,Names.setO,hy]
  have hmem:∀q∈renObjs o o' s.objs,∃y∈s.objs,q=(f y.1,renObj f y.2):=fun q hq=>by
   have hmap:∀q∈(adel s.objs o).map (fun y=>(y.1,renObj f y.2)),∃y∈s.objs,q=(f y.1,renObj f y.2):=fun q hq=>by
    obtain⟨y,hy,rfl⟩:=List.mem_map.1 hq
    obtain⟨h1,h2⟩:=adel_mem hy
    exact⟨y,h1,by simp[f,h2]⟩
   unfold renObjs at hq
   split at hq
   .rename_i x hx
    rcases aset_mem hq with rfl | ⟨hq,_⟩
    .exact⟨_,aget_mem hx,by simp[f]⟩
    .exact hmap q hq
   .exact hmap q hq
  have hF:∀y∈s.objs,N'.F (f y.1)=N.F y.1:=fun y hy=>by
   simp only[f]
   split
   .rename_i e;simp[N',Names.setO,e]
   .simp[N',Names.setO,n3 y hy]
  refine⟨K,N',KExt.refl,⟨h.inv.regroup (fun g hg=>⟨?_,rfl⟩) (fun p hp=>?_) (fun q hq=>?_) (fun q hq q' hq' b h1 h2=>?_),?_,h.size,h.new,h.k0,h.fx,fun x hx=>?_⟩⟩
  .rcases hg with⟨p,hp,hg⟩ | ⟨q,hq,hg⟩
   .obtain⟨x,hx,rfl⟩:=List.mem_map.1 hp
    obtain⟨y,hy,rfl⟩:=List.mem_map.1 hx
    simp only[LV.toks_ren]at hg
    exact .inl ⟨_,List.mem_map.2 ⟨y,hy,rfl⟩,hg⟩
   .obtain⟨y,hy,rfl⟩:=hmem q hq
    refine .inr ⟨y,hy,?_⟩
    cases hyc:y.2 with
    | var cs=>rw[hyc]at hg;simpa[renObj,Obj.cells,LV.toksL_ren]using hg
    | rows sz es sh hole=>rw[hyc]at hg;cases hole<;>simp[renObj,Obj.cells,LV.toksL,LV.toks]at hg
  .obtain⟨x,hx,rfl⟩:=List.mem_map.1 hp
   obtain⟨y,hy,rfl⟩:=List.mem_map.1 hx
   exact RepL.ren (N:=N) f (fun k hk=>hat k fun e=>n1 y hy (e▸hk)) (fun _ _=>rfl) (h.inv.vals (a.tmps.getD y.1 undef,y.2) (List.mem_map.2 ⟨y,hy,rfl⟩))
  .obtain⟨y,hy,rfl⟩:=hmem q hq
   obtain⟨t,nd,_⟩:=h.inv.objs y hy
   have ha:=hat y.1 (n3 y hy)
   simp only[Names.at,Prod.mk.injEq]at ha
   refine⟨ObjAt.ren (N:=N) f rfl ⟨ha.1,ha.2.1,ha.2.2,hF y hy⟩ (by simp only[f];split<;>simp_all) (fun k hk=>hat k fun e=>n2 y hy (e▸hk)) t,by rw[hF y hy];exact nd,fun b hb=>⟨y,hy,by rwa [hF y hy]at hb⟩⟩
  .obtain⟨y,hy,rfl⟩:=hmem q hq
   obtain⟨y',hy',rfl⟩:=hmem q' hq'
   simp only[hF y hy,hF y' hy']at h1 h2
   rw[h.inv.inj y hy y' hy' b h1 h2]
  .intro x hx
   obtain⟨y,hy,rfl⟩:=List.mem_map.1 hx
   exact h.bnd y hy
  .have h1:x≠o':=fun e=>n4 (by rw[h.fx];exact e▸hx)
   rw[<-h.pin x hx]
   simp[N',Names.at,Names.setO,h1]
theorem ghosts_ok:∀ {gs:List Ghost}{s s':LSt}{K:Know}{N:Names},evGhosts gs s=some s'->Rel nt F Wr K N a w s->∃K' N',KExt Wr K K'/\Rel nt F Wr K' N' a w s':=by
 intro gs
 induction gs with
 | nil=>intro s s' K N he h;simp only[evGhosts,osi]at he;subst he;exact⟨K,N,KExt.refl,h⟩
 | cons g gs ih=>
  intro s s' K N he h
  simp only[evGhosts]at he
  obtain⟨s1,h1,he⟩:=obs he
  obtain⟨K1,N1,hK1,hr1⟩:=ghost_ok h1 h
  obtain⟨K2,N2,hK2,hr2⟩:=ih he hr1
  exact⟨K2,N2,hK1.trans hK2,hr2⟩
end
open Go.RowKit
def chkC (P:Program) (nt:Nat):LC->Code->Bool
 | .skip,.skip=>true
 | .ops l,.region _ ops false=>chkLIs P nt ops l ops.toList
 | .draw l,.region _ ops true=>chkLIs P nt ops l ops.toList&&drawOk ops l
 | .seq a b,.seq x y=>chkC P nt a x&&chkC P nt b y
 | .cond c a b,.cond C x y=>chkOpd c C&&chkC P nt a x&&chkC P nt b y
 | .block id a,.block id' x=>id == id'&&chkC P nt a x
 | .loop a,.loop x=>chkC P nt a x
 | .exit id,.exit id'=>id == id'
 | .ret,.ret=>true
 | .stuck,_=>true
 | .gh _ c,x=>chkC P nt c x
 | _,_=>false
def exOf:LExit->Exit
 | .nrm => .normal
 | .ex id => .exit id
 | .ret => .ret
theorem wp_rounds {P:Program}{c:Code}{Q:Exit->Act->World->Prop}{a:Act}{w:World}{I:Nat->Act->World->Prop}(n:Nat) (h0:I n a w) (hz:∀a w,¬I 0 a w)
  (round:∀m a w,I (m+1) a w->c.wp P (Exit.then (I m) Q) a w):(Code.loop c).wp P Q a w:=by
 intro b k cs
 have key:∀m a w,I m a w->∃e a' w',Q e a' w'/\Arrives P (lone (b.at a (.code c :: .inLoop c::k)) cs w) b k cs e a' w':=by
  intro m
  induction m with
  | zero=>intro a w h;exact absurd h (hz a w)
  | succ m ih=>
   intro a w h
   obtain⟨e,a1,w1,hq,harr⟩:=round m a w h b (.inLoop c::k) cs
   cases e with
   | normal=>
    obtain⟨e2,a2,w2,hq2,harr2⟩:=ih a1 w1 hq
    exact⟨e2,a2,w2,hq2,.of_steps (Steps.trans harr (.one step_inLoop)) harr2⟩
   | exit id=>exact⟨_,a1,w1,hq,.pass (x := .inLoop c) rfl (fun _ _ => .inl (by simp)) harr⟩
   | goto l=>exact⟨_,a1,w1,hq,.pass (x := .inLoop c) rfl (fun _ _ => .inl (by simp)) harr⟩
   | ret=>exact⟨_,a1,w1,hq,.pass (x := .inLoop c) rfl (fun _ _ => .inl (by simp)) harr⟩
   | panic ch=>exact⟨_,a1,w1,hq,.pass (x := .inLoop c) rfl (fun _ _ => .inl (by simp)) harr⟩
   | outgrown=>exact⟨_,a1,w1,hq,.pass (x := .inLoop c) rfl (fun _ _ => .inl (by simp)) harr⟩
 obtain⟨e,a',w',hq,harr⟩:=key n a w h0
 exact⟨e,a',w',hq,.of_steps (.one step_loop) harr⟩
section
variable {call:CallF}{P:Program}{nt:Nat}{F:Fr}{Wr:Nat->Prop}
theorem code_wp (hm:P.follows .mixedOrders=true) (hcall:CallOk P F.K0 call) (n:Nat):∀ {l:LC}{c:Code}{K:Know}{N:Names}{a:Act}{w:World}{s:LSt}{e:LExit}{s':LSt}{Q:Exit->Act->World->Prop},
  chkC P nt l c=true->evC call n l s=some (e,s')->Rel nt F Wr K N a w s->Post nt F Wr K a w s' (Q (exOf e))->c.wp P Q a w:=by
 intro l
 induction l with
 | skip=>
  intro c K N a w s e s' Q hc he h hn
  cases c<;>simp only[chkC]at hc<;>try cases hc
  simp only[evC,osi,Prod.mk.injEq]at he
  obtain⟨rfl,rfl⟩:=he
  exact wp_skip (hn a w K N KExt.refl (Keep.refl _ _) rfl h)
 | ops l=>
  intro c K N a w s e s' Q hc he h hn
  cases c with
  | region id ops d=>
   cases d with
   | true=>cases hc
   | false=>
    simp only[chkC]at hc
    simp only[evC]at he
    obtain⟨s1,h1,he⟩:=obs he
    simp only[osi,Prod.mk.injEq]at he
    obtain⟨rfl,rfl⟩:=he
    exact wp_region_list (ops_wp hcall hc h1 h hn)
  | _=>cases hc
 | draw l=>
  intro c K N a w s e s' Q hc he h hn
  cases c with
  | region id ops d=>
   cases d with
   | false=>cases hc
   | true=>
    simp only[chkC,bat]at hc
    simp only[evC]at he
    split at he
    case isFalse=>cases he
    rename_i hrd
    obtain⟨s1,h1,he⟩:=obs he
    simp only[osi,Prod.mk.injEq]at he
    obtain⟨rfl,rfl⟩:=he
    exact draw_wp hm hcall hc.1 hc.2 hrd h1 h hn
  | _=>cases hc
 | seq x y ihx ihy=>
  intro c K N a w s e s' Q hc he h hn
  cases c with
  | seq cx cy=>
   simp only[chkC,bat]at hc
   simp only[evC]at he
   obtain⟨⟨e1,s1⟩,h1,he⟩:=obs he
   refine wp_seq (ihx hc.1 h1 h ?_)
   cases e1 with
   | nrm=>
    intro a' w' K' N' hK hk hdf hr
    refine ihy hc.2 he hr ?_
    intro a'' w'' K'' N'' hK' hk' hdf' hr'
    exact hn a'' w'' K'' N'' (hK.trans hK') (hk.trans hk') (hdf'.trans hdf) hr'
   | ex id=>
    simp only[osi,Prod.mk.injEq]at he
    obtain⟨rfl,rfl⟩:=he
    exact hn
   | ret=>
    simp only[osi,Prod.mk.injEq]at he
    obtain⟨rfl,rfl⟩:=he
    exact hn
  | _=>cases hc
 | cond c x y ihx ihy=>
  intro cc K N a w s e s' Q hc he h hn
  cases cc with
  | cond C cx cy=>
   simp only[chkC,bat]at hc
   simp only[evC]at he
   obtain⟨l,hl,he⟩:=obs he
   obtain⟨t,ht,he⟩:=obs he
   have hb:=bool?_rep ht (h.opd hl hc.1.1).1
   cases t with
   | true=>exact wp_cond_true hb (ihx hc.1.2 (by simpa using he) h hn)
   | false=>exact wp_cond_false hb (ihy hc.2 (by simpa using he) h hn)
  | _=>cases hc
 | block id x ihx=>
  intro c K N a w s e s' Q hc he h hn
  cases c with
  | block id' cx=>
   simp only[chkC,bat]at hc
   have hid:=eq_of_beq hc.1
   subst hid
   simp only[evC]at he
   obtain⟨⟨e1,s1⟩,h1,he⟩:=obs he
   refine wp_block (ihx hc.2 h1 h ?_)
   cases e1 with
   | nrm=>
    simp only[osi,Prod.mk.injEq]at he
    obtain⟨rfl,rfl⟩:=he
    exact hn
   | ex i=>
    simp only at he
    split at he
    .rename_i hi
     simp only[osi,Prod.mk.injEq]at he
     obtain⟨rfl,rfl⟩:=he
     intro a' w' K' N' hK hk hdf hr
     show Exit.inBlock id Q (.exit i) a' w'
     simp only[Exit.inBlock,hi,if_true]
     exact hn a' w' K' N' hK hk hdf hr
    .rename_i hi
     simp only[osi,Prod.mk.injEq]at he
     obtain⟨rfl,rfl⟩:=he
     intro a' w' K' N' hK hk hdf hr
     show Exit.inBlock id Q (.exit i) a' w'
     simp only[Exit.inBlock,hi,if_false]
     exact hn a' w' K' N' hK hk hdf hr
   | ret=>
    simp only[osi,Prod.mk.injEq]at he
    obtain⟨rfl,rfl⟩:=he
    exact hn
  | _=>cases hc
 | loop x ihx=>
  intro c K N a w s e s' Q hc he h hn
  cases c with
  | loop cx=>
   simp only[chkC]at hc
   simp only[evC]at he
   refine wp_rounds (I:=fun m a' w'=>∃s1 K' N',iter (evC call n x) m s1=some (e,s')/\KExt Wr K K'/\Keep Wr w w'/\a'.defers=a.defers/\Rel nt F Wr K' N' a' w' s1) n ⟨s,K,N,he,KExt.refl,Keep.refl _ _,rfl,h⟩ ?_ ?_
   .rintro a' w' ⟨s1,K',N',hi,_⟩
    simp[iter]at hi
   .rintro m a1 w1 ⟨s1,K1,N1,hi,hK1,hk1,hd1,hr1⟩
    simp only[iter]at hi
    obtain⟨⟨e2,s2⟩,h2,hi⟩:=obs hi
    refine ihx hc h2 hr1 ?_
    cases e2 with
    | nrm=>
     intro a' w' K' N' hK hk hdf hr
     exact⟨s2,K',N',hi,hK1.trans hK,hk1.trans hk,hdf.trans hd1,hr⟩
    | ex id=>
     simp only[osi,Prod.mk.injEq]at hi
     obtain⟨rfl,rfl⟩:=hi
     intro a' w' K' N' hK hk hdf hr
     exact hn a' w' K' N' (hK1.trans hK) (hk1.trans hk) (hdf.trans hd1) hr
    | ret=>
     simp only[osi,Prod.mk.injEq]at hi
     obtain⟨rfl,rfl⟩:=hi
     intro a' w' K' N' hK hk hdf hr
     exact hn a' w' K' N' (hK1.trans hK) (hk1.trans hk) (hdf.trans hd1) hr
  | _=>cases hc
 | exit id=>
  intro c K N a w s e s' Q hc he h hn
  cases c with
  | exit id'=>
   simp only[chkC]at hc
   have hid:=eq_of_beq hc
   subst hid
   simp only[evC,osi,Prod.mk.injEq]at he
   obtain⟨rfl,rfl⟩:=he
   exact wp_exit (hn a w K N KExt.refl (Keep.refl _ _) rfl h)
  | _=>cases hc
 | ret=>
  intro c K N a w s e s' Q hc he h hn
  cases c with
  | ret=>
   simp only[evC,osi,Prod.mk.injEq]at he
   obtain⟨rfl,rfl⟩:=he
   exact wp_ret (hn a w K N KExt.refl (Keep.refl _ _) rfl h)
  | _=>cases hc
 | stuck=>intro c K N a w s e s' Q hc he h hn;simp[evC]at he
 | gh gs x ihx=>
  intro c K N a w s e s' Q hc he h hn
  have hc:chkC P nt x c=true:=by cases c<;>exact hc
  simp only[evC]at he
  obtain⟨s1,h1,he⟩:=obs he
  obtain⟨K1,N1,hK1,hr1⟩:=ghosts_ok h1 h
  refine ihx hc he hr1 ?_
  intro a' w' K' N' hK hk hdf hr
  exact hn a' w' K' N' (hK1.trans hK) hk hdf hr
end
open Go.RowKit
def resVal (tmps:Array Value):ResultVar->Sem Value
 | .tmp t=>pure (tmps.getD t undef)
 | .cell b t=>do loadVar t (<-asAddr (tmps.getD b undef))
theorem results_eq (fn:Func) (tmps:Array Value):results fn tmps=(do let vs <-fn.results.mapM (resVal tmps);pure (if h:vs.size=1 then vs[0] else .tuple vs)):=rfl
def chkRes (P:Program):List LRes->List ResultVar->Bool
 | [],[]=>true
 | .tmp t::r,.tmp t'::r'=>t == t'&&chkRes P r r'
 | .cell t n ag::r,.cell t' ty::r'=>t == t'&&chkLoad P ty n ag&&chkRes P r r'
 | _,_=>false
def chkF (P:Program) (f:Nat) (p:LF):Bool:=
 match P.funcs[f]? with
 | some fn=>match fn.body with
  | some c => chkC P fn.ntmps p.body c && chkRes P p.res fn.results.toList && decide (p.np ≤ fn.ntmps) && !(fn.name == "runtime.NumGoroutine")
  | none=>false
 | none=>false
section
variable {P:Program}{nt:Nat}{F:Fr}{Wr:Nat->Prop}{K:Know}{N:Names}{a:Act}{w:World}{s:LSt}
theorem resOfs_rep (h:Rel nt F Wr K N a w s):∀ {rs:List LRes}{Rs:List ResultVar}{ls:List LV},chkRes P rs Rs=true->resOfs s rs=some ls ->
  ∃vs:List Value,vs.length=Rs.length/\(Rs.mapM (resVal a.tmps)).run P w = .ok vs w/\RepLs K N ls vs/\∀g∈LV.toksL ls,Occ (pairs a s.env) s.objs g:=by
 intro rs
 induction rs with
 | nil=>
  intro Rs ls hc he
  cases Rs with
  | nil=>simp only[resOfs,osi]at he;subst he;exact⟨[],rfl,by simp,rfl,by simp[LV.toksL]⟩
  | cons _ _=>simp[chkRes]at hc
 | cons r rs ih=>
  intro Rs ls hc he
  simp only[resOfs]at he
  obtain⟨l,hl,he⟩:=obs he
  obtain⟨ls',hls,he⟩:=obs he
  simp only[osi]at he
  subst he
  cases Rs with
  | nil=>cases r<;>simp[chkRes]at hc
  | cons R Rs=>
   cases r with
   | tmp t=>
    cases R with
    | cell _ _=>simp[chkRes]at hc
    | tmp t'=>
     simp only[chkRes,bat]at hc
     have:=eq_of_beq hc.1
     subst this
     obtain⟨vs,v0,v1,v2,v3⟩:=ih hc.2 hls
     have hm:=aget_mem hl
     have hp:(a.tmps.getD t undef,l)∈pairs a s.env:=List.mem_map.2 ⟨_,hm,rfl⟩
     refine⟨a.tmps.getD t undef::vs,by simp[v0],by simp[List.mapM_cons,resVal,v1],⟨_,_,rfl,h.inv.vals _ hp,v2⟩,fun g hg=>?_⟩
     simp only[LV.toksL,List.mem_append]at hg
     exact hg.elim (fun hg => .inl ⟨_,hp,hg⟩) (v3 g)
   | cell t n ag=>
    cases R with
    | tmp _=>simp[chkRes]at hc
    | cell t' ty=>
     simp only[chkRes,bat]at hc
     have:=eq_of_beq hc.1.1
     subst this
     obtain⟨vs,v0,v1,v2,v3⟩:=ih hc.2 hls
     simp only[resOf]at hl
     obtain⟨lx,hlx,hl⟩:=obs hl
     cases lx with
     | ref o' off=>
      simp only at hl
      obtain⟨ob,hob,hl⟩:=obs hl
      cases ob with
      | rows _ _ _ _=>simp at hl
      | var cs=>
       simp only at hl
       obtain⟨xs,rest,hcs,hlen,hof⟩:=takeL_some hl
       have hm:=aget_mem hlx
       have hp:=h.inv.vals (a.tmps.getD t undef,.ref o' off) (List.mem_map.2 ⟨_,hm,rfl⟩)
       simp only[RepL]at hp
       have hmo:=aget_mem hob
       obtain⟨t1,hf⟩:=(h.inv.objs _ hmo).1
       rcases t1 with⟨us,el,G,hh,_,hr,_⟩ | ⟨e,_⟩
       case inr=>exact e.elim
       obtain⟨F',hd⟩:=hr.drop off
       rw[hcs]at hd
       obtain⟨vs1,vs2,e3,hr1⟩:=hd.vals
       have hf1:xs.all LV.flat=true:=by
        have:=flat_drop hf off
        rw[hcs,List.all_append,bat]at this
        exact this.1
       obtain⟨v,hv,hrv,htk⟩:=run_loadAt (P:=P) (w:=w) (N:=N) (b:=N.M o') (off:=off) hc.1.2 (vs:=vs1) (by rw[hr1.len];simpa using hlen)
        (fun i u hu=>by
         simp only[hcell,hh,List.getElem?_toArray]
         have:us[off+i]?=(us.drop off)[i]?:=by simp
         rw[this,e3,List.getElem?_append_left (lgs hu).1];exact hu) hof (flat_unbox _ hf1) hr1
       have hv':(loadVar ty ⟨N.M o',off,none⟩).run P w = .ok v w:=by simpa[Instr.loadAt,Instr.sureAddr]using hv
       refine⟨v::vs,by simp[v0],by simp[List.mapM_cons,resVal,v1,hp,asAddr,hv'],⟨_,_,rfl,hrv,v2⟩,fun g hg=>?_⟩
       simp only[LV.toksL,List.mem_append]at hg
       rcases hg with hg | hg
       .obtain⟨c,hc1,hc2⟩:=toksL_mem.1 (toks_unbox (htk g hg))
        exact .inr ⟨_,hmo,toksL_mem.2 ⟨c,List.mem_of_mem_drop (i:=off) (by show c∈List.drop off cs;rw[hcs];simp[hc1]),hc2⟩⟩
       .exact v3 g hg
     | _=>simp at hl
theorem mapM_arr {α β:Type}(f:α->Sem β) (xs:Array α) (w:World) (vs:List β) (h:(xs.toList.mapM f).run P w = .ok vs w):(xs.mapM f).run P w = .ok (List.toArray vs) w:=by
 rw[Array.mapM_eq_mapM_toList]
 simp[h]
end
theorem one_rep {K:Know}{N:Names}{ls:List LV}{vs:List Value}(h:RepLs K N ls vs):RepL K N (one ls) (if h:vs.toArray.size=1 then vs.toArray[0] else .tuple vs.toArray):=by
 have hl:=h.len
 unfold one
 split
 .rename_i l
  obtain⟨v,r,rfl,hv,hr⟩:=h
  cases hr
  simpa using hv
 .rename_i ls' hne
  have:¬vs.toArray.size=1:=by
   simp only[List.size_toArray,hl]
   intro h1
   obtain⟨x,hx⟩:=List.length_eq_one_iff.1 h1
   exact hne x hx
  rw[dif_neg this]
  exact⟨vs,rfl,h⟩
theorem one_toks (ls:List LV):(one ls).toks=LV.toksL ls:=by
 unfold one
 split
 .simp[LV.toksL]
 .rfl
theorem one_names (ls:List LV):(one ls).names=LV.namesL ls:=by
 unfold one
 split
 .simp[LV.namesL]
 .rfl
theorem one_ren (f:Nat->Nat) (ls:List LV):(one ls).ren f=one (LV.renL f ls):=by
 unfold one
 cases ls with
 | nil=>rfl
 | cons l r=>cases r<;>rfl
theorem backOf_mem:∀ {os:List (Nat×Obj)}{cs nw:List (Option Obj)}{x:Nat×Obj},cs.length=os.length->x∈backOf os (cs++nw)->(x.1,some x.2)∈(os.map (·.1)).zip cs\/∃i,x.1=rnm i/\nw[i]?=some (some x.2)
 | [],[],nw,x,_,h=>by
  have hb:backOf [] nw=newOf 0 nw:=by cases nw<;>rfl
  rw[List.nil_append,hb]at h
  obtain⟨i,h1,h2⟩:=newOf_mem h
  rw[Nat.zero_add]at h1
  exact .inr ⟨i,h1,h2⟩
 | [],_::_,_,_,h,_=>by simp at h
 | _::_,[],_,_,h,_=>by simp at h
 | o::os,some y::cs,nw,x,hl,h=>by
  simp only[List.cons_append,backOf,List.mem_cons]at h
  rcases h with rfl | h
  .exact .inl (by simp)
  .exact (backOf_mem (by simpa using hl) h).imp (fun h=>by simp[h]) id
 | o::os,none::cs,nw,x,hl,h=>by
  simp only[List.cons_append,backOf]at h
  exact (backOf_mem (by simpa using hl) h).imp (fun h=>by simp[h]) id
section
variable {P:Program}{nt:Nat}{F:Fr}{Wr:Nat->Prop}{K:Know}{N:Names}{a:Act}{w:World}{s:LSt}
theorem newObjs_rep:∀ {ns:List Nat}{nw:List (Option Obj)},newObjs s ns=some nw->nw.length=ns.length/\∀ (i:Nat) (x:Go.Proofs.YtpgmljkhleidjaaGreatDoor.LM.Obj),nw[i]?=some (some x)->∃o,ns[i]?=some o/\freshOk x=true/\(o,x)∈s.objs:=by
 intro ns
 induction ns with
 | nil=>intro nw h;simp only[newObjs,osi]at h;subst h;exact⟨rfl,by simp⟩
 | cons o ns ih=>
  intro nw he
  simp only[newObjs]at he
  obtain⟨r,hr,he⟩:=obs he
  split at he
  case isFalse=>cases he
  rename_i hf
  obtain⟨q,hq,he⟩:=obs he
  simp only[osi]at he
  subst he
  obtain⟨i1,i2⟩:=ih hq
  refine⟨by simp[i1],fun i x hx=>?_⟩
  cases i with
  | zero=>
   simp only[List.getElem?_cons_zero,osi]at hx
   subst hx
   exact⟨o,rfl,hf,aget_mem hr⟩
  | succ i=>exact i2 i x hx
theorem expFix_rep (h:Rel nt F Wr K N a w s){ns:List Nat}:∀ {fx:List Nat}{cs:List (Option Obj)}{k k':Nat},expFix s ns k fx=some (cs,k') ->
  ∃sl:List Slot,k'=k+sl.length/\slotToks sl=fixToks s ns fx/\(∀x∈sl,x.ok N)/\(∀g∈slotToks sl,Occ (pairs a s.env) s.objs g)/\cs.length=fx.length /\
   (∀o x,(o,some x)∈fx.zip cs->o∉ns/\(∃ob,(o,ob)∈s.objs)/\(∀t∈LV.toksL x.cells,k<=t/\t<k') /\
    ∀N':Names,(∀i y,sl[i]?=some y->N'.G (k+i)=y.val)->N'.at o=N.at o->N'.F o=N.F o->ObjAt K N' w.heap o x):=by
 intro fx
 induction fx with
 | nil=>
  intro cs k k' h1
  simp only[expFix,osi,Prod.mk.injEq]at h1
  obtain⟨rfl,rfl⟩:=h1
  exact⟨[],rfl,rfl,by simp,by simp[slotToks],rfl,by simp⟩
 | cons o fx ih=>
  intro cs k k' h1
  simp only[expFix]at h1
  split at h1
  .rename_i hc
   obtain⟨⟨cs',k1⟩,hq,h1⟩:=obs h1
   simp only[osi,Prod.mk.injEq]at h1
   obtain⟨rfl,rfl⟩:=h1
   obtain⟨sl,a1,a2,a3,a4,a5,a6⟩:=ih hq
   refine⟨sl,a1,by simp only[fixToks,hc,if_true,List.nil_append];exact a2,a3,a4,by simp[a5],fun o1 x hx=>?_⟩
   simp only[List.zip_cons_cons,List.mem_cons,Prod.mk.injEq,reduceCtorEq,and_false,false_or]at hx
   exact a6 o1 x hx
  .rename_i hc
   have hns:o∉ns:=by simpa using hc
   cases hob:aget s.objs o with
   | none=>
    rw[hob]at h1
    simp only at h1
    obtain⟨⟨cs',k1⟩,hq,h1⟩:=obs h1
    simp only[osi,Prod.mk.injEq]at h1
    obtain⟨rfl,rfl⟩:=h1
    obtain⟨sl,a1,a2,a3,a4,a5,a6⟩:=ih hq
    refine⟨sl,a1,by simp only[fixToks,hc,hob,if_false,Bool.false_eq_true,List.nil_append];exact a2,a3,a4,by simp[a5],fun o1 x hx=>?_⟩
    simp only[List.zip_cons_cons,List.mem_cons,Prod.mk.injEq,reduceCtorEq,and_false,false_or]at hx
    exact a6 o1 x hx
   | some ob=>
    rw[hob]at h1
    have hm:=aget_mem hob
    cases ob with
    | var c0=>
     simp only at h1
     obtain⟨⟨c1,k1⟩,hc1,h1⟩:=obs h1
     split at h1
     case isFalse=>cases h1
     rename_i hok
     obtain⟨⟨cs',k2⟩,hcs,h1⟩:=obs h1
     simp only[osi,Prod.mk.injEq]at h1
     obtain⟨rfl,rfl⟩:=h1
     obtain⟨⟨t1,t2⟩,_⟩:=h.inv.objs _ hm
     rcases t1 with⟨vs,el,G,e1,e2,e3,e4,e5⟩ | ⟨e',_⟩
     case inr=>exact e'.elim
     obtain⟨s1,b1,b2,b3,b4,b5,b6,b7,b8⟩:=expC_rep hc1 hok e3
     obtain⟨sl,a1,a2,a3,a4,a5,a6⟩:=ih hcs
     simp only at b1 a1
     subst b1
     subst a1
     have hsl1:∀N':Names,(∀i y,(s1++sl)[i]?=some y->N'.G (k+i)=y.val)->∀i y,s1[i]?=some y->N'.G (k+i)=y.val:=fun N' hN i z hz=>
      hN i z (by rw[List.getElem?_append_left (lgs hz).1];exact hz)
     have hsl2:∀N':Names,(∀i y,(s1++sl)[i]?=some y->N'.G (k+i)=y.val)->∀i y,sl[i]?=some y->N'.G (k+s1.length+i)=y.val:=fun N' hN i z hz=>by
      have:=hN (s1.length+i) z (by rw[List.getElem?_append_right (by omega)];simpa using hz)
      rw[Nat.add_assoc];exact this
     have hst:slotToks (s1++sl)=slotToks s1++slotToks sl:=by simp[slotToks]
     refine⟨s1++sl,by simp[Nat.add_assoc],?_,fun z hz=>(lma hz).elim (b3 z) (a3 z),fun g hg=>?_,by simp[a5],fun o1 x hx=>?_⟩
     .rw[hst,b2,a2]
      simp only[fixToks,hc,hob,if_false,Bool.false_eq_true,Obj.cells]
     .rw[hst]at hg
      rcases lma hg with hg | hg
      .rw[b2]at hg;exact .inr ⟨_,hm,hg⟩
      .exact a4 g hg
     .simp only[List.zip_cons_cons,List.mem_cons]at hx
      rcases hx with hx | hx
      .simp only[Prod.mk.injEq,osi]at hx
       obtain⟨rfl,rfl⟩:=hx
       refine⟨hns,⟨_,hm⟩,fun t ht=>?_,fun N' hN hat hF=>?_⟩
       .have:=b5 t ht
        omega
       .obtain⟨m1,m2,m3⟩:=Names.same_at hat
        exact⟨.inl ⟨vs,el,G,by rw[m1];exact e1,by rw[hF,m1];exact e2,b4 N' (hsl1 N' hN) m1,by rw[b8];exact e4,e5⟩,by show c1.all LV.flat=true;rw[b7];exact t2⟩
      .obtain⟨q1,q2,q3,q4⟩:=a6 o1 x hx
       exact⟨q1,q2,fun t ht=>by have:=q3 t ht;omega,fun N' hN=>q4 N' (hsl2 N' hN)⟩
    | rows z es sh hole=>
     cases hole with
     | some _=>cases h1
     | none=>
      simp only at h1
      obtain⟨⟨cs',k1⟩,hq,h1⟩:=obs h1
      simp only[osi,Prod.mk.injEq]at h1
      obtain⟨rfl,rfl⟩:=h1
      obtain⟨sl,a1,a2,a3,a4,a5,a6⟩:=ih hq
      refine⟨sl,a1,by simp only[fixToks,hc,hob,if_false,Bool.false_eq_true,Obj.cells,LV.toksL,List.nil_append];exact a2,a3,a4,by simp[a5],fun o1 x hx=>?_⟩
      simp only[List.zip_cons_cons,List.mem_cons]at hx
      rcases hx with hx | hx
      .simp only[Prod.mk.injEq,osi]at hx
       obtain⟨rfl,rfl⟩:=hx
       refine⟨hns,⟨_,hm⟩,fun t ht=>by simp[Obj.cells,LV.toksL]at ht,fun N' hN hat hF=>?_⟩
       obtain⟨m1,m2,m3⟩:=Names.same_at hat
       exact (h.inv.objs _ hm).1.named ⟨m1,m2,m3,hF⟩ ⟨fun k hk=>by simp[Obj.cells,LV.namesL]at hk,fun k hk=>by simp[Obj.cells,LV.toksL]at hk⟩
      .exact a6 o1 x hx
theorem arg_env {as:List LV}{vs:List Value}(hl:vs.length=as.length):∀x∈argEnv 0 as,∃v,vs[x.1]?=some v/\(v,x.2)∈vs.zip as:=by
 have key:∀ (as:List LV) (us:List Value) (k:Nat) (pre:List Value),pre.length=k->us.length=as.length->∀x∈argEnv k as,∃v,(pre++us)[x.1]?=some v/\(v,x.2)∈us.zip as:=by
  intro as
  induction as with
  | nil=>intro us k pre _ _ x hx;simp[argEnv]at hx
  | cons l ls ih=>
   intro us k pre hk hl x hx
   cases us with
   | nil=>simp at hl
   | cons u us=>
    simp only[argEnv]at hx
    cases hx with
    | head=>exact⟨u,by simp[<-hk],by simp⟩
    | tail _ hx=>
     obtain⟨v,h1,h2⟩:=ih us (k+1) (pre++[u]) (by simp[hk]) (by simpa using hl) x hx
     exact⟨v,by simpa using h1,by simp[h2]⟩
 exact key as vs 0 [] rfl hl
theorem body_ok (hm:P.follows .mixedOrders=true){K0:Tabs}{call:CallF}(ih:CallOk P K0 call){n:Nat}{f:Nat}{p:LF}{as:List LV}{os:List (Nat×Obj)}{r:Fin}(hchk:chkF P f p=true)
  (hnp:as.length=p.np) (hndo:(os.map (·.1)).Nodup) (hsm:os.all (fun o=>decide (o.1<1099511627776))=true) (hev:runF call n p as os=some r):FnOk P f /\
  ∀ (Wr:Nat->Prop) (K:Know) (N:Names) (w:World) (vs:List Value),Stand K0 Wr w.heap->(∀b,w.heap.size<=b->Wr b)->RepLs K N as vs->Inv Wr K N w.heap (vs.zip as) os ->
  Calls P f (List.toArray vs) w fun e w'=>∃v K' N',e = .returned v/\KExt Wr K K'/\Keep Wr w w'/\Inv Wr K' N' w'.heap [(v,r.1)] (backOf os r.2)/\∀x∈os,N'.at x.1=N.at x.1:=by
   unfold runF at hev
   obtain⟨⟨e,s'⟩,hbody,hev⟩:=obs hev
   unfold chkF at hchk
   split at hchk
   case h_2=>cases hchk
   rename_i fn hfn
   split at hchk
   case h_2=>cases hchk
   rename_i c hc
   simp only[bat]at hchk
   obtain⟨⟨⟨k1,k2⟩,k3⟩,k4⟩:=hchk
   have k3:=of_decide_eq_true k3
   have hname : fn.name ≠ "runtime.NumGoroutine" := by simpa using k4
   have hout:outOf s' p.res=some r/\(e = .nrm\/e = .ret):=by
    cases e with
    | nrm=>exact⟨hev,.inl rfl⟩
    | ex _=>cases hev
    | ret=>exact⟨hev,.inr rfl⟩
   obtain⟨hout,hexit⟩:=hout
   unfold outOf at hout
   obtain⟨ls,hls,hout⟩:=obs hout
   split at hout
   case isFalse=>cases hout
   rename_i hnd
   obtain⟨hnn,hnd⟩:=hnd
   obtain⟨⟨ls',k'⟩,hexp,hout⟩:=obs hout
   obtain⟨⟨cs',k''⟩,hexo,hout⟩:=obs hout
   obtain⟨nw,hnw,hout⟩:=obs hout
   simp only[osi]at hout
   subst hout
   refine⟨⟨fn,hfn,hname,by simp[hc]⟩,?_⟩
   intro Wr K N w vs hK0 hnew hrep hinv
   refine calls_of_wp hfn hc ?_
   have hlen:vs.length=as.length:=hrep.len
   have hrel:Rel fn.ntmps ⟨K0,os.map (·.1),N.at⟩ Wr K N { tmps:=List.toArray vs++Array.replicate (fn.ntmps-(List.toArray vs).size) undef,defers:=[] } w { env:=argEnv 0 as,objs:=os,fix:=os.map (·.1) }:=by
    have hget:∀x∈argEnv 0 as,((List.toArray vs++Array.replicate (fn.ntmps-(List.toArray vs).size) undef).getD x.1 undef,x.2)∈vs.zip as/\x.1<vs.length:=by
     intro x hx
     obtain⟨v,h1,h2⟩:=arg_env hlen x hx
     have hlt:=(lgs h1).1
     have:(List.toArray vs++Array.replicate (fn.ntmps-(List.toArray vs).size) undef).getD x.1 undef=v:=by
      rw[Array.getD_eq_getD_getElem?,Array.getElem?_append_left (by simpa using hlt)]
      simp[h1]
     rw[this];exact⟨h2,hlt⟩
    refine⟨hinv.sub ?_ (fun _ h=>h),fun x hx=>by have:=(hget x hx).2;omega,?_,hnew,hK0,rfl,fun _ _=>rfl⟩
    .intro q hq
     obtain⟨x,hx,rfl⟩:=List.mem_map.1 hq
     exact (hget x hx).1
    .simp only[Array.size_append,Array.size_replicate,List.size_toArray]
     omega
   refine code_wp hm ih n k1 hbody hrel ?_
   intro a' w' K' N' hK hk hdf hr'
   obtain⟨us,u0,u1,u2,u3⟩:=resOfs_rep hr' k2 hls
   obtain⟨s1,a1,a2,a3,a4,a5,a6,a7⟩:=expR_rep hexp u2
   obtain⟨s2,b1,b2,b3,b4,b5,b6⟩:=expFix_rep hr' hexo
   obtain⟨c1,c2⟩:=newObjs_rep hnw
   rw[hr'.fx]at b2 b5 b6
   simp only[Nat.zero_add]at a1
   subst a1
   subst b1
   have hst:slotToks (s1++s2)=slotToks s1++slotToks s2:=by simp[slotToks]
   have hocc:∀g∈slotToks (s1++s2),Occ (pairs a' s'.env) s'.objs g:=fun g hg=>by
    rw[hst]at hg
    rcases lma hg with hg | hg
    .rw[a2]at hg;exact u3 g hg
    .exact b4 g hg
   let ns:=LV.namesL ls
   let G:Nat->Value×Nat:=fun t=>match (s1++s2)[t]? with | some x=>x.val | none=>N'.G t
   let N1:Names:={ N' with G:=G }
   let nm:Nat->Nat:=fun x=>if x<1099511627776 then x else ns.getD (x-1099511627776) 0
   let N'':Names:={ M:=fun x=>N'.M (nm x),S:=fun x=>N'.S (nm x),A:=fun x=>N'.A (nm x),F:=fun x=>N'.F (nm x),G:=G }
   have hnm1:∀x,x<1099511627776->nm x=x:=fun x hx=>by simp[nm,hx]
   have hnm2:∀ (i o:Nat),ns[i]?=some o->nm (rnm i)=o:=fun i o hi=>by
    have h1:¬rnm i<1099511627776:=by unfold rnm;omega
    have h2:rnm i-1099511627776=i:=by unfold rnm;omega
    simp[nm,h1,h2,hi]
   have hG:∀ (i:Nat) (x:Slot),(s1++s2)[i]?=some x->N''.G i=x.val:=fun i x hx=>by simp only[N'',G,hx]
   have hG1:∀ (i:Nat) (x:Slot),s1[i]?=some x->N1.G (0+i)=x.val:=fun i x hx=>by
    rw[Nat.zero_add]
    exact hG i x (by rw[List.getElem?_append_left (lgs hx).1];exact hx)
   have hG2:∀ (i:Nat) (x:Slot),s2[i]?=some x->N''.G (s1.length+i)=x.val:=fun i x hx=>
    hG _ x (by rw[List.getElem?_append_right (by omega)];simpa using hx)
   have hrls:RepLs K' N'' (LV.renL (rix ns) ls') us:=by
    refine RepLs.ren (N:=N1) (rix ns) (fun o ho=>?_) (fun _ _=>rfl) (a4 N1 hG1 fun _ _=>rfl)
    rw[a6]at ho
    have hi:ns[ns.idxOf o]?=some o:=by
     rw[List.getElem?_eq_getElem (List.idxOf_lt_length_of_mem ho)]
     simp
    have:=hnm2 _ o hi
    simp only[Names.at,N'',N1,rix,this]
   have hfst:∀o,o∈os.map (·.1)->o<1099511627776:=fun o ho=>by
    obtain⟨x,hx,rfl⟩:=List.mem_map.1 ho
    simpa using List.all_eq_true.1 hsm x hx
   have hobj:∀x∈backOf os (cs'++nw),(∀t∈LV.toksL x.2.cells,s1.length<=t/\t<s1.length+s2.length)/\ObjAt K' N'' w'.heap x.1 x.2 /\
     ((x.1∉ns/\(x.1,some x.2)∈(os.map (·.1)).zip cs'/\(∃ob,(x.1,ob)∈s'.objs)/\N''.F x.1=N'.F x.1)\/∃i o,x.1=rnm i/\ns[i]?=some o/\nw[i]?=some (some x.2)/\(o,x.2)∈s'.objs/\N''.F x.1=N'.F o):=by
    intro x hx
    rcases backOf_mem (by simpa using b5) hx with hx | ⟨i,h1,h2⟩
    .obtain⟨q1,q2,q3,q4⟩:=b6 _ _ hx
     have hlt:=hnm1 x.1 (hfst _ (List.of_mem_zip hx).1)
     have hF:N''.F x.1=N'.F x.1:=by simp only[N'',hlt]
     exact⟨q3,q4 N'' hG2 (by simp only[Names.at,N'',hlt]) hF,.inl ⟨q1,hx,q2,hF⟩⟩
    .obtain⟨o,g1,g2,g3⟩:=c2 i _ h2
     have hno:=hnm2 i o g1
     have hF:N''.F x.1=N'.F o:=by simp only[N'',h1,hno]
     have ho:=(hr'.inv.objs _ g3).1
     have hM:N''.M x.1=N'.M o/\N''.S x.1=N'.S o/\N''.A x.1=N'.A o:=by simp only[N'',h1,hno,and_self]
     obtain⟨xn,xo⟩:=x
     simp only at h1 h2 g2 g3 hF ho hM ⊢
     cases xo with
     | rows z es sh hole=>
      cases hole with
      | some _=>cases g2
      | none=>
       refine⟨fun t ht=>by simp[Obj.cells,LV.toksL]at ht,?_,.inr ⟨i,o,h1,g1,h2,g3,hF⟩⟩
       obtain⟨t1,t2,_⟩:=ho
       exact⟨t1.imp (fun⟨vs,el,G,e1,e2,e3,cap,c1,c2⟩=>⟨vs,el,G,by rw[hM.1];exact e1,by rw[hF,hM.1];exact e2,e3,cap,by rw[hM.2.2,hM.1];exact c1,c2⟩)
        (fun⟨e1,e2⟩=>⟨⟨e1.1,by rw[hM.2.2];exact e1.2⟩,by rw[hF];exact e2⟩),hM.2.1.trans t2,trivial⟩
     | var cs=>
      have htk:∀ {l:List LV},l.all LV.isPv=true->LV.toksL l=[]:=fun {l} hl=>by
       induction l with
       | nil=>rfl
       | cons c r ih=>
        simp only[List.all_cons,bat]at hl
        obtain⟨p,rfl⟩:=isPv_eq hl.1
        simp only[LV.toksL,LV.toks,List.nil_append,ih hl.2]
      refine⟨fun t ht=>(by simp only[Obj.cells,htk g2]at ht;cases ht),?_,.inr ⟨i,o,h1,g1,h2,g3,hF⟩⟩
      obtain⟨t1,t2⟩:=ho
      rcases t1 with⟨vs,el,G,e1,e2,e3,e4,e5⟩ | ⟨e,_⟩
      case inr=>exact e.elim
      exact⟨.inl ⟨vs,el,G,by rw[hM.1];exact e1,by rw[hF,hM.1];exact e2,repCs_pv g2 e3,e4,fun k1=>by rw[h1]at k1;unfold rnm at k1;omega⟩,t2⟩
   have hinv':Inv Wr K' N'' w'.heap [(if h:us.toArray.size=1 then us.toArray[0] else .tuple us.toArray,one (LV.renL (rix ns) ls'))] (backOf os (cs'++nw)):=by
    refine hr'.inv.part hG hr'.inv.sat (fun _ _ _ _=>rfl) (fun x hx=>(lma hx).elim (a3 x) (b3 x)) hocc (by rw[hst,a2,b2];rw[hr'.fx]at hnd;exact hnd) ?_ ?_ ?_ ?_ ?_
    .intro q hq
     rw[List.mem_singleton]at hq
     subst hq
     exact one_rep hrls
    .rintro t (⟨q,hq,ht⟩ | ⟨x,hx,ht⟩)
     .rw[List.mem_singleton]at hq
      subst hq
      simp only[one_toks,LV.toksL_ren]at ht
      have:=a5 t ht
      simp only[List.length_append];omega
     .have:=(hobj x hx).1 t ht
      simp only[List.length_append];omega
    .intro x hx
     obtain⟨_,g1,g2⟩:=hobj x hx
     refine⟨g1,?_⟩
     rcases g2 with⟨_,_,⟨ob,q1⟩,q2⟩ | ⟨i,o,_,_,_,q1,q2⟩
     .exact⟨fun b hb=>by rw[q2]at hb;exact ((hr'.inv.objs _ q1).2.2 b hb).1,_,q1,q2⟩
     .exact⟨fun b hb=>by rw[q2]at hb;exact ((hr'.inv.objs _ q1).2.2 b hb).1,_,q1,q2⟩
    .intro x hx y hy b hb hb'
     rcases (hobj x hx).2.2 with⟨x1,x2,⟨ob,x3⟩,x4⟩ | ⟨i,o,x1,x2,x3,x4,x5⟩
     .rw[x4]at hb
      rcases (hobj y hy).2.2 with⟨y1,y2,⟨ob',y3⟩,y4⟩ | ⟨i',o',y1,y2,y3,y4,y5⟩
      .rw[y4]at hb'
       have:=congrArg Prod.fst (hr'.inv.inj _ x3 _ y3 b hb hb')
       simp only at this
       rw[<-this]at y2
       have h2:=zip_fst hndo x2 y2
       exact Prod.ext this (by simpa using h2)
      .rw[y5]at hb'
       have:=congrArg Prod.fst (hr'.inv.inj _ x3 _ y4 b hb hb')
       simp only at this
       exact absurd (this▸List.mem_of_getElem? y2) x1
     .rw[x5]at hb
      rcases (hobj y hy).2.2 with⟨y1,y2,⟨ob',y3⟩,y4⟩ | ⟨i',o',y1,y2,y3,y4,y5⟩
      .rw[y4]at hb'
       have:=congrArg Prod.fst (hr'.inv.inj _ x4 _ y3 b hb hb')
       simp only at this
       exact absurd (this▸List.mem_of_getElem? x2) y1
      .rw[y5]at hb'
       have:=congrArg Prod.fst (hr'.inv.inj _ x4 _ y4 b hb hb')
       simp only at this
       subst this
       have hii:i=i':=by
        obtain⟨l1,e1⟩:=lgs x2
        obtain⟨l2,e2⟩:=lgs y2
        exact (List.getElem_inj hnn).1 (e1.trans e2.symm)
       subst hii
       rw[x3]at y3
       exact Prod.ext (x1.trans y1.symm) (by simpa using y3)
    .intro g hg b hb
     exact spare_wr hr' (hocc g hg) hb
   have hpost:a'.defers=[]/\∃v,(results fn a'.tmps).run P w' = .ok v w'/\∃v' K' N',Ending.returned v = .returned v'/\KExt Wr K K'/\Keep Wr w w'/\Inv Wr K' N' w'.heap [(v',one (LV.renL (rix ns) ls'))] (backOf os (cs'++nw))/\∀x∈os,N'.at x.1=N.at x.1:=by
    refine⟨hdf,_,?_,_,K',N'',rfl,hK,hk,hinv',fun x hx=>?_⟩
    .have hmap:=mapM_arr (P:=P) (resVal a'.tmps) fn.results w' us u1
     rw[results_eq]
     simp[hmap]
    .have hx':x.1∈os.map (·.1):=List.mem_map.2 ⟨x,hx,rfl⟩
     have:=hr'.pin x.1 hx'
     simp only[Names.at,N'',hnm1 _ (hfst _ hx')]at this ⊢
     exact this
   rcases hexit with rfl | rfl
   .exact hpost
   .exact hpost
theorem split_rep {K:Know}{N:Names}:∀ {k:Nat}{as a0:List LV}{vs:List Value},splitArg false k as=some a0->RepLs K N as vs->RepLs K N a0 vs\/∃a1,splitArg true k as=some a1/\RepLs K N a1 vs:=by
 intro k
 induction k with
 | zero=>
  intro as a0 vs h hr
  cases as with
  | nil=>simp[splitArg]at h
  | cons l r=>
   cases l with
   | pv p=>
    cases p with
    | lst sz es=>
     simp only[splitArg,Bool.false_eq_true,false_and,if_false,osi]at h
     subst h
     obtain⟨v,vs',rfl,h1,h2⟩:=hr
     cases hv:isNilV v with
     | false=>exact .inl ⟨v,vs',rfl,⟨h1,hv⟩,h2⟩
     | true=>
      have he:es=[]:=by
       obtain⟨a,len,cap,e1,_,_,h3⟩:=h1
       rcases h3 with h3 | ⟨b,o,ha,_⟩
       .exact h3
       .subst e1;subst ha;cases hv
      subst he
      exact .inr ⟨.nk true sz []::r,by simp[splitArg],v,vs',rfl,⟨h1,hv⟩,h2⟩
    | _=>simp[splitArg]at h
   | _=>simp[splitArg]at h
 | succ k ih=>
  intro as a0 vs h hr
  cases as with
  | nil=>simp[splitArg]at h
  | cons l r=>
   simp only[splitArg]at h
   obtain⟨r',h1,h⟩:=obs h
   simp only[osi]at h
   subst h
   obtain⟨v,vs',rfl,h2,h3⟩:=hr
   rcases ih h1 h3 with h4 | ⟨a1,h4,h5⟩
   .exact .inl ⟨v,vs',rfl,h2,h4⟩
   .exact .inr ⟨l::a1,by simp[splitArg,h4],v,vs',rfl,h2,h5⟩
theorem split_toks {b:Bool}:∀ {k:Nat}{as a0:List LV}{vs:List Value},splitArg b k as=some a0->a0.length=as.length/\∀p∈vs.zip a0,∃q∈vs.zip as,p.2.toks=q.2.toks:=by
 intro k
 induction k with
 | zero=>
  intro as a0 vs h
  cases as with
  | nil=>simp[splitArg]at h
  | cons l r=>
   cases l with
   | pv p=>
    cases p with
    | lst sz es=>
     simp only[splitArg]at h
     split at h
     .cases h
     .simp only[osi]at h
      subst h
      refine⟨rfl,fun p hp=>?_⟩
      cases vs with
      | nil=>simp at hp
      | cons v vs=>
       simp only[List.zip_cons_cons,List.mem_cons]at hp
       rcases hp with rfl | hp
       .exact⟨(v,.pv (.lst sz es)),by simp,rfl⟩
       .exact⟨p,by simp[hp],rfl⟩
    | _=>simp[splitArg]at h
   | _=>simp[splitArg]at h
 | succ k ih=>
  intro as a0 vs h
  cases as with
  | nil=>simp[splitArg]at h
  | cons l r=>
   simp only[splitArg]at h
   obtain⟨r',h1,h⟩:=obs h
   simp only[osi]at h
   subst h
   cases vs with
   | nil=>exact⟨by simp[(ih (vs:=[]) h1).1],by simp⟩
   | cons v vs=>
    obtain⟨i1,i2⟩:=ih (vs:=vs) h1
    refine⟨by simp[i1],fun p hp=>?_⟩
    simp only[List.zip_cons_cons,List.mem_cons]at hp
    rcases hp with rfl | hp
    .exact⟨(v,l),by simp,rfl⟩
    .obtain⟨q,hq,e⟩:=i2 p hp
     exact⟨q,by simp[hq],e⟩
theorem Inv.other {Wr:Nat->Prop}{K:Know}{N:Names}{h:Heap}{ps ps':List (Value×LV)}{os:List (Nat×Obj)}(hi:Inv Wr K N h ps os) (hv:∀p∈ps',RepL K N p.2 p.1) (ht:∀p∈ps',∃q∈ps,p.2.toks=q.2.toks):Inv Wr K N h ps' os:=by
 have ho:∀g,Occ ps' os g->Occ ps os g:=by
  rintro g (⟨p,hp,hg⟩ | hx)
  .obtain⟨q,hq,e⟩:=ht p hp
   exact .inl ⟨q,hq,e▸hg⟩
  .exact .inr hx
 exact⟨hi.sat,hv,hi.objs,hi.inj,fun g o=>hi.toks g (ho g o),fun g g' b o o'=>hi.tinj g g' b (ho g o) (ho g' o'),fun g x o a=>hi.tobj g x (ho g o) a⟩
theorem fun_ok (hm:P.follows .mixedOrders=true){K0:Tabs}{prog:Nat->Option LF}{ext:Nat->Option (List LV->List (Nat×Obj)->Option Fin)}(hprog:∀f p,prog f=some p->chkF P (fid f) p=true)
  (hext:CallOk P K0 (fun f as os=>(ext f).bind fun e=>e as os)):∀n,CallOk P K0 (evF prog ext n):=by
 intro n
 induction n with
 | zero=>intro f as os r h;simp[evF]at h
 | succ n ih=>
  intro f as os r hev
  simp only[evF]at hev
  cases hx:ext f with
  | some e=>
   rw[hx]at hev
   exact hext f as os r (by simp[hx];exact hev)
  | none=>
   rw[hx]at hev
   simp only at hev
   obtain⟨p,hp,hev⟩:=obs hev
   split at hev
   case isFalse=>cases hev
   rename_i hnp
   obtain⟨hnp,hndo,hsm⟩:=hnp
   split at hev
   .exact body_ok hm ih (hprog f p hp) hnp hndo hsm hev
   .rename_i k hk
    obtain⟨a0,h0,hev⟩:=obs hev
    obtain⟨r0,hr0,hev⟩:=obs hev
    have hr:r0=r:=by
     split at hev
     .cases hev;rfl
     .split at hev
      .cases hev;rfl
      .cases hev
    subst hr
    have b0:=body_ok hm ih (hprog f p hp) ((split_toks (vs:=[]) h0).1.trans hnp) hndo hsm hr0
    refine⟨b0.1,fun Wr K N w vs hK0 hnew hrep hinv=>?_⟩
    rcases split_rep h0 hrep with h1 | ⟨a1,h1,h2⟩
    .exact b0.2 Wr K N w vs hK0 hnew h1 (hinv.other (h1.zip) (split_toks h0).2)
    .rw[h1]at hev
     simp only at hev
     split at hev
     .rename_i hr1
      exact (body_ok hm ih (hprog f p hp) ((split_toks (vs:=[]) h1).1.trans hnp) hndo hsm hr1).2 Wr K N w vs hK0 hnew h2 (hinv.other (h2.zip) (split_toks h1).2)
     .cases hev
end
def CallF.le (c c':CallF):Prop:=∀f as os r,c f as os=some r->c' f as os=some r
section
variable {c c':CallF}
theorem callp_le (h:c.le c'):(callp c).le (callp c'):=fun f as os r e=>by
 obtain⟨e1,e2⟩:=callp_some e
 unfold callp;rw[if_pos e1];exact h _ _ _ _ e2
theorem evOp_mono (h:c.le c'){s:LSt}{op:LOp}{e:Eff}(he:evOp c s op=some e):evOp c' s op=some e:=by
 cases op with
 | call f g ws ts us bs xs=>
  simp only[evOp]at he ⊢
  obtain⟨hd,h1,he⟩:=obs he
  rw[h1]
  simp only[obb]
  split at he
  .rename_i hw
   rw[if_pos hw]
   obtain⟨r,h2,he⟩:=obs he
   rw[h _ _ _ _ h2];exact he
  .cases he
 | callv g ws ts us bs x xs=>
  simp only[evOp]at he ⊢
  obtain⟨l,h0,he⟩:=obs he
  rw[h0]
  simp only[obb]
  split at he
  .obtain⟨hd,h1,he⟩:=obs he
   rw[h1]
   simp only[obb]
   split at he
   .rename_i hw
    rw[if_pos hw]
    obtain⟨r,h2,he⟩:=obs he
    rw[callp_le h _ _ _ _ h2];exact he
   .cases he
  .obtain⟨hd,h1,he⟩:=obs he
   rw[h1]
   simp only[obb]
   split at he
   .rename_i hw
    rw[if_pos hw]
    obtain⟨r,h2,he⟩:=obs he
    rw[callp_le h _ _ _ _ h2];exact he
   .cases he
  .cases he
 | _=>exact he
theorem evOps_mono (h:c.le c'):∀ {l:List LI}{s s':LSt},evOps c l s=some s'->evOps c' l s=some s'
 | [],_,_,he=>he
 | i::r,s,s',he=>by
  simp only[evOps]at he ⊢
  obtain⟨b,hb,he⟩:=obs he
  rw[hb]
  simp only[obb]
  cases b with
  | true=>
   simp only at he ⊢
   obtain⟨e,h1,he⟩:=obs he
   rw[evOp_mono h h1]
   exact evOps_mono h he
  | false=>exact evOps_mono h he
theorem iter_mono {f f':LSt->Option (LExit×LSt)}(h:∀s r,f s=some r->f' s=some r):∀ {n n':Nat}{s:LSt}{r:LExit×LSt},n<=n'->iter f n s=some r->iter f' n' s=some r
 | 0,_,_,_,_,he=>by simp[iter]at he
 | n+1,0,_,_,hn,_=>by omega
 | n+1,n'+1,s,r,hn,he=>by
  simp only[iter]at he ⊢
  obtain⟨x,hx,he⟩:=obs he
  rw[h _ _ hx]
  simp only[obb]
  obtain⟨e,s1⟩:=x
  cases e with
  | nrm=>exact iter_mono h (by omega) he
  | ex id=>exact he
  | ret=>exact he
theorem evC_mono (h:c.le c') {n n':Nat}(hn:n<=n'):∀ {l:LC}{s:LSt}{r:LExit×LSt},evC c n l s=some r->evC c' n' l s=some r:=by
 intro l
 induction l with
 | skip=>intro s r he;exact he
 | ret=>intro s r he;exact he
 | exit id=>intro s r he;exact he
 | stuck=>intro s r he;exact he
 | ops l=>
  intro s r he
  simp only[evC]at he ⊢
  obtain⟨x,hx,he⟩:=obs he
  rw[evOps_mono h hx];exact he
 | draw l=>
  intro s r he
  simp only[evC]at he ⊢
  split at he
  .rename_i hd
   rw[if_pos hd]
   obtain⟨x,hx,he⟩:=obs he
   rw[evOps_mono h hx];exact he
  .cases he
 | seq a b iha ihb=>
  intro s r he
  simp only[evC]at he ⊢
  obtain⟨x,hx,he⟩:=obs he
  rw[iha hx]
  obtain⟨e,s1⟩:=x
  cases e with
  | nrm=>exact ihb he
  | ex id=>exact he
  | ret=>exact he
 | cond x a b iha ihb=>
  intro s r he
  simp only[evC]at he ⊢
  obtain⟨l,hl,he⟩:=obs he
  obtain⟨t,ht,he⟩:=obs he
  rw[hl]
  simp only[obb,ht]
  cases t with
  | true=>exact iha he
  | false=>exact ihb he
 | block id a iha=>
  intro s r he
  simp only[evC]at he ⊢
  obtain⟨x,hx,he⟩:=obs he
  rw[iha hx]
  exact he
 | loop a iha=>
  intro s r he
  simp only[evC]at he ⊢
  exact iter_mono (fun s r=>iha) hn he
 | gh gs a iha=>
  intro s r he
  simp only[evC]at he ⊢
  obtain⟨x,hx,he⟩:=obs he
  rw[hx]
  exact iha he
theorem runF_mono (h:c.le c') {n n':Nat}(hn:n<=n'){p:LF}{as:List LV}{os:List (Nat×Obj)}{r:Fin}(he:runF c n p as os=some r):runF c' n' p as os=some r:=by
 unfold runF at he ⊢
 obtain⟨x,hx,he⟩:=obs he
 rw[evC_mono h hn hx]
 exact he
theorem evF_mono {prog:Nat->Option LF}{ext:Nat->Option (List LV->List (Nat×Obj)->Option Fin)}:∀ {n n':Nat},n<=n'->CallF.le (evF prog ext n) (evF prog ext n')
 | 0,_,_=>fun f as os r h=>by simp[evF]at h
 | n+1,0,hn=>by omega
 | n+1,n'+1,hn=>fun f as os r h=>by
  have hn:n<=n':=by omega
  simp only[evF]at h ⊢
  cases hx:ext f with
  | some e=>rw[hx]at h;exact h
  | none=>
   rw[hx]at h
   simp only at h ⊢
   obtain⟨p,hp,h⟩:=obs h
   rw[hp]
   simp only[obb]
   split at h
   .rename_i hc
    rw[if_pos hc]
    split at h
    .exact runF_mono (evF_mono hn) hn h
    .rename_i k hk
     obtain⟨a0,h0,h⟩:=obs h
     obtain⟨r0,hr0,h⟩:=obs h
     rw[h0]
     simp only[obb,runF_mono (evF_mono hn) hn hr0]
     split at h
     .exact h
     .split at h
      .rename_i hr1
       rw[if_pos (runF_mono (evF_mono hn) hn hr1)];exact h
      .cases h
   .cases h
end
structure Env where
 prog:Nat->Option LF
 ext:Nat->Option (List LV->List (Nat×Obj)->Option Fin)
def EvF (E:Env) (f:Nat) (args:List LV) (os:List (Nat×Obj)) (r:Fin):Prop:=∃n,evF E.prog E.ext n f args os=some r
def EvC (E:Env) (l:LC) (s:LSt) (r:LExit×LSt):Prop:=∃n,evC (evF E.prog E.ext n) n l s=some r
def EvO (E:Env) (l:List LI) (s s':LSt):Prop:=∃n,evOps (evF E.prog E.ext n) l s=some s'
section
variable {E:Env}
theorem EvC.up {l:LC}{s:LSt}{r:LExit×LSt}{n:Nat}(h:evC (evF E.prog E.ext n) n l s=some r){m:Nat}(hm:n<=m):evC (evF E.prog E.ext m) m l s=some r:=evC_mono (evF_mono hm) hm h
theorem EvC.skip {s:LSt}:EvC E .skip s (.nrm,s):=⟨0,rfl⟩
theorem EvC.ret {s:LSt}:EvC E .ret s (.ret,s):=⟨0,rfl⟩
theorem EvC.exit {s:LSt}{id:Nat}:EvC E (.exit id) s (.ex id,s):=⟨0,rfl⟩
theorem EvC.ops {l:List LI}{s s':LSt}(h:EvO E l s s'):EvC E (.ops l) s (.nrm,s'):=by
 obtain⟨n,h⟩:=h
 exact⟨n,by simp only[evC,h,obb]⟩
theorem EvC.draw {l:List LI}{s s':LSt}(hd:drawRdy s l=true) (h:EvO E l s s'):EvC E (.draw l) s (.nrm,s'):=by
 obtain⟨n,h⟩:=h
 exact⟨n,by simp only[evC,hd,if_true,h,obb]⟩
theorem EvC.seq {a b:LC}{s s':LSt}{r:LExit×LSt}(h:EvC E a s (.nrm,s')) (h':EvC E b s' r):EvC E (.seq a b) s r:=by
 obtain⟨n,h⟩:=h
 obtain⟨m,h'⟩:=h'
 refine⟨max n m,?_⟩
 simp only[evC,EvC.up h (Nat.le_max_left n m),obb,EvC.up h' (Nat.le_max_right n m)]
theorem EvC.seqR {a b:LC}{s s':LSt}(h:EvC E a s (.ret,s')):EvC E (.seq a b) s (.ret,s'):=by
 obtain⟨n,h⟩:=h
 exact⟨n,by simp only[evC,h,obb]⟩
theorem EvC.seqX {a b:LC}{s s':LSt}{id:Nat}(h:EvC E a s (.ex id,s')):EvC E (.seq a b) s (.ex id,s'):=by
 obtain⟨n,h⟩:=h
 exact⟨n,by simp only[evC,h,obb]⟩
theorem EvC.cond {c:Opd}{a b:LC}{s:LSt}{r:LExit×LSt}{t:Bool}(hc:s.opd c=some (.pv (.sc (.bool t)))) (h:EvC E (if t then a else b) s r):EvC E (.cond c a b) s r:=by
 obtain⟨n,h⟩:=h
 refine⟨n,?_⟩
 simp only[evC,hc,obb,LV.bool?]
 cases t<;>simpa using h
theorem EvC.blockN {a:LC}{s s':LSt}{id:Nat}(h:EvC E a s (.nrm,s')):EvC E (.block id a) s (.nrm,s'):=by
 obtain⟨n,h⟩:=h
 exact⟨n,by simp only[evC,h,obb]⟩
theorem EvC.blockX {a:LC}{s s':LSt}{id:Nat}(h:EvC E a s (.ex id,s')):EvC E (.block id a) s (.nrm,s'):=by
 obtain⟨n,h⟩:=h
 exact⟨n,by simp only[evC,h,obb,if_true]⟩
theorem EvC.blockO {a:LC}{s s':LSt}{id i:Nat}(hi:i≠id) (h:EvC E a s (.ex i,s')):EvC E (.block id a) s (.ex i,s'):=by
 obtain⟨n,h⟩:=h
 exact⟨n,by simp only[evC,h,obb,if_neg hi]⟩
theorem EvC.blockR {a:LC}{s s':LSt}{id:Nat}(h:EvC E a s (.ret,s')):EvC E (.block id a) s (.ret,s'):=by
 obtain⟨n,h⟩:=h
 exact⟨n,by simp only[evC,h,obb]⟩
theorem EvC.gh {gs:List Ghost}{c:LC}{s s':LSt}{r:LExit×LSt}(h:evGhosts gs s=some s') (h':EvC E c s' r):EvC E (.gh gs c) s r:=by
 obtain⟨n,h'⟩:=h'
 exact⟨n,by simp only[evC,h,obb,h']⟩
theorem EvC.loopX {a:LC}{s s':LSt}{e:LExit}(he:e ≠ .nrm) (h:EvC E a s (e,s')):EvC E (.loop a) s (e,s'):=by
 obtain⟨n,h⟩:=h
 refine⟨n+1,?_⟩
 simp only[evC,iter,EvC.up h (Nat.le_succ n),obb]
 cases e with
 | nrm=>exact absurd rfl he
 | ex _=>rfl
 | ret=>rfl
theorem EvC.loopN {a:LC}{s s':LSt}{r:LExit×LSt}(h:EvC E a s (.nrm,s')) (h':EvC E (.loop a) s' r):EvC E (.loop a) s r:=by
 obtain⟨n,h⟩:=h
 obtain⟨m,h'⟩:=h'
 refine⟨max n m+1,?_⟩
 have h1:=EvC.up h (show n<=max n m+1 by omega)
 simp only[evC,iter,h1,obb]
 simp only[evC]at h'
 exact iter_mono (fun s r hx=>evC_mono (evF_mono (by omega)) (by omega) hx) (by omega) h'
theorem EvO.nil {s:LSt}:EvO E [] s s:=⟨0,rfl⟩
theorem evOps_append {c:CallF}:∀ {a b:List LI}{s:LSt},evOps c (a++b) s=(evOps c a s).bind (evOps c b)
 | [],_,_=>rfl
 | i::a,b,s=>by
  simp only[List.cons_append,evOps]
  cases wantedL s i.guard with
  | none=>rfl
  | some t=>
   cases t with
   | true=>
    simp only[obb]
    cases evOp c s i.op with
    | none=>rfl
    | some e=>simp only[obb];exact evOps_append
   | false=>simp only[obb];exact evOps_append
theorem EvO.seg {a b:List LI}{s s' s'':LSt}(h:∀c,evOps c a s=some s') (h':EvO E b s' s''):EvO E (a++b) s s'':=by
 obtain⟨n,h'⟩:=h'
 exact⟨n,by rw[evOps_append,h];exact h'⟩
theorem EvO.all {a:List LI}{s s':LSt}(h:∀c,evOps c a s=some s'):EvO E a s s':=⟨0,h _⟩
theorem EvO.call {d:Option Nat}{f g:Nat}{ws ts us bs ks:List Nat}{xs:List (Opd×Bool)}{b:List LI}{s s' s'':LSt}{hd:Hand}{r:Fin}{e:Eff}
  (h1:handOf s 0 0 xs=some hd) (h2:hd.ns=ws/\hd.gs=ts/\hd.bs=bs) (h3:EvF E f hd.as hd.os r) (h4:callEff s g us hd r=some e) (h5:(s.apply e d).kill ks=s') (h':EvO E b s' s''):
  EvO E (⟨d,none,.call f g ws ts us bs xs,ks⟩::b) s s'':=by
 obtain⟨n,h3⟩:=h3
 obtain⟨m,h'⟩:=h'
 refine⟨max n m,?_⟩
 have h3':=evF_mono (Nat.le_max_left n m) _ _ _ _ h3
 simp only[evOps,wantedL,obb,evOp,h1,h2,if_true,and_self,h3',h4,h5]
 exact evOps_mono (evF_mono (Nat.le_max_right n m)) h'
theorem EvF.run {p:LF}{args:List LV}{os:List (Nat×Obj)}{r:Fin}{e:LExit}{s:LSt}
  (h:EvC E p.body { env:=argEnv 0 args,objs:=os,fix:=os.map (·.1) } (e,s)) (he:e = .nrm\/e = .ret) (ho:outOf s p.res=some r):∃n,runF (evF E.prog E.ext n) n p args os=some r:=by
 obtain⟨n,h⟩:=h
 refine⟨n,?_⟩
 unfold runF
 rw[h]
 rcases he with rfl | rfl<;>exact ho
theorem EvF.body {f:Nat}{p:LF}{args:List LV}{os:List (Nat×Obj)}{r:Fin}(hx:E.ext f=none) (hp:E.prog f=some p) (hk:p.split=none) (hl:args.length=p.np/\(os.map (·.1)).Nodup/\os.all (fun o=>decide (o.1<1099511627776))=true)
  (h:∃n,runF (evF E.prog E.ext n) n p args os=some r):EvF E f args os r:=by
 obtain⟨n,h⟩:=h
 refine⟨n+1,?_⟩
 simp only[evF,hx,hp,obb,if_pos hl,hk,h]
theorem EvF.body2 {f k:Nat}{p:LF}{args a0:List LV}{os:List (Nat×Obj)}{r:Fin}(hx:E.ext f=none) (hp:E.prog f=some p) (hk:p.split=some k) (hl:args.length=p.np/\(os.map (·.1)).Nodup/\os.all (fun o=>decide (o.1<1099511627776))=true)
  (h0:splitArg false k args=some a0) (h:∃n,runF (evF E.prog E.ext n) n p a0 os=some r) (h1:∀a1,splitArg true k args=some a1->∃n,runF (evF E.prog E.ext n) n p a1 os=some r):EvF E f args os r:=by
 obtain⟨n,h⟩:=h
 cases ha:splitArg true k args with
 | none=>
  refine⟨n+1,?_⟩
  simp only[evF,hx,hp,obb,if_pos hl,hk,h0,h,ha]
 | some a1=>
  obtain⟨m,h2⟩:=h1 a1 ha
  refine⟨max n m+1,?_⟩
  have e1:=runF_mono (evF_mono (prog:=E.prog) (ext:=E.ext) (Nat.le_max_left n m)) (Nat.le_max_left n m) h
  have e2:=runF_mono (evF_mono (prog:=E.prog) (ext:=E.ext) (Nat.le_max_right n m)) (Nat.le_max_right n m) h2
  simp only[evF,hx,hp,obb,if_pos hl,hk,h0,ha,e1,e2,if_true]
end
def vbd:Value->Prop
 | .string s=>s.size<=bigStr
 | _=>True
mutual
def PV.bd:PV->Prop
 | .sc v=>vbd v
 | .lst _ es=>es.length<=bigLen/\PV.bdRows es
 | .cp cs=>PV.bdRow cs
 | .clo _ cs=>PV.bdRow cs
 | .mth _ cs=>PV.bdRow cs
def PV.bdRow:List PV->Prop
 | []=>True
 | c::cs=>c.bd/\PV.bdRow cs
def PV.bdRows:List (List PV)->Prop
 | []=>True
 | e::es=>PV.bdRow e/\PV.bdRows es
end
mutual
def LV.bd:LV->Prop
 | .pv p=>p.bd
 | .nils _=>True
 | .nk _ _ es=>es.length<=bigLen/\PV.bdRows es
 | .own _ _ es=>es.length<=bigLen/\PV.bdRows es
 | .ref _ _=>True
 | .eref _ _ _=>True
 | .arr _ n=>n<=bigLen
 | .agg ls=>LV.bdL ls
 | .tup ls=>LV.bdL ls
 | .clo _ ls=>LV.bdL ls
 | .box _ es _=>es.length<=bigLen/\PV.bdRows es
 | .dead=>True
def LV.bdL:List LV->Prop
 | []=>True
 | l::ls=>l.bd/\LV.bdL ls
end
theorem bdRow_iff {cs:List PV}:PV.bdRow cs↔∀c∈cs,c.bd:=by
 induction cs with
 | nil=>simp[PV.bdRow]
 | cons c cs ih=>simp[PV.bdRow,ih]
theorem bdRows_iff {es:List (List PV)}:PV.bdRows es↔∀e∈es,PV.bdRow e:=by
 induction es with
 | nil=>simp[PV.bdRows]
 | cons c cs ih=>simp[PV.bdRows,ih]
theorem bdL_iff {ls:List LV}:LV.bdL ls↔∀l∈ls,l.bd:=by
 induction ls with
 | nil=>simp[LV.bdL]
 | cons c cs ih=>simp[LV.bdL,ih]
def Obj.bd:Obj->Prop
 | .var cs=>LV.bdL cs
 | .rows _ es _ hole=>(es.length<=bigLen/\PV.bdRows es)/\∀x,hole=some x->x.2.2.2<=bigLen
structure LSt.bd (s:LSt):Prop where
 env:∀x∈s.env,x.2.bd
 objs:∀x∈s.objs,x.2.bd
theorem Obj.bd_cells {x:Obj}(h:x.bd):LV.bdL x.cells:=by
 cases x with
 | var cs=>exact h
 | rows sz es sh hole=>
  cases hole with
  | none=>trivial
  | some y=>exact⟨h.2 y rfl,trivial⟩
def Opd.cok:Opd->Bool
 | .c (.string s)=>decide (s.size<=bigStr)
 | _=>true
def PVs.cok (zs:List PV):Bool:=zs.all fun | .sc (.string s)=>decide (s.size<=bigStr) | .sc _=>true | .lst _ es=>es.isEmpty | _=>false
def LVs.cok (zs:List LV):Bool:=zs.all fun | .nils _=>true | .pv (.sc (.string s))=>decide (s.size<=bigStr) | .pv (.sc _)=>true | .box _ es _=>es.isEmpty | _=>false
def LOp.cok:LOp->Bool
 | .mv x=>x.cok
 | .nilck x=>x.cok
 | .pick _ a b=>a.cok&&b.cok
 | .alloc _ zs=>LVs.cok zs
 | .box _ _ x=>x.cok
 | .build zs ps=>LVs.cok zs&&ps.all fun p=>p.2.2.cok
 | .bslice _ _ xs=>xs.all Opd.cok&&decide (xs.length<=bigLen)
 | .store _ _ _ _ v=>v.cok
 | .bin _ x y=>x.cok&&y.cok
 | .mkfn _ xs=>xs.all Opd.cok
 | .mkmth _ x=>x.cok
 | .mkslice _ _ _ zs _=>PVs.cok zs
 | .bsu _ _ _ _ xs=>xs.all Opd.cok&&decide (xs.length<=bigLen)
 | .apu _ _ _ _ _ x y=>x.cok&&y.cok
 | .append _ _ _ x y=>x.cok&&y.cok
 | .call _ _ _ _ _ _ as=>as.all fun a=>a.1.cok
 | .callv _ _ _ _ _ x as=>x.cok&&as.all fun a=>a.1.cok
 | .slice _ _ _ x=>x.cok
 | .sliceS _ _ x=>x.cok
 | .faddr _ x=>x.cok
 | .field _ _ _ x=>x.cok
 | .load _ _ _ x=>x.cok
 | .iaddr _ _ x _=>x.cok
 | .extract _ x=>x.cok
 | .toBytes _ x=>x.cok
 | .toStr x=>x.cok
 | .slice0 _ _ x=>x.cok
 | _=>true
def LC.cok:LC->Bool
 | .ops l=>l.all fun i=>i.op.cok
 | .draw l=>l.all fun i=>i.op.cok
 | .seq a b=>a.cok&&b.cok
 | .cond _ a b=>a.cok&&b.cok
 | .block _ a=>a.cok
 | .loop a=>a.cok
 | .gh _ a=>a.cok
 | _=>true
def resBd (r:Fin):Prop:=r.1.bd/\∀x,some x∈r.2->x.bd
def argBd (as:List LV) (os:List (Nat×Obj)):Prop:=LV.bdL as/\∀x∈os,x.2.bd
def CallBd (call:CallF):Prop:=∀f as os r,argBd as os->call f as os=some r->resBd r
section
variable {call:CallF}{s:LSt}
theorem opd_bd (h:s.bd){x:Opd}(hx:x.cok=true){l:LV}(he:s.opd x=some l):l.bd:=by
 cases x with
 | t n=>exact h.env _ (aget_mem he)
 | c v=>
  simp only[LSt.opd,osi]at he
  subst he
  cases v<;>first | trivial | (simp only[Opd.cok,decide_eq_true_eq]at hx;exact hx)
 | nil sz=>simp only[LSt.opd,osi]at he;subst he;trivial
 | f n=>simp only[LSt.opd,osi]at he;subst he;trivial
theorem opds_bd (h:s.bd):∀ {xs:List Opd}(_:xs.all Opd.cok=true){ls:List LV}(_:s.opds xs=some ls),LV.bdL ls
 | [],_,ls,he=>by simp only[LSt.opds,osi]at he;subst he;trivial
 | x::xs,hx,ls,he=>by
  simp only[List.all_cons,bat]at hx
  simp only[LSt.opds]at he
  obtain⟨l,h1,he⟩:=obs he
  obtain⟨ls',h2,he⟩:=obs he
  simp only[osi]at he
  subst he
  exact⟨opd_bd h hx.1 h1,opds_bd h hx.2 h2⟩
theorem cells_bd {l:LV}(h:l.bd):LV.bdL l.cells:=by
 cases l<;>first | exact h | exact⟨h,trivial⟩
theorem cellsN_bd {l:LV}(h:l.bd){n:Nat}{ls:List LV}(he:l.cellsN n=some ls):LV.bdL ls:=by
 unfold LV.cellsN at he
 split at he
 .cases he;exact cells_bd h
 .cases he
theorem takeN_bd {β:Type}:∀ {n:Nat}{cs:List PV}{k:List LV->Option β}{b:β},PV.bdRow cs->takeN n cs k=some b->∃ls,LV.bdL ls/\k ls=some b
 | 0,_,k,b,_,he=>⟨[],trivial,he⟩
 | n+1,[],k,b,_,he=>by cases he
 | n+1,p::ps,k,b,h,he=>by
  obtain⟨ls,h1,h2⟩:=takeN_bd (k:=fun ls=>k (.pv p::ls)) h.2 he
  exact⟨.pv p::ls,⟨h.1,h1⟩,h2⟩
theorem takeL_bd {β:Type}:∀ {n:Nat}{cs:List LV}{k:List LV->Option β}{b:β},LV.bdL cs->takeL n cs k=some b->∃ls,LV.bdL ls/\k ls=some b
 | 0,_,k,b,_,he=>⟨[],trivial,he⟩
 | n+1,[],k,b,_,he=>by cases he
 | n+1,p::ps,k,b,h,he=>by
  obtain⟨ls,h1,h2⟩:=takeL_bd (k:=fun ls=>k (p::ls)) h.2 he
  exact⟨p::ls,⟨h.1,h1⟩,h2⟩
theorem ofCells_bd {ag:Bool}{ls:List LV}{l:LV}(h:LV.bdL ls) (he:ofCells ag ls=some l):l.bd:=by
 unfold ofCells at he
 split at he
 .cases he;exact h
 .split at he
  .cases he;exact h.1
  .cases he
theorem bdRow_drop {cs:List PV}(h:PV.bdRow cs) (n:Nat):PV.bdRow (cs.drop n):=bdRow_iff.2 fun c hc=>bdRow_iff.1 h c (List.mem_of_mem_drop hc)
theorem bdL_drop {cs:List LV}(h:LV.bdL cs) (n:Nat):LV.bdL (cs.drop n):=bdL_iff.2 fun c hc=>bdL_iff.1 h c (List.mem_of_mem_drop hc)
theorem putCells_bd:∀ {cs:List LV}{n:Nat}{ls r:List LV},LV.bdL cs->LV.bdL ls->putCells cs n ls=some r->LV.bdL r
 | cs,n,[],r,h,_,he=>by cases cs<;>(simp only[putCells,osi]at he;subst he;exact h)
 | [],n,_::_,r,_,_,he=>by simp[putCells]at he
 | c::cs,n+1,l::ls,r,h,h',he=>by
  simp only[putCells]at he
  obtain⟨r',h1,he⟩:=obs he
  simp only[osi]at he
  subst he
  exact⟨h.1,putCells_bd h.2 h' h1⟩
 | c::cs,0,l::ls,r,h,h',he=>by
  simp only[putCells]at he
  obtain⟨r',h1,he⟩:=obs he
  simp only[osi]at he
  subst he
  exact⟨h'.1,putCells_bd h.2 h'.2 h1⟩
theorem toPV_bd {l:LV}{p:PV}(h:l.bd) (he:l.toPV=some p):p.bd:=by
 cases l<;>simp only[LV.toPV,osi,reduceCtorEq]at he<;>subst he
 .exact h
 .exact⟨by simp,trivial⟩
 .exact h
 .exact h
theorem toPVs_bd:∀ {ls:List LV}{ps:List PV},LV.bdL ls->toPVs ls=some ps->PV.bdRow ps
 | [],ps,_,he=>by simp only[toPVs,osi]at he;subst he;trivial
 | l::ls,ps,h,he=>by
  simp only[toPVs]at he
  obtain⟨p,h1,he⟩:=obs he
  obtain⟨qs,h2,he⟩:=obs he
  simp only[osi]at he
  subst he
  exact⟨toPV_bd h.1 h1,toPVs_bd h.2 h2⟩
theorem lst?_bd {l:LV}{r:Nat×List (List PV)}(h:l.bd) (he:l.lst?=some r):r.2.length<=bigLen/\PV.bdRows r.2:=by
 unfold LV.lst? at he
 split at he<;>simp only[osi,reduceCtorEq]at he<;>subst he
 .exact h
 .exact h
 .exact⟨by simp,trivial⟩
 .exact h
theorem cat?_bd {l:LV}{r:Nat×List (List PV)}(h:l.bd) (he:l.cat?=some r):r.2.length<=bigLen/\PV.bdRows r.2:=by
 unfold LV.cat? at he
 split at he
 .rename_i s
  cases he
  refine⟨?_,bdRows_iff.2 fun e he=>?_⟩
  .have hs:s.size<=bigStr:=h
   have:(bytesR s).length=s.size:=by unfold bytesR;rw[List.length_map];cases s;rfl
   rw[this];unfold bigLen;unfold bigStr at hs;exact hs
  .obtain⟨b,_,rfl⟩:=List.mem_map.1 he
   exact⟨trivial,trivial⟩
 .exact lst?_bd h he
theorem zs_bd {zs:List LV}(h:LVs.cok zs=true):LV.bdL zs:=by
 rw[bdL_iff]
 intro l hl
 have:=List.all_eq_true.1 h l hl
 revert this
 split<;>intro h1
 .trivial
 .simpa[LV.bd,PV.bd,vbd]using h1
 .rename_i v hv
  cases v<;>first | trivial | exact absurd rfl (hv _)
 .have:=List.isEmpty_iff.1 h1
  subst this
  exact⟨by simp,trivial⟩
 .cases h1
mutual
theorem dem_bd (gs:List Nat):∀ {l:LV},l.bd->(l.dem gs).bd
 | .pv _,h=>h
 | .nils _,h=>h
 | .nk _ _ _,h=>h
 | .own g sz es,h=>by simp only[LV.dem];split<;>exact h
 | .ref _ _,h=>h
 | .eref _ _ _,h=>h
 | .arr _ _,h=>h
 | .agg ls,h=>demL_bd gs (l:=ls) h
 | .tup ls,h=>demL_bd gs (l:=ls) h
 | .clo _ ls,h=>demL_bd gs (l:=ls) h
 | .box _ _ _,h=>h
 | .dead,h=>h
theorem demL_bd (gs:List Nat):∀ {l:List LV},LV.bdL l->LV.bdL (LV.demL gs l)
 | [],_=>trivial
 | _::_,h=>⟨dem_bd gs h.1,demL_bd gs h.2⟩
end
theorem rowsOfO_bd {os:List (Nat×Obj)}(h:∀x∈os,x.2.bd){o:Nat}{r:Nat×List (List PV)×List Shp}(he:rowsOfO os o=some r):r.2.1.length<=bigLen/\PV.bdRows r.2.1:=by
 unfold rowsOfO at he
 obtain⟨ob,hob,he⟩:=obs he
 have:=h _ (aget_mem hob)
 split at he<;>simp only[osi,reduceCtorEq]at he
 subst he
 exact this.1
mutual
theorem arg_bd {os:List (Nat×Obj)}(ho:∀x∈os,x.2.bd):∀ {l l':LV},l.bd->l.arg os=some l'->l'.bd
 | .pv _,l',h,he=>by simp only[LV.arg,osi]at he;subst he;exact h
 | .nils _,l',_,he=>by simp only[LV.arg,osi]at he;subst he;exact⟨by simp,trivial⟩
 | .nk _ _ _,l',h,he=>by simp only[LV.arg,osi]at he;subst he;exact h
 | .own _ _ _,l',h,he=>by simp only[LV.arg,osi]at he;subst he;exact h
 | .agg ls,l',h,he=>by
  simp only[LV.arg]at he
  obtain⟨r,h1,he⟩:=obs he
  simp only[osi]at he
  subst he
  exact argL_bd ho h h1
 | .ref _ _,l',_,he=>by simp[LV.arg]at he
 | .eref _ _ _,l',_,he=>by simp[LV.arg]at he
 | .arr o _,l',_,he=>by
  simp only[LV.arg]at he
  obtain⟨r,h1,he⟩:=obs he
  simp only[osi]at he
  subst he
  exact rowsOfO_bd ho h1
 | .tup _,l',_,he=>by simp[LV.arg]at he
 | .clo _ _,l',_,he=>by simp[LV.arg]at he
 | .box _ _ _,l',_,he=>by simp[LV.arg]at he
 | .dead,l',_,he=>by simp only[LV.arg,osi]at he;subst he;trivial
theorem argL_bd {os:List (Nat×Obj)}(ho:∀x∈os,x.2.bd):∀ {l l':List LV},LV.bdL l->LV.argL os l=some l'->LV.bdL l'
 | [],l',_,he=>by simp only[LV.argL,osi]at he;subst he;trivial
 | _::_,l',h,he=>by
  simp only[LV.argL]at he
  obtain⟨r,h1,he⟩:=obs he
  obtain⟨q,h2,he⟩:=obs he
  simp only[osi]at he
  subst he
  exact⟨arg_bd ho h.1 h1,argL_bd ho h.2 h2⟩
end
mutual
theorem imp_bd (g:Nat):∀ {l:LV},l.bd->(l.imp g).bd
 | .pv _,h=>h
 | .nils _,h=>h
 | .nk _ _ _,h=>h
 | .own _ _ _,h=>h
 | .ref _ _,h=>h
 | .eref _ _ _,h=>h
 | .arr _ _,h=>h
 | .agg ls,h=>impL_bd g (l:=ls) h
 | .tup ls,h=>impL_bd g (l:=ls) h
 | .clo _ ls,h=>impL_bd g (l:=ls) h
 | .box _ _ _,h=>h
 | .dead,h=>h
theorem impL_bd (g:Nat):∀ {l:List LV},LV.bdL l->LV.bdL (LV.impL g l)
 | [],_=>trivial
 | _::_,h=>⟨imp_bd g h.1,impL_bd g h.2⟩
end
mutual
theorem ren_bd (f:Nat->Nat):∀ {l:LV},l.bd->(l.ren f).bd
 | .pv _,h=>h
 | .nils _,h=>h
 | .nk _ _ _,h=>h
 | .own _ _ _,h=>h
 | .ref _ _,h=>h
 | .eref _ _ _,h=>h
 | .arr _ _,h=>h
 | .agg ls,h=>renL_bd f (l:=ls) h
 | .tup ls,h=>renL_bd f (l:=ls) h
 | .clo _ ls,h=>renL_bd f (l:=ls) h
 | .box _ _ _,h=>h
 | .dead,h=>h
theorem renL_bd (f:Nat->Nat):∀ {l:List LV},LV.bdL l->LV.bdL (LV.renL f l)
 | [],_=>trivial
 | _::_,h=>⟨ren_bd f h.1,renL_bd f h.2⟩
end
mutual
theorem kf_bd:∀ {l:LV},l.bd->l.kf.bd
 | .pv p,h=>by cases p<;>first | exact h | trivial
 | .nils _,h=>h
 | .nk _ _ _,_=>trivial
 | .own _ _ _,_=>trivial
 | .ref _ _,h=>h
 | .eref _ _ _,h=>h
 | .arr _ _,h=>h
 | .agg ls,h=>kfL_bd (l:=ls) h
 | .tup ls,h=>kfL_bd (l:=ls) h
 | .clo _ _,_=>trivial
 | .box _ _ _,_=>trivial
 | .dead,h=>h
theorem kfL_bd:∀ {l:List LV},LV.bdL l->LV.bdL (LV.kfL l)
 | [],_=>trivial
 | _::_,h=>⟨kf_bd h.1,kfL_bd h.2⟩
end
mutual
theorem exp_bd:∀ {k:Nat}{l:LV}{r:LV×Nat},l.bd->l.exp k=some r->r.1.bd
 | _,.pv _,r,h,he=>by simp only[LV.exp,osi]at he;subst he;exact h
 | _,.nils _,r,_,he=>by simp only[LV.exp,osi]at he;subst he;exact⟨by simp,trivial⟩
 | _,.nk _ _ _,r,h,he=>by simp only[LV.exp,osi]at he;subst he;exact h
 | _,.own _ _ _,r,h,he=>by simp only[LV.exp,osi]at he;subst he;exact h
 | _,.agg ls,r,h,he=>by
  simp only[LV.exp]at he
  obtain⟨q,h1,he⟩:=obs he
  simp only[osi]at he
  subst he
  exact expL_bd (l:=ls) h h1
 | _,.ref _ _,r,_,he=>by simp[LV.exp]at he
 | _,.eref _ _ _,r,_,he=>by simp[LV.exp]at he
 | _,.arr _ _,r,h,he=>by simp only[LV.exp,osi]at he;subst he;exact h
 | _,.tup _,r,_,he=>by simp[LV.exp]at he
 | _,.clo _ _,r,_,he=>by simp[LV.exp]at he
 | _,.box _ _ _,r,h,he=>by simp only[LV.exp,osi]at he;subst he;exact h
 | _,.dead,r,h,he=>by simp only[LV.exp,osi]at he;subst he;exact h
theorem expL_bd:∀ {k:Nat}{l:List LV}{r:List LV×Nat},LV.bdL l->LV.expL k l=some r->LV.bdL r.1
 | _,[],r,_,he=>by simp only[LV.expL,osi]at he;subst he;trivial
 | _,_::_,r,h,he=>by
  simp only[LV.expL]at he
  obtain⟨p,h1,he⟩:=obs he
  obtain⟨q,h2,he⟩:=obs he
  simp only[osi]at he
  subst he
  exact⟨exp_bd h.1 h1,expL_bd h.2 h2⟩
end
theorem ownCell_bd {o o':Nat}{l l':LV}(he:ownCell o o' l=some l'):l'.bd:=by
 obtain⟨k,rfl,rfl⟩:=ownCell_some he
 trivial
theorem expC_bd {o o':Nat}:∀ {k:Nat}{l:List LV}{r:List LV×Nat},LV.bdL l->LV.expC o o' k l=some r->LV.bdL r.1
 | _,[],r,_,he=>by simp only[LV.expC,osi]at he;subst he;trivial
 | _,_::_,r,h,he=>by
  simp only[LV.expC]at he
  split at he
  .rename_i hc
   obtain⟨q,h2,he⟩:=obs he
   simp only[osi]at he
   subst he
   exact⟨ownCell_bd hc,expC_bd h.2 h2⟩
  .obtain⟨p,h1,he⟩:=obs he
   obtain⟨q,h2,he⟩:=obs he
   simp only[osi]at he
   subst he
   exact⟨exp_bd h.1 h1,expC_bd h.2 h2⟩
theorem impC_bd {o o' g:Nat}:∀ {l:List LV},LV.bdL l->LV.bdL (impC o o' g l)
 | [],_=>trivial
 | l::_,h=>by
  simp only[impC]
  refine⟨?_,impC_bd h.2⟩
  split
  .rename_i hc;exact ownCell_bd hc
  .exact imp_bd g h.1
theorem bytes_bd (bs:List UInt8):PV.bdRows (ofBytes bs):=by
 rw[bdRows_iff]
 intro e he
 obtain⟨b,_,rfl⟩:=List.mem_map.1 he
 exact⟨trivial,trivial⟩
theorem bytesOf_len:∀ {es:List (List PV)}{bs:List UInt8},bytesOf es=some bs->bs.length=es.length
 | [],bs,he=>by simp only[bytesOf,osi]at he;subst he;rfl
 | e::r,bs,he=>by
  unfold bytesOf at he
  split at he
  .rename_i h;cases h
  .rename_i n r' h
   cases h
   obtain⟨bs',h1,he⟩:=obs he
   simp only[osi]at he
   subst he
   simp[bytesOf_len h1]
  .cases he
theorem partsOf_bd (h:s.bd):∀ {ps:List (Nat×Nat×Opd)}{cs r:List LV},(ps.all fun p=>p.2.2.cok)=true->LV.bdL cs->partsOf s cs ps=some r->LV.bdL r
 | [],cs,r,_,hc,he=>by simp only[partsOf,osi]at he;subst he;exact hc
 | (off,n,x)::ps,cs,r,hp,hc,he=>by
  simp only[List.all_cons,bat]at hp
  simp only[partsOf]at he
  obtain⟨l,h1,he⟩:=obs he
  obtain⟨ls,h2,he⟩:=obs he
  obtain⟨cs',h3,he⟩:=obs he
  exact partsOf_bd h hp.2 (putCells_bd hc (cellsN_bd (opd_bd h hp.1 h1) h2) h3) he
theorem rowsOf_bd (h:s.bd){sz:Nat}:∀ {xs:List Opd}{r:List (List PV)},xs.all Opd.cok=true->rowsOf s sz xs=some r->r.length=xs.length/\PV.bdRows r
 | [],r,_,he=>by simp only[rowsOf,osi]at he;subst he;exact⟨rfl,trivial⟩
 | x::xs,r,hp,he=>by
  simp only[List.all_cons,bat]at hp
  simp only[rowsOf]at he
  obtain⟨l,h1,he⟩:=obs he
  obtain⟨ps,h2,he⟩:=obs he
  split at he
  .obtain⟨r',h3,he⟩:=obs he
   simp only[osi]at he
   subst he
   obtain⟨i1,i2⟩:=rowsOf_bd h hp.2 h3
   exact⟨by simp[i1],toPVs_bd (cells_bd (opd_bd h hp.1 h1)) h2,i2⟩
  .cases he
theorem givL_bd (h:s.bd):∀ {ls:List LV}{i:Nat}{p:List LV×List (Nat×Obj)×List Nat},LV.bdL ls->givL s.objs i ls=some p->LV.bdL p.1/\∀x∈p.2.1,x.2.bd
 | [],i,p,_,he=>by simp only[givL,osi]at he;subst he;exact⟨trivial,by simp⟩
 | l::ls,i,p,hl,he=>by
  have key:(∃o n,l = .arr o n)\/(∃l',(givL s.objs i ls).bind (fun h=>some (l'::h.1,h.2.1,h.2.2))=some p/\l'.bd):=by
   cases l with
   | arr o n=>exact .inl ⟨o,n,rfl⟩
   | dead=>simp only[givL]at he;exact .inr ⟨_,he,trivial⟩
   | _=>
    simp only[givL]at he
    obtain⟨q,hq,he⟩:=obs he
    exact .inr ⟨_,he,toPV_bd hl.1 hq⟩
  rcases key with⟨o,n,rfl⟩ | ⟨l',he,hr⟩
  .simp only[givL]at he
   obtain⟨q,hq,he⟩:=obs he
   obtain⟨p',hp,he⟩:=obs he
   simp only[osi]at he
   subst he
   obtain⟨i1,i2⟩:=givL_bd h hl.2 hp
   refine⟨⟨hl.1,i1⟩,fun y hy=>?_⟩
   cases hy with
   | head=>exact⟨rowsOfO_bd h.objs hq,by simp⟩
   | tail _ hy=>exact i2 y hy
  .obtain⟨p',hp,he⟩:=obs he
   simp only[osi]at he
   subst he
   obtain⟨i1,i2⟩:=givL_bd h hl.2 hp
   exact⟨⟨hr,i1⟩,i2⟩
theorem handOf_bd (h:s.bd):∀ {xs:List (Opd×Bool)}{k i:Nat}{hd:Hand},(xs.all fun a=>a.1.cok)=true->handOf s k i xs=some hd->LV.bdL hd.as/\∀x∈hd.os,x.2.bd
 | [],k,i,hd,_,he=>by simp only[handOf,osi]at he;subst he;exact⟨trivial,by simp⟩
 | (x,false)::r,k,i,hd,hx,he=>by
  simp only[List.all_cons,bat]at hx
  simp only[handOf]at he
  obtain⟨l,h1,he⟩:=obs he
  obtain⟨l',h2,he⟩:=obs he
  obtain⟨hd',h3,he⟩:=obs he
  simp only[osi]at he
  subst he
  obtain⟨i1,i2⟩:=handOf_bd h hx.2 h3
  exact⟨⟨arg_bd h.objs (opd_bd h hx.1 h1) h2,i1⟩,i2⟩
 | (x,true)::r,k,i,hd,hx,he=>by
  simp only[List.all_cons,bat]at hx
  simp only[handOf]at he
  obtain⟨l,h1,he⟩:=obs he
  have hl:=opd_bd h hx.1 h1
  split at he
  .rename_i o
   obtain⟨ob,h2,he⟩:=obs he
   cases ob with
   | rows _ _ _ _=>cases he
   | var cs=>
    simp only at he
    obtain⟨p,h3,he⟩:=obs he
    split at he
    case isFalse=>cases he
    obtain⟨hd',h4,he⟩:=obs he
    simp only[osi]at he
    subst he
    obtain⟨i1,i2⟩:=handOf_bd h hx.2 h4
    refine⟨⟨trivial,i1⟩,fun y hy=>?_⟩
    cases hy with
    | head=>exact expC_bd (h.objs _ (aget_mem h2)) h3
    | tail _ hy=>exact i2 y hy
  .rename_i o n
   obtain⟨q,h2,he⟩:=obs he
   obtain⟨hd',h4,he⟩:=obs he
   simp only[osi]at he
   subst he
   obtain⟨i1,i2⟩:=handOf_bd h hx.2 h4
   refine⟨⟨hl,i1⟩,fun y hy=>?_⟩
   cases hy with
   | head=>exact⟨rowsOfO_bd h.objs h2,by simp⟩
   | tail _ hy=>exact i2 y hy
  .split at he
   .rename_i ls hls
    have:=givs_some hls
    subst this
    obtain⟨p,h3,he⟩:=obs he
    obtain⟨hd',h4,he⟩:=obs he
    simp only[osi]at he
    subst he
    obtain⟨i1,i2⟩:=handOf_bd h hx.2 h4
    obtain⟨j1,j2⟩:=givL_bd h hl h3
    exact⟨⟨j1,i1⟩,fun y hy=>(lma hy).elim (j2 y) (i2 y)⟩
   obtain⟨p,h3,he⟩:=obs he
   split at he
   case isFalse=>cases he
   obtain⟨hd',h4,he⟩:=obs he
   simp only[osi]at he
   subst he
   obtain⟨i1,i2⟩:=handOf_bd h hx.2 h4
   exact⟨⟨exp_bd hl h3,i1⟩,i2⟩
structure Eff.bd (e:Eff):Prop where
 upd:∀x∈e.upd,∀ob,x.2=some ob->ob.bd
 val:∀l,e.val=some l->l.bd
theorem pureE_bd {l:LV}{e:Eff}(h:l.bd) (he:pureE l=some e):e.bd:=by
 unfold pureE at he
 cases he
 exact⟨by simp,by simp[h]⟩
theorem impO_bd {o' o g:Nat}{x:Obj}(h:x.bd):(impO o' o g x).bd:=by
 cases x with
 | var cs=>exact impC_bd h
 | rows _ _ _ _=>exact h
theorem backUpd_bd {g:Nat}:∀ {ns:List Nat}{os:List (Nat×Obj)}{us:List Nat}{r:List (Option Obj)},(∀x,some x∈r->x.bd)->∀y∈backUpd g ns os us r,∀ob,y.2=some ob->ob.bd
 | n::ns,o::os,us,x::r,h,y,hy,ob,hob=>by
  simp only[backUpd,List.mem_cons]at hy
  rcases hy with rfl | hy
  .cases x with
   | none=>cases hob
   | some x=>cases hob;exact impO_bd (h x (by simp))
  .exact backUpd_bd (fun z hz=>h z (lmc _ hz)) y hy ob hob
 | [],os,u::us,x::r,h,y,hy,ob,hob=>by
  simp only[backUpd,List.mem_cons]at hy
  rcases hy with rfl | hy
  .simp only at hob;subst hob;exact h ob (by simp)
  .exact backUpd_bd (ns:=[]) (os:=[]) (fun z hz=>h z (lmc _ hz)) y hy ob hob
 | n::ns,[],u::us,x::r,h,y,hy,ob,hob=>by
  simp only[backUpd,List.mem_cons]at hy
  rcases hy with rfl | hy
  .simp only at hob;subst hob;exact h ob (by simp)
  .exact backUpd_bd (ns:=[]) (os:=[]) (fun z hz=>h z (lmc _ hz)) y hy ob hob
 | [],_,[],_,_,y,hy,_,_=>by simp[backUpd]at hy
 | _::_,[],[],_,_,y,hy,_,_=>by simp[backUpd]at hy
 | [],_,_::_,[],_,y,hy,_,_=>by simp[backUpd]at hy
 | _::_,[],_::_,[],_,y,hy,_,_=>by simp[backUpd]at hy
 | _::_,_::_,_,[],_,y,hy,_,_=>by simp[backUpd]at hy
theorem callEff_bd {g:Nat}{us:List Nat}{hd:Hand}{r:Fin}{e:Eff}(hr:resBd r) (he:callEff s g us hd r=some e):e.bd:=by
 unfold callEff at he
 split at he
 .cases he
  refine⟨backUpd_bd hr.2,fun l hl=>?_⟩
  simp only[osi]at hl
  subst hl
  refine ren_bd _ (imp_bd g ?_)
  unfold kfOf
  split
  .exact hr.1
  .exact kf_bd hr.1
 .cases he
theorem pv_row_bdL {ps:List PV}(h:PV.bdRow ps):LV.bdL (ps.map .pv):=by
 rw[bdL_iff]
 intro l hl
 obtain⟨p,hp,rfl⟩:=List.mem_map.1 hl
 exact bdRow_iff.1 h p hp
theorem bdL_append {a b:List LV}(h:LV.bdL a) (h':LV.bdL b):LV.bdL (a++b):=by
 rw[bdL_iff]at *
 intro l hl
 exact (lma hl).elim (h l) (h' l)
end
section
variable {call:CallF}{s:LSt}
theorem into_bd {os:List (Nat×Obj)}(ho:∀x∈os,x.2.bd):∀ {x:Shp}{l:LV}{p:PV×List Nat},l.bd->l.into os x=some p->p.1.bd
 | .v,l,p,h,he=>by
  simp only[LV.into]at he
  obtain⟨q,h1,he⟩:=obs he
  cases he
  exact toPV_bd h h1
 | .u sh,l,p,h,he=>by
  cases l with
  | nils z=>simp only[LV.into,osi]at he;subst he;exact⟨by simp,trivial⟩
  | arr o n=>
   simp only[LV.into]at he
   obtain⟨r,h1,he⟩:=obs he
   split at he
   .cases he;exact rowsOfO_bd ho h1
   .cases he
  | _=>simp[LV.into]at he
theorem intoL_bd {os:List (Nat×Obj)}(ho:∀x∈os,x.2.bd):∀ {ls:List LV}{sh:List Shp}{p:List PV×List Nat},LV.bdL ls->LV.intoL os sh ls=some p->PV.bdRow p.1
 | [],sh,p,_,he=>by cases sh<;>(simp only[LV.intoL,osi]at he;subst he;trivial)
 | l::ls,sh,p,h,he=>by
  cases sh <;>
  .simp only[LV.intoL]at he
   obtain⟨q,h1,he⟩:=obs he
   obtain⟨r,h2,he⟩:=obs he
   cases he
   exact⟨into_bd ho h.1 h1,intoL_bd ho h.2 h2⟩
theorem outRow_bd:∀ {ps:List PV}{sh:List Shp},PV.bdRow ps->LV.bdL (outRow sh ps)
 | [],sh,_=>by cases sh<;>trivial
 | p::ps,[],h=>⟨h.1,outRow_bd h.2⟩
 | p::ps,x::sh,h=>by
  refine⟨?_,outRow_bd h.2⟩
  cases x with
  | v=>exact h.1
  | self=>trivial
  | u sh'=>cases p<;>first | exact h.1 | trivial
theorem bdL_set {cs:List LV}(h:LV.bdL cs){i:Nat}{l:LV}(hl:l.bd):LV.bdL (cs.set i l):=by
 rw[bdL_iff]
 intro x hx
 rcases List.mem_or_eq_of_mem_set hx with hx | rfl
 .exact bdL_iff.1 h x hx
 .exact hl
theorem bdRow_set {cs:List PV}(h:PV.bdRow cs){i:Nat}{l:PV}(hl:l.bd):PV.bdRow (cs.set i l):=by
 rw[bdRow_iff]
 intro x hx
 rcases List.mem_or_eq_of_mem_set hx with hx | rfl
 .exact bdRow_iff.1 h x hx
 .exact hl
theorem bdRows_set {cs:List (List PV)}(h:PV.bdRows cs){i:Nat}{l:List PV}(hl:PV.bdRow l):PV.bdRows (cs.set i l):=by
 rw[bdRows_iff]
 intro x hx
 rcases List.mem_or_eq_of_mem_set hx with hx | rfl
 .exact bdRows_iff.1 h x hx
 .exact hl
theorem rowLV_bd {sh:List Shp}{hole:Option (Nat×Nat×Nat×Nat)}{i:Nat}{e:List PV}(h:PV.bdRow e) (hh:∀x,hole=some x->x.2.2.2<=bigLen):LV.bdL (rowLV sh hole i e):=by
 cases hole with
 | none=>exact outRow_bd h
 | some y=>
  obtain⟨j,off,o,n⟩:=y
  simp only[rowLV]
  split
  .exact bdL_set (outRow_bd h) (hh _ rfl)
  .exact outRow_bd h
theorem putPV_bd:∀ {cs:List PV}{n:Nat}{ls r:List PV},PV.bdRow cs->PV.bdRow ls->putPV cs n ls=some r->PV.bdRow r
 | cs,n,[],r,h,_,he=>by cases cs<;>(simp only[putPV,osi]at he;subst he;exact h)
 | [],n,_::_,r,_,_,he=>by simp[putPV]at he
 | c::cs,n+1,l::ls,r,h,h',he=>by
  simp only[putPV]at he
  obtain⟨r',h1,he⟩:=obs he
  simp only[osi]at he
  subst he
  exact⟨h.1,putPV_bd h.2 h' h1⟩
 | c::cs,0,l::ls,r,h,h',he=>by
  simp only[putPV]at he
  obtain⟨r',h1,he⟩:=obs he
  simp only[osi]at he
  subst he
  exact⟨h'.1,putPV_bd h.2 h'.2 h1⟩
theorem pzs_bd {zs:List PV}(h:PVs.cok zs=true):PV.bdRow zs:=by
 rw[bdRow_iff]
 intro l hl
 have:=List.all_eq_true.1 h l hl
 revert this
 split<;>intro h1
 .simpa[PV.bd,vbd]using h1
 .rename_i v hv
  cases v<;>first | trivial | exact absurd rfl (hv _)
 .have:=List.isEmpty_iff.1 h1
  subst this
  exact⟨by simp,trivial⟩
 .cases h1
theorem gone_bd {us:List Nat}{y:Nat×Obj}(h:y.2.bd):∀x∈gone us++[(y.1,some y.2)],∀ob,x.2=some ob->ob.bd:=by
 intro x hx ob hob
 rcases lma hx with hx | hx
 .obtain⟨u,_,rfl⟩:=List.mem_map.1 hx
  cases hob
 .rw[List.mem_singleton]at hx
  subst hx
  cases hob
  exact h
theorem rowsIn_bd (h:s.bd){sz:Nat}{sh:List Shp}:∀ {xs:List Opd}{r:List (List PV)×List Nat},xs.all Opd.cok=true->rowsIn s sh sz xs=some r->r.1.length=xs.length/\PV.bdRows r.1
 | [],r,_,he=>by simp only[rowsIn,osi]at he;subst he;exact⟨rfl,trivial⟩
 | x::xs,r,hp,he=>by
  simp only[List.all_cons,bat]at hp
  simp only[rowsIn]at he
  obtain⟨l,h1,he⟩:=obs he
  obtain⟨ps,h2,he⟩:=obs he
  split at he
  .obtain⟨r',h3,he⟩:=obs he
   simp only[osi]at he
   subst he
   obtain⟨i1,i2⟩:=rowsIn_bd h hp.2 h3
   exact⟨by simp[i1],intoL_bd h.objs (cells_bd (opd_bd h hp.1 h1)) h2,i2⟩
  .cases he
theorem apX_bd (h:s.bd){sz:Nat}{sh:List Shp}{gx:Option Nat}{l:LV}{es:List (List PV)}(he:apX s.objs sz sh gx l=some es):PV.bdRows es:=by
 unfold apX at he
 split at he
 .split at he
  .cases he;trivial
  .cases he
 .split at he
  .obtain⟨r,h1,he⟩:=obs he
   split at he
   .cases he;exact (rowsOfO_bd h.objs h1).2
   .cases he
  .cases he
 .cases he
theorem apY_bd (h:s.bd){sz:Nat}{sh:List Shp}{gx gy:Option Nat}{l:LV}{es:List (List PV)}(hl:l.bd) (he:apY s.objs sz sh gx gy l=some es):PV.bdRows es:=by
 unfold apY at he
 split at he
 .split at he
  .obtain⟨r,h1,he⟩:=obs he
   split at he
   .cases he;exact (rowsOfO_bd h.objs h1).2
   .cases he
  .cases he
 .split at he
  .obtain⟨r,h1,he⟩:=obs he
   split at he
   .cases he;exact (cat?_bd hl h1).2
   .cases he
  .cases he
theorem unbox_bd {l:LV}(h:l.bd):l.unbox.bd:=by
 cases l<;>first | exact h | trivial
theorem unboxL_bd {ls:List LV}(h:LV.bdL ls):LV.bdL (ls.map LV.unbox):=by
 rw[bdL_iff]
 intro l hl
 obtain⟨x,hx,rfl⟩:=List.mem_map.1 hl
 exact unbox_bd (bdL_iff.1 h x hx)
theorem evOp_bd (hc:CallBd call) (h:s.bd){op:LOp}(hk:op.cok=true){e:Eff}(he:evOp call s op=some e):e.bd:=by
 cases op with
 | mv x=>
  simp only[evOp]at he;simp only[LOp.cok]at hk
  obtain⟨l,h1,he⟩:=obs he
  exact pureE_bd (opd_bd h hk h1) he
 | nilck x=>
  simp only[evOp]at he;simp only[LOp.cok]at hk
  obtain⟨l,h1,he⟩:=obs he
  have:=opd_bd h hk h1
  split at he<;>first | exact pureE_bd this he | cases he
 | pick c a b=>
  simp only[evOp]at he;simp only[LOp.cok,bat]at hk
  obtain⟨l,h1,he⟩:=obs he
  obtain⟨t,h2,he⟩:=obs he
  obtain⟨l',h3,he⟩:=obs he
  refine pureE_bd ?_ he
  split at h3
  .exact opd_bd h hk.1 h3
  .exact opd_bd h hk.2 h3
 | alloc o zs=>
  simp only[evOp]at he;simp only[LOp.cok]at hk
  split at he
  .cases he
   exact⟨by simp only[List.mem_singleton];rintro x rfl ob hob;cases hob;exact zs_bd hk,by simp[LV.bd]⟩
  .cases he
 | box o n x=>
  simp only[evOp]at he;simp only[LOp.cok]at hk
  obtain⟨l,h1,he⟩:=obs he
  obtain⟨ls,h2,he⟩:=obs he
  split at he
  .cases he
   exact⟨by simp only[List.mem_singleton];rintro x rfl ob hob;cases hob;exact cellsN_bd (opd_bd h hk h1) h2,by simp[LV.bd]⟩
  .cases he
 | build zs ps=>
  simp only[evOp]at he;simp only[LOp.cok,bat]at hk
  obtain⟨ls,h1,he⟩:=obs he
  exact pureE_bd (l := .agg ls) (partsOf_bd h hk.2 (zs_bd hk.1) h1) he
 | bslice g sz xs=>
  simp only[evOp]at he;simp only[LOp.cok,bat]at hk
  obtain⟨es,h1,he⟩:=obs he
  cases he
  obtain⟨i1,i2⟩:=rowsOf_bd h hk.1 h1
  exact⟨by simp,fun l hl=>by cases hl;exact⟨by rw[i1];exact of_decide_eq_true hk.2,i2⟩⟩
 | load n ag rd x=>
  simp only[evOp]at he;simp only[LOp.cok]at hk
  obtain⟨l,h1,he⟩:=obs he
  have hl:=opd_bd h hk h1
  split at he
  .obtain⟨ls,i1,i2⟩:=takeN_bd hl he
   obtain⟨l',i3,i4⟩:=obs i2
   exact pureE_bd (ofCells_bd i1 i3) i4
  .split at he
   .obtain⟨ob,h2,he⟩:=obs he
    have hob:=h.objs _ (aget_mem h2)
    cases ob with
    | rows _ _ _ _=>cases he
    | var cs=>
     obtain⟨ls,i1,i2⟩:=takeL_bd (bdL_drop hob _) he
     obtain⟨l',i3,i4⟩:=obs i2
     exact pureE_bd (ofCells_bd (unboxL_bd i1) i3) i4
   .cases he
  .split at he
   .obtain⟨ob,h2,he⟩:=obs he
    have hob:=h.objs _ (aget_mem h2)
    cases ob with
    | var _=>cases he
    | rows sz es sh hole=>
     obtain⟨cs,h3,he⟩:=obs he
     obtain⟨ls,i1,i2⟩:=takeL_bd (bdL_drop (rowLV_bd (bdRows_iff.1 hob.1.2 cs (List.mem_of_getElem? h3)) hob.2) _) he
     obtain⟨l',i3,i4⟩:=obs i2
     exact pureE_bd (ofCells_bd i1 i3) i4
   .cases he
  .cases he
 | store n rd us x v=>
  simp only[evOp]at he;simp only[LOp.cok]at hk
  obtain⟨a,h1,he⟩:=obs he
  obtain⟨l,h2,he⟩:=obs he
  obtain⟨ls,h3,he⟩:=obs he
  have hls:=cellsN_bd (opd_bd h hk h2) h3
  split at he
  .split at he
   .obtain⟨ob,h4,he⟩:=obs he
    have hob:=h.objs _ (aget_mem h4)
    cases ob with
    | rows _ _ _ _=>cases he
    | var cs=>
     obtain⟨cs',h5,he⟩:=obs he
     cases he
     exact⟨by simp only[List.mem_singleton];rintro x rfl ob hob';cases hob';exact putCells_bd hob hls h5,by simp⟩
   .cases he
  .split at he
   .obtain⟨ob,h4,he⟩:=obs he
    have hob:=h.objs _ (aget_mem h4)
    cases ob with
    | var _=>cases he
    | rows sz es sh hole=>
     obtain⟨cs,h6,he⟩:=obs he
     obtain⟨q,h7,he⟩:=obs he
     split at he
     case isFalse=>cases he
     obtain⟨cs',h5,he⟩:=obs he
     cases he
     refine⟨gone_bd (y:=(_,_)) ⟨⟨by simpa using hob.1.1,bdRows_set hob.1.2 (putPV_bd (bdRows_iff.1 hob.1.2 cs (List.mem_of_getElem? h6)) (intoL_bd h.objs hls h7) h5)⟩,fun x hx=>?_⟩,by simp⟩
     unfold holeOff at hx
     split at hx
     .cases hx
     .split at hx
      .cases hx
      .cases hx;exact hob.2 _ rfl
   .cases he
  .cases he
 | bin op x y=>
  simp only[evOp]at he
  obtain⟨a,h1,he⟩:=obs he
  obtain⟨a',h2,he⟩:=obs he
  obtain⟨b,h3,he⟩:=obs he
  obtain⟨b',h4,he⟩:=obs he
  obtain⟨v,h5,he⟩:=obs he
  refine pureE_bd ?_ he
  show vbd v
  unfold scBin at h5
  split at h5
  .split at h5
   .unfold intBin at h5
    split at h5<;>first | (split at h5<;>first | (cases h5;trivial) | cases h5) | (cases h5;trivial) | cases h5
   .cases h5
  .unfold strBin at h5
   split at h5
   .split at h5
    .rename_i hle
     cases h5
     simpa[vbd,ByteArray.size_append]using hle
    .cases h5
   all_goals first | (cases h5;trivial) | cases h5
  .cases h5
 | binb ne x y=>
  simp only[evOp]at he
  obtain⟨a,h1,he⟩:=obs he
  obtain⟨a',h2,he⟩:=obs he
  obtain⟨b,h3,he⟩:=obs he
  obtain⟨b',h4,he⟩:=obs he
  (refine pureE_bd ?_ he;trivial)
 | isnil ne x=>
  simp only[evOp]at he
  obtain⟨a,h1,he⟩:=obs he
  obtain⟨b,h2,he⟩:=obs he
  (refine pureE_bd ?_ he;trivial)
 | eqs ne ks x y=>
  simp only[evOp]at he
  obtain⟨a,h1,he⟩:=obs he
  obtain⟨b,h2,he⟩:=obs he
  obtain⟨t,h3,he⟩:=obs he
  (refine pureE_bd ?_ he;trivial)
 | un op x=>
  simp only[evOp]at he
  obtain⟨a,h1,he⟩:=obs he
  obtain⟨a',h2,he⟩:=obs he
  obtain⟨v,h5,he⟩:=obs he
  refine pureE_bd ?_ he
  show vbd v
  unfold scUn at h5
  split at h5<;>first | (cases h5;trivial) | cases h5
 | conv k x=>
  simp only[evOp]at he
  obtain⟨a,h1,he⟩:=obs he
  obtain⟨a',h2,he⟩:=obs he
  (refine pureE_bd ?_ he;trivial)
 | toStr x=>
  simp only[evOp]at he;simp only[LOp.cok]at hk
  obtain⟨a,h1,he⟩:=obs he
  obtain⟨r,h2,he⟩:=obs he
  obtain⟨bs,h3,he⟩:=obs he
  refine pureE_bd ?_ he
  have h4:=(lst?_bd (opd_bd h hk h1) h2).1
  show ByteArray.size _<=bigStr
  have h5:=bytesOf_len h3
  show (List.toArray bs).size<=bigStr
  rw[List.size_toArray,h5]
  exact h4
 | toBytes g x=>
  simp only[evOp]at he;simp only[LOp.cok]at hk
  obtain⟨a,h1,he⟩:=obs he
  obtain⟨b,h2,he⟩:=obs he
  split at he
  .rename_i hb
   exact pureE_bd (l := .pv (.lst 1 _)) ⟨by simpa[ofBytes]using hb,bytes_bd _⟩ he
  .cases he
 | mkfn f caps=>
  simp only[evOp]at he;simp only[LOp.cok]at hk
  obtain⟨ls,h1,he⟩:=obs he
  obtain⟨ps,h2,he⟩:=obs he
  exact pureE_bd (l := .pv (.clo f ps)) (toPVs_bd (opds_bd h hk h1) h2) he
 | mkmth f x=>
  simp only[evOp]at he;simp only[LOp.cok]at hk
  obtain⟨l,h1,he⟩:=obs he
  have hl:=opd_bd h hk h1
  split at he
  .split at he
   .obtain⟨ps,h2,he⟩:=obs he
    exact pureE_bd (l := .pv (.mth f ps)) (toPVs_bd hl h2) he
   .cases he
  .cases he
 | mkslice o sz sh zs n=>
  simp only[evOp]at he;simp only[LOp.cok]at hk
  obtain⟨i,h1,he⟩:=obs he
  split at he
  .rename_i hc
   cases he
   have hn:i.toNat<=bigLen:=by have:=hc.2.2.1;have:=hc.2.1;omega
   have key:Obj.bd (.rows sz (List.replicate i.toNat zs) sh none):=⟨⟨by simpa using hn,bdRows_iff.2 fun r hr=>by rw[(List.mem_replicate.1 hr).2];exact pzs_bd hk⟩,by simp⟩
   exact⟨by simp only[List.mem_singleton];rintro x rfl ob hob';cases hob';exact key,fun l hl=>by cases hl;exact hn⟩
  .cases he
 | bsu o sz sh us xs=>
  simp only[evOp]at he;simp only[LOp.cok,bat]at hk
  obtain⟨q,h1,he⟩:=obs he
  split at he
  .cases he
   obtain⟨i1,i2⟩:=rowsIn_bd h hk.1 h1
   have hn:q.1.length<=bigLen:=by rw[i1];exact of_decide_eq_true hk.2
   exact⟨gone_bd (y:=(o,_)) ⟨⟨hn,i2⟩,by simp⟩,fun l hl=>by cases hl;exact hn⟩
  .cases he
 | apu o sz sh gx gy x y=>
  simp only[evOp]at he;simp only[LOp.cok,bat]at hk
  obtain⟨lx,h1,he⟩:=obs he
  obtain⟨ly,h2,he⟩:=obs he
  obtain⟨es,h3,he⟩:=obs he
  obtain⟨ys,h4,he⟩:=obs he
  split at he
  .rename_i hc
   cases he
   have i1:=apX_bd h h3
   have i2:=apY_bd h (opd_bd h hk.2 h2) h4
   exact⟨gone_bd (y:=(o,_)) ⟨⟨by rw[List.length_append];exact hc.2,bdRows_iff.2 fun e he=>(lma he).elim (bdRows_iff.1 i1 e) (bdRows_iff.1 i2 e)⟩,by simp⟩,fun l hl=>by cases hl;exact hc.2⟩
  .cases he
 | slice sz lo hi x=>
  simp only[evOp]at he;simp only[LOp.cok]at hk
  obtain⟨lo',h1,he⟩:=obs he
  obtain⟨hi',h2,he⟩:=obs he
  obtain⟨l,h3,he⟩:=obs he
  obtain⟨r,h4,he⟩:=obs he
  split at he
  .obtain⟨l',h5,he⟩:=obs he
   refine pureE_bd ?_ he
   have hr:=lst?_bd (opd_bd h hk h3) h4
   unfold sliceL at h5
   simp only at h5
   split at h5
   .cases h5
    refine⟨?_,?_⟩
    .rw[List.length_take,List.length_drop]
     have:=hr.1
     omega
    .rw[bdRows_iff]
     intro e he
     exact bdRows_iff.1 hr.2 e (List.mem_of_mem_drop (List.mem_of_mem_take he))
   .cases h5
  .cases he
 | sliceS lo hi x=>
  simp only[evOp]at he;simp only[LOp.cok]at hk
  obtain⟨lo',h1,he⟩:=obs he
  obtain⟨hi',h2,he⟩:=obs he
  obtain⟨l,h3,he⟩:=obs he
  obtain⟨b,h4,he⟩:=obs he
  obtain⟨l',h5,he⟩:=obs he
  refine pureE_bd ?_ he
  have hl:=opd_bd h hk h3
  have hb:b.size<=bigStr:=by
   unfold LV.str? at h4
   split at h4
   .cases h4;exact hl
   .cases h4
  unfold sliceS at h5
  simp only at h5
  split at h5
  .cases h5
   show ByteArray.size _<=bigStr
   rw[ByteArray.size_extract]
   omega
  .cases h5
 | slice0 g sz x=>simp[evOp]at he
 | faddr off x=>
  simp only[evOp]at he;simp only[LOp.cok]at hk
  obtain⟨l,h3,he⟩:=obs he
  have hl:=opd_bd h hk h3
  split at he
  .exact pureE_bd (l := .pv (.cp _)) (bdRow_drop hl off) he
  . (refine pureE_bd ?_ he;trivial)
  . (refine pureE_bd ?_ he;trivial)
  .cases he
 | iaddr sz rd x i=>
  simp only[evOp]at he;simp only[LOp.cok]at hk
  obtain⟨j,h1,he⟩:=obs he
  obtain⟨l,h2,he⟩:=obs he
  have hl:=opd_bd h hk h2
  split at he
  .split at he
   .obtain⟨ob,h3,he⟩:=obs he
    cases ob with
    | var _=>cases he
    | rows z _ _ _=>
     simp only at he
     split at he
     . (refine pureE_bd ?_ he;trivial)
     .cases he
   .cases he
  .obtain⟨r,h3,he⟩:=obs he
   split at he
   .obtain⟨e',h4,he⟩:=obs he
    exact pureE_bd (l := .pv (.cp _)) (bdRows_iff.1 (lst?_bd hl h3).2 _ (List.mem_of_getElem? h4)) he
   .cases he
 | field off n ag x=>
  simp only[evOp]at he;simp only[LOp.cok]at hk
  obtain⟨l,h2,he⟩:=obs he
  have hl:=opd_bd h hk h2
  split at he
  .obtain⟨ls,i1,i2⟩:=takeL_bd (bdL_drop hl _) he
   obtain⟨l',i3,i4⟩:=obs i2
   exact pureE_bd (ofCells_bd i1 i3) i4
  .cases he
 | index x i=>
  simp only[evOp]at he
  obtain⟨j,h1,he⟩:=obs he
  obtain⟨l,h2,he⟩:=obs he
  obtain⟨b,h3,he⟩:=obs he
  split at he
  .obtain⟨c,h4,he⟩:=obs he
   (refine pureE_bd ?_ he;trivial)
  .cases he
 | extract k x=>
  simp only[evOp]at he;simp only[LOp.cok]at hk
  obtain⟨l,h2,he⟩:=obs he
  have hl:=opd_bd h hk h2
  split at he
  .obtain⟨l',h3,he⟩:=obs he
   exact pureE_bd (bdL_iff.1 hl _ (List.mem_of_getElem? h3)) he
  .cases he
 | lenS x=>
  simp only[evOp]at he
  obtain⟨l,h2,he⟩:=obs he
  obtain⟨b,h3,he⟩:=obs he
  (refine pureE_bd ?_ he;trivial)
 | len x=>
  simp only[evOp]at he
  obtain⟨l,h2,he⟩:=obs he
  split at he
  . (refine pureE_bd ?_ he;trivial)
  .obtain⟨r,h3,he⟩:=obs he
   (refine pureE_bd ?_ he;trivial)
 | append g sz gx x y=>
  simp only[evOp]at he;simp only[LOp.cok,bat]at hk
  obtain⟨l,h1,he⟩:=obs he
  obtain⟨r,h2,he⟩:=obs he
  have hr:=cat?_bd (opd_bd h hk.2 h1) h2
  split at he
  .obtain⟨l',h3,he⟩:=obs he
   have hl':=opd_bd h hk.1 h3
   split at he
   .split at he
    .cases he
     exact⟨by simp,fun l hl=>by cases hl;exact hr⟩
    .cases he
   .split at he
    .rename_i hc
     cases he
     exact⟨by simp,fun l hl=>by
      cases hl
      refine⟨by rw[List.length_append];exact hc.2.2,?_⟩
      rw[bdRows_iff]
      intro e he
      exact (lma he).elim (bdRows_iff.1 hl'.2 e) (bdRows_iff.1 hr.2 e)⟩
    .cases he
   .cases he
  .cases he
 | max x y=>
  simp only[evOp]at he
  obtain⟨a,h1,he⟩:=obs he
  obtain⟨a',h2,he⟩:=obs he
  obtain⟨b,h3,he⟩:=obs he
  obtain⟨b',h4,he⟩:=obs he
  split at he
  . (refine pureE_bd ?_ he;trivial)
  .cases he
 | call f g ws ts us bs args=>
  simp only[evOp]at he;simp only[LOp.cok]at hk
  obtain⟨hd,h1,he⟩:=obs he
  split at he
  .obtain⟨r,h2,he⟩:=obs he
   exact callEff_bd (hc _ _ _ _ (handOf_bd h hk h1) h2) he
  .cases he
 | callv g ws ts us bs x args=>
  simp only[evOp]at he;simp only[LOp.cok,bat]at hk
  obtain⟨l,h0,he⟩:=obs he
  have hl:=opd_bd h hk.1 h0
  split at he
  .obtain⟨hd,h1,he⟩:=obs he
   split at he
   .obtain⟨r,h2,he⟩:=obs he
    obtain⟨i1,i2⟩:=handOf_bd h hk.2 h1
    exact callEff_bd (hc _ _ _ _ ⟨bdL_append i1 (pv_row_bdL hl),i2⟩ (callp_some h2).2) he
   .cases he
  .obtain⟨hd,h1,he⟩:=obs he
   split at he
   .obtain⟨r,h2,he⟩:=obs he
    obtain⟨i1,i2⟩:=handOf_bd h hk.2 h1
    exact callEff_bd (hc _ _ _ _ ⟨show LV.bdL (_::_) from ⟨show LV.bd (.agg (List.map LV.pv _)) from pv_row_bdL hl,i1⟩,i2⟩ (callp_some h2).2) he
   .cases he
  .cases he
theorem aset_mem' {α:Type}{l:List (Nat×α)}{n:Nat}{v:α}{x:Nat×α}(h:x∈aset l n v):x=(n,v)\/x∈l:=by
 have key:∀ {l:List (Nat×α)},x∈ains l n v->x=(n,v)\/x∈l:=by
  intro l
  induction l with
  | nil=>intro h;simpa[ains]using h
  | cons y r ih=>
   intro h
   obtain⟨k,u⟩:=y
   simp only[ains]at h
   split at h
   .simpa using h
   .rcases lm1 h with h | h
    .exact .inr (by simp[h])
    .rcases ih h with h | h
     .exact .inl h
     .exact .inr (lmc _ h)
 rcases key h with h | h
 .exact .inl h
 .exact .inr (adel_mem h).1
theorem demEnv_bd {gs:List Nat}:∀ {env:List (Nat×LV)},(∀x∈env,x.2.bd)->∀x∈demEnv gs env,x.2.bd
 | [],_,x,hx=>by cases hx
 | (t,l)::r,h,x,hx=>by
  simp only[demEnv,List.mem_cons]at hx
  rcases hx with rfl | hx
  .exact dem_bd gs (h (t,l) (by simp))
  .exact demEnv_bd (fun y hy=>h y (lmc _ hy)) x hx
theorem demObj_bd {gs:List Nat}{x:Obj}(h:x.bd):(x.dem gs).bd:=by
 cases x with
 | var cs=>exact demL_bd gs h
 | rows _ _ _ _=>exact h
theorem demObjs_bd {gs:List Nat}:∀ {env:List (Nat×Obj)},(∀x∈env,x.2.bd)->∀x∈demObjs gs env,x.2.bd
 | [],_,x,hx=>by cases hx
 | (t,l)::r,h,x,hx=>by
  simp only[demObjs,List.mem_cons]at hx
  rcases hx with rfl | hx
  .exact demObj_bd (h (t,l) (by simp))
  .exact demObjs_bd (fun y hy=>h y (lmc _ hy)) x hx
theorem updObjs_bd:∀ {u:List (Nat×Option Obj)}{os:List (Nat×Obj)},(∀x∈os,x.2.bd)->(∀x∈u,∀ob,x.2=some ob->ob.bd)->∀x∈updObjs os u,x.2.bd
 | [],os,h,_,x,hx=>h x hx
 | (o,some y)::r,os,h,hu,x,hx=>by
  simp only[updObjs]at hx
  refine updObjs_bd ?_ (fun z hz=>hu z (lmc _ hz)) x hx
  intro z hz
  rcases aset_mem' hz with rfl | hz
  .exact hu (o,some y) (by simp) y rfl
  .exact h z hz
 | (o,none)::r,os,h,hu,x,hx=>by
  simp only[updObjs]at hx
  exact updObjs_bd (fun z hz=>h z (adel_mem hz).1) (fun z hz=>hu z (lmc _ hz)) x hx
theorem apply_bd (h:s.bd){e:Eff}(he:e.bd) (d:Option Nat):(s.apply e d).bd:=by
 have henv:∀x∈(match e.dem with | []=>s.env | gs=>demEnv gs s.env),x.2.bd:=by
  split
  .exact h.env
  .exact demEnv_bd h.env
 have hobj:∀x∈(match e.dem with | []=>s.objs | gs=>demObjs gs s.objs),x.2.bd:=by
  split
  .exact h.objs
  .exact demObjs_bd h.objs
 refine⟨?_,updObjs_bd hobj he.upd⟩
 unfold LSt.apply
 simp only
 cases d with
 | none=>exact henv
 | some d=>
  cases hv:e.val with
  | none=>intro x hx;simp only at hx;exact henv x (adel_mem hx).1
  | some l=>
   intro x hx
   simp only at hx
   rcases aset_mem' hx with rfl | hx
   .exact he.val l hv
   .exact henv x hx
theorem kill_bd (h:s.bd) (ts:List Nat):(s.kill ts).bd:=by
 cases ts with
 | nil=>exact h
 | cons t ts=>exact⟨fun x hx=>h.env x (killEnv_mem hx),h.objs⟩
theorem evOps_bd (hc:CallBd call):∀ {l:List LI}{s s':LSt},(l.all fun i=>i.op.cok)=true->s.bd->evOps call l s=some s'->s'.bd
 | [],s,s',_,h,he=>by simp only[evOps,osi]at he;subst he;exact h
 | i::r,s,s',hk,h,he=>by
  simp only[List.all_cons,bat]at hk
  simp only[evOps]at he
  obtain⟨b,h1,he⟩:=obs he
  cases b with
  | true=>
   simp only at he
   obtain⟨e,h2,he⟩:=obs he
   exact evOps_bd hc hk.2 (kill_bd (apply_bd h (evOp_bd hc h hk.1 h2) _) _) he
  | false=>
   simp only at he
   exact evOps_bd hc hk.2 (kill_bd (apply_bd h ⟨by simp[skipE],by simp[skipE,LV.bd,LV.bdL]⟩ _) _) he
theorem toPVs_len:∀ {ls:List LV}{ps:List PV},toPVs ls=some ps->ps.length=ls.length
 | [],ps,he=>by simp only[toPVs,osi]at he;subst he;rfl
 | l::ls,ps,he=>by
  simp only[toPVs]at he
  obtain⟨p,h1,he⟩:=obs he
  obtain⟨qs,h2,he⟩:=obs he
  simp only[osi]at he
  subst he
  simp[toPVs_len h2]
mutual
theorem frz_bd {o g sz:Nat}{es:List (List PV)}(he:es.length<=bigLen/\PV.bdRows es):∀ {l l':LV},l.bd->l.frz o g sz es=some l'->l'.bd
 | .arr o' n,l',h,hf=>by
  simp only[LV.frz]at hf
  split at hf
  .split at hf
   .cases hf;exact he
   .cases hf
  .cases hf;exact h
 | .agg ls,l',h,hf=>by
  simp only[LV.frz]at hf
  obtain⟨r,h1,hf⟩:=obs hf
  cases hf;exact frzL_bd he (l:=ls) h h1
 | .tup ls,l',h,hf=>by
  simp only[LV.frz]at hf
  obtain⟨r,h1,hf⟩:=obs hf
  cases hf;exact frzL_bd he (l:=ls) h h1
 | .clo f ls,l',h,hf=>by
  simp only[LV.frz]at hf
  obtain⟨r,h1,hf⟩:=obs hf
  cases hf;exact frzL_bd he (l:=ls) h h1
 | .ref o' k,l',h,hf=>by
  simp only[LV.frz]at hf
  split at hf<;>cases hf;trivial
 | .eref o' i k,l',h,hf=>by
  simp only[LV.frz]at hf
  split at hf<;>cases hf;trivial
 | .own h' z xs,l',h,hf=>by
  simp only[LV.frz]at hf
  split at hf<;>cases hf;exact h
 | .pv p,l',h,hf=>by simp only[LV.frz,osi]at hf;subst hf;exact h
 | .nils z,l',h,hf=>by simp only[LV.frz,osi]at hf;subst hf;exact h
 | .nk _ _ _,l',h,hf=>by simp only[LV.frz,osi]at hf;subst hf;exact h
 | .box _ _ _,l',h,hf=>by simp only[LV.frz,osi]at hf;subst hf;exact h
 | .dead,l',h,hf=>by simp only[LV.frz,osi]at hf;subst hf;exact h
theorem frzL_bd {o g sz:Nat}{es:List (List PV)}(he:es.length<=bigLen/\PV.bdRows es):∀ {l l':List LV},LV.bdL l->LV.frzL o g sz es l=some l'->LV.bdL l'
 | [],l',_,hf=>by simp only[LV.frzL,osi]at hf;subst hf;trivial
 | _::_,l',h,hf=>by
  simp only[LV.frzL]at hf
  obtain⟨p,h1,hf⟩:=obs hf
  obtain⟨q,h2,hf⟩:=obs hf
  simp only[osi]at hf
  subst hf
  exact⟨frz_bd he h.1 h1,frzL_bd he h.2 h2⟩
end
mutual
theorem frzv_bd {o:Nat}{cs:List PV}(he:PV.bdRow cs):∀ {l l':LV},l.bd->l.frzv o cs=some l'->l'.bd
 | .ref o' k,l',h,hf=>by
  simp only[LV.frzv]at hf
  split at hf<;>cases hf
  .exact bdRow_drop he k
  .trivial
 | .agg ls,l',h,hf=>by
  simp only[LV.frzv]at hf
  obtain⟨r,h1,hf⟩:=obs hf
  cases hf;exact frzvL_bd he (l:=ls) h h1
 | .tup ls,l',h,hf=>by
  simp only[LV.frzv]at hf
  obtain⟨r,h1,hf⟩:=obs hf
  cases hf;exact frzvL_bd he (l:=ls) h h1
 | .clo f ls,l',h,hf=>by
  simp only[LV.frzv]at hf
  obtain⟨r,h1,hf⟩:=obs hf
  cases hf;exact frzvL_bd he (l:=ls) h h1
 | .arr o' n,l',h,hf=>by
  simp only[LV.frzv]at hf
  split at hf<;>cases hf;exact h
 | .eref o' i k,l',h,hf=>by
  simp only[LV.frzv]at hf
  split at hf<;>cases hf;trivial
 | .own h' z xs,l',h,hf=>by simp only[LV.frzv,osi]at hf;subst hf;exact h
 | .pv p,l',h,hf=>by simp only[LV.frzv,osi]at hf;subst hf;exact h
 | .nils z,l',h,hf=>by simp only[LV.frzv,osi]at hf;subst hf;exact h
 | .nk _ _ _,l',h,hf=>by simp only[LV.frzv,osi]at hf;subst hf;exact h
 | .box _ _ _,l',h,hf=>by simp only[LV.frzv,osi]at hf;subst hf;exact h
 | .dead,l',h,hf=>by simp only[LV.frzv,osi]at hf;subst hf;exact h
theorem frzvL_bd {o:Nat}{cs:List PV}(he:PV.bdRow cs):∀ {l l':List LV},LV.bdL l->LV.frzvL o cs l=some l'->LV.bdL l'
 | [],l',_,hf=>by simp only[LV.frzvL,osi]at hf;subst hf;trivial
 | _::_,l',h,hf=>by
  simp only[LV.frzvL]at hf
  obtain⟨p,h1,hf⟩:=obs hf
  obtain⟨q,h2,hf⟩:=obs hf
  simp only[osi]at hf
  subst hf
  exact⟨frzv_bd he h.1 h1,frzvL_bd he h.2 h2⟩
end
theorem mapCells_bd {f:LV->Option LV}(hf:∀l l',l.bd->f l=some l'->l'.bd):∀ {cs cs':List LV},LV.bdL cs->mapCells f cs=some cs'->LV.bdL cs'
 | [],cs',_,he=>by simp only[mapCells,osi]at he;subst he;trivial
 | c::cs,cs',h,he=>by
  simp only[mapCells]at he
  obtain⟨p,h1,he⟩:=obs he
  obtain⟨q,h2,he⟩:=obs he
  simp only[osi]at he
  subst he
  exact⟨hf _ _ h.1 h1,mapCells_bd hf h.2 h2⟩
theorem mapObj_bd {f:LV->Option LV}(hf:∀l l',l.bd->f l=some l'->l'.bd) {x x':Obj}(h:x.bd) (he:mapObj f x=some x'):x'.bd:=by
 cases x with
 | var cs=>
  simp only[mapObj]at he
  obtain⟨p,h1,he⟩:=obs he
  cases he
  exact mapCells_bd hf h h1
 | rows sz es sh hole=>
  cases hole with
  | none=>simp only[mapObj,osi]at he;subst he;exact h
  | some y=>
   obtain⟨i,off,o,n⟩:=y
   simp only[mapObj]at he
   obtain⟨l,h1,he⟩:=obs he
   have:=hf (.arr o n) l (h.2 _ rfl) h1
   split at he
   .cases he;exact⟨h.1,fun x hx=>by cases hx;exact this⟩
   .cases he
theorem mapSt_bd {f:LV->Option LV}(hf:∀l l',l.bd->f l=some l'->l'.bd){objs:List (Nat×Obj)}(ho:∀x∈objs,x.2.bd) (h:s.bd) {env':List (Nat×LV)}{objs':List (Nat×Obj)}(h1:mapEnv f s.env=some env') (h2:mapObjs f objs=some objs'):LSt.bd { s with env:=env',objs:=objs' }:=by
 refine⟨fun x hx=>?_,fun x hx=>?_⟩
 .obtain⟨l,i1,i2⟩:=mapEnv_mem h1 hx
  exact hf _ _ (h.env _ i1) i2
 .obtain⟨y,i1,i2⟩:=mapObjs_mem h2 hx
  exact mapObj_bd hf (ho _ i1) i2
theorem ghost_bd (h:s.bd){g:Ghost}{s':LSt}(he:evGhost s g=some s'):s'.bd:=by
 cases g with
 | kill ts=>simp only[evGhost,osi]at he;subst he;exact⟨fun x hx=>h.env x (killEnv_mem hx),h.objs⟩
 | keep ts=>simp only[evGhost,osi]at he;subst he;exact⟨fun x hx=>h.env x (List.mem_filter.1 hx).1,h.objs⟩
 | drop o=>simp only[evGhost,osi]at he;subst he;exact⟨h.env,fun x hx=>h.objs x (adel_mem hx).1⟩
 | gc=>simp only[evGhost,osi]at he;subst he;exact⟨h.env,fun x hx=>h.objs x (List.mem_filter.1 hx).1⟩
 | dem gs=>simp only[evGhost,osi]at he;subst he;exact⟨demEnv_bd h.env,demObjs_bd h.objs⟩
 | castc o i g=>
  simp only[evGhost]at he
  obtain⟨ob,h1,he⟩:=obs he
  have hob:=h.objs _ (aget_mem h1)
  cases ob with
  | rows _ _ _ _=>cases he
  | var cs=>
   simp only at he
   split at he
   .split at he
    .cases he
     refine⟨h.env,fun x hx=>?_⟩
     rcases aset_mem' hx with rfl | hx
     .show LV.bdL (cs.set i _)
      rw[bdL_iff]
      intro l hl
      rcases List.mem_or_eq_of_mem_set hl with hl | rfl
      .exact bdL_iff.1 hob l hl
      .exact⟨by simp,trivial⟩
     .exact h.objs x hx
    .cases he
   .cases he;exact h
 | frz o g=>
  simp only[evGhost]at he
  obtain⟨r,h1,he⟩:=obs he
  split at he
  .obtain⟨env,h3,he⟩:=obs he
   obtain⟨objs,h4,he⟩:=obs he
   cases he
   exact mapSt_bd (fun l l' hl hf=>frz_bd (rowsOfO_bd h.objs h1) hl hf) (fun x hx=>h.objs x (adel_mem hx).1) h h3 h4
  .cases he
 | frzv o=>
  simp only[evGhost]at he
  obtain⟨ob,h1,he⟩:=obs he
  have hob:=h.objs _ (aget_mem h1)
  cases ob with
  | rows _ _ _ _=>cases he
  | var cs=>
   obtain⟨es,h2,he⟩:=obs he
   obtain⟨env,h3,he⟩:=obs he
   obtain⟨objs,h4,he⟩:=obs he
   cases he
   exact mapSt_bd (fun l l' hl hf=>frzv_bd (toPVs_bd hob h2) hl hf) (fun x hx=>h.objs x (adel_mem hx).1) h h3 h4
 | castu t o sh=>
  simp only[evGhost]at he
  obtain⟨l,h1,he⟩:=obs he
  split at he
  .split at he
   .cases he
    refine⟨fun x hx=>?_,fun x hx=>?_⟩
    .rcases aset_mem' hx with rfl | hx
     .exact Nat.zero_le _
     .exact h.env x hx
    .rcases aset_mem' hx with rfl | hx
     .exact⟨⟨by simp,trivial⟩,by simp⟩
     .exact h.objs x hx
   .cases he
  .cases he;exact h
 | castuc o i o' sh=>
  simp only[evGhost]at he
  obtain⟨ob,h1,he⟩:=obs he
  have hob:=h.objs _ (aget_mem h1)
  cases ob with
  | rows _ _ _ _=>cases he
  | var cs=>
   simp only at he
   split at he
   .split at he
    .cases he
     refine⟨h.env,fun x hx=>?_⟩
     rcases aset_mem' hx with rfl | hx
     .exact⟨⟨by simp,trivial⟩,by simp⟩
     .rcases aset_mem' hx with rfl | hx
      .exact bdL_set hob (Nat.zero_le _)
      .exact h.objs x hx
    .cases he
   .cases he;exact h
 | castb o i t=>
  simp only[evGhost]at he
  obtain⟨ob,h1,he⟩:=obs he
  have hob:=h.objs _ (aget_mem h1)
  cases ob with
  | rows _ _ _ _=>cases he
  | var cs=>
   simp only at he
   split at he
   .cases he
    refine⟨h.env,fun x hx=>?_⟩
    rcases aset_mem' hx with rfl | hx
    .exact bdL_set hob ⟨by simp,trivial⟩
    .exact h.objs x hx
   .cases he
 | take o i off o'=>
  simp only[evGhost]at he
  obtain⟨j,h0,he⟩:=obs he
  obtain⟨ob,h1,he⟩:=obs he
  have hob:=h.objs _ (aget_mem h1)
  split at he
  .obtain⟨e,h2,he⟩:=obs he
   split at he
   .rename_i z ys _ h3
    split at he
    .cases he
     have hys:PV.bd (.lst z ys):=bdRow_iff.1 (bdRows_iff.1 hob.1.2 _ (List.mem_of_getElem? h2)) _ (List.mem_of_getElem? h3)
     refine⟨h.env,fun x hx=>?_⟩
     rcases aset_mem' hx with rfl | hx
     .exact⟨hys,by simp⟩
     .rcases aset_mem' hx with rfl | hx
      .exact⟨hob.1,fun x hx=>by cases hx;exact hys.1⟩
      .exact h.objs x hx
    .cases he
   .cases he
  .cases he
 | put o=>
  simp only[evGhost]at he
  obtain⟨ob,h1,he⟩:=obs he
  have hob:=h.objs _ (aget_mem h1)
  split at he
  .cases he;exact h
  .obtain⟨r,h2,he⟩:=obs he
   obtain⟨e,h3,he⟩:=obs he
   split at he
   .cases he
    refine⟨h.env,fun x hx=>?_⟩
    rcases aset_mem' hx with rfl | hx
    .exact⟨⟨by simpa using hob.1.1,bdRows_set hob.1.2 (bdRow_set (bdRows_iff.1 hob.1.2 _ (List.mem_of_getElem? h3)) (rowsOfO_bd h.objs h2))⟩,by simp⟩
    .exact h.objs x (adel_mem hx).1
   .cases he
  .cases he
 | takev o off o'=>
  simp only[evGhost]at he
  obtain⟨ob,h1,he⟩:=obs he
  have hob:=h.objs _ (aget_mem h1)
  cases ob with
  | rows _ _ _ _=>cases he
  | var cs=>
   simp only at he
   split at he
   .rename_i z ys sh h2
    split at he
    .cases he
     have hys:LV.bd (.box z ys sh):=bdL_iff.1 hob _ (List.mem_of_getElem? h2)
     refine⟨h.env,fun x hx=>?_⟩
     rcases aset_mem' hx with rfl | hx
     .exact⟨hys,by simp⟩
     .rcases aset_mem' hx with rfl | hx
      .exact bdL_set hob hys.1
      .exact h.objs x hx
    .cases he
   .cases he
 | putv o off=>
  simp only[evGhost]at he
  obtain⟨ob,h1,he⟩:=obs he
  have hob:=h.objs _ (aget_mem h1)
  cases ob with
  | rows _ _ _ _=>cases he
  | var cs=>
   simp only at he
   split at he
   .obtain⟨r,h2,he⟩:=obs he
    split at he
    .cases he
     refine⟨h.env,fun x hx=>?_⟩
     rcases aset_mem' hx with rfl | hx
     .exact bdL_set hob (rowsOfO_bd h.objs h2)
     .exact h.objs x (adel_mem hx).1
    .cases he
   .cases he
 | ren o o'=>
  simp only[evGhost]at he
  split at he
  .cases he;exact h
  split at he
  .cases he
   have hro:∀ (f:Nat->Nat) (x:Obj),x.bd->(renObj f x).bd:=fun f x hx=>by
    cases x with
    | var cs=>exact renL_bd f hx
    | rows sz es sh hole=>
     cases hole with
     | none=>exact hx
     | some y=>exact⟨hx.1,fun z hz=>by cases hz;exact hx.2 y rfl⟩
   refine⟨fun x hx=>?_,fun x hx=>?_⟩
   .obtain⟨y,hy,rfl⟩:=List.mem_map.1 hx
    exact ren_bd _ (h.env y hy)
   .have hmap:∀z∈(adel s.objs o).map (fun y=>(y.1,renObj (fun y=>if y=o then o' else y) y.2)),z.2.bd:=fun z hz=>by
     obtain⟨y,hy,rfl⟩:=List.mem_map.1 hz
     exact hro _ _ (h.objs y (adel_mem hy).1)
    simp only[renObjs]at hx
    split at hx
    .rename_i y hy
     rcases aset_mem' hx with rfl | hx
     .exact hro _ _ (h.objs _ (aget_mem hy))
     .exact hmap x hx
    .exact hmap x hx
  .cases he
 | cast t g=>
  simp only[evGhost]at he
  obtain⟨l,h1,he⟩:=obs he
  split at he
  .split at he
   .cases he
    refine⟨fun x hx=>?_,h.objs⟩
    rcases aset_mem' hx with rfl | hx
    .exact⟨by simp,trivial⟩
    .exact h.env x hx
   .cases he
  .cases he;exact h
theorem ghosts_bd:∀ {gs:List Ghost}{s s':LSt},s.bd->evGhosts gs s=some s'->s'.bd
 | [],s,s',h,he=>by simp only[evGhosts,osi]at he;subst he;exact h
 | g::gs,s,s',h,he=>by
  simp only[evGhosts]at he
  obtain⟨s1,h1,he⟩:=obs he
  exact ghosts_bd (ghost_bd h h1) he
theorem evC_bd (hc:CallBd call){n:Nat}:∀ {c:LC}{s:LSt}{e:LExit}{s':LSt},c.cok=true->s.bd->evC call n c s=some (e,s')->s'.bd:=by
 intro c
 induction c with
 | skip=>intro s e s' _ h he;simp only[evC,osi,Prod.mk.injEq]at he;obtain⟨rfl,rfl⟩:=he;exact h
 | ret=>intro s e s' _ h he;simp only[evC,osi,Prod.mk.injEq]at he;obtain⟨rfl,rfl⟩:=he;exact h
 | stuck=>intro s e s' _ h he;simp[evC]at he
 | exit id=>intro s e s' _ h he;simp only[evC,osi,Prod.mk.injEq]at he;obtain⟨rfl,rfl⟩:=he;exact h
 | ops l=>
  intro s e s' hk h he
  simp only[evC]at he
  obtain⟨s1,h1,he⟩:=obs he
  simp only[osi,Prod.mk.injEq]at he
  obtain⟨rfl,rfl⟩:=he
  exact evOps_bd hc hk h h1
 | draw l=>
  intro s e s' hk h he
  simp only[evC]at he
  split at he
  .obtain⟨s1,h1,he⟩:=obs he
   simp only[osi,Prod.mk.injEq]at he
   obtain⟨rfl,rfl⟩:=he
   exact evOps_bd hc hk h h1
  .cases he
 | seq a b iha ihb=>
  intro s e s' hk h he
  simp only[LC.cok,bat]at hk
  simp only[evC]at he
  obtain⟨⟨e1,s1⟩,h1,he⟩:=obs he
  cases e1 with
  | nrm=>exact ihb hk.2 (iha hk.1 h h1) he
  | ex i=>simp only[osi,Prod.mk.injEq]at he;obtain⟨rfl,rfl⟩:=he;exact iha hk.1 h h1
  | ret=>simp only[osi,Prod.mk.injEq]at he;obtain⟨rfl,rfl⟩:=he;exact iha hk.1 h h1
 | cond x a b iha ihb=>
  intro s e s' hk h he
  simp only[LC.cok,bat]at hk
  simp only[evC]at he
  obtain⟨l,h1,he⟩:=obs he
  obtain⟨t,h2,he⟩:=obs he
  cases t with
  | true=>exact iha hk.1 h he
  | false=>exact ihb hk.2 h he
 | block id a iha=>
  intro s e s' hk h he
  simp only[evC]at he
  obtain⟨⟨e1,s1⟩,h1,he⟩:=obs he
  have:=iha hk h h1
  cases e1 with
  | nrm=>simp only[osi,Prod.mk.injEq]at he;obtain⟨rfl,rfl⟩:=he;exact this
  | ex i=>
   simp only at he
   split at he<;>(simp only[osi,Prod.mk.injEq]at he;obtain⟨rfl,rfl⟩:=he;exact this)
  | ret=>simp only[osi,Prod.mk.injEq]at he;obtain⟨rfl,rfl⟩:=he;exact this
 | loop a iha=>
  intro s e s' hk h he
  simp only[evC]at he
  have key:∀m s,s.bd->iter (evC call n a) m s=some (e,s')->s'.bd:=by
   intro m
   induction m with
   | zero=>intro s _ he;simp[iter]at he
   | succ m ih=>
    intro s h he
    simp only[iter]at he
    obtain⟨⟨e1,s1⟩,h1,he⟩:=obs he
    have:=iha hk h h1
    cases e1 with
    | nrm=>exact ih _ this he
    | ex i=>simp only[osi,Prod.mk.injEq]at he;obtain⟨rfl,rfl⟩:=he;exact this
    | ret=>simp only[osi,Prod.mk.injEq]at he;obtain⟨rfl,rfl⟩:=he;exact this
  exact key n s h he
 | gh gs a iha=>
  intro s e s' hk h he
  simp only[evC]at he
  obtain⟨s1,h1,he⟩:=obs he
  exact iha hk (ghosts_bd h h1) he
theorem resOf_bd (h:s.bd){r:LRes}{l:LV}(he:resOf s r=some l):l.bd:=by
 cases r with
 | tmp t=>exact h.env _ (aget_mem he)
 | cell t n ag=>
  simp only[resOf]at he
  obtain⟨lx,h1,he⟩:=obs he
  cases lx with
  | ref o off=>
   simp only at he
   obtain⟨ob,h2,he⟩:=obs he
   have hob:=h.objs _ (aget_mem h2)
   cases ob with
   | rows _ _ _ _=>cases he
   | var cs=>
    obtain⟨ls,i1,i2⟩:=takeL_bd (bdL_drop hob _) he
    exact ofCells_bd (unboxL_bd i1) i2
  | _=>cases he
theorem resOfs_bd (h:s.bd):∀ {rs:List LRes}{ls:List LV},resOfs s rs=some ls->LV.bdL ls
 | [],ls,he=>by simp only[resOfs,osi]at he;subst he;trivial
 | r::rs,ls,he=>by
  simp only[resOfs]at he
  obtain⟨l,h1,he⟩:=obs he
  obtain⟨ls',h2,he⟩:=obs he
  simp only[osi]at he
  subst he
  exact⟨resOf_bd h h1,resOfs_bd h h2⟩
theorem expFix_bd (h:s.bd){ns:List Nat}:∀ {os:List Nat}{k:Nat}{r:List (Option Obj)×Nat},expFix s ns k os=some r->∀x,some x∈r.1->x.bd
 | [],k,r,he=>by simp only[expFix,osi]at he;subst he;simp
 | o::os,k,r,he=>by
  simp only[expFix]at he
  split at he
  .obtain⟨q,h1,he⟩:=obs he
   cases he
   intro x hx
   simp only[List.mem_cons,reduceCtorEq,false_or]at hx
   exact expFix_bd h h1 x hx
  .cases hob:aget s.objs o with
   | none=>
    rw[hob]at he
    obtain⟨q,h1,he⟩:=obs he
    cases he
    intro x hx
    simp only[List.mem_cons,reduceCtorEq,false_or]at hx
    exact expFix_bd h h1 x hx
   | some ob=>
    rw[hob]at he
    have hb:=h.objs _ (aget_mem hob)
    cases ob with
    | var cs=>
     simp only at he
     obtain⟨p,h1,he⟩:=obs he
     split at he
     .obtain⟨q,h2,he⟩:=obs he
      cases he
      intro x hx
      simp only[List.mem_cons,osi]at hx
      rcases hx with rfl | hx
      .exact expC_bd hb h1
      .exact expFix_bd h h2 x hx
     .cases he
    | rows sz es sh hole=>
     cases hole with
     | some _=>cases he
     | none=>
      simp only at he
      obtain⟨q,h2,he⟩:=obs he
      cases he
      intro x hx
      simp only[List.mem_cons,osi]at hx
      rcases hx with rfl | hx
      .exact hb
      .exact expFix_bd h h2 x hx
theorem expR_bd:∀ {ls:List LV}{k:Nat}{p:List LV×Nat},LV.bdL ls->LV.expR k ls=some p->LV.bdL p.1
 | [],k,p,_,he=>by simp only[LV.expR,osi]at he;subst he;trivial
 | l::ls,k,p,h,he=>by
  simp only[LV.expR]at he
  obtain⟨q,h1,he⟩:=obs he
  obtain⟨r,h2,he⟩:=obs he
  cases he
  refine⟨?_,expR_bd h.2 h2⟩
  cases l<;>first | exact exp_bd h.1 h1 | (simp[LV.exp1,LV.exp]at h1;done) | (simp only[LV.exp1,osi]at h1;subst h1;exact h.1)
theorem newObjs_bd (h:s.bd):∀ {os:List Nat}{r:List (Option Obj)},newObjs s os=some r->∀x,some x∈r->x.bd
 | [],r,he=>by simp only[newObjs,osi]at he;subst he;simp
 | o::os,r,he=>by
  simp only[newObjs]at he
  obtain⟨q,h1,he⟩:=obs he
  split at he
  case isFalse=>cases he
  obtain⟨q',h2,he⟩:=obs he
  cases he
  intro x hx
  simp only[List.mem_cons,osi]at hx
  rcases hx with rfl | hx
  .exact h.objs _ (aget_mem h1)
  .exact newObjs_bd h h2 x hx
theorem one_bd {ls:List LV}(h:LV.bdL ls):(one ls).bd:=by
 unfold one
 split
 .exact h.1
 .exact h
theorem outOf_bd (h:s.bd){rs:List LRes}{r:Fin}(he:outOf s rs=some r):resBd r:=by
 unfold outOf at he
 obtain⟨ls,h1,he⟩:=obs he
 split at he
 .obtain⟨p,h3,he⟩:=obs he
  obtain⟨q,h4,he⟩:=obs he
  obtain⟨nw,h5,he⟩:=obs he
  cases he
  exact⟨one_bd (renL_bd _ (expR_bd (resOfs_bd h h1) h3)),fun x hx=>(lma hx).elim (expFix_bd h h4 x) (newObjs_bd h h5 x)⟩
 .cases he
end
structure Env.ok (E:Env):Prop where
 prog:∀f p,E.prog f=some p->p.body.cok=true
 ext:∀f e,E.ext f=some e->∀as os r,argBd as os->e as os=some r->resBd r
theorem argEnv_bd:∀ {as:List LV}{k:Nat},LV.bdL as->∀x∈argEnv k as,x.2.bd
 | [],k,_,x,hx=>by cases hx
 | a::as,k,h,x,hx=>by
  simp only[argEnv,List.mem_cons]at hx
  rcases hx with rfl | hx
  .exact h.1
  .exact argEnv_bd h.2 x hx
theorem start_bd {as:List LV}{os:List (Nat×Obj)}(h:argBd as os):LSt.bd { env:=argEnv 0 as,objs:=os,fix:=os.map (·.1) }:=by
 exact⟨argEnv_bd h.1,h.2⟩
theorem splitArg_bd {b:Bool}:∀ {k:Nat}{as a0:List LV},LV.bdL as->splitArg b k as=some a0->LV.bdL a0
 | 0,[],a0,h,he=>by simp[splitArg]at he
 | 0,l::r,a0,h,he=>by
  cases l with
  | pv p=>
   cases p with
   | lst sz es=>
    simp only[splitArg]at he
    split at he
    .cases he
    .cases he;exact h
   | _=>simp[splitArg]at he
  | _=>simp[splitArg]at he
 | k+1,[],a0,h,he=>by simp[splitArg]at he
 | k+1,l::r,a0,h,he=>by
  simp only[splitArg]at he
  obtain⟨r',h1,he⟩:=obs he
  cases he
  exact⟨h.1,splitArg_bd h.2 h1⟩
theorem runF_bd {call:CallF}(hc:CallBd call){n:Nat}{p:LF}(hk:p.body.cok=true){as:List LV}{os:List (Nat×Obj)}{r:Fin}(h:argBd as os) (he:runF call n p as os=some r):resBd r:=by
 unfold runF at he
 obtain⟨⟨e,s'⟩,h1,he⟩:=obs he
 have hs:=evC_bd hc hk (start_bd h) h1
 cases e with
 | nrm=>exact outOf_bd hs he
 | ex _=>cases he
 | ret=>exact outOf_bd hs he
theorem evF_bd {E:Env}(hE:E.ok):∀n,CallBd (evF E.prog E.ext n)
 | 0,f,as,os,r,_,he=>by simp[evF]at he
 | n+1,f,as,os,r,h,he=>by
  simp only[evF]at he
  cases hx:E.ext f with
  | some e=>
   rw[hx]at he
   exact hE.ext f e hx as os r h he
  | none=>
   rw[hx]at he
   simp only at he
   obtain⟨p,hp,he⟩:=obs he
   split at he
   .split at he
    .exact runF_bd (evF_bd hE n) (hE.prog f p hp) h he
    .obtain⟨a0,h0,he⟩:=obs he
     obtain⟨r0,h1,he⟩:=obs he
     have:=runF_bd (evF_bd hE n) (hE.prog f p hp) ⟨splitArg_bd h.1 h0,h.2⟩ h1
     split at he
     .cases he;exact this
     .split at he
      .cases he;exact this
      .cases he
   .cases he
abbrev Str:=ByteArray
inductive Frame where
 | sq (b:LC)
 | blk (id:Nat)
 | lp (a:LC)
def Frame.cok:Frame->Bool
 | .sq b=>b.cok
 | .blk _=>true
 | .lp a=>a.cok
def Run (E:Env) (res:List LRes) (r:Fin):List Frame->LExit->LSt->Prop
 | [],e,s=>(e = .nrm\/e = .ret)/\outOf s res=some r
 | .sq b::K,e,s=>match e with
  | .nrm=>∃x,EvC E b s x/\Run E res r K x.1 x.2
  | e=>Run E res r K e s
 | .blk id::K,e,s=>match e with
  | .ex i=>if i=id then Run E res r K .nrm s else Run E res r K (.ex i) s
  | e=>Run E res r K e s
 | .lp a::K,e,s=>match e with
  | .nrm=>∃x,EvC E (.loop a) s x/\Run E res r K x.1 x.2
  | e=>Run E res r K e s
def FB (E:Env) (f:Nat) (as:List LV) (os:List (Nat×Obj)) (r:Fin):Prop:=E.ok->argBd as os->EvF E f as os r
def AB (E:Env) (p:PV) (as:List LV) (r:Fin):Prop:=
 match p with
 | .clo f ps=>fid f=f/\FB E f (as++ps.map .pv) [] r
 | .mth f ps=>fid f=f/\FB E f (.agg (ps.map .pv)::as) [] r
 | _=>False
theorem AB.clo {E:Env}{f:Nat}{ps:List PV}{as:List LV}{r:Fin}(h:FB E f (as++ps.map .pv) [] r) (hf:fid f=f:=by rfl):AB E (.clo f ps) as r:=⟨hf,h⟩
theorem AB.mth {E:Env}{f:Nat}{ps:List PV}{as:List LV}{r:Fin}(h:FB E f (.agg (ps.map .pv)::as) [] r) (hf:fid f=f:=by rfl):AB E (.mth f ps) as r:=⟨hf,h⟩
def G (E:Env) (res:List LRes) (r:Fin) (K:List Frame) (c:LC) (s:LSt):Prop:=
 E.ok->s.bd->c.cok=true->K.all Frame.cok=true->∃x,EvC E c s x/\Run E res r K x.1 x.2
def GR (E:Env) (res:List LRes) (r:Fin) (K:List Frame) (e:LExit) (s:LSt):Prop:=
 E.ok->s.bd->K.all Frame.cok=true->Run E res r K e s
def GQ (E:Env) (l:List LI) (s:LSt) (Q:LSt->Prop):Prop:=
 E.ok->s.bd->(l.all fun i=>i.op.cok)=true->∃s',EvO E l s s'/\Q s'
section
variable {E:Env}{res:List LRes}{r:Fin}{K:List Frame}{s s':LSt}{Q:LSt->Prop}
theorem EvO_bd (hE:E.ok){l:List LI}(hk:(l.all fun i=>i.op.cok)=true) (hs:s.bd) (h:EvO E l s s'):s'.bd:=by
 obtain⟨n,h⟩:=h
 exact evOps_bd (evF_bd hE n) hk hs h
theorem EvC_bd (hE:E.ok){c:LC}{e:LExit}(hk:c.cok=true) (hs:s.bd) (h:EvC E c s (e,s')):s'.bd:=by
 obtain⟨n,h⟩:=h
 exact evC_bd (evF_bd hE n) hk hs h
theorem G.seq {a b:LC}(h:G E res r (.sq b::K) a s):G E res r K (.seq a b) s:=by
 intro hE hs hk hK
 simp only[LC.cok,bat]at hk
 obtain⟨⟨e,s1⟩,h1,h2⟩:=h hE hs hk.1 (by simp[Frame.cok,hk.2,hK])
 cases e with
 | nrm=>
  obtain⟨y,h3,h4⟩:=h2
  exact⟨y,EvC.seq h1 h3,h4⟩
 | ex i=>exact⟨_,EvC.seqX h1,h2⟩
 | ret=>exact⟨_,EvC.seqR h1,h2⟩
theorem G.blk {id:Nat}{a:LC}(h:G E res r (.blk id::K) a s):G E res r K (.block id a) s:=by
 intro hE hs hk hK
 obtain⟨⟨e,s1⟩,h1,h2⟩:=h hE hs hk (by simp[Frame.cok,hK])
 cases e with
 | nrm=>exact⟨_,EvC.blockN h1,h2⟩
 | ex i=>
  simp only[Run]at h2
  split at h2
  .rename_i hi;subst hi;exact⟨_,EvC.blockX h1,h2⟩
  .rename_i hi;exact⟨_,EvC.blockO hi h1,h2⟩
 | ret=>exact⟨_,EvC.blockR h1,h2⟩
theorem G.loop {a:LC}(h:G E res r (.lp a::K) a s):G E res r K (.loop a) s:=by
 intro hE hs hk hK
 obtain⟨⟨e,s1⟩,h1,h2⟩:=h hE hs hk (by simp only[List.all_cons,Frame.cok,bat];exact⟨hk,hK⟩)
 cases e with
 | nrm=>
  obtain⟨y,h3,h4⟩:=h2
  exact⟨y,EvC.loopN h1 h3,h4⟩
 | ex i=>exact⟨_,EvC.loopX (by simp) h1,h2⟩
 | ret=>exact⟨_,EvC.loopX (by simp) h1,h2⟩
theorem G.ops {l:List LI}(h:GQ E l s (GR E res r K .nrm)):G E res r K (.ops l) s:=by
 intro hE hs hk hK
 obtain⟨s1,h1,h2⟩:=h hE hs hk
 exact⟨_,EvC.ops h1,h2 hE (EvO_bd hE hk hs h1) hK⟩
theorem G.draw {l:List LI}(hd:drawRdy s l=true) (h:GQ E l s (GR E res r K .nrm)):G E res r K (.draw l) s:=by
 intro hE hs hk hK
 obtain⟨s1,h1,h2⟩:=h hE hs hk
 exact⟨_,EvC.draw hd h1,h2 hE (EvO_bd hE hk hs h1) hK⟩
theorem G.cond (b:Bool){c:Opd}{x y:LC}(hc:s.opd c=some (.pv (.sc (.bool b)))) (h1:b=true->G E res r K x s) (h2:b=false->G E res r K y s):G E res r K (.cond c x y) s:=by
 intro hE hs hk hK
 simp only[LC.cok,bat]at hk
 cases b with
 | true=>obtain⟨z,i1,i2⟩:=h1 rfl hE hs hk.1 hK;exact⟨z,EvC.cond hc i1,i2⟩
 | false=>obtain⟨z,i1,i2⟩:=h2 rfl hE hs hk.2 hK;exact⟨z,EvC.cond hc i1,i2⟩
theorem G.skip (h:GR E res r K .nrm s):G E res r K .skip s:=fun hE hs _ hK=>⟨_,EvC.skip,h hE hs hK⟩
theorem G.exit {id:Nat}(h:GR E res r K (.ex id) s):G E res r K (.exit id) s:=fun hE hs _ hK=>⟨_,EvC.exit,h hE hs hK⟩
theorem G.gh {gs:List Ghost}{c:LC}(s':LSt) (h1:evGhosts gs s=some s') (h:G E res r K c s'):G E res r K (.gh gs c) s:=by
 intro hE hs hk hK
 obtain⟨x,i1,i2⟩:=h hE (ghosts_bd hs h1) hk hK
 exact⟨x,EvC.gh h1 i1,i2⟩
theorem GR.seq {b:LC}(h:G E res r K b s):GR E res r (.sq b::K) .nrm s:=by
 intro hE hs hK
 simp only[List.all_cons,bat,Frame.cok]at hK
 exact h hE hs hK.1 hK.2
theorem GR.loop {a:LC}(h:G E res r K (.loop a) s):GR E res r (.lp a::K) .nrm s:=by
 intro hE hs hK
 simp only[List.all_cons,bat,Frame.cok]at hK
 exact h hE hs hK.1 hK.2
theorem GR.blk {id:Nat}(h:GR E res r K .nrm s):GR E res r (.blk id::K) .nrm s:=by
 intro hE hs hK
 simp only[List.all_cons,bat,Frame.cok]at hK
 exact h hE hs hK.2
theorem GR.exB {id:Nat}(h:GR E res r K .nrm s):GR E res r (.blk id::K) (.ex id) s:=by
 intro hE hs hK
 simp only[List.all_cons,bat,Frame.cok]at hK
 simp only[Run,if_true]
 exact h hE hs hK.2
theorem GR.exO {id i:Nat}(hi:i≠id) (h:GR E res r K (.ex i) s):GR E res r (.blk id::K) (.ex i) s:=by
 intro hE hs hK
 simp only[List.all_cons,bat,Frame.cok]at hK
 simp only[Run,if_neg hi]
 exact h hE hs hK.2
theorem GR.exS {b:LC}{i:Nat}(h:GR E res r K (.ex i) s):GR E res r (.sq b::K) (.ex i) s:=by
 intro hE hs hK
 simp only[List.all_cons,bat,Frame.cok]at hK
 exact h hE hs hK.2
theorem GR.exL {b:LC}{i:Nat}(h:GR E res r K (.ex i) s):GR E res r (.lp b::K) (.ex i) s:=by
 intro hE hs hK
 simp only[List.all_cons,bat,Frame.cok]at hK
 exact h hE hs hK.2
theorem G.ret (h:outOf s res=some r):G E res r K .ret s:=by
 intro hE hs hk hK
 refine⟨_,EvC.ret,?_⟩
 clear hK
 induction K with
 | nil=>exact⟨.inr rfl,h⟩
 | cons f K ih=>cases f<;>exact ih
theorem GR.fin (h:outOf s res=some r):GR E res r [] .nrm s:=fun _ _ _=>⟨.inl rfl,h⟩
def exits (id:Nat):List Frame->Option (List Frame)
 | []=>none
 | .blk i::K=>if id=i then some K else exits id K
 | .sq _::K=>exits id K
 | .lp _::K=>exits id K
theorem G.exitTo {id:Nat}{K':List Frame}(he:exits id K=some K') (h:GR E res r K' .nrm s):G E res r K (.exit id) s:=by
 refine G.exit ?_
 induction K with
 | nil=>cases he
 | cons f K ih=>
  cases f with
  | sq b=>exact GR.exS (ih he)
  | lp b=>exact GR.exL (ih he)
  | blk i=>
   simp only[exits]at he
   split at he
   .rename_i hi;subst hi;cases he;exact GR.exB h
   .rename_i hi;exact GR.exO hi (ih he)
theorem GQ.nil (h:Q s):GQ E [] s Q:=fun _ _ _=>⟨s,EvO.nil,h⟩
theorem GQ.seg {a b:List LI}(s':LSt) (h:∀c,evOps c a s=some s') (h':GQ E b s' Q):GQ E (a++b) s Q:=by
 intro hE hs hk
 rw[List.all_append,bat]at hk
 obtain⟨s2,i1,i2⟩:=h' hE (EvO_bd hE hk.1 hs (EvO.all h)) hk.2
 exact⟨s2,EvO.seg h i1,i2⟩
theorem GQ.last {a:List LI}(s':LSt) (h:∀c,evOps c a s=some s') (h':Q s'):GQ E a s Q:=fun _ _ _=>⟨s',EvO.all h,h'⟩
theorem EvO.append {a b:List LI}{s s' s'':LSt}(h:EvO E a s s') (h':EvO E b s' s''):EvO E (a++b) s s'':=by
 obtain⟨n,h⟩:=h
 obtain⟨m,h'⟩:=h'
 refine⟨max n m,?_⟩
 rw[evOps_append,evOps_mono (evF_mono (Nat.le_max_left n m)) h]
 exact evOps_mono (evF_mono (Nat.le_max_right n m)) h'
theorem GQ.many {a b:List LI}(s':LSt) (h:GQ E a s (· = s')) (h':GQ E b s' Q):GQ E (a++b) s Q:=by
 intro hE hs hk
 rw[List.all_append,bat]at hk
 obtain⟨s1,h1,rfl⟩:=h hE hs hk.1
 obtain⟨s2,i1,i2⟩:=h' hE (EvO_bd hE hk.1 hs h1) hk.2
 exact⟨s2,EvO.append h1 i1,i2⟩
theorem GQ.grp (x:Bool) (a:List LI){b:List LI}(st st':Bool->LSt) (hs:s=st x) (h1:x=true->GQ E a (st true) (· = st' true)) (h2:x=false->GQ E a (st false) (· = st' false)) (h':GQ E b (st' x) Q):GQ E (a++b) s Q:=by
 subst hs
 refine GQ.many (st' x) ?_ h'
 cases x with
 | true=>exact h1 rfl
 | false=>exact h2 rfl
theorem GQ.want {d:Option Nat}{g:Nat×Bool}{op:LOp}{ks:List Nat}{b:List LI}(hw:wantedL s (some g)=some true) (h:GQ E (⟨d,none,op,ks⟩::b) s Q):GQ E (⟨d,some g,op,ks⟩::b) s Q:=by
 intro hE hb hk
 obtain⟨s',⟨n,h1⟩,h2⟩:=h hE hb hk
 refine⟨s',⟨n,?_⟩,h2⟩
 simp only[evOps,hw]at h1 ⊢
 exact h1
theorem G.conv {c:LC}(s':LSt) (hs:s=s') (h:G E res r K c s'):G E res r K c s:=hs▸h
def sE:Str:=⟨#[]⟩
def sEq (a b:Str):Bool:=a.toList == b.toList
def sLt (a b:Str):Bool:=Op.bytesLess a.toList b.toList
theorem GQ.step {d:Option Nat}{op:LOp}{ks:List Nat}{b:List LI}(s':LSt) (h:∀c,evOps c [⟨d,none,op,ks⟩] s=some s') (h':GQ E b s' Q):GQ E (⟨d,none,op,ks⟩::b) s Q:=GQ.seg (a:=[⟨d,none,op,ks⟩]) s' h h'
theorem GQ.one {d:Option Nat}{op:LOp}{ks:List Nat}{b:List LI}{e:Eff}(s':LSt) (h:∀c,evOp c s op=some e) (hs:(s.apply e d).kill ks=s') (h':GQ E b s' Q):GQ E (⟨d,none,op,ks⟩::b) s Q:=
 GQ.seg (a:=[⟨d,none,op,ks⟩]) s' (fun c=>by simp only[evOps,wantedL,obb,h,hs]) h'
theorem opd_bdT (hs:s.bd){n:Nat}{l:LV}(h:s.opd (.t n)=some l):l.bd:=hs.env _ (aget_mem h)
class Enc (T:Type) where
 sz:Nat
 e:T->List PV
 row:T->List PV
 row_eq:∀x,e x=row x
 E:List T->List (List PV)
 E_eq:∀xs,E xs=xs.map e
def S (s:Str):LV := .pv (.sc (.string s))
def I (n:Int):LV := .pv (.sc (.int .i64 n))
def B (b:Bool):LV := .pv (.sc (.bool b))
def NK (k:IntKind) (n:Int):LV := .pv (.sc (.int k n))
def PL {T:Type} [Enc T] (xs:List T):PV := .lst (Enc.sz T) (Enc.E xs)
def L {T:Type} [Enc T] (xs:List T):LV := .pv (PL xs)
def O {T:Type} [Enc T] (g:Nat) (xs:List T):LV := .own g (Enc.sz T) (Enc.E xs)
def CP {T:Type} [Enc T] (x:T):LV := .pv (.cp (Enc.row x))
def CS {T:Type} [Enc T] (x:T):List LV:=(Enc.row x).map .pv
def A {T:Type} [Enc T] (x:T):LV := .agg (CS x)
def lstOf (s:LSt) (x:Opd):Option (Nat×List (List PV)):=(s.opd x).bind fun | .arr _ _=>none | l=>l.lst?
def fillR {T:Type} [Enc T] (ys:List T) (k:Nat) (zs:List PV):List (List PV):=Enc.E ys++List.replicate k zs
theorem iteT {c:Bool}{A B:Prop}(h:if c=true then A else B) (hc:c=true):A:=by rwa [if_pos hc]at h
theorem iteF {c:Bool}{A B:Prop}(h:if c=true then A else B) (hc:c=false):B:=by rwa [if_neg (by simp[hc])]at h
section lists
variable {T:Type} [Enc T]
theorem lstOf_some {x:Opd}{r:Nat×List (List PV)}(h:lstOf s x=some r):∃l,s.opd x=some l/\(∀o n,l ≠ .arr o n)/\l.lst?=some r:=by
 unfold lstOf at h
 obtain⟨l,h1,h⟩:=obs h
 refine⟨l,h1,?_⟩
 cases l<;>first | (refine⟨?_,h⟩;intro o n e;cases e;done) | cases h
theorem GQ.len {d:Nat}{t:Nat}{ks:List Nat}{b:List LI}(xs:List T) (s':LSt) (h1:lstOf s (.t t)=some (Enc.sz T,Enc.E xs))
  (hs:(s.apply ⟨[],[],some (I xs.length)⟩ (some d)).kill ks=s') (h':xs.length<=bigLen->GQ E b s' Q):GQ E (⟨some d,none,.len (.t t),ks⟩::b) s Q:=by
 intro hE hb hk
 obtain⟨l,h1,h0,h2⟩:=lstOf_some h1
 have hl:=(lst?_bd (opd_bdT hb h1) h2).1
 simp only[Enc.E_eq,List.length_map]at hl
 refine GQ.one s' (e:=⟨[],[],some (I xs.length)⟩) (fun c=>?_) hs (h' hl) hE hb hk
 cases l<;>first | exact absurd rfl (h0 _ _) | simp_all [evOp,pureE,lstLen,Enc.E_eq,I,wantI]
theorem GQ.iaddr {d:Nat}{x i:Opd}{ks:List Nat}{b:List LI}(xs:List T) (v:T){j:Int}(s':LSt) (h1:lstOf s x=some (Enc.sz T,Enc.E xs))
  (hi:s.int i=some j) (hj:0<=j) (hv:xs[j.toNat]?=some v) (hs:(s.apply ⟨[],[],some (CP v)⟩ (some d)).kill ks=s') (h':GQ E b s' Q):GQ E (⟨some d,none,.iaddr (Enc.sz T) none x i,ks⟩::b) s Q:=by
 refine GQ.one s' (e:=⟨[],[],some (CP v)⟩) (fun c=>?_) hs h'
 obtain⟨l,h1,h0,h2⟩:=lstOf_some h1
 simp only[evOp,hi,h1,obb]
 have:(xs.map Enc.e)[j.toNat]?=some (Enc.row v):=by simp[hv,Enc.row_eq]
 cases l<;>first | exact absurd rfl (h0 _ _) | simp_all [pureE,Enc.E_eq,CP]
theorem GQ.slice {d:Nat}{x:Opd}{lo hi:Option Opd}{ks:List Nat}{b:List LI}(xs:List T){a z:Option Int}(s':LSt) (h1:lstOf s x=some (Enc.sz T,Enc.E xs)) (h3:s.optInt lo=some a) (h4:s.optInt hi=some z)
  (hb:0<=a.getD 0/\a.getD 0<=z.getD xs.length/\z.getD xs.length<=xs.length)
  (hs:(s.apply ⟨[],[],some (L ((xs.drop (a.getD 0).toNat).take ((z.getD xs.length).toNat-(a.getD 0).toNat)))⟩ (some d)).kill ks=s') (h':GQ E b s' Q):GQ E (⟨some d,none,.slice (Enc.sz T) lo hi x,ks⟩::b) s Q:=by
 refine GQ.one s' (e:=⟨[],[],some (L ((xs.drop (a.getD 0).toNat).take ((z.getD xs.length).toNat-(a.getD 0).toNat)))⟩) (fun c=>?_) hs h'
 obtain⟨l,h1,h0,h2⟩:=lstOf_some h1
 simp only[evOp,h1,h2,h3,h4,obb,if_true,sliceL,Enc.E_eq,List.length_map]
 rw[if_pos hb]
 simp[pureE,L,PL,Enc.E_eq,List.map_take,List.map_drop]
theorem cat?_lst {l:LV}{r:Nat×List (List PV)}(h:l.lst?=some r):l.cat?=some r:=by
 unfold LV.cat?
 split
 .cases h
 .exact h
theorem GQ.app {d:Nat}{x y:Opd}{ks:List Nat}{b:List LI}{g g':Nat}(xs ys:List T) (s':LSt) (h1:s.opd x=some (O g' xs)) (h2:lstOf s y=some (Enc.sz T,Enc.E ys))
  (hb:xs.length+ys.length<=bigLen)
  (hs:(s.apply ⟨[g,g'],[],some (O g (xs++ys))⟩ (some d)).kill ks=s') (h':GQ E b s' Q):GQ E (⟨some d,none,.append g (Enc.sz T) (some g') x y,ks⟩::b) s Q:=by
 refine GQ.one s' (e:=⟨[g,g'],[],some (O g (xs++ys))⟩) (fun c=>?_) hs h'
 obtain⟨l,h3,h0,h4⟩:=lstOf_some h2
 simp[evOp,h1,h3,cat?_lst h4,hb,O,Enc.E_eq]
theorem GQ.app0 {d:Nat}{x y:Opd}{ks:List Nat}{b:List LI}{g z:Nat}(ys:List T) (s':LSt) (h1:s.opd x=some (.nils z)) (h2:lstOf s y=some (Enc.sz T,Enc.E ys))
  (hb:ys.length<=bigLen)
  (hs:(s.apply ⟨[g],[],some (O g ys)⟩ (some d)).kill ks=s') (h':GQ E b s' Q):GQ E (⟨some d,none,.append g (Enc.sz T) none x y,ks⟩::b) s Q:=by
 refine GQ.one s' (e:=⟨[g],[],some (O g ys)⟩) (fun c=>?_) hs h'
 obtain⟨l,h3,h0,h4⟩:=lstOf_some h2
 simp[evOp,h1,h3,cat?_lst h4,hb,O,Enc.E_eq]
theorem GQ.bslice {d g:Nat}{xs:List Opd}{ks:List Nat}{b:List LI}(ys:List T) (s':LSt) (h1:rowsOf s (Enc.sz T) xs=some (ys.map Enc.row))
  (hs:(s.apply ⟨[g],[],some (O g ys)⟩ (some d)).kill ks=s') (h':GQ E b s' Q):GQ E (⟨some d,none,.bslice g (Enc.sz T) xs,ks⟩::b) s Q:=by
 refine GQ.one s' (e:=⟨[g],[],some (O g ys)⟩) (fun c=>?_) hs h'
 have:ys.map Enc.row=Enc.E ys:=by rw[Enc.E_eq];exact List.map_congr_left fun x _=>(Enc.row_eq x).symm
 simp[evOp,h1,O,this]
theorem GQ.make {d o:Nat}{n:Opd}{sh:List Shp}{zs:List PV}{ks:List Nat}{b:List LI}(m:Nat) (s':LSt) (h1:s.int n=some (m:Int)) (hn:noName s o=true) (hz:zs.length=Enc.sz T) (hb:m<=bigLen)
  (hs:(s.apply ⟨[],[(o,some (.rows (Enc.sz T) (fillR ([]:List T) m zs) sh none))],some (.arr o m)⟩ (some d)).kill ks=s') (h':GQ E b s' Q):GQ E (⟨some d,none,.mkslice o (Enc.sz T) sh zs n,ks⟩::b) s Q:=by
 refine GQ.one s' (e:=⟨[],[(o,some (.rows (Enc.sz T) (fillR ([]:List T) m zs) sh none))],some (.arr o m)⟩) (fun c=>?_) hs h'
 have hm:((m:Nat):Int)<=(bigLen:Nat):=by exact_mod_cast hb
 simp[evOp,h1,hn,hz,hm,fillR,Enc.E_eq]
theorem GQ.place {d o:Nat}{x i:Opd}{ks:List Nat}{b:List LI}{m:Nat}{rs:List (List PV)}{sh:List Shp}{hole:Option (Nat×Nat×Nat×Nat)}{j:Int}(s':LSt) (h1:s.opd x=some (.arr o m)) (h2:s.int i=some j) (h3:aget s.objs o=some (.rows (Enc.sz T) rs sh hole)) (hj:0<=j/\j<m)
  (hs:(s.apply ⟨[],[],some (.eref o j.toNat 0)⟩ (some d)).kill ks=s') (h':GQ E b s' Q):GQ E (⟨some d,none,.iaddr (Enc.sz T) (some o) x i,ks⟩::b) s Q:=by
 refine GQ.one s' (e:=⟨[],[],some (.eref o j.toNat 0)⟩) (fun c=>?_) hs h'
 simp[evOp,h1,h2,h3,hj,pureE]
theorem fillR_set {ys:List T}{k:Nat}{zs:List PV}{y:T}:(fillR ys (k+1) zs).set ys.length (Enc.row y)=fillR (ys++[y]) k zs:=by
 simp[fillR,List.set_append,List.replicate_succ,Enc.E_eq,Enc.row_eq]
theorem putPV_all:∀ {cs ls:List PV},cs.length=ls.length->putPV cs 0 ls=some ls
 | [],[],_=>rfl
 | _::cs,l::ls,h=>by simp only[putPV];rw[putPV_all (by simpa using h)];rfl
theorem toPVs_into {os:List (Nat×Obj)}:∀ {ls:List LV}{ps:List PV},toPVs ls=some ps->LV.intoL os [] ls=some (ps,[])
 | [],ps,h=>by simp only[toPVs,osi]at h;subst h;rfl
 | l::ls,ps,h=>by
  simp only[toPVs]at h
  obtain⟨p,h1,h⟩:=obs h
  obtain⟨q,h2,h⟩:=obs h
  cases h
  simp[LV.intoL,LV.into,h1,toPVs_into h2]
theorem toPVs_length:∀ {ls:List LV}{ps:List PV},toPVs ls=some ps->ps.length=ls.length:=toPVs_len
theorem GQ.fill {o:Nat}{x v:Opd}{ks:List Nat}{b:List LI}{k m:Nat}{zs:List PV}(ys:List T) (y:T) (i:Nat) (s':LSt) (h1:s.opd x=some (.eref o i 0)) (h4:(((s.opd v).bind fun l=>l.cellsN (Enc.sz T)).bind toPVs)=some (Enc.row y)) (hz:zs.length=Enc.sz T) (hk:m=k+1)
  (h3:aget s.objs o=some (.rows (Enc.sz T) (fillR ys m zs) [] none)) (hi:i=ys.length)
  (hs:(s.apply ⟨[],[(o,some (.rows (Enc.sz T) (fillR (ys++[y]) k zs) [] none))],none⟩ none).kill ks=s') (h':GQ E b s' Q):GQ E (⟨none,none,.store (Enc.sz T) o [] x v,ks⟩::b) s Q:=by
 refine GQ.one s' (e:=⟨[],[(o,some (.rows (Enc.sz T) (fillR (ys++[y]) k zs) [] none))],none⟩) (fun c=>?_) hs h'
 subst hi
 subst hk
 obtain⟨ls,h4,h5⟩:=obs h4
 obtain⟨l,h2,h4⟩:=obs h4
 have hl:(Enc.row y).length=Enc.sz T:=by
  rw[toPVs_len h5]
  unfold LV.cellsN at h4
  split at h4
  .rename_i hc;simp only[osi]at h4;rw[<-h4];exact hc.1
  .cases h4
 have hg:(fillR ys (k+1) zs)[ys.length]?=some zs:=by simp[fillR,List.replicate_succ,Enc.E_eq]
 simp[evOp,ush,h1,h2,h3,h4,hg,toPVs_into h5,putPV_all (hz.trans hl.symm),fillR_set,holeOff,gone]
mutual
theorem frz_id {o g sz:Nat}{es:List (List PV)}:∀ {l:LV},o∉l.names->g∉l.toks->l.frz o g sz es=some l
 | .pv _,_,_=>rfl
 | .nils _,_,_=>rfl
 | .nk _ _ _,_,_=>rfl
 | .own h z xs,_,hg=>by
  have:¬h=g:=fun e=>hg (by simp[LV.toks,e])
  simp[LV.frz,this]
 | .ref o' k,hn,_=>by
  have:¬o'=o:=fun e=>hn (by simp[LV.names,e])
  simp[LV.frz,this]
 | .eref o' i k,hn,_=>by
  have:¬o'=o:=fun e=>hn (by simp[LV.names,e])
  simp[LV.frz,this]
 | .arr o' n,hn,_=>by
  have:¬o'=o:=fun e=>hn (by simp[LV.names,e])
  simp[LV.frz,this]
 | .agg ls,hn,hg=>by simp only[LV.frz,frzL_id (l:=ls) (by simpa[LV.names]using hn) (by simpa[LV.toks]using hg),obb]
 | .tup ls,hn,hg=>by simp only[LV.frz,frzL_id (l:=ls) (by simpa[LV.names]using hn) (by simpa[LV.toks]using hg),obb]
 | .clo f ls,hn,hg=>by simp only[LV.frz,frzL_id (l:=ls) (by simpa[LV.names]using hn) (by simpa[LV.toks]using hg),obb]
 | .box _ _ _,_,_=>rfl
 | .dead,_,_=>rfl
theorem frzL_id {o g sz:Nat}{es:List (List PV)}:∀ {l:List LV},o∉LV.namesL l->g∉LV.toksL l->LV.frzL o g sz es l=some l
 | [],_,_=>rfl
 | l::ls,hn,hg=>by
  simp only[LV.namesL,LV.toksL,List.mem_append,not_or]at hn hg
  simp only[LV.frzL,frz_id hn.1 hg.1,frzL_id hn.2 hg.2,obb]
end
theorem frzCells_id {o g sz:Nat}{es:List (List PV)}:∀ {l:List LV},o∉LV.namesL l->g∉LV.toksL l->mapCells (LV.frz o g sz es) l=some l
 | [],_,_=>rfl
 | l::ls,hn,hg=>by
  simp only[LV.namesL,LV.toksL,List.mem_append,not_or]at hn hg
  simp only[mapCells,frz_id hn.1 hg.1,frzCells_id hn.2 hg.2,obb]
def offB (o g:Nat) (os:List (Nat×Obj)):Bool:=os.all fun x=>match x.2 with | .var cs => !(LV.namesL cs).contains o && !(LV.toksL cs).contains g | .rows _ _ _ none=>true | .rows _ _ _ (some _)=>false
theorem frzObjs_id {o g sz:Nat}{es:List (List PV)}:∀ {os:List (Nat×Obj)},offB o g os=true->mapObjs (LV.frz o g sz es) os=some os
 | [],_=>rfl
 | (n,x)::os,h=>by
  simp only[offB,List.all_cons,bat]at h
  have:=frzObjs_id (sz:=sz) (es:=es) (os:=os) h.2
  cases x with
  | rows z es' sh hole=>
   cases hole with
   | none=>simp only[mapObjs,mapObj,obb,this]
   | some _=>simp at h
  | var cs=>
   have h1:=h.1
   simp only[bat,Bool.not_eq_true',List.contains_eq_mem,decide_eq_false_iff_not]at h1
   simp only[mapObjs,mapObj,frzCells_id h1.1 h1.2,obb,this]
def frzE (o g sz:Nat) (es:List (List PV)):List (Nat×LV)->Option (List (Nat×LV))
 | []=>some []
 | (t,.arr o' n)::r=>(frzE o g sz es r).bind fun r'=>some ((t,if o'=o then .own g sz es else .arr o' n)::r')
 | (t,l)::r=>if l.names.contains o || l.toks.contains g then none else (frzE o g sz es r).bind fun r'=>some ((t,l)::r')
def arrNs (o:Nat):List (Nat×LV)->List Nat
 | []=>[]
 | (_,.arr o' n)::r=>if o'=o then n::arrNs o r else arrNs o r
 | _::r=>arrNs o r
theorem frzE_env {o g sz:Nat}{es:List (List PV)}:∀ {env env':List (Nat×LV)},frzE o g sz es env=some env'->(∀n∈arrNs o env,n=es.length)->mapEnv (LV.frz o g sz es) env=some env'
 | [],env',h,_=>by simp only[frzE,osi]at h;subst h;rfl
 | (t,l)::r,env',h,hn=>by
  have key:∀l:LV,(∀o' n,l ≠ .arr o' n)->frzE o g sz es ((t,l)::r)=some env'->(∀n∈arrNs o ((t,l)::r),n=es.length)->mapEnv (LV.frz o g sz es) ((t,l)::r)=some env':=by
   intro l hl h hn
   have e1:frzE o g sz es ((t,l)::r)=if l.names.contains o || l.toks.contains g then none else (frzE o g sz es r).bind fun r'=>some ((t,l)::r'):=by
    cases l<;>first | rfl | exact absurd rfl (hl _ _)
   have e2:arrNs o ((t,l)::r)=arrNs o r:=by cases l<;>first | rfl | exact absurd rfl (hl _ _)
   rw[e1]at h
   rw[e2]at hn
   split at h
   .cases h
   .rename_i hc
    obtain⟨r',h1,h⟩:=obs h
    simp only[Bool.or_eq_true,not_or,Bool.not_eq_true,List.contains_eq_mem,decide_eq_false_iff_not]at hc
    simp only[mapEnv,frz_id hc.1 hc.2,obb,frzE_env h1 hn]
    exact h
  cases l with
  | arr o' n=>
   simp only[frzE]at h
   obtain⟨r',h1,h⟩:=obs h
   simp only[arrNs]at hn
   split at hn
   .rename_i ho
    subst ho
    have:=hn n (by simp)
    subst this
    simp only[if_true]at h
    simp only[mapEnv,LV.frz,if_true,obb,frzE_env h1 (fun m hm=>hn m (by simp[hm]))]
    exact h
   .rename_i ho
    simp only[if_neg ho]at h
    simp only[mapEnv,LV.frz,if_neg ho,obb,frzE_env h1 hn]
    exact h
  | _=>exact key _ (by intro o' n e;cases e) h hn
theorem adel_mid {o:Nat}{x:Obj}:∀ {pre post:List (Nat×Obj)},(pre++post).all (fun y=>y.1 != o)=true->adel (pre++(o,x)::post) o=pre++post
 | [],[],_=>by simp[adel]
 | [],y::post,h=>by
  simp only[List.nil_append,List.all_cons,bat,bne_iff_ne]at h
  have:=adel_mid (o:=o) (x:=x) (pre:=[]) (post:=post) (by simpa using h.2)
  simp only[List.nil_append,adel,if_true]at this ⊢
  rw[if_neg (Ne.symm h.1),this]
 | y::pre,post,h=>by
  simp only[List.cons_append,List.all_cons,bat,bne_iff_ne]at h
  simp only[List.cons_append,adel,if_neg (Ne.symm h.1),adel_mid h.2]
theorem aget_mid {o:Nat}{x:Obj}:∀ {pre post:List (Nat×Obj)},(pre++post).all (fun y=>y.1 != o)=true->aget (pre++(o,x)::post) o=some x
 | [],_,_=>by simp[aget]
 | y::pre,post,h=>by
  simp only[List.cons_append,List.all_cons,bat,bne_iff_ne]at h
  simp only[List.cons_append,aget,if_neg (Ne.symm h.1),aget_mid h.2]
theorem G.frz {o g n:Nat}{gs:List Ghost}{c:LC}{zs:List PV}{sh:List Shp}{k:Nat}(ys:List T) (pre post:List (Nat×Obj)) (env:List (Nat×LV)) (s':LSt) (h1:s.objs=pre++(o,.rows (Enc.sz T) (fillR ys k zs) sh none)::post) (hk:k=0/\n=ys.length)
  (hn:(s.env.all fun x => !x.2.toks.contains g)=true) (hp:((pre++post).all fun y=>y.1 != o)=true)
  (hN:arrNs o s.env=[n]) (h2:frzE o g (Enc.sz T) (Enc.E ys) s.env=some env) (h3:offB o g (pre++post)=true) (hs:{ s with env:=env,objs:=pre++post }=s') (h:G E res r K (.gh gs c) s'):G E res r K (.gh (.frz o g::gs) c) s:=by
 obtain⟨rfl,hl⟩:=hk
 intro hE hb hk hK
 have hoff:∀x∈pre++post,g∉LV.toksL x.2.cells:=by
  intro x hx
  have:=List.all_eq_true.1 h3 x hx
  obtain⟨m,x⟩:=x
  cases x with
  | rows _ _ _ hole=>
   cases hole with
   | none=>simp[Obj.cells,LV.toksL]
   | some _=>simp at this
  | var cs=>
   simp only[bat,Bool.not_eq_true',List.contains_eq_mem,decide_eq_false_iff_not]at this
   exact this.2
 have hno:noTok s g=true:=by
  unfold noTok
  rw[bat]
  refine⟨hn,?_⟩
  rw[h1,List.all_eq_true]
  intro x hx
  have:g∉LV.toksL x.2.cells:=by
   rcases lma hx with hx | hx
   .exact hoff x (List.mem_append_left _ hx)
   .rcases lm1 hx with rfl | hx
    .simp only[Obj.cells,LV.toksL,List.not_mem_nil,not_false_eq_true]
    .exact hoff x (List.mem_append_right _ hx)
  simpa using this
 have hf:fillR ys 0 zs=Enc.E ys:=by simp[fillR]
 rw[hf]at h1
 have hg:evGhost s (.frz o g)=some s':=by
  have h4:=frzE_env h2 (by rw[hN];intro m hm;simp only[List.mem_singleton]at hm;rw[hm,hl,Enc.E_eq,List.length_map])
  have h5:rowsOfO s.objs o=some (Enc.sz T,Enc.E ys,sh):=by unfold rowsOfO;rw[h1,aget_mid hp];rfl
  have h6:adel s.objs o=pre++post:=by rw[h1];exact adel_mid hp
  simp only[evGhost,h5,obb,hno,if_true,h4,h6,frzObjs_id h3,hs]
 have hgs:∀x,EvC E (.gh gs c) s' x->EvC E (.gh (.frz o g::gs) c) s x:=by
  rintro x ⟨n,hx⟩
  refine⟨n,?_⟩
  simp only[evC,evGhosts,hg,obb]at hx ⊢
  exact hx
 obtain⟨x,i1,i2⟩:=h hE (ghost_bd hb hg) hk hK
 exact⟨x,hgs x i1,i2⟩
end lists
theorem GQ.index {d:Nat}{x i:Opd}{ks:List Nat}{b:List LI}(t:ByteArray) (v:UInt8){j:Int}(s':LSt) (h1:s.opd x=some (.pv (.sc (.string t)))) (hi:s.int i=some j) (hj:0<=j) (hv:t.data[j.toNat]?=some v)
  (hs:(s.apply ⟨[],[],some (wantI .u8 v.toNat)⟩ (some d)).kill ks=s') (h':GQ E b s' Q):GQ E (⟨some d,none,.index x i,ks⟩::b) s Q:=by
 refine GQ.one s' (e:=⟨[],[],some (wantI .u8 v.toNat)⟩) (fun c=>?_) hs h'
 simp only[evOp,hi,h1,obb,LV.str?,hj,if_true,hv]
 rfl
instance:Enc PV:=⟨1,fun p=>[p],fun p=>[p],fun _=>rfl,List.map fun p=>[p],fun _=>rfl⟩
theorem GQ.lenS {d:Nat}{t:Nat}{ks:List Nat}{b:List LI}(x:ByteArray) (s':LSt) (h1:s.opd (.t t)=some (.pv (.sc (.string x))))
  (hs:(s.apply ⟨[],[],some (wantI .i64 x.size)⟩ (some d)).kill ks=s') (h':x.size<=bigStr->GQ E b s' Q):GQ E (⟨some d,none,.lenS (.t t),ks⟩::b) s Q:=by
 intro hE hb hk
 have hl:x.size<=bigStr:=opd_bdT hb h1
 refine GQ.one s' (e:=⟨[],[],some (wantI .i64 x.size)⟩) (fun c=>?_) hs (h' hl) hE hb hk
 simp only[evOp,h1,obb,LV.str?]
 rfl
theorem GQ.cat {d:Nat}{x y:Opd}{ks:List Nat}{b:List LI}(t u:ByteArray) (s':LSt) (h1:s.opd x=some (.pv (.sc (.string t)))) (h2:s.opd y=some (.pv (.sc (.string u)))) (hb:t.size+u.size<=bigStr)
  (hs:(s.apply ⟨[],[],some (.pv (.sc (.string (t++u))))⟩ (some d)).kill ks=s') (h':GQ E b s' Q):GQ E (⟨some d,none,.bin .add x y,ks⟩::b) s Q:=by
 refine GQ.one s' (e:=⟨[],[],some (.pv (.sc (.string (t++u))))⟩) (fun c=>?_) hs h'
 simp only[evOp,h1,h2,obb,LV.sc?,scBin,strBin,hb,if_true,pureE]
theorem GQ.sliceS {d:Nat}{x:Opd}{lo hi:Option Opd}{ks:List Nat}{b:List LI}(t:ByteArray){a z:Option Int}(s':LSt) (h1:s.opd x=some (.pv (.sc (.string t)))) (h3:s.optInt lo=some a) (h4:s.optInt hi=some z)
  (hb:0<=a.getD 0/\a.getD 0<=z.getD t.size/\z.getD t.size<=t.size)
  (hs:(s.apply ⟨[],[],some (.pv (.sc (.string (t.extract (a.getD 0).toNat (z.getD t.size).toNat))))⟩ (some d)).kill ks=s') (h':GQ E b s' Q):GQ E (⟨some d,none,.sliceS lo hi x,ks⟩::b) s Q:=by
 refine GQ.one s' (e:=⟨[],[],some (.pv (.sc (.string (t.extract (a.getD 0).toNat (z.getD t.size).toNat))))⟩) (fun c=>?_) hs h'
 simp only[evOp,h1,h3,h4,obb,LV.str?,LM.sliceS]
 rw[if_pos hb]
 rfl
instance:Enc UInt8:=⟨1,fun b=>[.sc (.int .u8 b.toNat)],fun b=>[.sc (.int .u8 b.toNat)],fun _=>rfl,List.map fun b=>[.sc (.int .u8 b.toNat)],fun _=>rfl⟩
instance:Enc Str:=⟨1,fun s=>[.sc (.string s)],fun s=>[.sc (.string s)],fun _=>rfl,List.map fun s=>[.sc (.string s)],fun _=>rfl⟩
instance:Enc Int:=⟨1,fun s=>[.sc (.int .i64 s)],fun s=>[.sc (.int .i64 s)],fun _=>rfl,List.map fun s=>[.sc (.int .i64 s)],fun _=>rfl⟩
instance:Enc Bool:=⟨1,fun s=>[.sc (.bool s)],fun s=>[.sc (.bool s)],fun _=>rfl,List.map fun s=>[.sc (.bool s)],fun _=>rfl⟩
instance {T:Type} [Enc T]:Enc (List T):=⟨1,fun s=>[PL s],fun s=>[PL s],fun _=>rfl,List.map fun s=>[PL s],fun _=>rfl⟩
theorem GQ.bytes {d g:Nat}{t:Nat}{ks:List Nat}{b:List LI}(x:ByteArray) (s':LSt) (h1:s.opd (.t t)=some (.pv (.sc (.string x))))
  (hs:(s.apply ⟨[],[],some (L x.data.toList)⟩ (some d)).kill ks=s') (h':x.size<=bigStr->GQ E b s' Q):GQ E (⟨some d,none,.toBytes g (.t t),ks⟩::b) s Q:=by
 intro hE hb hk
 have hl:x.size<=bigStr:=opd_bdT hb h1
 refine GQ.one s' (e:=⟨[],[],some (L x.data.toList)⟩) (fun c=>?_) hs (h' hl) hE hb hk
 have h2:x.size<=bigLen:=hl
 simp only[evOp,h1,obb,LV.str?,h2,if_true]
 rfl
theorem bytesOf_E:∀ (xs:List UInt8),bytesOf (Enc.E xs)=some xs
 | []=>rfl
 | x::xs=>by
  have:=bytesOf_E xs
  show (bytesOf (Enc.E xs)).bind _=_
  rw[this]
  simp
theorem GQ.toStr {d:Nat}{x:Opd}{ks:List Nat}{b:List LI}(xs:List UInt8) (s':LSt) (h1:lstOf s x=some (Enc.sz UInt8,Enc.E xs))
  (hs:(s.apply ⟨[],[],some (S ⟨xs.toArray⟩)⟩ (some d)).kill ks=s') (h':GQ E b s' Q):GQ E (⟨some d,none,.toStr x,ks⟩::b) s Q:=by
 refine GQ.one s' (e:=⟨[],[],some (S ⟨xs.toArray⟩)⟩) (fun c=>?_) hs h'
 obtain⟨l,h3,h0,h4⟩:=lstOf_some h1
 simp only[evOp,h3,h4,obb,bytesOf_E]
 rfl
def u8of (n:Int):UInt8:=UInt8.ofNat (IntKind.u8.wrap n).toNat
theorem u8of_eq (n:Int):((u8of n).toNat:Int)=IntKind.u8.wrap n:=by
 have h:0<=IntKind.u8.wrap n/\IntKind.u8.wrap n<256:=by
  simp only[IntKind.wrap,IntKind.bits,IntKind.signed]
  simp
  omega
 unfold u8of
 rw[UInt8.toNat_ofNat']
 omega
theorem GQ.convu8 {d:Nat}{x:Opd}{ks:List Nat}{b:List LI}{k:IntKind}(n:Int) (s':LSt) (h1:s.opd x=some (.pv (.sc (.int k n))))
  (hs:(s.apply ⟨[],[],some (NK .u8 ((u8of n).toNat:Int))⟩ (some d)).kill ks=s') (h':GQ E b s' Q):GQ E (⟨some d,none,.conv .u8 x,ks⟩::b) s Q:=by
 refine GQ.one s' (e:=⟨[],[],some (NK .u8 ((u8of n).toNat:Int))⟩) (fun c=>?_) hs h'
 simp only[evOp,h1,obb,LV.int?,u8of_eq]
 rfl
theorem GQ.quo {d:Nat}{x y:Opd}{ks:List Nat}{b:List LI}{k:IntKind}(i j:Int) (s':LSt) (h1:s.opd x=some (.pv (.sc (.int k i)))) (h2:s.opd y=some (.pv (.sc (.int k j)))) (hb:j≠0)
  (hs:(s.apply ⟨[],[],some (.pv (.sc (.int k (k.wrap (i.tdiv j)))))⟩ (some d)).kill ks=s') (h':GQ E b s' Q):GQ E (⟨some d,none,.bin .quo x y,ks⟩::b) s Q:=by
 refine GQ.one s' (e:=⟨[],[],some (.pv (.sc (.int k (k.wrap (i.tdiv j)))))⟩) (fun c=>?_) hs h'
 simp[evOp,h1,h2,LV.sc?,scBin,intBin,hb,pureE]
theorem GQ.rem {d:Nat}{x y:Opd}{ks:List Nat}{b:List LI}{k:IntKind}(i j:Int) (s':LSt) (h1:s.opd x=some (.pv (.sc (.int k i)))) (h2:s.opd y=some (.pv (.sc (.int k j)))) (hb:j≠0)
  (hs:(s.apply ⟨[],[],some (.pv (.sc (.int k (i.tmod j))))⟩ (some d)).kill ks=s') (h':GQ E b s' Q):GQ E (⟨some d,none,.bin .rem x y,ks⟩::b) s Q:=by
 refine GQ.one s' (e:=⟨[],[],some (.pv (.sc (.int k (i.tmod j))))⟩) (fun c=>?_) hs h'
 simp[evOp,h1,h2,LV.sc?,scBin,intBin,hb,pureE]
theorem evOps_call {d:Option Nat}{op:LOp}{ks:List Nat}{b:List LI}{f:Nat}{as:List LV}{os:List (Nat×Obj)}{r:Fin}(hop:∀c,(c f as os=some r)->evOps c [⟨d,none,op,ks⟩] s=some s')
  (h3:FB E f as os r) (hA:E.ok->s.bd->(LOp.cok op)=true->argBd as os) (h':GQ E b s' Q):GQ E (⟨d,none,op,ks⟩::b) s Q:=by
 intro hE hb hk
 have hk':=hk
 simp only[List.all_cons,bat]at hk
 obtain⟨n,hn⟩:=h3 hE (hA hE hb hk.1)
 have h1:EvO E [⟨d,none,op,ks⟩] s s':=⟨n,hop _ hn⟩
 obtain⟨s2,i1,i2⟩:=h' hE (EvO_bd hE (by simp[hk.1]) hb h1) hk.2
 exact⟨s2,EvO.append (a:=[⟨d,none,op,ks⟩]) h1 i1,i2⟩
theorem GQ.call {d:Option Nat}{f g:Nat}{ws ts us bs ks:List Nat}{xs:List (Opd×Bool)}{b:List LI}{as:List LV}{os:List (Nat×Obj)}{r:Fin}(s':LSt)
  (h3:FB E f as os r) (h1:handOf s 0 0 xs=some ⟨as,os,ts,ws,bs⟩) (h4:((callEff s g us ⟨as,os,ts,ws,bs⟩ r).map fun e=>(s.apply e d).kill ks)=some s') (h':GQ E b s' Q):
  GQ E (⟨d,none,.call f g ws ts us bs xs,ks⟩::b) s Q:=by
 refine evOps_call (fun c hc=>?_) h3 (fun _ hb hk=>handOf_bd hb hk h1) h'
 obtain⟨e,h5,h6⟩:=Option.map_eq_some_iff.1 h4
 simp only[evOps,wantedL,obb,evOp,h1,and_self,if_true,hc,h5,h6]
theorem GQ.callv {d:Option Nat}{g:Nat}{ws ts us bs ks:List Nat}{x:Opd}{xs:List (Opd×Bool)}{b:List LI}{as:List LV}{p:PV}{r:Fin}(s':LSt)
  (h0:s.opd x=some (.pv p)) (h3:AB E p as r) (h1:handOf s 0 0 xs=some ⟨as,[],ts,ws,bs⟩) (h4:((callEff s g us ⟨as,[],ts,ws,bs⟩ r).map fun e=>(s.apply e d).kill ks)=some s') (h':GQ E b s' Q):
  GQ E (⟨d,none,.callv g ws ts us bs x xs,ks⟩::b) s Q:=by
 obtain⟨e,h5,h6⟩:=Option.map_eq_some_iff.1 h4
 cases p with
 | clo f ps=>
  have h3:fid f=f/\FB E f (as++ps.map .pv) [] r:=h3
  refine evOps_call (f:=f) (as:=as++ps.map .pv) (os:=[]) (r:=r) (fun c hc=>?_) h3.2 (fun _ hb hk=>?_) h'
  .simp only[evOps,wantedL,obb,evOp,h0,h1,and_self,if_true,callp,h3.1,hc,h5,h6]
  .simp only[LOp.cok,bat]at hk
   obtain⟨i1,i2⟩:=handOf_bd hb hk.2 h1
   exact⟨bdL_append i1 (pv_row_bdL (opd_bd hb hk.1 h0)),i2⟩
 | mth f ps=>
  have h3:fid f=f/\FB E f (.agg (ps.map .pv)::as) [] r:=h3
  refine evOps_call (f:=f) (as := .agg (ps.map .pv)::as) (os:=[]) (r:=r) (fun c hc=>?_) h3.2 (fun _ hb hk=>?_) h'
  .simp only[evOps,wantedL,obb,evOp,h0,h1,and_self,if_true,callp,h3.1,hc,h5,h6]
  .simp only[LOp.cok,bat]at hk
   obtain⟨i1,i2⟩:=handOf_bd hb hk.2 h1
   exact⟨⟨show LV.bd (.agg (List.map LV.pv _)) from pv_row_bdL (opd_bd hb hk.1 h0),i1⟩,i2⟩
 | _=>exact h3.elim
def GF (E:Env) (p:LF) (as:List LV) (os:List (Nat×Obj)) (r:Fin):Prop:=G E p.res r [] p.body { env:=argEnv 0 as,objs:=os,fix:=os.map (·.1) }
theorem GF.run {f:Nat}{p:LF}(hp:E.prog f=some p){as:List LV}{os:List (Nat×Obj)}{r:Fin}(h:GF E p as os r) (hE:E.ok) (hb:argBd as os):∃n,runF (evF E.prog E.ext n) n p as os=some r:=by
 obtain⟨⟨e,s'⟩,h1,h2,h3⟩:=h hE (start_bd hb) (hE.prog f p hp) rfl
 exact EvF.run h1 h2 h3
theorem FB.body {f:Nat}{p:LF}{as:List LV}{os:List (Nat×Obj)}{r:Fin}(hx:E.ext f=none) (hp:E.prog f=some p) (hk:p.split=none) (hl:(as.length == p.np&&decide (os.map (·.1)).Nodup&&os.all (fun o=>decide (o.1<1099511627776)))=true)
  (h:GF E p as os r):FB E f as os r:=by
 intro hE hb
 rw[bat,bat]at hl
 exact EvF.body hx hp hk ⟨eq_of_beq hl.1.1,of_decide_eq_true hl.1.2,hl.2⟩ (h.run hp hE hb)
theorem FB.body2 {f k:Nat}{p:LF}{as a0:List LV}{os:List (Nat×Obj)}{r:Fin}(hx:E.ext f=none) (hp:E.prog f=some p) (hk:p.split=some k) (hl:(as.length == p.np&&decide (os.map (·.1)).Nodup&&os.all (fun o=>decide (o.1<1099511627776)))=true)
  (h0:splitArg false k as=some a0) (h:GF E p a0 os r) (h1:∀a1,splitArg true k as=some a1->GF E p a1 os r):FB E f as os r:=by
 intro hE hb
 rw[bat,bat]at hl
 exact EvF.body2 hx hp hk ⟨eq_of_beq hl.1.1,of_decide_eq_true hl.1.2,hl.2⟩ h0 (h.run hp hE ⟨splitArg_bd hb.1 h0,hb.2⟩) fun a1 ha=>(h1 a1 ha).run hp hE ⟨splitArg_bd hb.1 ha,hb.2⟩
end
def noC:CallF:=fun _ _ _=>none
def nx (a:List LI) (s:LSt):LSt:=(evOps noC a s).getD s
def ng (a:List Ghost) (s:LSt):LSt:=(evGhosts a s).getD s
def nv (s:LSt) (d:Nat) (ks:List Nat) (v:LV):LSt:=(s.apply ⟨[],[],some v⟩ (some d)).kill ks
def nc (s:LSt) (d:Option Nat) (ks:List Nat) (e:Option Eff):LSt:=(e.map fun e=>(s.apply e d).kill ks).getD s
def LSt.pb (s:LSt) (t:Nat) (b:Bool):LSt:={ s with env:=aset s.env t (B b) }
section
variable {E:Env}{res:List LRes}{r:Fin}{K:List Frame}{s s':LSt}{Q:LSt->Prop}{a b l:List LI}{c c':LC}{d:Nat}{ks:List Nat}{R:Prop}
theorem nx_all {a:List LI}{s:LSt}(h:(evOps noC a s).isSome=true):∀c,evOps c a s=some (nx a s):=fun c=>by
 obtain⟨s',e⟩:=Option.isSome_iff_exists.1 h
 have:nx a s=s':=by unfold nx;rw[e];rfl
 rw[this];exact evOps_mono (fun _ _ _ _ h=>by cases h) e
theorem Kg (n:Nat) (h':GQ E (l.drop n) (nx (l.take n) s) Q) (h:(evOps noC (l.take n) s).isSome=true:=by kernel_rfl):GQ E l s Q:=by
 have:=GQ.seg (a:=l.take n) (b:=l.drop n) _ (nx_all h) h'
 rwa [List.take_append_drop]at this
theorem Ke (h':Q (nx l s)) (h:(evOps noC l s).isSome=true:=by kernel_rfl):GQ E l s Q:=GQ.last _ (nx_all h) h'
theorem Kgh {gs:List Ghost}(h:G E res r K c (ng gs s)) (h1:(evGhosts gs s).isSome=true:=by kernel_rfl):G E res r K (.gh gs c) s:=by
 obtain⟨s',e⟩:=Option.isSome_iff_exists.1 h1
 have:ng gs s=s':=by unfold ng;rw[e];rfl
 rw[this]at h
 exact G.gh s' e h
theorem Kj {gs:List Ghost}(h:G E res r K c s') (h1:evGhosts gs s=some s':=by kernel_rfl):G E res r K (.gh gs c) s:=G.gh s' h1 h
theorem Kv (h:G E res r K c s') (hs:s=s':=by kernel_rfl):G E res r K c s:=G.conv s' hs h
theorem Ks (h:G E res r (.sq c'::K) c s):G E res r K (.seq c c') s:=G.seq h
theorem Ko (h:GQ E l s (GR E res r K .nrm)):G E res r K (.ops l) s:=G.ops h
theorem Kd (h:GQ E l s (GR E res r K .nrm)) (hd:drawRdy s l=true:=by kernel_rfl):G E res r K (.draw l) s:=G.draw hd h
theorem Kn (h:GR E res r K .nrm s):GQ E [] s (GR E res r K .nrm):=GQ.nil h
theorem Kr (h:G E res r K c s):GR E res r (.sq c::K) .nrm s:=GR.seq h
theorem Kl (h:G E res r K (.loop c) s') (hs:s=s':=by kernel_rfl):GR E res r (.lp c::K) .nrm s:=GR.loop (G.conv s' hs h)
theorem Kp {i:Nat}(h:GR E res r K .nrm s):GR E res r (.blk i::K) .nrm s:=GR.blk h
theorem Kb {i:Nat}(h:G E res r (.blk i::K) c s):G E res r K (.block i c) s:=G.blk h
theorem Ku (h:GR E res r K .nrm s):G E res r K .skip s:=G.skip h
theorem Kx {i:Nat}{K':List Frame}(h:GR E res r K' .nrm s) (he:exits i K=some K':=by rfl):G E res r K (.exit i) s:=G.exitTo he h
theorem Kf (h:G E res r K c (nx l s)) (h1:(evOps noC l s).isSome=true:=by kernel_rfl):G E res r K (.seq (.ops l) c) s:=Ks (Ko (Ke (Kr h) h1))
theorem Kt (h:outOf s res=some r:=by kernel_rfl):G E res r K .ret s:=G.ret h
theorem Kw0 {op:LOp}{g:Nat×Bool}{d:Option Nat}(h:GQ E (⟨d,none,op,ks⟩::b) s Q) (hw:wantedL s (some g)=some true:=by kernel_rfl):GQ E (⟨d,some g,op,ks⟩::b) s Q:=GQ.want hw h
theorem Kc {x:Bool}{A B:Prop}{o:Opd}(h:if x=true then A else B) (h1:A->G E res r K c s) (h2:B->G E res r K c' s) (hc:s.opd o=some (.pv (.sc (.bool x))):=by kernel_rfl):G E res r K (.cond o c c') s:=
 G.cond x hc (fun e=>h1 (iteT h e)) fun e=>h2 (iteF h e)
theorem Kq (n:Nat) (x w:Bool) (t d:Nat) (f:Bool->Bool) (h1:x=w->GQ E (l.take n) (s.pb t w) (· = (nx (l.take n) (s.pb t !w)).pb d (f w))) (h':GQ E (l.drop n) ((nx (l.take n) (s.pb t !w)).pb d (f x)) Q)
  (hs:s=s.pb t x:=by kernel_rfl) (h2:(evOps noC (l.take n) (s.pb t !w)).isSome=true:=by kernel_rfl) (h3:nx (l.take n) (s.pb t !w)=(nx (l.take n) (s.pb t !w)).pb d (f !w):=by kernel_rfl):GQ E l s Q:=by
 have:=GQ.many (a:=l.take n) (b:=l.drop n) ((nx (l.take n) (s.pb t !w)).pb d (f x)) (s:=s) (Q:=Q) (E:=E) ?_ h'
 .rwa [List.take_append_drop]at this
 .by_cases e:x=w
  .have h:=h1 e
   have e1:s=s.pb t w:=e▸hs
   rw[<-e1]at h
   rw[e];exact h
  .have e':x = !w:=(show ∀x w:Bool,¬x=w->x = !w by decide) x w e
   have e1:s=s.pb t !w:=e'▸hs
   rw[<-e1]at h2
   rw[e',<-h3,<-e1]
   exact Ke rfl h2
theorem nv_eq {op:LOp}{v:LV}(h:∀c,evOp c s op=some ⟨[],[],some v⟩) (h':GQ E b (nv s d ks v) Q):GQ E (⟨some d,none,op,ks⟩::b) s Q:=GQ.one _ h rfl h'
theorem KL {T:Type} [Enc T] {xs:List T}{t:Nat}(h:xs.length<=bigLen->R) (h':R->GQ E b (nv s d ks (I xs.length)) Q) (h1:lstOf s (.t t)=some (Enc.sz T,Enc.E xs):=by kernel_rfl):GQ E (⟨some d,none,.len (.t t),ks⟩::b) s Q:=GQ.len xs _ h1 rfl fun a=>h' (h a)
theorem QL {T:Type} [Enc T] (xs:List T){t:Nat}(h':xs.length<=bigLen->GQ E b (nv s d ks (I xs.length)) Q) (h1:lstOf s (.t t)=some (Enc.sz T,Enc.E xs):=by kernel_rfl):GQ E (⟨some d,none,.len (.t t),ks⟩::b) s Q:=GQ.len xs _ h1 rfl h'
theorem KLs {x:ByteArray}{t:Nat}(h:x.size<=bigStr->R) (h':R->GQ E b (nv s d ks (I x.size)) Q) (h1:s.opd (.t t)=some (S x):=by kernel_rfl):GQ E (⟨some d,none,.lenS (.t t),ks⟩::b) s Q:=GQ.lenS x _ h1 rfl fun a=>h' (h a)
theorem QLs (x:ByteArray){t:Nat}(h':x.size<=bigStr->GQ E b (nv s d ks (I x.size)) Q) (h1:s.opd (.t t)=some (S x):=by kernel_rfl):GQ E (⟨some d,none,.lenS (.t t),ks⟩::b) s Q:=GQ.lenS x _ h1 rfl h'
theorem Kby {x:ByteArray}{t g:Nat}(h:x.size<=bigStr->R) (h':R->GQ E b (nv s d ks (L x.data.toList)) Q) (h1:s.opd (.t t)=some (S x):=by kernel_rfl):GQ E (⟨some d,none,.toBytes g (.t t),ks⟩::b) s Q:=GQ.bytes x _ h1 rfl fun a=>h' (h a)
theorem Qi {T:Type} [Enc T] {xs:List T}{v:T}{x i:Opd}{j:Int}(h:0<=j/\xs[j.toNat]?=some v) (h':GQ E b (nv s d ks (CP v)) Q) (h1:lstOf s x=some (Enc.sz T,Enc.E xs):=by kernel_rfl) (hi:s.int i=some j:=by kernel_rfl):GQ E (⟨some d,none,.iaddr (Enc.sz T) none x i,ks⟩::b) s Q:=GQ.iaddr xs v _ h1 hi h.1 h.2 rfl h'
theorem Ki {T:Type} [Enc T] {xs:List T}{x i:Opd}{j:Int}{P:T->Prop}(h:∃v:T,(0<=j/\xs[j.toNat]?=some v)/\P v) (h':∀v,P v->GQ E b (nv s d ks (CP v)) Q) (h1:lstOf s x=some (Enc.sz T,Enc.E xs):=by kernel_rfl) (hi:s.int i=some j:=by kernel_rfl):GQ E (⟨some d,none,.iaddr (Enc.sz T) none x i,ks⟩::b) s Q:=by
 obtain⟨v,h2,h3⟩:=h
 exact Qi h2 (h' v h3) h1 hi
theorem Qx {t:ByteArray}{v:UInt8}{x i:Opd}{j:Int}(h:0<=j/\t.data[j.toNat]?=some v) (h':GQ E b (nv s d ks (wantI .u8 v.toNat)) Q) (h1:s.opd x=some (S t):=by kernel_rfl) (hi:s.int i=some j:=by kernel_rfl):GQ E (⟨some d,none,.index x i,ks⟩::b) s Q:=GQ.index t v _ h1 hi h.1 h.2 rfl h'
theorem Kix {t:ByteArray}{x i:Opd}{j:Int}{P:UInt8->Prop}(h:∃v:UInt8,(0<=j/\t.data[j.toNat]?=some v)/\P v) (h':∀v,P v->GQ E b (nv s d ks (wantI .u8 v.toNat)) Q) (h1:s.opd x=some (S t):=by kernel_rfl) (hi:s.int i=some j:=by kernel_rfl):GQ E (⟨some d,none,.index x i,ks⟩::b) s Q:=by
 obtain⟨v,h2,h3⟩:=h
 exact Qx h2 (h' v h3) h1 hi
theorem Kw {T:Type} [Enc T] {xs:List T}{x:Opd}{lo hi:Option Opd}{u z:Option Int}(h:(0<=u.getD 0/\u.getD 0<=z.getD xs.length/\z.getD xs.length<=xs.length)/\R)
  (h':R->GQ E b (nv s d ks (L ((xs.drop (u.getD 0).toNat).take ((z.getD xs.length).toNat-(u.getD 0).toNat)))) Q) (h1:lstOf s x=some (Enc.sz T,Enc.E xs):=by kernel_rfl) (h3:s.optInt lo=some u:=by kernel_rfl) (h4:s.optInt hi=some z:=by kernel_rfl):
  GQ E (⟨some d,none,.slice (Enc.sz T) lo hi x,ks⟩::b) s Q:=GQ.slice xs _ h1 h3 h4 h.1 rfl (h' h.2)
theorem Kws {t:ByteArray}{x:Opd}{lo hi:Option Opd}{u z:Option Int}(h:(0<=u.getD 0/\u.getD 0<=z.getD t.size/\z.getD t.size<=t.size)/\R)
  (h':R->GQ E b (nv s d ks (S (t.extract (u.getD 0).toNat (z.getD t.size).toNat))) Q) (h1:s.opd x=some (S t):=by kernel_rfl) (h3:s.optInt lo=some u:=by kernel_rfl) (h4:s.optInt hi=some z:=by kernel_rfl):
  GQ E (⟨some d,none,.sliceS lo hi x,ks⟩::b) s Q:=GQ.sliceS t _ h1 h3 h4 h.1 rfl (h' h.2)
theorem Ka {T:Type} [Enc T] {xs ys:List T}{x y:Opd}{g g':Nat}(h:xs.length+ys.length<=bigLen/\R) (h':R->GQ E b ((s.apply ⟨[g,g'],[],some (O g (xs++ys))⟩ (some d)).kill ks) Q) (h1:s.opd x=some (O g' xs):=by kernel_rfl) (h2:lstOf s y=some (Enc.sz T,Enc.E ys):=by kernel_rfl):
  GQ E (⟨some d,none,.append g (Enc.sz T) (some g') x y,ks⟩::b) s Q:=GQ.app xs ys _ h1 h2 h.1 rfl (h' h.2)
theorem Ka0 {T:Type} [Enc T] {ys:List T}{x y:Opd}{g z:Nat}(h:ys.length<=bigLen/\R) (h':R->GQ E b ((s.apply ⟨[g],[],some (O g ys)⟩ (some d)).kill ks) Q) (h1:s.opd x=some (.nils z):=by kernel_rfl) (h2:lstOf s y=some (Enc.sz T,Enc.E ys):=by kernel_rfl):
  GQ E (⟨some d,none,.append g (Enc.sz T) none x y,ks⟩::b) s Q:=GQ.app0 ys _ h1 h2 h.1 rfl (h' h.2)
theorem Qa0 {T:Type} [Enc T] (ys:List T){x y:Opd}{g z:Nat}(h':GQ E b ((s.apply ⟨[g],[],some (O g ys)⟩ (some d)).kill ks) Q) (h:Nat.ble ys.length bigLen=true:=by kernel_rfl) (h1:s.opd x=some (.nils z):=by kernel_rfl) (h2:lstOf s y=some (Enc.sz T,Enc.E ys):=by kernel_rfl):
  GQ E (⟨some d,none,.append g (Enc.sz T) none x y,ks⟩::b) s Q:=GQ.app0 ys _ h1 h2 (Nat.le_of_ble_eq_true h) rfl h'
theorem Qct (t u:ByteArray){x y:Opd}(h:t.size+u.size<=bigStr) (h':GQ E b (nv s d ks (S (t++u))) Q) (h1:s.opd x=some (S t):=by kernel_rfl) (h2:s.opd y=some (S u):=by kernel_rfl):GQ E (⟨some d,none,.bin .add x y,ks⟩::b) s Q:=GQ.cat t u _ h1 h2 h rfl h'
theorem Kct {t u:ByteArray}{x y:Opd}(h:t.size+u.size<=bigStr/\R) (h':R->GQ E b (nv s d ks (S (t++u))) Q) (h1:s.opd x=some (S t):=by kernel_rfl) (h2:s.opd y=some (S u):=by kernel_rfl):GQ E (⟨some d,none,.bin .add x y,ks⟩::b) s Q:=Qct t u h.1 (h' h.2) h1 h2
theorem Kbs {T:Type} [Enc T] {g:Nat}{xs:List Opd}(ys:List T) (h':GQ E b ((s.apply ⟨[g],[],some (O g ys)⟩ (some d)).kill ks) Q) (h1:rowsOf s (Enc.sz T) xs=some (ys.map Enc.row):=by kernel_rfl):GQ E (⟨some d,none,.bslice g (Enc.sz T) xs,ks⟩::b) s Q:=GQ.bslice ys _ h1 rfl h'
theorem Kts {x:Opd}(xs:List UInt8) (h':GQ E b (nv s d ks (S ⟨xs.toArray⟩)) Q) (h1:lstOf s x=some (Enc.sz UInt8,Enc.E xs):=by kernel_rfl):GQ E (⟨some d,none,.toStr x,ks⟩::b) s Q:=GQ.toStr xs _ h1 rfl h'
theorem Kcv {x:Opd}{k:IntKind}(n:Int) (h':GQ E b (nv s d ks (NK .u8 ((u8of n).toNat:Int))) Q) (h1:s.opd x=some (NK k n):=by kernel_rfl):GQ E (⟨some d,none,.conv .u8 x,ks⟩::b) s Q:=GQ.convu8 n _ h1 rfl h'
theorem Kqu {x y:Opd}{k:IntKind}(i j:Int) (h:j≠0) (h':GQ E b (nv s d ks (NK k (k.wrap (i.tdiv j)))) Q) (h1:s.opd x=some (NK k i):=by kernel_rfl) (h2:s.opd y=some (NK k j):=by kernel_rfl):GQ E (⟨some d,none,.bin .quo x y,ks⟩::b) s Q:=GQ.quo i j _ h1 h2 h rfl h'
theorem Kre {x y:Opd}{k:IntKind}(i j:Int) (h:j≠0) (h':GQ E b (nv s d ks (NK k (i.tmod j))) Q) (h1:s.opd x=some (NK k i):=by kernel_rfl) (h2:s.opd y=some (NK k j):=by kernel_rfl):GQ E (⟨some d,none,.bin .rem x y,ks⟩::b) s Q:=GQ.rem i j _ h1 h2 h rfl h'
theorem Qk {d:Option Nat}{f g:Nat}{ws ts us bs:List Nat}{xs:List (Opd×Bool)}{as:List LV}{os:List (Nat×Obj)}{q:Fin}(h3:FB E f as os q) (h':GQ E b (nc s d ks (callEff s g us ⟨as,os,ts,ws,bs⟩ q)) Q)
  (h1:handOf s 0 0 xs=some ⟨as,os,ts,ws,bs⟩:=by kernel_rfl) (h4:(callEff s g us ⟨as,os,ts,ws,bs⟩ q).isSome=true:=by kernel_rfl):GQ E (⟨d,none,.call f g ws ts us bs xs,ks⟩::b) s Q:=by
 obtain⟨e,h5⟩:=Option.isSome_iff_exists.1 h4
 exact GQ.call _ h3 h1 (by rw[h5];rfl) (by simpa[nc,h5]using h')
theorem Kk {α:Type}{P:α->Prop}{d:Option Nat}{f g:Nat}{ws ts us bs:List Nat}{xs:List (Opd×Bool)}{as:List LV}{os:List (Nat×Obj)}{q:α->Fin}(h3:∃y:α,FB E f as os (q y)/\P y) (h':∀y,P y->GQ E b (nc s d ks (callEff s g us ⟨as,os,ts,ws,bs⟩ (q y))) Q)
  (h1:handOf s 0 0 xs=some ⟨as,os,ts,ws,bs⟩:=by kernel_rfl) (h4:∀y,(callEff s g us ⟨as,os,ts,ws,bs⟩ (q y)).isSome=true:=by intro y;kernel_rfl):GQ E (⟨d,none,.call f g ws ts us bs xs,ks⟩::b) s Q:=by
 obtain⟨y,h5,h6⟩:=h3
 exact Qk h5 (h' y h6) h1 (h4 y)
theorem Qkv {d:Option Nat}{g:Nat}{ws ts us bs:List Nat}{x:Opd}{xs:List (Opd×Bool)}{as:List LV}{p:PV}{q:Fin}(h3:AB E p as q) (h':GQ E b (nc s d ks (callEff s g us ⟨as,[],ts,ws,bs⟩ q)) Q)
  (h0:s.opd x=some (.pv p):=by kernel_rfl) (h1:handOf s 0 0 xs=some ⟨as,[],ts,ws,bs⟩:=by kernel_rfl) (h4:(callEff s g us ⟨as,[],ts,ws,bs⟩ q).isSome=true:=by kernel_rfl):GQ E (⟨d,none,.callv g ws ts us bs x xs,ks⟩::b) s Q:=by
 obtain⟨e,h5⟩:=Option.isSome_iff_exists.1 h4
 exact GQ.callv _ h0 h3 h1 (by rw[h5];rfl) (by simpa[nc,h5]using h')
theorem Kkv {α:Type}{P:α->Prop}{d:Option Nat}{g:Nat}{ws ts us bs:List Nat}{x:Opd}{xs:List (Opd×Bool)}{as:List LV}{p:PV}{q:α->Fin}(h3:∃y:α,AB E p as (q y)/\P y) (h':∀y,P y->GQ E b (nc s d ks (callEff s g us ⟨as,[],ts,ws,bs⟩ (q y))) Q)
  (h0:s.opd x=some (.pv p):=by kernel_rfl) (h1:handOf s 0 0 xs=some ⟨as,[],ts,ws,bs⟩:=by kernel_rfl) (h4:∀y,(callEff s g us ⟨as,[],ts,ws,bs⟩ (q y)).isSome=true:=by intro y;kernel_rfl):GQ E (⟨d,none,.callv g ws ts us bs x xs,ks⟩::b) s Q:=by
 obtain⟨y,h5,h6⟩:=h3
 exact Qkv h5 (h' y h6) h0 h1 (h4 y)
theorem Kee (h:nx l s=s':=by kernel_rfl) (h1:(evOps noC l s).isSome=true:=by kernel_rfl):GQ E l s (· = s'):=Ke h h1
theorem Kq2 (n:Nat) (x:Bool) (t:Nat) (f:Bool->LSt) (h1:x=true->GQ E (l.take n) (s.pb t true) (· = f true)) (h2:x=false->GQ E (l.take n) (s.pb t false) (· = f false)) (h':GQ E (l.drop n) (f x) Q) (hs:s=s.pb t x:=by kernel_rfl):GQ E l s Q:=by
 have:=GQ.grp (E:=E) (s:=s) (Q:=Q) x (l.take n) (b:=l.drop n) (s.pb t) f hs h1 h2 h'
 rwa [List.take_append_drop]at this
theorem Ky (h:G E res r (.lp c::K) c s):G E res r K (.loop c) s:=G.loop h
theorem Kz {f:Nat}{p:LF}{as:List LV}{os:List (Nat×Obj)}(h:G E p.res r [] p.body { env:=argEnv 0 as,objs:=os,fix:=os.map (·.1) }) (hx:E.ext f=none:=by rfl) (hp:E.prog f=some p:=by rfl) (hk:p.split=none:=by rfl)
  (hl:(as.length == p.np&&decide (os.map (·.1)).Nodup&&os.all (fun o=>decide (o.1<1099511627776)))=true:=by rfl):FB E f as os r:=FB.body hx hp hk hl h
theorem Kmk {T:Type} [Enc T] {o:Nat}{n:Opd}{sh:List Shp}{zs:List PV}{m:Nat}(h:m<=bigLen/\R) (h':R->GQ E b ((s.apply ⟨[],[(o,some (.rows (Enc.sz T) (fillR ([]:List T) m zs) sh none))],some (.arr o m)⟩ (some d)).kill ks) Q)
  (h1:s.int n=some (m:Int):=by kernel_rfl) (hn:noName s o=true:=by kernel_rfl) (hz:zs.length=Enc.sz T:=by rfl):GQ E (⟨some d,none,.mkslice o (Enc.sz T) sh zs n,ks⟩::b) s Q:=GQ.make m _ h1 hn hz h.1 rfl (h' h.2)
end
section
variable {E:Env}{res:List LRes}{r:Fin}{K:List Frame}{s s':LSt}{Q:LSt->Prop}{a b l:List LI}{c c':LC}{d:Nat}{ks:List Nat}{R:Prop}
variable {T:Type} [Enc T]
theorem E_get {xs:List T}{i:Nat}{y:T}(h:xs[i]?=some y):(Enc.E xs)[i]?=some (Enc.row y):=by
 rw[Enc.E_eq,List.getElem?_map,h];simp[Enc.row_eq]
theorem E_set (xs:List T) (i:Nat) (y:T):(Enc.E xs).set i (Enc.row y)=Enc.E (xs.set i y):=by
 rw[Enc.E_eq,Enc.E_eq,List.map_set,Enc.row_eq]
theorem set_same {α:Type}{xs:List α}{i:Nat}{y:α}(h:xs[i]?=some y):xs.set i y=xs:=by
 obtain⟨hi,e⟩:=lgs h
 rw[<-e];exact List.set_getElem_self hi
theorem set_get {α:Type}{xs:List α}{i:Nat}{y z:α}(h:xs[i]?=some y):(xs.set i z)[i]?=some z:=by
 obtain⟨hi,_⟩:=lgs h
 simp[hi]
theorem sget {α:Type}{xs:List α}{i:Nat}{y:α}(z:α) (h:xs[i]?=some y):(xs.set i z)[i]?=some z:=set_get h
theorem fset {α:Type}{xs:List α}{j:Int}{y:α}(z:α) (h:0<=j/\xs[j.toNat]?=some y):0<=j/\(xs.set j.toNat z)[j.toNat]?=some z:=⟨h.1,set_get h.2⟩
def rowH (sh:List Shp) (hole:Option (Nat×Nat×Nat)) (e:List PV):List LV:=
 match hole with
 | none=>outRow (ush sh) e
 | some (off,o,n)=>(outRow (ush sh) e).set off (.arr o n)
def holeAt (i:Nat):Option (Nat×Nat×Nat)->Option (Nat×Nat×Nat×Nat)
 | none=>none
 | some (off,o,n)=>some (i,off,o,n)
theorem rowLV_at (sh:List Shp) (hole:Option (Nat×Nat×Nat)) (i:Nat) (e:List PV):rowLV sh (holeAt i hole) i e=rowH sh hole e:=by
 cases hole with
 | none=>rfl
 | some x=>simp[holeAt,rowLV,rowH]
theorem Upl {o:Nat}{x i:Opd}{m:Nat}(rs:List (List PV)) (sh:List Shp) (hole:Option (Nat×Nat×Nat×Nat)){j:Int}(h:0<=j/\j<m) (h':GQ E b (nv s d ks (.eref o j.toNat 0)) Q)
  (h1:s.opd x=some (.arr o m):=by kernel_rfl) (h2:s.int i=some j:=by kernel_rfl) (h3:aget s.objs o=some (.rows (Enc.sz T) rs sh hole):=by kernel_rfl):GQ E (⟨some d,none,.iaddr (Enc.sz T) (some o) x i,ks⟩::b) s Q:=GQ.place (T:=T) _ h1 h2 h3 h rfl h'
theorem Uld {o n i off:Nat}{ag:Bool}{x:Opd}(xs:List T) (y:T) (sh:List Shp) (hole:Option (Nat×Nat×Nat)) (l:LV) (h:xs[i]?=some y) (h':GQ E b (nv s d ks l) Q)
  (h1:s.opd x=some (.eref o i off):=by kernel_rfl) (h3:aget s.objs o=some (.rows (Enc.sz T) (Enc.E xs) sh (holeAt i hole)):=by kernel_rfl)
  (h4:(takeL n ((rowH sh hole (Enc.row y)).drop off) fun ls=>ofCells ag ls)=some l:=by kernel_rfl):GQ E (⟨some d,none,.load n ag (some o) x,ks⟩::b) s Q:=by
 refine nv_eq (fun c=>?_) h'
 simp only[evOp,h1,obb,if_true,h3,E_get h,rowLV_at]
 have key:∀ (n:Nat) (cs:List LV) (k:List LV->Option LV),takeL n cs (fun ls=>(k ls).bind pureE)=(takeL n cs k).bind pureE:=by
  intro n
  induction n with
  | zero=>intro cs k;rfl
  | succ n ih=>
   intro cs k
   cases cs with
   | nil=>rfl
   | cons p ps=>exact ih ps fun ls=>k (p::ls)
 rw[key,h4];rfl
theorem Ust {o n i off:Nat}{us:List Nat}{x v:Opd}(xs:List T) (y z:T) (sh:List Shp) (hole:Option (Nat×Nat×Nat)) (ps:List PV) (h:xs[i]?=some y)
  (h':GQ E b ((s.apply ⟨[],gone us++[(o,some (.rows (Enc.sz T) (Enc.E (xs.set i z)) sh none))],none⟩ none).kill ks) Q)
  (h1:s.opd x=some (.eref o i off):=by kernel_rfl) (h3:aget s.objs o=some (.rows (Enc.sz T) (Enc.E xs) sh (holeAt i hole)):=by kernel_rfl)
  (h4:(((s.opd v).bind fun l=>l.cellsN n).bind (LV.intoL s.objs ((ush sh).drop off)))=some (ps,us):=by kernel_rfl) (h5:putPV (Enc.row y) off ps=some (Enc.row z):=by kernel_rfl)
  (h6:(decide us.Nodup && !us.contains o&&(match hole with | none=>true | some (k,_,_)=>Nat.ble off k&&Nat.blt k (off+n)))=true:=by kernel_rfl):GQ E (⟨none,none,.store n o us x v,ks⟩::b) s Q:=by
 refine GQ.one _ (e:=⟨[],gone us++[(o,some (.rows (Enc.sz T) (Enc.E (xs.set i z)) sh none))],none⟩) (fun c=>?_) rfl h'
 obtain⟨ls,h4,h7⟩:=obs h4
 obtain⟨l,h2,h4⟩:=obs h4
 simp only[bat,decide_eq_true_eq,Bool.not_eq_true']at h6
 obtain⟨⟨h6,h8⟩,h9⟩:=h6
 have hh:holeOff (holeAt i hole) i off n=none:=by
  cases hole with
  | none=>rfl
  | some q=>
   obtain⟨k,o',m⟩:=q
   simp only[bat,Nat.ble_eq,Nat.blt_eq]at h9
   simp[holeAt,holeOff,h9]
 simp only[evOp,h1,h2,h3,h4,h7,obb,if_true,E_get h,h6,h8,and_self,h5,E_set,hh]
theorem Utk {U:Type} [Enc U] {gs:List Ghost}{o off o':Nat}{i:GIx}(xs:List T) (y:T) (zs:List U) (sh sh':List Shp){j:Int}(h:xs[j.toNat]?=some y)
  (h':G E res r K (.gh gs c) { s with objs:=aset (aset s.objs o (.rows (Enc.sz T) (Enc.E xs) sh (some (j.toNat,off,o',zs.length)))) o' (.rows (Enc.sz U) (Enc.E zs) sh' none) })
  (h1:s.gix i=some j:=by kernel_rfl) (h3:aget s.objs o=some (.rows (Enc.sz T) (Enc.E xs) sh none):=by kernel_rfl) (h4:shpAt (ush sh) off = .u sh':=by rfl) (h5:(Enc.row y)[off]?=some (PL zs):=by kernel_rfl) (h6:noName s o'=true:=by kernel_rfl):
  G E res r K (.gh (.take o i off o'::gs) c) s:=by
 have hg:evGhost s (.take o i off o')=some { s with objs:=aset (aset s.objs o (.rows (Enc.sz T) (Enc.E xs) sh (some (j.toNat,off,o',zs.length)))) o' (.rows (Enc.sz U) (Enc.E zs) sh' none) }:=by
  have hl:(Enc.E zs).length=zs.length:=by rw[Enc.E_eq,List.length_map]
  simp only[evGhost,h1,obb,h3,E_get h,h4,h5,PL,h6,if_true,hl]
 intro hE hb hk hK
 obtain⟨x,⟨n,i1⟩,i2⟩:=h' hE (ghost_bd hb hg) hk hK
 refine⟨x,⟨n,?_⟩,i2⟩
 simp only[evC,evGhosts,hg,obb]at i1 ⊢
 exact i1
theorem Upt {U:Type} [Enc U] {gs:List Ghost}{o off o' i m:Nat}(xs:List T) (y z:T) (zs:List U) (sh sh':List Shp) (h:xs[i]?=some y)
  (h':G E res r K (.gh gs c) { s with objs:=aset (adel s.objs o') o (.rows (Enc.sz T) (Enc.E (xs.set i z)) sh none) })
  (h3:aget s.objs o=some (.rows (Enc.sz T) (Enc.E xs) sh (some (i,off,o',m))):=by kernel_rfl) (h4:rowsOfO s.objs o'=some (Enc.sz U,Enc.E zs,sh'):=by kernel_rfl)
  (h5:(decide (o'≠o)&&Nat.blt off (Enc.row y).length&&Shp.eq (shpAt (ush sh) off) (.u sh'))=true:=by kernel_rfl) (h6:(Enc.row y).set off (PL zs)=Enc.row z:=by kernel_rfl):
  G E res r K (.gh (.put o::gs) c) s:=by
 have hg:evGhost s (.put o)=some { s with objs:=aset (adel s.objs o') o (.rows (Enc.sz T) (Enc.E (xs.set i z)) sh none) }:=by
  simp only[bat,decide_eq_true_eq,Nat.blt_eq]at h5
  obtain⟨⟨h5,h7⟩,h8⟩:=h5
  have h6':(Enc.row y).set off (.lst (Enc.sz U) (Enc.E zs))=Enc.row z:=h6
  simp only[evGhost,h3,obb,h4,E_get h,h5,ne_eq,not_false_eq_true,h7,h8,and_self,if_true,h6',E_set]
 intro hE hb hk hK
 obtain⟨x,⟨n,i1⟩,i2⟩:=h' hE (ghost_bd hb hg) hk hK
 refine⟨x,⟨n,?_⟩,i2⟩
 simp only[evC,evGhosts,hg,obb]at i1 ⊢
 exact i1
theorem Upo {U:Type} [Enc U] {gs:List Ghost}{o off o' i m:Nat}(xs:List T) (y:T) (zs:List U) (sh sh':List Shp) (h:xs[i]?=some y)
  (h':G E res r K (.gh gs c) { s with objs:=aset (adel s.objs o') o (.rows (Enc.sz T) (Enc.E xs) sh none) })
  (h3:aget s.objs o=some (.rows (Enc.sz T) (Enc.E xs) sh (some (i,off,o',m))):=by kernel_rfl) (h4:rowsOfO s.objs o'=some (Enc.sz U,Enc.E zs,sh'):=by kernel_rfl)
  (h5:(decide (o'≠o)&&Nat.blt off (Enc.row y).length&&Shp.eq (shpAt (ush sh) off) (.u sh'))=true:=by kernel_rfl) (h6:(Enc.row y).set off (PL zs)=Enc.row y:=by kernel_rfl):
  G E res r K (.gh (.put o::gs) c) s:=Upt xs y y zs sh sh' h (by rw[set_same h];exact h') h3 h4 h5 h6
theorem Ubs {o:Nat}{us:List Nat}{xs:List Opd}(ys:List T) (sh:List Shp) (h':GQ E b ((s.apply ⟨[],gone us++[(o,some (.rows (Enc.sz T) (Enc.E ys) sh none))],some (.arr o ys.length)⟩ (some d)).kill ks) Q)
  (h1:rowsIn s sh (Enc.sz T) xs=some (ys.map Enc.row,us):=by kernel_rfl) (h2:(noName s o&&decide us.Nodup)=true:=by kernel_rfl):GQ E (⟨some d,none,.bsu o (Enc.sz T) sh us xs,ks⟩::b) s Q:=by
 refine GQ.one _ (e:=⟨[],gone us++[(o,some (.rows (Enc.sz T) (Enc.E ys) sh none))],some (.arr o ys.length)⟩) (fun c=>?_) rfl h'
 simp only[bat,decide_eq_true_eq]at h2
 have:ys.map Enc.row=Enc.E ys:=by rw[Enc.E_eq];exact List.map_congr_left fun x _=>(Enc.row_eq x).symm
 simp only[evOp,h1,obb,h2,and_self,if_true,this,Enc.E_eq,List.length_map]
theorem Uap {o:Nat}{gx gy:Option Nat}{x y:Opd}{lx ly:LV}(xs ys:List T) (sh:List Shp) (h:xs.length+ys.length<=bigLen) (h':GQ E b ((s.apply ⟨[],gone (gx.toList++gy.toList)++[(o,some (.rows (Enc.sz T) (Enc.E (xs++ys)) sh none))],some (.arr o (xs++ys).length)⟩ (some d)).kill ks) Q)
  (h1:s.opd x=some lx:=by kernel_rfl) (h2:s.opd y=some ly:=by kernel_rfl) (h3:apX s.objs (Enc.sz T) sh gx lx=some (Enc.E xs):=by kernel_rfl) (h4:apY s.objs (Enc.sz T) sh gx gy ly=some (Enc.E ys):=by kernel_rfl) (h5:noName s o=true:=by kernel_rfl):
  GQ E (⟨some d,none,.apu o (Enc.sz T) sh gx gy x y,ks⟩::b) s Q:=by
 refine GQ.one _ (e:=⟨[],gone (gx.toList++gy.toList)++[(o,some (.rows (Enc.sz T) (Enc.E (xs++ys)) sh none))],some (.arr o (xs++ys).length)⟩) (fun c=>?_) rfl h'
 have e1:(Enc.E xs).length=xs.length:=by rw[Enc.E_eq,List.length_map]
 have e2:(Enc.E ys).length=ys.length:=by rw[Enc.E_eq,List.length_map]
 have e3:Enc.E xs++Enc.E ys=Enc.E (xs++ys):=by rw[Enc.E_eq,Enc.E_eq,Enc.E_eq,List.map_append]
 simp only[evOp,h1,h2,h3,h4,obb,h5,e1,e2,e3,h,and_self,if_true,List.length_append]
theorem Ufi {o:Nat}{us:List Nat}{x v:Opd}{m:Nat}(zs:List PV) (ys:List T) (y:T) (i:Nat) (sh:List Shp){P:Nat->Prop}(h:∃k:Nat,(m=k+1/\i=ys.length)/\P k)
  (h':∀k,P k->GQ E b ((s.apply ⟨[],gone us++[(o,some (.rows (Enc.sz T) (fillR (ys++[y]) k zs) sh none))],none⟩ none).kill ks) Q)
  (h1:s.opd x=some (.eref o i 0):=by kernel_rfl) (h4:(((s.opd v).bind fun l=>l.cellsN (Enc.sz T)).bind (LV.intoL s.objs (ush sh)))=some (Enc.row y,us):=by kernel_rfl) (hz:zs.length=Enc.sz T:=by rfl) (hl:(Enc.row y).length=Enc.sz T:=by rfl)
  (h3:aget s.objs o=some (.rows (Enc.sz T) (fillR ys m zs) sh none):=by kernel_rfl) (h6:(decide us.Nodup && !us.contains o)=true:=by kernel_rfl):GQ E (⟨none,none,.store (Enc.sz T) o us x v,ks⟩::b) s Q:=by
 obtain⟨k,⟨rfl,rfl⟩,hp⟩:=h
 refine GQ.one _ (e:=⟨[],gone us++[(o,some (.rows (Enc.sz T) (fillR (ys++[y]) k zs) sh none))],none⟩) (fun c=>?_) rfl (h' k hp)
 obtain⟨ls,h4,h7⟩:=obs h4
 obtain⟨l,h2,h4⟩:=obs h4
 simp only[bat,decide_eq_true_eq,Bool.not_eq_true']at h6
 have hg:(fillR ys (k+1) zs)[ys.length]?=some zs:=by simp[fillR,List.replicate_succ,Enc.E_eq]
 simp only[evOp,h1,h2,h3,h4,obb,if_true,hg,List.drop_zero,h7,h6,and_self,putPV_all (hz.trans hl.symm),fillR_set,holeOff]
def rowsAt (s:LSt) (o:Nat):Option (Nat×List (List PV)):=(aget s.objs o).bind fun
 | .rows sz es _ _=>some (sz,es)
 | .var _=>none
def isArr (s:LSt) (x:Opd) (o:Nat):Bool:=match s.opd x with
 | some (.arr o' _)=>Nat.beq o' o
 | _=>false
def rowsW (s:LSt) (o:Nat) (es:List (List PV)):Obj:=match aget s.objs o with
 | some (.rows sz _ sh _) => .rows sz es sh none
 | some x=>x
 | none => .var []
theorem rowsAt_of {o:Nat}{q:Nat×List (List PV)}(h:rowsAt s o=some q):∃sh hole,aget s.objs o=some (.rows q.1 q.2 sh hole):=by
 obtain⟨x,h1,h2⟩:=obs h
 cases x with
 | var _=>cases h2
 | rows sz es sh hole=>cases h2;exact⟨sh,hole,h1⟩
theorem Kpr {o:Nat}{x i:Opd}{xs:List T}{y:T}{j:Int}(h:0<=j/\xs[j.toNat]?=some y) (h':GQ E b (nv s d ks (.eref o j.toNat 0)) Q)
  (h1:isArr s x o=true:=by kernel_rfl) (h2:s.int i=some j:=by kernel_rfl) (h3:rowsAt s o=some (Enc.sz T,Enc.E xs):=by kernel_rfl):GQ E (⟨some d,none,.iaddr (Enc.sz T) (some o) x i,ks⟩::b) s Q:=by
 obtain⟨sh,hole,h3⟩:=rowsAt_of h3
 unfold isArr at h1
 split at h1
 .rename_i o' m h4
  have:=Nat.eq_of_beq_eq_true h1
  subst this
  refine nv_eq (fun c=>?_) h'
  have hl:j<((Enc.E xs).length:Int):=by
   have:=(lgs h.2).1
   rw[Enc.E_eq,List.length_map];omega
  simp[evOp,h4,h2,h3,h.1,hl,pureE]
 .cases h1
theorem Kpl {o:Nat}{x i:Opd}{m:Nat}{j:Int}(h:(0<=j/\j<m)/\R) (h':R->GQ E b (nv s d ks (.eref o j.toNat 0)) Q)
  (h1:s.opd x=some (.arr o m):=by kernel_rfl) (h2:s.int i=some j:=by kernel_rfl) (h3:(rowsAt s o).map (·.1)=some (Enc.sz T):=by kernel_rfl):GQ E (⟨some d,none,.iaddr (Enc.sz T) (some o) x i,ks⟩::b) s Q:=by
 obtain⟨q,h3,h4⟩:=Option.map_eq_some_iff.1 h3
 obtain⟨sh,hole,h3⟩:=rowsAt_of h3
 rw[h4]at h3
 exact GQ.place (T:=T) _ h1 h2 h3 h.1 rfl (h' h.2)
def ldv (s:LSt) (o off n:Nat) (ag:Bool) (e:List PV):Option LV:=(aget s.objs o).bind fun
 | .rows _ _ sh none=>takeL n ((outRow (ush sh) e).drop off) fun ls=>ofCells ag ls
 | _=>none
theorem Kld {o n i:Nat}{ag:Bool}{x:Opd}{xs:List T}{y:T}(off:Nat) (h:xs[i]?=some y) (h':GQ E b (nv s d ks ((ldv s o off n ag (Enc.row y)).getD .dead)) Q)
  (h1:s.opd x=some (.eref o i off):=by kernel_rfl) (h3:rowsAt s o=some (Enc.sz T,Enc.E xs):=by kernel_rfl) (h4:(ldv s o off n ag (Enc.row y)).isSome=true:=by kernel_rfl):GQ E (⟨some d,none,.load n ag (some o) x,ks⟩::b) s Q:=by
 obtain⟨sh,hole,h3⟩:=rowsAt_of h3
 obtain⟨l,h5⟩:=Option.isSome_iff_exists.1 h4
 rw[h5]at h'
 unfold ldv at h5
 rw[h3]at h5
 cases hole with
 | some _=>cases h5
 | none=>exact Uld xs y sh none l h h' h1 h3 h5
theorem Klh {o n i:Nat}{ag:Bool}{x:Opd}{xs:List T}{y:T}(off:Nat) (sh:List Shp) (hole:Nat×Nat×Nat) (h:xs[i]?=some y) (h':GQ E b (nv s d ks ((takeL n ((rowH sh (some hole) (Enc.row y)).drop off) fun ls=>ofCells ag ls).getD .dead)) Q)
  (h1:s.opd x=some (.eref o i off):=by kernel_rfl) (h3:aget s.objs o=some (.rows (Enc.sz T) (Enc.E xs) sh (some (i,hole.1,hole.2.1,hole.2.2))):=by kernel_rfl) (h4:(takeL n ((rowH sh (some hole) (Enc.row y)).drop off) fun ls=>ofCells ag ls).isSome=true:=by kernel_rfl):GQ E (⟨some d,none,.load n ag (some o) x,ks⟩::b) s Q:=by
 obtain⟨l,h5⟩:=Option.isSome_iff_exists.1 h4
 rw[h5]at h'
 exact Uld xs y sh (some hole) l h h' h1 h3 h5
def stv (s:LSt) (o off n:Nat) (v:Opd) (e:List PV):Option (List PV×List Nat):=(aget s.objs o).bind fun
 | .rows _ _ sh none=>(((s.opd v).bind fun l=>l.cellsN n).bind (LV.intoL s.objs ((ush sh).drop off))).bind fun p=>(putPV e off p.1).bind fun e'=>some (e',p.2)
 | _=>none
theorem Kst {o n i:Nat}{us:List Nat}{x v:Opd}{xs:List T}{y:T}(off:Nat) (z:T) (h:xs[i]?=some y) (h':GQ E b ((s.apply ⟨[],gone us++[(o,some (rowsW s o (Enc.E (xs.set i z))))],none⟩ none).kill ks) Q)
  (h1:s.opd x=some (.eref o i off):=by kernel_rfl) (h3:rowsAt s o=some (Enc.sz T,Enc.E xs):=by kernel_rfl) (h4:stv s o off n v (Enc.row y)=some (Enc.row z,us):=by kernel_rfl) (h6:(decide us.Nodup && !us.contains o)=true:=by kernel_rfl):GQ E (⟨none,none,.store n o us x v,ks⟩::b) s Q:=by
 obtain⟨sh,hole,h3⟩:=rowsAt_of h3
 unfold stv at h4
 simp only[rowsW,h3]at h'
 rw[h3]at h4
 cases hole with
 | some _=>cases h4
 | none=>
  simp only[obb]at h4
  obtain⟨p,h5,h7⟩:=obs h4
  obtain⟨e',h8,h9⟩:=obs h7
  cases h9
  exact Ust xs y z sh none p.1 h h' h1 h3 h5 h8 (by simpa using h6)
theorem Kss {o n i:Nat}{us:List Nat}{x v:Opd}{xs:List T}{y0:T}(off:Nat) (y z:T) (h:xs[i]?=some y0) (h':GQ E b ((s.apply ⟨[],gone us++[(o,some (rowsW s o (Enc.E (xs.set i z))))],none⟩ none).kill ks) Q)
  (h1:s.opd x=some (.eref o i off):=by kernel_rfl) (h3:rowsAt s o=some (Enc.sz T,Enc.E (xs.set i y)):=by kernel_rfl) (h4:stv s o off n v (Enc.row y)=some (Enc.row z,us):=by kernel_rfl) (h6:(decide us.Nodup && !us.contains o)=true:=by kernel_rfl):GQ E (⟨none,none,.store n o us x v,ks⟩::b) s Q:=
 Kst (xs:=xs.set i y) off z (set_get h) (by rw[List.set_set];exact h') h1 h3 h4 h6
theorem Ksh {o n i:Nat}{us:List Nat}{x v:Opd}{xs:List T}{y:T}(off:Nat) (z:T) (sh:List Shp) (hole:Nat×Nat×Nat) (h:xs[i]?=some y) (h':GQ E b ((s.apply ⟨[],gone us++[(o,some (.rows (Enc.sz T) (Enc.E (xs.set i z)) sh none))],none⟩ none).kill ks) Q)
  (h1:s.opd x=some (.eref o i off):=by kernel_rfl) (h3:aget s.objs o=some (.rows (Enc.sz T) (Enc.E xs) sh (some (i,hole.1,hole.2.1,hole.2.2))):=by kernel_rfl) (h4:((((s.opd v).bind fun l=>l.cellsN n).bind (LV.intoL s.objs ((ush sh).drop off))).bind fun p=>(putPV (Enc.row y) off p.1).bind fun e'=>some (e',p.2))=some (Enc.row z,us):=by kernel_rfl)
  (h6:(decide us.Nodup && !us.contains o&&(Nat.ble off hole.1&&Nat.blt hole.1 (off+n)))=true:=by kernel_rfl):GQ E (⟨none,none,.store n o us x v,ks⟩::b) s Q:=by
 obtain⟨p,h5,h7⟩:=obs h4
 obtain⟨e',h8,h9⟩:=obs h7
 cases h9
 exact Ust xs y z sh (some hole) p.1 h h' h1 h3 h5 h8 h6
def tks (s:LSt) (o i off o':Nat) (e:List PV) (len:Nat):Option LSt:=(aget s.objs o).bind fun
 | .rows sz es sh none=>match shpAt (ush sh) off,e[off]? with
  | .u sh',some (.lst z ys)=>if noName s o' then some { s with objs:=aset (aset s.objs o (.rows sz es sh (some (i,off,o',len)))) o' (.rows z ys sh' none) } else none
  | _,_=>none
 | _=>none
theorem Ktk {U:Type} [Enc U] {o off o':Nat}{i:GIx}{xs:List T}{y:T}{j:Int}(zs:List U) (h:xs[j.toNat]?=some y) (h':G E res r K c ((tks s o j.toNat off o' (Enc.row y) zs.length).getD s))
  (h1:s.gix i=some j:=by kernel_rfl) (h3:rowsAt s o=some (Enc.sz T,Enc.E xs):=by kernel_rfl) (h5:(Enc.row y)[off]?=some (PL zs):=by kernel_rfl) (h4:(tks s o j.toNat off o' (Enc.row y) zs.length).isSome=true:=by kernel_rfl):
  G E res r K (.gh [.take o i off o'] c) s:=by
 obtain⟨sh,hole,h3⟩:=rowsAt_of h3
 obtain⟨s',h6⟩:=Option.isSome_iff_exists.1 h4
 rw[h6]at h'
 unfold tks at h6
 rw[h3]at h6
 cases hole with
 | some _=>cases h6
 | none=>
  simp only[obb,h5,PL]at h6
  split at h6
  .rename_i e1 e2
   cases e2
   split at h6
   .rename_i hn
    cases h6
    exact Utk xs y zs sh _ h (Kgh h' (by rfl)) h1 h3 e1 h5 hn
   .cases h6
  .cases h6
def pts (s:LSt) (o:Nat) (i:Nat) (off o':Nat) (es:List (List PV)):Option LSt:=(aget s.objs o).bind fun
 | .rows sz _ sh _=>some { s with objs:=aset (adel s.objs o') o (.rows sz es sh none) }
 | _=>none
def holeIs (s:LSt) (o:Nat):Option (Nat×Nat×Nat):=(aget s.objs o).bind fun
 | .rows _ _ _ (some (i,off,o',_))=>some (i,off,o')
 | _=>none
def putOk (s:LSt) (o o' off n:Nat):Bool:=match aget s.objs o,rowsOfO s.objs o' with
 | some (.rows _ _ sh _),some r=>decide (o'≠o)&&Nat.blt off n&&Shp.eq (shpAt (ush sh) off) (.u r.2.2)
 | _,_=>false
theorem Kpt {U:Type} [Enc U] {o i:Nat}{xs:List T}{y:T}(off o':Nat) (z:T) (zs:List U) (h:xs[i]?=some y) (h':G E res r K c ((pts s o i off o' (Enc.E (xs.set i z))).getD s))
  (h1:holeIs s o=some (i,off,o'):=by kernel_rfl) (h3:rowsAt s o=some (Enc.sz T,Enc.E xs):=by kernel_rfl) (h4:rowsAt s o'=some (Enc.sz U,Enc.E zs):=by kernel_rfl)
  (h5:putOk s o o' off (Enc.row y).length=true:=by kernel_rfl) (h6:(Enc.row y).set off (PL zs)=Enc.row z:=by kernel_rfl):
  G E res r K (.gh [.put o] c) s:=by
 obtain⟨sh,hole,h3⟩:=rowsAt_of h3
 unfold holeIs at h1
 rw[h3]at h1
 cases hole with
 | none=>cases h1
 | some q=>
  obtain⟨i1,off1,o1,m⟩:=q
  cases h1
  unfold putOk at h5
  rw[h3]at h5
  simp only[pts,h3,obb,Option.getD_some]at h'
  split at h5
  .rename_i r' e1 e2
   cases e1
   simp only[bat,decide_eq_true_eq]at h5
   have e3:r'.1=Enc.sz U/\r'.2.1=Enc.E zs:=by
    unfold rowsOfO at e2
    obtain⟨x,e4,e5⟩:=obs e2
    unfold rowsAt at h4
    rw[e4]at h4
    cases x with
    | var _=>cases e5
    | rows a b c d=>
     cases d with
     | some _=>cases e5
     | none=>cases e5;cases h4;exact⟨rfl,rfl⟩
   obtain⟨r1,r2,r3⟩:=r'
   obtain⟨rfl,rfl⟩:=e3
   exact Upt xs y z zs sh r3 h (Kgh h' (by rfl)) h3 e2 (by simp only[bat,decide_eq_true_eq];exact h5) h6
  .cases h5
theorem Kpu {U:Type} [Enc U] {o i:Nat}{xs:List T}{y:T}(off o':Nat) (zs:List U) (h:xs[i]?=some y) (h':G E res r K c ((pts s o i off o' (Enc.E xs)).getD s))
  (h1:holeIs s o=some (i,off,o'):=by kernel_rfl) (h3:rowsAt s o=some (Enc.sz T,Enc.E xs):=by kernel_rfl) (h4:rowsAt s o'=some (Enc.sz U,Enc.E zs):=by kernel_rfl)
  (h5:putOk s o o' off (Enc.row y).length=true:=by kernel_rfl) (h6:(Enc.row y).set off (PL zs)=Enc.row y:=by kernel_rfl):
  G E res r K (.gh [.put o] c) s:=Kpt off o' y zs h (by rw[set_same h];exact h') h1 h3 h4 h5 h6
theorem Kps {U:Type} [Enc U] {o i:Nat}{xs:List T}{y0:T}(off o':Nat) (y z:T) (zs:List U) (h:xs[i]?=some y0) (h':G E res r K c ((pts s o i off o' (Enc.E (xs.set i z))).getD s))
  (h1:holeIs s o=some (i,off,o'):=by kernel_rfl) (h3:rowsAt s o=some (Enc.sz T,Enc.E (xs.set i y)):=by kernel_rfl) (h4:rowsAt s o'=some (Enc.sz U,Enc.E zs):=by kernel_rfl)
  (h5:putOk s o o' off (Enc.row y).length=true:=by kernel_rfl) (h6:(Enc.row y).set off (PL zs)=Enc.row z:=by kernel_rfl):
  G E res r K (.gh [.put o] c) s:=Kpt off o' z zs (sget y h) (by rw[List.set_set];exact h') h1 h3 h4 h5 h6
theorem Kp0 {o:Nat}(h':G E res r K c s) (h1:(evGhosts [.put o] s)=some s:=by kernel_rfl):G E res r K (.gh [.put o] c) s:=G.gh s h1 h'
theorem Kbu {o:Nat}{us:List Nat}{xs:List Opd}{sh:List Shp}(ys:List T) (h':GQ E b ((s.apply ⟨[],gone us++[(o,some (.rows (Enc.sz T) (Enc.E ys) sh none))],some (.arr o ys.length)⟩ (some d)).kill ks) Q)
  (h1:rowsIn s sh (Enc.sz T) xs=some (ys.map Enc.row,us):=by kernel_rfl) (h2:(noName s o&&decide us.Nodup)=true:=by kernel_rfl):GQ E (⟨some d,none,.bsu o (Enc.sz T) sh us xs,ks⟩::b) s Q:=Ubs ys sh h' h1 h2
theorem Qap {o:Nat}{gx gy:Option Nat}{x y:Opd}{sh:List Shp}(xs ys:List T) (h:xs.length+ys.length<=bigLen) (h':GQ E b ((s.apply ⟨[],gone (gx.toList++gy.toList)++[(o,some (.rows (Enc.sz T) (Enc.E (xs++ys)) sh none))],some (.arr o (xs++ys).length)⟩ (some d)).kill ks) Q)
  (h3:((s.opd x).bind (apX s.objs (Enc.sz T) sh gx))=some (Enc.E xs):=by kernel_rfl) (h4:((s.opd y).bind (apY s.objs (Enc.sz T) sh gx gy))=some (Enc.E ys):=by kernel_rfl) (h5:noName s o=true:=by kernel_rfl):
  GQ E (⟨some d,none,.apu o (Enc.sz T) sh gx gy x y,ks⟩::b) s Q:=by
 obtain⟨lx,h1,h3⟩:=obs h3
 obtain⟨ly,h2,h4⟩:=obs h4
 exact Uap xs ys sh h h' h1 h2 h3 h4 h5
theorem Kap {o:Nat}{gx gy:Option Nat}{x y:Opd}{sh:List Shp}{xs ys:List T}(h:xs.length+ys.length<=bigLen/\R) (h':R->GQ E b ((s.apply ⟨[],gone (gx.toList++gy.toList)++[(o,some (.rows (Enc.sz T) (Enc.E (xs++ys)) sh none))],some (.arr o (xs++ys).length)⟩ (some d)).kill ks) Q)
  (h3:((s.opd x).bind (apX s.objs (Enc.sz T) sh gx))=some (Enc.E xs):=by kernel_rfl) (h4:((s.opd y).bind (apY s.objs (Enc.sz T) sh gx gy))=some (Enc.E ys):=by kernel_rfl) (h5:noName s o=true:=by kernel_rfl):
  GQ E (⟨some d,none,.apu o (Enc.sz T) sh gx gy x y,ks⟩::b) s Q:=Qap xs ys h.1 (h' h.2) h3 h4 h5
def flv (s:LSt) (o n:Nat) (v:Opd):Option (List PV×List Nat):=(aget s.objs o).bind fun
 | .rows _ _ sh none=>((s.opd v).bind fun l=>l.cellsN n).bind (LV.intoL s.objs (ush sh))
 | _=>none
theorem Kfi {o:Nat}{us:List Nat}{x v:Opd}{m:Nat}(zs:List PV) (ys:List T) (y:T) (i:Nat){P:Nat->Prop}(h:∃k:Nat,(m=k+1/\i=ys.length)/\P k)
  (h':∀k,P k->GQ E b ((s.apply ⟨[],gone us++[(o,some (rowsW s o (fillR (ys++[y]) k zs)))],none⟩ none).kill ks) Q)
  (h1:s.opd x=some (.eref o i 0):=by kernel_rfl) (h4:flv s o (Enc.sz T) v=some (Enc.row y,us):=by kernel_rfl) (hz:zs.length=Enc.sz T:=by rfl) (hl:(Enc.row y).length=Enc.sz T:=by rfl)
  (h3:rowsAt s o=some (Enc.sz T,fillR ys m zs):=by kernel_rfl) (h6:(decide us.Nodup && !us.contains o)=true:=by kernel_rfl):GQ E (⟨none,none,.store (Enc.sz T) o us x v,ks⟩::b) s Q:=by
 obtain⟨sh,hole,h3⟩:=rowsAt_of h3
 unfold flv at h4
 simp only[rowsW,h3]at h'
 rw[h3]at h4
 cases hole with
 | some _=>cases h4
 | none=>exact Ufi zs ys y i sh h h' h1 h4 hz hl h3 h6
mutual
def LV.ans (o:Nat):LV->List Nat
 | .arr o' n=>if o'=o then [n] else []
 | .agg ls=>LV.ansL o ls
 | .tup ls=>LV.ansL o ls
 | .clo _ ls=>LV.ansL o ls
 | _=>[]
def LV.ansL (o:Nat):List LV->List Nat
 | []=>[]
 | l::ls=>l.ans o++LV.ansL o ls
end
mutual
def LV.rn (o m:Nat):LV->LV
 | .arr o' n=>if o'=o then .arr o' m else .arr o' n
 | .agg ls => .agg (LV.rnL o m ls)
 | .tup ls => .tup (LV.rnL o m ls)
 | .clo f ls => .clo f (LV.rnL o m ls)
 | .pv p => .pv p
 | .nils z => .nils z
 | .nk b z es => .nk b z es
 | .own h z xs => .own h z xs
 | .ref o' k => .ref o' k
 | .eref o' i k => .eref o' i k
 | .box z es sh => .box z es sh
 | .dead => .dead
def LV.rnL (o m:Nat):List LV->List LV
 | []=>[]
 | l::ls=>l.rn o m::LV.rnL o m ls
end
mutual
theorem LV.rn_id {o m:Nat}:∀ {l:LV},(∀n∈l.ans o,n=m)->l.rn o m=l
 | .arr o' n,h=>by
  simp only[LV.rn]
  split
  .rename_i e;rw[h n (by simp[LV.ans,e])]
  .rfl
 | .agg ls,h=>by simp only[LV.rn];rw[LV.rnL_id h]
 | .tup ls,h=>by simp only[LV.rn];rw[LV.rnL_id h]
 | .clo _ ls,h=>by simp only[LV.rn];rw[LV.rnL_id h]
 | .pv _,_ | .nils _,_ | .nk _ _ _,_ | .own _ _ _,_ | .ref _ _,_ | .eref _ _ _,_ | .box _ _ _,_ | .dead,_=>rfl
theorem LV.rnL_id {o m:Nat}:∀ {l:List LV},(∀n∈LV.ansL o l,n=m)->LV.rnL o m l=l
 | [],_=>rfl
 | l::ls,h=>by simp only[LV.rnL];rw[LV.rn_id fun n hn=>h n (by simp[LV.ansL,hn]),LV.rnL_id fun n hn=>h n (by simp[LV.ansL,hn])]
end
def rnE (o m:Nat):List (Nat×LV)->List (Nat×LV)
 | []=>[]
 | (t,l)::r=>(t,l.rn o m)::rnE o m r
def ansE (o:Nat):List (Nat×LV)->List Nat
 | []=>[]
 | (_,l)::r=>l.ans o++ansE o r
def rnO (o m:Nat) (es:List (List PV)):List (Nat×Obj)->List (Nat×Obj)
 | []=>[]
 | (k,.var cs)::r=>(k,.var (LV.rnL o m cs))::rnO o m es r
 | (k,.rows z xs sh hole)::r=>(k,.rows z (if k=o then es else xs) sh hole)::rnO o m es r
def ansO (o:Nat):List (Nat×Obj)->List Nat
 | []=>[]
 | (_,.var cs)::r=>LV.ansL o cs++ansO o r
 | (_,.rows _ _ _ _)::r=>ansO o r
def esOf (o:Nat):List (Nat×Obj)->List (List (List PV))
 | []=>[]
 | (_,.var _)::r=>esOf o r
 | (k,.rows _ xs _ _)::r=>if k=o then xs::esOf o r else esOf o r
theorem rnE_id {o m:Nat}:∀ {l:List (Nat×LV)},(∀n∈ansE o l,n=m)->rnE o m l=l
 | [],_=>rfl
 | (t,l)::r,h=>by simp only[rnE];rw[LV.rn_id fun n hn=>h n (by simp[ansE,hn]),rnE_id fun n hn=>h n (by simp[ansE,hn])]
theorem rnO_id {o m:Nat}{es:List (List PV)}:∀ {l:List (Nat×Obj)},(∀n∈ansO o l,n=m)->(∀x∈esOf o l,x=es)->rnO o m es l=l
 | [],_,_=>rfl
 | (k,.var cs)::r,h,h'=>by simp only[rnO];rw[LV.rnL_id fun n hn=>h n (by simp[ansO,hn]),rnO_id (l:=r) (fun n hn=>h n (by simp[ansO,hn])) h']
 | (k,.rows z xs sh hole)::r,h,h'=>by
  simp only[rnO]
  rw[rnO_id (l:=r) h fun x hx=>h' x (by simp only[esOf];split<;>simp[hx])]
  split
  .rename_i e;rw[h' xs (by simp[esOf,e])]
  .rfl
def reN (s:LSt) (o m:Nat) (es:List (List PV)):LSt:={ s with env:=rnE o m s.env,objs:=rnO o m es s.objs }
theorem reN_id {o m:Nat}{es:List (List PV)}(h1:∀n∈ansE o s.env++ansO o s.objs,n=m) (h2:∀x∈esOf o s.objs,x=es):reN s o m es=s:=by
 unfold reN
 rw[rnE_id fun n hn=>h1 n (by simp[hn]),rnO_id (fun n hn=>h1 n (by simp[hn])) h2]
def repl {α:Type}(x:α):List α->List α
 | []=>[]
 | _::r=>x::repl x r
theorem repl_all {α:Type}{x:α}:∀ {l:List α},l=repl x l->∀y∈l,y=x
 | [],_,_,h=>by cases h
 | a::r,e,y,h=>by
  simp only[repl,List.cons.injEq]at e
  rcases lm1 h with rfl | h
  .exact e.1
  .exact repl_all e.2 y h
theorem Kfr {n:Nat}(o:Nat) (ys:List T) (hk:n=ys.length/\R) (h:R->G E res r K c (reN s o ys.length (Enc.E ys)))
  (h1:(ansE o s.env++ansO o s.objs)=repl n (ansE o s.env++ansO o s.objs):=by kernel_rfl) (h2:esOf o s.objs=repl (Enc.E ys) (esOf o s.objs):=by kernel_rfl):G E res r K c s:=by
 have:=h hk.2
 rwa [reN_id (fun m hm=>(repl_all h1 m hm).trans hk.1) (repl_all h2)]at this
theorem Kff {n k:Nat}(o:Nat) (zs:List PV) (ys:List T) (hk:(k=0/\n=ys.length)/\R) (h:R->G E res r K c (reN s o ys.length (Enc.E ys)))
  (h1:(ansE o s.env++ansO o s.objs)=repl n (ansE o s.env++ansO o s.objs):=by kernel_rfl) (h2:esOf o s.objs=repl (fillR ys k zs) (esOf o s.objs):=by kernel_rfl):G E res r K c s:=by
 have:=h hk.2
 have hf:fillR ys k zs=Enc.E ys:=by simp[fillR,hk.1.1]
 rwa [reN_id (fun m hm=>(repl_all h1 m hm).trans hk.1.2) (fun x hx=>(repl_all h2 x hx).trans hf)]at this
mutual
def LV.fz (o g sz:Nat) (es:List (List PV)):LV->Option LV
 | .arr o' n=>if o'=o then some (.own g sz es) else some (.arr o' n)
 | .agg ls=>(LV.fzL o g sz es ls).bind fun r=>some (.agg r)
 | .tup ls=>(LV.fzL o g sz es ls).bind fun r=>some (.tup r)
 | .clo f ls=>(LV.fzL o g sz es ls).bind fun r=>some (.clo f r)
 | .ref o' k=>if o'=o then none else some (.ref o' k)
 | .eref o' i k=>if o'=o then none else some (.eref o' i k)
 | .own h z xs=>if h=g then none else some (.own h z xs)
 | .pv p=>some (.pv p)
 | .nils z=>some (.nils z)
 | .nk b z es=>some (.nk b z es)
 | .box z es sh=>some (.box z es sh)
 | .dead=>some .dead
def LV.fzL (o g sz:Nat) (es:List (List PV)):List LV->Option (List LV)
 | []=>some []
 | l::ls=>(l.fz o g sz es).bind fun p=>(LV.fzL o g sz es ls).bind fun ps=>some (p::ps)
end
mutual
theorem LV.fz_eq {o g sz:Nat}{es:List (List PV)}:∀ {l:LV},(∀n∈l.ans o,n=es.length)->l.frz o g sz es=l.fz o g sz es
 | .arr o' n,h=>by
  simp only[LV.frz,LV.fz]
  split
  .rename_i e;rw[if_pos (h n (by simp[LV.ans,e]))]
  .rfl
 | .agg ls,h=>by simp only[LV.frz,LV.fz];rw[LV.fzL_eq h]
 | .tup ls,h=>by simp only[LV.frz,LV.fz];rw[LV.fzL_eq h]
 | .clo _ ls,h=>by simp only[LV.frz,LV.fz];rw[LV.fzL_eq h]
 | .pv _,_ | .nils _,_ | .nk _ _ _,_ | .own _ _ _,_ | .ref _ _,_ | .eref _ _ _,_ | .box _ _ _,_ | .dead,_=>rfl
theorem LV.fzL_eq {o g sz:Nat}{es:List (List PV)}:∀ {l:List LV},(∀n∈LV.ansL o l,n=es.length)->LV.frzL o g sz es l=LV.fzL o g sz es l
 | [],_=>rfl
 | l::ls,h=>by simp only[LV.frzL,LV.fzL];rw[LV.fz_eq fun n hn=>h n (by simp[LV.ansL,hn]),LV.fzL_eq fun n hn=>h n (by simp[LV.ansL,hn])]
end
theorem mapEnv_fz {o g sz:Nat}{es:List (List PV)}:∀ {l:List (Nat×LV)},(∀n∈ansE o l,n=es.length)->mapEnv (LV.frz o g sz es) l=mapEnv (LV.fz o g sz es) l
 | [],_=>rfl
 | (t,l)::r,h=>by simp only[mapEnv];rw[LV.fz_eq fun n hn=>h n (by simp[ansE,hn]),mapEnv_fz fun n hn=>h n (by simp[ansE,hn])]
theorem mapCells_fz {o g sz:Nat}{es:List (List PV)}:∀ {l:List LV},(∀n∈LV.ansL o l,n=es.length)->mapCells (LV.frz o g sz es) l=mapCells (LV.fz o g sz es) l
 | [],_=>rfl
 | l::r,h=>by simp only[mapCells];rw[LV.fz_eq fun n hn=>h n (by simp[LV.ansL,hn]),mapCells_fz fun n hn=>h n (by simp[LV.ansL,hn])]
def holesB (o:Nat):List (Nat×Obj)->Bool
 | []=>true
 | (_,.rows _ _ _ (some (_,_,o',_)))::r => !Nat.beq o' o&&holesB o r
 | _::r=>holesB o r
theorem mapObjs_fz {o g sz:Nat}{es:List (List PV)}:∀ {l:List (Nat×Obj)},(∀n∈ansO o l,n=es.length)->holesB o l=true->mapObjs (LV.frz o g sz es) l=mapObjs (LV.fz o g sz es) l
 | [],_,_=>rfl
 | (k,.var cs)::r,h,hh=>by
  simp only[mapObjs,mapObj];rw[mapCells_fz fun n hn=>h n (by simp[ansO,hn]),mapObjs_fz (l:=r) (fun n hn=>h n (by simp[ansO,hn])) hh]
 | (k,.rows z xs sh none)::r,h,hh=>by simp only[mapObjs,mapObj];rw[mapObjs_fz (l:=r) h hh]
 | (k,.rows z xs sh (some (i,off,o',n)))::r,h,hh=>by
  simp only[holesB,bat,Bool.not_eq_true']at hh
  have:o'≠o:=fun e=>by rw[e,Nat.beq_refl]at hh;cases hh.1
  simp only[mapObjs,mapObj,LV.frz,LV.fz,if_neg this];rw[mapObjs_fz (l:=r) h hh.2]
theorem ansO_adel {o:Nat}:∀ {l:List (Nat×Obj)}{n:Nat},n∈ansO o (adel l o)->n∈ansO o l
 | [],_,h=>h
 | (k,x)::r,n,h=>by
  simp only[adel]at h
  split at h
  .have:=ansO_adel h;cases x<;>simp[ansO,this]
  .cases x with
   | var cs=>simp only[ansO,List.mem_append]at h ⊢;exact h.imp id ansO_adel
   | rows _ _ _ _=>simp only[ansO]at h ⊢;exact ansO_adel h
def fzs (s:LSt) (o g:Nat):Option LSt:=(rowsOfO s.objs o).bind fun q=>if noTok s g&&holesB o (adel s.objs o) then (mapEnv (LV.fz o g q.1 q.2.1) s.env).bind fun env=>(mapObjs (LV.fz o g q.1 q.2.1) (adel s.objs o)).bind fun objs=>some { s with env:=env,objs:=objs } else none
theorem Kfz {o g:Nat}(ys:List T) (h:G E res r K c ((fzs s o g).getD s))
  (h1:(ansE o s.env++ansO o s.objs)=repl ys.length (ansE o s.env++ansO o s.objs):=by kernel_rfl) (h2:rowsAt s o=some (Enc.sz T,Enc.E ys):=by kernel_rfl) (h3:(fzs s o g).isSome=true:=by kernel_rfl):G E res r K (.gh [.frz o g] c) s:=by
 obtain⟨s',h4⟩:=Option.isSome_iff_exists.1 h3
 rw[h4]at h
 refine G.gh s' ?_ h
 unfold fzs at h4
 obtain⟨q,h5,h4⟩:=obs h4
 split at h4
 case isFalse=>cases h4
 rename_i hn
 rw[bat]at hn
 obtain⟨env,h6,h4⟩:=obs h4
 obtain⟨objs,h7,h4⟩:=obs h4
 cases h4
 have hq:q.2.1.length=ys.length:=by
  unfold rowsOfO at h5
  obtain⟨x,e4,e5⟩:=obs h5
  unfold rowsAt at h2
  rw[e4]at h2
  cases x with
  | var _=>cases e5
  | rows a b c d=>
   cases d with
   | some _=>cases e5
   | none=>cases e5;cases h2;simp[Enc.E_eq]
 have hall:=repl_all h1
 have e1:=mapEnv_fz (o:=o) (g:=g) (sz:=q.1) (es:=q.2.1) (l:=s.env) fun n hn=>(hall n (by simp[hn])).trans hq.symm
 have e2:=mapObjs_fz (o:=o) (g:=g) (sz:=q.1) (es:=q.2.1) (l:=adel s.objs o) (fun n hn=>(hall n (by simp[ansO_adel hn])).trans hq.symm) hn.2
 simp only[evGhosts,evGhost,h5,obb,hn.1,if_true,e1,e2,h6,h7]
theorem kfR {sh:List Shp}(h:∀x:T,PV.kfrees (Enc.row x) (ush sh)=true) (xs:List T):PV.kfreeR sh (Enc.E xs)=true:=by
 rw[Enc.E_eq]
 induction xs with
 | nil=>rfl
 | cons x r ih=>
  have:=h x
  rw[<-Enc.row_eq]at this
  simp only[List.map_cons,PV.kfreeR,this,ih,Bool.and_self]
def callE0 (s:LSt) (g:Nat) (us:List Nat) (h:Hand) (r:Fin):Option Eff:=
 if h.gs.Nodup/\h.ns.Nodup/\(h.os.map (·.1)).Nodup/\h.os.all (fun o=>decide (o.1<1099511627776))=true/\(h.ns.zip h.os).all (fun x=>x.2.1/1024 == x.1/1024)=true/\g<4096/\r.2.length=h.os.length+us.length/\(kfOf h r.1).names=rnms 0 us.length/\us.Nodup/\(us.all (noName s)&&lowB us (r.2.drop h.os.length))=true/\backOk h.os r.2=true /\
   h.bs.all (fun o => !h.ns.contains o)=true then
  some ⟨h.gs++(((kfOf h r.1).imp g).toks++(toksO r.2).map (fun t=>t*4096+g)),backUpd g h.ns h.os us r.2,some (((kfOf h r.1).imp g).ren (pick us))⟩
 else none
theorem callE0_eq {s:LSt}{g:Nat}{us:List Nat}{h:Hand}{r:Fin}(hk:r.2.all kfreeO=true):callEff s g us h r=callE0 s g us h r:=by
 unfold callEff callE0
 simp only[hk,or_true,and_true]
theorem Kkb {α:Type}{P:α->Prop}{d:Option Nat}{f g:Nat}{ws ts us bs:List Nat}{xs:List (Opd×Bool)}{as:List LV}{os:List (Nat×Obj)}{q:α->Fin}(h3:∃y:α,FB E f as os (q y)/\P y) (hk:∀y,(q y).2.all kfreeO=true) (h':∀y,P y->GQ E b (nc s d ks (callE0 s g us ⟨as,os,ts,ws,bs⟩ (q y))) Q)
  (h1:handOf s 0 0 xs=some ⟨as,os,ts,ws,bs⟩:=by kernel_rfl) (h4:∀y,(callE0 s g us ⟨as,os,ts,ws,bs⟩ (q y)).isSome=true:=by intro y;kernel_rfl):GQ E (⟨d,none,.call f g ws ts us bs xs,ks⟩::b) s Q:=
 Kk h3 (fun y hy=>by rw[callE0_eq (hk y)];exact h' y hy) h1 (fun y=>by rw[callE0_eq (hk y)];exact h4 y)
theorem Kfin (h:outOf s res=some r:=by kernel_rfl):GR E res r [] .nrm s:=GR.fin h
end
abbrev Ext:=List LV->List (Nat×Obj)->Option Fin
def strP:List PV->Str
 | .sc (.string s)::_=>s
 | _=>⟨#[]⟩
def bytP:List PV->UInt8
 | .sc (.int _ n)::_=>UInt8.ofNat n.toNat
 | _=>0
def joinS (xs:List Str) (sep:Str):Str:=⟨(Lib.join (xs.map (·.data.toList)) sep.data.toList).toArray⟩
def itoaS (n:Int):Str:=⟨(Lib.itoa n).toArray⟩
open Classical in
noncomputable def xJoin:Ext
 | [.pv (.lst 1 es),.pv (.sc (.string sep))],[]=>
  if es=(es.map strP).map (fun s=>[PV.sc (.string s)])/\es.length<=bigLen/\(joinS (es.map strP) sep).size<=bigStr then some (.pv (.sc (.string (joinS (es.map strP) sep))),[]) else none
 | _,_=>none
def xItoa:Ext
 | [.pv (.sc (.int .i64 n))],[]=>if -9223372036854775808<=n/\n<=9223372036854775807 then some (.pv (.sc (.string (itoaS n))),[]) else none
 | _,_=>none
def selfP (o:Nat):LV->Bool
 | .pv (.sc (.pointer none))=>true
 | .ref o' 0=>o' == o
 | _=>false
def xWrite (T t:Nat):Ext
 | [.ref o 0,.pv (.sc (.string x))],[(o',.var [p,.box 0 es sh])]=>
  if o'=o/\o/1024=T/\(o<1099511627776/\T≠0)/\sh.length=t/\selfP o p=true/\es.length+x.size<=bigStr then
   some (.tup [.pv (.sc (.int .i64 (x.size:Int))),.pv (.sc .nilIface)],[some (.var [.ref o 0,.box 0 (es++bytesR x) sh])]) else none
 | _,_=>none
def xBstr (T t:Nat):Ext
 | [.ref o 0],[(o',.var [p,.box 0 es sh])]=>
  if o'=o/\o/1024=T/\(o<1099511627776/\T≠0)/\sh.length=t/\selfP o p=true/\es.length<=bigStr then
   some (.pv (.sc (.string ⟨(es.map bytP).toArray⟩)),[some (.var [p,.dead])]) else none
 | _,_=>none
theorem FB.ext {E:Env}{f:Nat}{e:Ext}{as:List LV}{os:List (Nat×Obj)}{r:Fin}(hx:E.ext f=some e) (h:e as os=some r):FB E f as os r:=by
 intro _ _
 refine⟨1,?_⟩
 simp only[evF,hx,h]
theorem bytesR_append (a b:ByteArray):bytesR a++bytesR b=bytesR (a++b):=by
 unfold bytesR
 rw[<-List.map_append,<-Array.toList_append,ByteArray.data_append]
theorem bytP_row (b:UInt8):bytP [.sc (.int .u8 (b.toNat:Int))]=b:=by simp[bytP]
theorem bytesR_back (b:ByteArray):(⟨((bytesR b).map bytP).toArray⟩:ByteArray)=b:=by
 unfold bytesR
 rw[List.map_map]
 have:(bytP∘fun b:UInt8=>[PV.sc (.int .u8 (b.toNat:Int))])=id:=by funext b;exact bytP_row b
 rw[this,List.map_id]
theorem FB.write {E:Env}{f T t o:Nat}{p:LV}{b x:ByteArray}{sh:List Shp}(hx:E.ext f=some (xWrite T t)) (h:(decide (o/1024=T)&&decide (o<1099511627776/\T≠0)&&decide (sh.length=t)&&selfP o p)=true) (hb:b.size+x.size<=bigStr):
  FB E f [.ref o 0,S x] [(o,.var [p,.box 0 (bytesR b) sh])] (.tup [I x.size,.pv (.sc .nilIface)],[some (.var [.ref o 0,.box 0 (bytesR (b++x)) sh])]):=by
 refine FB.ext hx ?_
 simp only[bat,decide_eq_true_eq]at h
 have hl:(bytesR b).length=b.size:=by unfold bytesR;rw[List.length_map];cases b;rfl
 show (if _ then _ else _)=_
 rw[if_pos ⟨rfl,h.1.1.1,h.1.1.2,h.1.2,h.2,by rw[hl];exact hb⟩,bytesR_append]
 rfl
theorem FB.bstr {E:Env}{f T t o:Nat}{p:LV}{b:ByteArray}{sh:List Shp}(hx:E.ext f=some (xBstr T t)) (h:(decide (o/1024=T)&&decide (o<1099511627776/\T≠0)&&decide (sh.length=t)&&selfP o p)=true) (hb:b.size<=bigStr):
  FB E f [.ref o 0] [(o,.var [p,.box 0 (bytesR b) sh])] (S b,[some (.var [p,.dead])]):=by
 refine FB.ext hx ?_
 simp only[bat,decide_eq_true_eq]at h
 have hl:(bytesR b).length=b.size:=by unfold bytesR;rw[List.length_map];cases b;rfl
 show (if _ then _ else _)=_
 rw[if_pos ⟨rfl,h.1.1.1,h.1.1.2,h.1.2,h.2,by rw[hl];exact hb⟩,bytesR_back]
 rfl
def ExtOk (P:Program) (K0:Tabs) (f:Nat) (e:Ext):Prop:=
 ∀ar os r,e ar os=some r->∀ (Wr:Nat->Prop) (K:Know) (N:Names) (w:World) (vs:List Value),Stand K0 Wr w.heap->(∀b,w.heap.size<=b->Wr b)->RepLs K N ar vs->Inv Wr K N w.heap (vs.zip ar) os ->
  Calls P f (List.toArray vs) w fun e w'=>∃v K' N',e = .returned v/\KExt Wr K K'/\Keep Wr w w'/\Inv Wr K' N' w'.heap [(v,r.1)] (backOf os r.2)/\∀x∈os,N'.at x.1=N.at x.1
theorem callOk_of {P:Program}{K0:Tabs}{tab:List (Nat×Ext)}(h:∀x∈tab,FnOk P (fid x.1)/\ExtOk P K0 (fid x.1) x.2):CallOk P K0 (fun f ar os=>(aget tab f).bind fun e=>e ar os):=by
 intro f ar os r he
 obtain⟨e,h1,h2⟩:=obs he
 obtain⟨a,b⟩:=h _ (aget_mem h1)
 exact⟨a,b ar os r h2⟩
end Go.Proofs.YtpgmljkhleidjaaGreatDoor.LM
