/- laws.FnExactAskCheck returns true for every input whose arguments and package variables hold together at most 1048576 values and letters; the input reads as it did. -/
import Derived.Test.YtpgmljkhleidjaaGreatDoorL0
import Derived.Laws.Tables
import Derived.Orders
set_option linter.unusedVariables false
set_option linter.unusedSimpArgs false
namespace Go.Proofs.YtpgmljkhleidjaaGreatDoor.LM
open Go.RowKit
section
variable {call:CallF}{P:Program}{nt:Nat}{F:Fr}{Wr:Nat->Prop}{K:Know}{N:Names}{a:Act}{w:World}{s:LSt}{o:Oper}
theorem putCells_repL {cs:List LV}:∀ {off:Nat}{ls cs':List LV}{vs us:List Value},putCells cs off ls=some cs'->RepLs K N cs vs->RepLs K N ls us ->
  RepLs K N cs' (vs.take off++us++vs.drop (off+us.length))/\off+us.length<=vs.length\/(ls=[]/\cs'=cs):=by
 induction cs with
 | nil=>
  intro off ls cs' vs us h hr hu
  cases ls with
  | nil=>simp only[putCells,osi]at h;exact .inr ⟨rfl,h.symm⟩
  | cons l ls=>simp[putCells]at h
 | cons c cs ih=>
  intro off ls cs' vs us h hr hu
  cases ls with
  | nil=>simp only[putCells,osi]at h;exact .inr ⟨rfl,h.symm⟩
  | cons l ls=>
   obtain⟨v,r,rfl,hv,hr⟩:=hr
   cases off with
   | succ n=>
    simp only[putCells]at h
    obtain⟨r',hr',h⟩:=obs h
    simp only[osi]at h
    subst h
    left
    rcases ih hr' hr hu with⟨h1,h2⟩ | ⟨h1,_⟩
    .refine⟨?_,by simp;omega⟩
     refine⟨v,_,?_,hv,h1⟩
     simp[Nat.add_right_comm n 1]
    .cases h1
   | zero=>
    simp only[putCells]at h
    obtain⟨r',hr',h⟩:=obs h
    simp only[osi]at h
    subst h
    obtain⟨u,us',rfl,hu1,hu2⟩:=hu
    left
    rcases ih hr' hr hu2 with⟨h1,h2⟩ | ⟨h1,h3⟩
    .refine⟨⟨u,_,?_,hu1,h1⟩,by simp;omega⟩
     simp[Nat.add_comm]
    .subst h1;subst h3
     cases hu2
     exact⟨⟨u,r,by simp,hu1,hr⟩,by simp⟩
def chkParts (places:List (Nat×Nat)):List (Nat×Nat×Opd)->List (Nat×Operand)->Bool
 | [],[]=>true
 | (off,n,x)::r,(i,X)::R=>(match places[i]? with | some p=>p.1 == off&&p.2 == n | none=>false)&&n != 0&&chkOpd x X&&chkParts places r R
 | _,_=>false
def chkBuild (P:Program) (t:TypeId) (zs:List LV) (parts:List (Nat×Nat×Opd)) (Parts:List (Nat×Operand)):Bool:=
 match P.underlying t with
 | some (.struct fields)=>match fields.toList.mapM (fun f=>(P.info? f.type).map fun i=>(f.offset,i.size)) with
  | some places=>chkZero P t zs&&chkParts places parts Parts
  | none=>false
 | _=>false
theorem chkBuild_eq {t:TypeId}{zs:List LV}{parts:List (Nat×Nat×Opd)}{Parts:List (Nat×Operand)}(h:chkBuild P t zs parts Parts=true):
  ∃fields places,P.underlying t=some (.struct fields)/\fields.toList.mapM (fun f=>(P.info? f.type).map fun i=>(f.offset,i.size))=some places/\chkZero P t zs=true/\chkParts places parts Parts=true:=by
 unfold chkBuild at h
 split at h
 .rename_i fields hf
  split at h
  .rename_i places hp
   rw[bat]at h
   exact⟨fields,places,hf,hp,h.1,h.2⟩
  .cases h
 .cases h
theorem fill_parts (h:Rel nt F Wr K N a w s){places:List (Nat×Nat)}:∀ {parts:List (Nat×Nat×Opd)}{Parts:List (Nat×Operand)}{cs cs':List LV}{cells:Array Value},
  chkParts places parts Parts=true->partsOf s cs parts=some cs'->RepLs K N cs cells.toList->cs.all LV.flat=true->(∀g∈LV.toksL cs,Occ (pairs a s.env) s.objs g) ->
  ∃cells',Instr.fill (places.toArray[·]?) cells (Parts.map fun p=>(p.1,a.eval p.2))=some cells'/\RepLs K N cs' cells'.toList/\cs'.all LV.flat=true/\(∀g∈LV.toksL cs',Occ (pairs a s.env) s.objs g):=by
 intro parts
 induction parts with
 | nil=>
  intro Parts cs cs' cells hc hp hr hf ht
  cases Parts with
  | nil=>simp only[partsOf,osi]at hp;subst hp;exact⟨cells,rfl,hr,hf,ht⟩
  | cons _ _=>simp[chkParts]at hc
 | cons p parts ih=>
  intro Parts cs cs' cells hc hp hr hf ht
  cases Parts with
  | nil=>simp[chkParts]at hc
  | cons Pt Parts=>
   obtain⟨off,n,x⟩:=p
   obtain⟨i,X⟩:=Pt
   simp only[chkParts,bat]at hc
   obtain⟨⟨⟨c1,c2⟩,c3⟩,c4⟩:=hc
   have hn0:n≠0:=by simpa using c2
   have hpl:places[i]?=some (off,n):=by
    split at c1
    .rename_i q hq
     rw[bat]at c1
     rw[hq]
     congr 1
     exact Prod.ext (eq_of_beq c1.1) (eq_of_beq c1.2)
    .cases c1
   simp only[partsOf]at hp
   obtain⟨l,hl,hp⟩:=obs hp
   obtain⟨ls,hls,hp⟩:=obs hp
   obtain⟨cs1,hcs1,hp⟩:=obs hp
   obtain⟨x1,x2⟩:=h.opd hl c3
   obtain⟨r1,r2,r3,r4,r5⟩:=cellsN_rep hls x1
   have hvs:(a.eval X).cells.size=n:=by rw[<-Array.length_toList,r1.len,r3]
   rcases putCells_repL hcs1 hr r1 with⟨q1,q2⟩ | ⟨q1,_⟩
   case inr=>subst q1;simp at r3;exact absurd r3.symm hn0
   obtain⟨_,q4⟩:=putCells_mem hcs1
   simp only[Array.length_toList,hvs]at q1 q2
   have hput:((a.eval X).cells.zipIdx.foldl (fun cs (c,j)=>cs.setIfInBounds (off+j) c) cells).toList=cells.toList.take off++(a.eval X).cells.toList++cells.toList.drop (off+n):=by
    have:=foldl_put (a.eval X).cells.toList off 0 cells (by simp[hvs];omega)
    simp only[Nat.add_zero,Array.length_toList,hvs]at this
    rw[<-this,<-Array.foldl_toList]
    congr 1
    rw[Array.toList_zipIdx]
   obtain⟨cells',f1,f2,f3,f4⟩:=ih (cells:=(a.eval X).cells.zipIdx.foldl (fun cs (c,j)=>cs.setIfInBounds (off+j) c) cells) c4 hp (by rw[hput];exact q1)
    (by rw[List.all_eq_true]at *;exact fun c hcc=>(q4 c hcc).elim (hf c) (r2 c))
    (fun g hg=>by
     obtain⟨c,hc1,hc2⟩:=toksL_mem.1 hg
     rcases q4 c hc1 with hc1 | hc1
     .exact ht g (toksL_mem.2 ⟨c,hc1,hc2⟩)
     .exact x2 g (r4 g (toksL_mem.2 ⟨c,hc1,hc2⟩)))
   refine⟨cells',?_,f2,f3,f4⟩
   have hnlt:¬(cells.size<off+n):=by omega
   have hpl':places.toArray[i]?=some (off,n):=by simpa using hpl
   simp only[List.map_cons,Instr.fill,hpl',hvs,ne_eq,not_true,decide_false,gt_iff_lt,hnlt,Bool.or_self,Bool.false_eq_true,if_false]
   exact f1
theorem ok_build (h:Rel nt F Wr K N a w s){zs:List LV}{parts:List (Nat×Nat×Opd)}{Parts:Array (Nat×Operand)}{t:TypeId}{e:Eff}(he:evOp call s (.build zs parts)=some e)
  (ho:o.op = .build t Parts) (hc:chkBuild P t zs parts Parts.toList=true):OpOk P F Wr K a w s o e:=by
 obtain⟨fields,places,t1,t2,t3,t4⟩:=chkBuild_eq hc
 obtain⟨i,z,hi,hz,hzs⟩:=chkZero_eq t3
 simp only[evOp]at he
 obtain⟨cs,hcs,he⟩:=obs he
 simp only[pureE,osi]at he
 subst he
 obtain⟨r1,r2,r3,r4⟩:=zerosLV_rep (K:=K) (N:=N) hzs
 obtain⟨cells',f1,f2,f3,f4⟩:=fill_parts h t4 hcs r1 r2 (by simp[r3])
 refine OpOk.pure h (v := .agg cells') ?_ ⟨cells'.toList,by simp,f3,f2⟩ (by simpa[LV.toks]using f4)
 have hb:P.built t (Parts.map fun (i,x)=>(i,a.eval x)).toList=some cells':=by
  unfold Program.built
  simp only[hi,t1,hz,t2,Array.toList_map]
  exact f1
 have:=run_build (P:=P) w t (Parts.map fun (i,x)=>(i,a.eval x)) cells' hb
 simp[execOp,ho]
 rw[this]
 rfl
theorem ok_toBytes (h:Rel nt F Wr K N a w s){g:Nat}{x:Opd}{X:Operand}{t t':TypeId}{e:Eff}(he:evOp call s (.toBytes g x)=some e)
  (ho:o.op = .convert t t' X) (hc:(chkOpd x X&&bytesTy P t'&&stringTy P t)=true):OpOk P F Wr K a w s o e:=by
 simp only[bat]at hc
 have t1:=stringTy_eq hc.2
 obtain⟨el,t2,t3⟩:∃el,P.underlying t'=some (.slice el)/\P.underlying el=some (.int .u8):=by
  have:=hc.1.2
  unfold bytesTy at this
  split at this
  .rename_i el hel;exact⟨el,hel,intTy_eq this⟩
  .cases this
 simp only[evOp]at he
 obtain⟨l,hl,he⟩:=obs he
 obtain⟨b,hb,he⟩:=obs he
 split at he<;>simp only[pureE,osi,reduceCtorEq]at he
 rename_i hbig
 subst he
 have ev:=str?_rep hb (h.opd hl hc.1.1).1
 let cap:=(Question.appendCap b.size 0 el).cut (w.tape w.drawn (.appendCap b.size 0 el))
 have hcap:b.size<=cap:=by simp[cap,Question.cut]
 let cs:Array Value:=b.data.map (fun c=>Value.int .u8 c.toNat)++Array.replicate (cap-b.size) (.int .u8 0)
 let w':World:=(w.drew.alloc (.cells cs el)).freeze ⟨w.heap.size,cs.size,none⟩ 1
 have hsh:(w.drew.alloc (.cells cs el)).shape? w.heap.size=some (el,cs.size):=by
  have:(w.drew.alloc (.cells cs el)).heap[w.heap.size]?=some (.cells cs el (0,0)):=push_new w.heap _
  simp only[World.shape?,this]
 have hconv:(Conv.stringToBytes el b).run P w = .ok (.slice (some ⟨w.heap.size,0,none⟩) b.size cap) w':=by
  simp[Conv.stringToBytes,Question.forced,newRow,markStringish]
  have:=hsh
  simp only[cs,cap]at this
  rw[this]
  rfl
 have hrun:(execOp a.eval o).run P w = .ok (.value (.slice (some ⟨w.heap.size,0,none⟩) b.size cap)) w':=by
  simp[execOp,ho,ev,convert,run_underlying t1,run_underlying t2,run_underlying t3,hconv]
 have hheap:∀b',w'.heap[b']?=if b'=w.heap.size then some (.cells cs el (cs.size,cs.size+1)) else w.heap[b']?:=by
  intro b'
  simp only[w',World.freeze,World.alloc,World.drew,Nat.one_ne_zero,if_false,Array.getElem?_modify,Array.getElem?_push]
  by_cases hbb:b'=w.heap.size
  .simp[hbb]
  .have hbb':w.heap.size≠b':=fun e=>hbb e.symm
   simp[hbb,hbb']
 let f:Nat->Option Value:=fun k=>if k<b.size then cs[k]? else none
 have hle:=Know.le_put (K:=K) (b:=w.heap.size) (f:=f) (fun k v hkv=>by rw[h.inv.fresh (Nat.le_refl _)]at hkv;cases hkv)
 have j1:=h.inv.know (h':=w'.heap) (b:=w.heap.size) (f:=f) (fun b' x hne hb'=>by rw[hheap,if_neg hne];exact hb')
  (fun k v hkv=>by rw[h.inv.fresh (Nat.le_refl _)]at hkv;cases hkv)
  (fun k v hkv=>by
   simp only[f]at hkv
   split at hkv
   .simp only[hcell,hheap,if_true];exact hkv
   .cases hkv)
  (fun x hx hb=>by have:=(h.inv.objs x hx).1.lt _ hb;omega) (fun g' hg' e=>by have:=(h.inv.toks g' hg').spare_lt e;omega)
 have hkeep:Keep Wr w w':=by
  refine⟨rfl,rfl,rfl,?_,fun b' hb' _=>by rw[hheap,if_neg (by omega)]⟩
  have:w'.heap.size=w.heap.size+1:=by simp only[w',World.freeze,Nat.one_ne_zero,if_false,Array.size_modify];simp
  omega
 have hrows:∀ (bs:List UInt8) (k:Nat),(∀j c,bs[j]?=some c->(K.put w.heap.size f) w.heap.size (k+j)=some (.int .u8 c.toNat))->RepRows (K.put w.heap.size f) 1 (ofBytes bs) w.heap.size k:=by
  intro bs
  induction bs with
  | nil=>intro k _;trivial
  | cons c bs ih=>
   intro k hk
   refine⟨rfl,⟨⟨_,hk 0 c rfl,⟨rfl,rfl⟩⟩,trivial⟩,ih (k+1) fun j c' hj=>?_⟩
   have:=hk (j+1) c' (by simpa using hj)
   rwa [show k+1+j=k+(j+1) by omega]
 have hrep:RepP (K.put w.heap.size f) (.lst 1 (ofBytes b.data.toList)) (.slice (some ⟨w.heap.size,0,none⟩) b.size cap):=by
  refine⟨_,_,_,rfl,by simp[ofBytes],hcap,.inr ⟨_,_,rfl,hrows _ 0 fun j c hj=>?_⟩⟩
  have hlt:j<b.data.size:=by have:=(lgs hj).1;simpa using this
  have hlt':j<b.size:=hlt
  simp only[Know.put,if_true,f,Nat.zero_add,hlt',cs]
  rw[Array.getElem?_append_left (by simpa using hlt),Array.getElem?_map]
  have:b.data[j]?=some c:=by simpa using hj
  rw[this];rfl
 refine⟨_,w',K.put w.heap.size f,N,.inl hrun,KExt.put hle (h.new _ (Nat.le_refl _)),hkeep,?_,h.pin⟩
 simp only[demPairs_nil,demMap_nil,updObjs,Option.toList_some,List.map_cons,List.map_nil,List.cons_append,List.nil_append]
 exact j1.add hrep (by simp[LV.toks])
end
open Go.RowKit
structure Slot where
 tok:Option Nat
 val:Value×Nat
def Slot.ok (N:Names) (x:Slot):Prop:=
 match x.tok with
 | some g=>x.val=N.G g
 | none=>x.val.1 = .slice none 0 0
def slotToks (sl:List Slot):List Nat:=sl.filterMap (·.tok)
def Names.same (N N':Names) (os:List Nat):Prop:=∀o∈os,N'.at o=N.at o
theorem Names.same_at {N N':Names}{o o':Nat}(h:N'.at o'=N.at o):N'.M o'=N.M o/\N'.S o'=N.S o/\N'.A o'=N.A o:=by
 simp only[Names.at,Prod.mk.injEq]at h;exact h
mutual
theorem exp_rep {K:Know}{N:Names}:∀ {l l':LV}{v:Value}{k k':Nat},l.exp k=some (l',k')->RepL K N l v->∃sl:List Slot,k'=k+sl.length/\slotToks sl=l.toks/\(∀x∈sl,x.ok N) /\
  (∀N':Names,(∀i x,sl[i]?=some x->N'.G (k+i)=x.val)->N.same N' l.names->RepL K N' l' v)/\(∀t∈l'.toks,k<=t/\t<k')/\l'.names=l.names/\l'.flat=l.flat
 | .pv p,_,_,_,_,h,r=>by
  simp only[LV.exp,osi,Prod.mk.injEq]at h
  obtain⟨rfl,rfl⟩:=h
  exact⟨[],rfl,rfl,by simp,fun _ _ _=>r,by simp[LV.toks],rfl,rfl⟩
 | .nk _ _ _,_,_,_,_,h,r=>by
  simp only[LV.exp,osi,Prod.mk.injEq]at h
  obtain⟨rfl,rfl⟩:=h
  exact⟨[],rfl,rfl,by simp,fun _ _ _=>r.1,by simp[LV.toks],rfl,rfl⟩
 | .nils sz,_,v,k,_,h,r=>by
  simp only[LV.exp,osi,Prod.mk.injEq]at h
  obtain⟨rfl,rfl⟩:=h
  simp only[RepL]at r
  refine⟨[⟨none,(v,sz)⟩],rfl,rfl,by simp[Slot.ok,r],fun N' hN _=>?_,by simp[LV.toks],rfl,rfl⟩
  have:=hN 0 _ rfl
  simp only[Nat.add_zero]at this
  exact⟨by rw[this],by rw[this],⟨none,0,0,r,rfl,Nat.le_refl _,.inl rfl⟩⟩
 | .own g sz es,_,v,k,_,h,⟨a,b,c⟩=>by
  simp only[LV.exp,osi,Prod.mk.injEq]at h
  obtain⟨rfl,rfl⟩:=h
  refine⟨[⟨some g,(v,sz)⟩],rfl,rfl,by simp only[List.mem_singleton,forall_eq,Slot.ok];exact Prod.ext a b,fun N' hN _=>?_,by simp[LV.toks],rfl,rfl⟩
  have:=hN 0 _ rfl
  simp only[Nat.add_zero]at this
  exact⟨by rw[this],by rw[this],c⟩
 | .arr o n,_,v,k,_,h,r=>by
  simp only[LV.exp,osi,Prod.mk.injEq]at h
  obtain⟨rfl,rfl⟩:=h
  exact⟨[],rfl,rfl,by simp,fun N' _ hs=>⟨by rw[(Names.same_at (hs o (by simp[LV.names]))).2.2];exact r.1,r.2⟩,by simp[LV.toks],rfl,rfl⟩
 | .box _ _ _,_,_,_,_,_,r=>r.elim
 | .dead,_,_,_,_,h,r=>by
  simp only[LV.exp,osi,Prod.mk.injEq]at h
  obtain⟨rfl,rfl⟩:=h
  exact⟨[],rfl,rfl,by simp,fun _ _ _=>r,by simp[LV.toks],rfl,rfl⟩
 | .ref _ _,_,_,_,_,h,_=>by simp[LV.exp]at h
 | .eref _ _ _,_,_,_,_,h,_=>by simp[LV.exp]at h
 | .tup _,_,_,_,_,h,_=>by simp[LV.exp]at h
 | .clo _ _,_,_,_,_,h,_=>by simp[LV.exp]at h
 | .agg ls,_,v,k,_,h,⟨vs,e,hf,r⟩=>by
  simp only[LV.exp]at h
  obtain⟨⟨ls',k1⟩,h1,h⟩:=obs h
  simp only[osi,Prod.mk.injEq]at h
  obtain⟨rfl,rfl⟩:=h
  obtain⟨sl,s1,s2,s3,s4,s5,s6,s7⟩:=expL_rep h1 r
  exact⟨sl,s1,s2,s3,fun N' hN hs=>⟨vs,e,s7▸hf,s4 N' hN hs⟩,by simpa[LV.toks]using s5,by simpa[LV.names]using s6,rfl⟩
theorem expL_rep {K:Know}{N:Names}:∀ {l l':List LV}{v:List Value}{k k':Nat},LV.expL k l=some (l',k')->RepLs K N l v->∃sl:List Slot,k'=k+sl.length/\slotToks sl=LV.toksL l/\(∀x∈sl,x.ok N) /\
  (∀N':Names,(∀i x,sl[i]?=some x->N'.G (k+i)=x.val)->N.same N' (LV.namesL l)->RepLs K N' l' v)/\(∀t∈LV.toksL l',k<=t/\t<k')/\LV.namesL l'=LV.namesL l/\l'.all LV.flat=l.all LV.flat
 | [],_,_,_,_,h,e=>by
  simp only[LV.expL,osi,Prod.mk.injEq]at h
  obtain⟨rfl,rfl⟩:=h
  exact⟨[],rfl,rfl,by simp,fun _ _ _=>e,by simp[LV.toksL],rfl,rfl⟩
 | l::ls,_,_,k,_,h,⟨v,r,e,x,y⟩=>by
  simp only[LV.expL]at h
  obtain⟨⟨p,k1⟩,hp,h⟩:=obs h
  obtain⟨⟨q,k2⟩,hq,h⟩:=obs h
  simp only[osi,Prod.mk.injEq]at h
  obtain⟨rfl,rfl⟩:=h
  obtain⟨s1,a1,a2,a3,a4,a5,a6,a7⟩:=exp_rep hp x
  obtain⟨s2,b1,b2,b3,b4,b5,b6,b7⟩:=expL_rep hq y
  refine⟨s1++s2,by rw[b1,a1];simp;omega,by simp[slotToks,LV.toksL]at *;rw[a2,b2],fun z hz=>(lma hz).elim (a3 z) (b3 z),
   fun N' hN hs=>⟨v,r,e,a4 N' (fun i z hz=>?_) (fun o ho=>hs o (by simp[LV.namesL,ho])),b4 N' (fun i z hz=>?_) (fun o ho=>hs o (by simp[LV.namesL,ho]))⟩,?_,by simp[LV.namesL,a6,b6],by simp[a7,b7]⟩
  .exact hN i z (by rw[List.getElem?_append_left (lgs hz).1];exact hz)
  .have:=hN (s1.length+i) z (by rw[List.getElem?_append_right (by omega)];simpa using hz)
   rw[a1,Nat.add_assoc];exact this
  .intro t ht
   simp only[LV.toksL,List.mem_append]at ht
   rcases ht with ht | ht
   .have:=a5 t ht
    omega
   .have:=b5 t ht
    omega
end
theorem exp1_rep {K:Know}{N:Names}:∀ {l l':LV}{v:Value}{k k':Nat},l.exp1 k=some (l',k')->RepL K N l v->∃sl:List Slot,k'=k+sl.length/\slotToks sl=l.toks/\(∀x∈sl,x.ok N) /\
  (∀N':Names,(∀i x,sl[i]?=some x->N'.G (k+i)=x.val)->N.same N' l.names->RepL K N' l' v)/\(∀t∈l'.toks,k<=t/\t<k')/\l'.names=l.names/\l'.flat=l.flat
 | .ref o j,_,v,k,_,h,r=>by
  simp only[LV.exp1,osi,Prod.mk.injEq]at h
  obtain⟨rfl,rfl⟩:=h
  exact⟨[],rfl,rfl,by simp,fun N' _ hs=>by simp only[RepL]at r ⊢;rw[(Names.same_at (hs o (by simp[LV.names]))).1];exact r,by simp[LV.toks],rfl,rfl⟩
 | .pv _,_,_,_,_,h,r | .nils _,_,_,_,_,h,r | .nk _ _ _,_,_,_,_,h,r | .own _ _ _,_,_,_,_,h,r | .arr _ _,_,_,_,_,h,r | .eref _ _ _,_,_,_,_,h,r | .agg _,_,_,_,_,h,r | .tup _,_,_,_,_,h,r | .clo _ _,_,_,_,_,h,r | .box _ _ _,_,_,_,_,h,r | .dead,_,_,_,_,h,r=>exp_rep h r
theorem expR_rep {K:Know}{N:Names}:∀ {l l':List LV}{v:List Value}{k k':Nat},LV.expR k l=some (l',k')->RepLs K N l v->∃sl:List Slot,k'=k+sl.length/\slotToks sl=LV.toksL l/\(∀x∈sl,x.ok N) /\
  (∀N':Names,(∀i x,sl[i]?=some x->N'.G (k+i)=x.val)->N.same N' (LV.namesL l)->RepLs K N' l' v)/\(∀t∈LV.toksL l',k<=t/\t<k')/\LV.namesL l'=LV.namesL l/\l'.all LV.flat=l.all LV.flat
 | [],_,_,_,_,h,e=>by
  simp only[LV.expR,osi,Prod.mk.injEq]at h
  obtain⟨rfl,rfl⟩:=h
  exact⟨[],rfl,rfl,by simp,fun _ _ _=>e,by simp[LV.toksL],rfl,rfl⟩
 | l::ls,_,_,k,_,h,⟨v,r,e,x,y⟩=>by
  simp only[LV.expR]at h
  obtain⟨⟨p,k1⟩,hp,h⟩:=obs h
  obtain⟨⟨q,k2⟩,hq,h⟩:=obs h
  simp only[osi,Prod.mk.injEq]at h
  obtain⟨rfl,rfl⟩:=h
  obtain⟨s1,a1,a2,a3,a4,a5,a6,a7⟩:=exp1_rep hp x
  obtain⟨s2,b1,b2,b3,b4,b5,b6,b7⟩:=expR_rep hq y
  refine⟨s1++s2,by rw[b1,a1];simp;omega,by simp[slotToks,LV.toksL]at *;rw[a2,b2],fun z hz=>(lma hz).elim (a3 z) (b3 z),
   fun N' hN hs=>⟨v,r,e,a4 N' (fun i z hz=>?_) (fun o ho=>hs o (by simp[LV.namesL,ho])),b4 N' (fun i z hz=>?_) (fun o ho=>hs o (by simp[LV.namesL,ho]))⟩,?_,by simp[LV.namesL,a6,b6],by simp[a7,b7]⟩
  .exact hN i z (by rw[List.getElem?_append_left (lgs hz).1];exact hz)
  .have:=hN (s1.length+i) z (by rw[List.getElem?_append_right (by omega)];simpa using hz)
   rw[a1,Nat.add_assoc];exact this
  .intro t ht
   simp only[LV.toksL,List.mem_append]at ht
   rcases ht with ht | ht
   .have:=a5 t ht
    omega
   .have:=b5 t ht
    omega
theorem ownCell_some {o o':Nat}{l l':LV}(h:ownCell o o' l=some l'):∃k,l = .ref o k/\l' = .ref o' k:=by
 unfold ownCell at h
 split at h
 .rename_i x k
  split at h
  .rename_i e;subst e;simp at h;exact⟨k,rfl,h.symm⟩
  .cases h
 .cases h
theorem expC_rep {K:Know}{N:Names}{hp':Heap}{o o':Nat}:∀ {l l':List LV}{v:List Value}{k k':Nat}{F:List Nat},LV.expC o o' k l=some (l',k')->okCells o' l'=true->RepCs K N hp' l v F->∃sl:List Slot,k'=k+sl.length/\slotToks sl=LV.toksL l/\(∀x∈sl,x.ok N) /\
  (∀N':Names,(∀i x,sl[i]?=some x->N'.G (k+i)=x.val)->N'.M o'=N.M o->RepCs K N' hp' l' v F)/\(∀t∈LV.toksL l',k<=t/\t<k')/\(∀x∈l',ownCell o' o' x=none->x.names=[])/\l'.all LV.flat=l.all LV.flat/\l'.length=l.length
 | [],_,_,_,_,_,h,_,e=>by
  simp only[LV.expC,osi,Prod.mk.injEq]at h
  obtain⟨rfl,rfl⟩:=h
  exact⟨[],rfl,rfl,by simp,fun _ _ _=>e,by simp[LV.toksL],by simp,rfl,rfl⟩
 | l::ls,_,_,k,_,_,h,hok,⟨v,r,F1,F2,e,eF,x,y⟩=>by
  have names_of:∀ {q:LV},((ownCell o' o' q).isSome || q.names.isEmpty)=true->ownCell o' o' q=none->q.names=[]:=fun {q} h1 h2=>by
   rw[h2]at h1
   simpa[List.isEmpty_iff]using h1
  simp only[LV.expC]at h
  split at h
  .rename_i l1 hl1
   obtain⟨⟨q,k2⟩,hq,h⟩:=obs h
   simp only[osi,Prod.mk.injEq]at h
   obtain⟨rfl,rfl⟩:=h
   obtain⟨j,rfl,rfl⟩:=ownCell_some hl1
   simp only[okCells,List.all_cons,bat]at hok
   obtain⟨s2,b1,b2,b3,b4,b5,b6,b7,b8⟩:=expC_rep hq hok.2 y
   refine⟨s2,b1,by simpa[LV.toksL,LV.toks]using b2,b3,fun N' hN hM=>⟨v,r,F1,F2,e,eF,⟨x.1,?_⟩,b4 N' hN hM⟩,by simpa[LV.toksL,LV.toks]using b5,?_,by simp[b7,LV.flat],by simp[b8]⟩
   .have:=x.2
    simp only[RepL]at this ⊢;rw[hM];exact this
   .intro z hz hn
    cases hz with
    | head=>simp[ownCell]at hn
    | tail _ hz=>exact b6 z hz hn
  .rename_i hl1
   obtain⟨⟨p,k1⟩,hp,h⟩:=obs h
   obtain⟨⟨q,k2⟩,hq,h⟩:=obs h
   simp only[osi,Prod.mk.injEq]at h
   obtain⟨rfl,rfl⟩:=h
   simp only[okCells,List.all_cons,bat]at hok
   obtain⟨s2,b1,b2,b3,b4,b5,b6,b7,b8⟩:=expC_rep hq hok.2 y
   have hpn:ownCell o' o' p=none->p.names=[]:=names_of hok.1
   have hpo:ownCell o' o' p=none:=by
    cases hx:ownCell o' o' p with
    | none=>rfl
    | some z=>
     obtain⟨j,rfl,_⟩:=ownCell_some hx
     cases l with
     | agg _=>simp only[LV.exp]at hp;obtain⟨_,_,e⟩:=obs hp;cases e
     | _=>simp[LV.exp]at hp
   have hpn:=hpn hpo
   obtain⟨s1,a1,a2,a3,a4,a5,a7⟩:∃s1:List Slot,k1=k+s1.length/\slotToks s1=l.toks/\(∀x∈s1,x.ok N)/\(∀N':Names,(∀i x,s1[i]?=some x->N'.G (k+i)=x.val)->RepC K N' hp' p v F1)/\(∀t∈p.toks,k<=t/\t<k1)/\p.flat=l.flat:=by
    cases hb:l with
    | box z es sh=>
     rw[hb]at hp x
     simp only[LV.exp,osi,Prod.mk.injEq]at hp
     obtain⟨rfl,rfl⟩:=hp
     exact⟨[],rfl,rfl,by simp,fun _ _=>RepC.named (N:=N) ⟨by simp[LV.names],by simp[LV.toks]⟩ x,by simp[LV.toks],rfl⟩
    | _=>
     rw[<-hb]
     have hx:F1=[]/\RepL K N l v:=by rw[hb]at x ⊢;exact x
     obtain⟨s1,a1,a2,a3,a4,a5,a6,a7⟩:=exp_rep hp hx.2
     refine⟨s1,a1,a2,a3,fun N' hN=>?_,a5,a7⟩
     rw[hx.1]
     exact RepC.of (a4 N' hN fun o ho=>by rw[<-a6,hpn]at ho;cases ho)
   refine⟨s1++s2,by rw[b1,a1];simp;omega,by simp[slotToks,LV.toksL]at *;rw[a2,b2],fun z hz=>(lma hz).elim (a3 z) (b3 z),fun N' hN hM=>⟨v,r,F1,F2,e,eF,a4 N' fun i z hz=>?_,b4 N' (fun i z hz=>?_) hM⟩,?_,?_,by simp[a7,b7],by simp[b8]⟩
   .exact hN i z (by rw[List.getElem?_append_left (lgs hz).1];exact hz)
   .have:=hN (s1.length+i) z (by rw[List.getElem?_append_right (by omega)];simpa using hz)
    rw[a1,Nat.add_assoc];exact this
   .intro t ht
    simp only[LV.toksL,List.mem_append]at ht
    rcases ht with ht | ht
    .have:=a5 t ht
     omega
    .have:=b5 t ht
     omega
   .intro z hz hn
    cases hz with
    | head=>exact hpn
    | tail _ hz=>exact b6 z hz hn
theorem Inv.part {Wr Wr':Nat->Prop}{K K':Know}{N N':Names}{h:Heap}{ps ps':List (Value×LV)}{os os':List (Nat×Obj)}(hi:Inv Wr K N h ps os){sl:List Slot}(hG:∀ (i:Nat) (x:Slot),sl[i]?=some x->N'.G i=x.val)
  (hsat:∀b o v,K' b o=some v->hcell h b o=some v) (hKW:∀b,Wr' b->b<h.size->∀o,K' b o=K b o)
  (hok:∀x∈sl,x.ok N) (ht:∀g∈slotToks sl,Occ ps os g) (hnd:(slotToks sl).Nodup) (hv:∀p∈ps',RepL K' N' p.2 p.1) (hl:∀t,Occ ps' os' t->t<sl.length)
  (ho:∀x∈os',ObjAt K' N' h x.1 x.2/\(∀b∈N'.F x.1,Wr' b)/\∃y∈os,N'.F x.1=N.F y.1) (hinj:∀x∈os',∀y∈os',∀b,b∈N'.F x.1->b∈N'.F y.1->x=y)
  (hW:∀g∈slotToks sl,∀b,spare (N.G g).1=some b->Wr' b):Inv Wr' K' N' h ps' os':=by
 have hocc:∀g,Occ ps' os' g->∃x,sl[g]?=some x:=fun g hg=>⟨_,List.getElem?_eq_getElem (hl g hg)⟩
 have htok:∀ (i:Nat) (x:Slot) (g:Nat),sl[i]?=some x->x.tok=some g->g∈slotToks sl/\x.val=N.G g:=by
  intro i x g hx hxt
  have hm:=List.mem_of_getElem? hx
  refine⟨List.mem_filterMap.2 ⟨x,hm,hxt⟩,?_⟩
  have:=hok x hm
  unfold Slot.ok at this
  rw[hxt]at this
  exact this
 have hnil:∀ (i:Nat) (x:Slot),sl[i]?=some x->x.tok=none->x.val.1 = .slice none 0 0:=by
  intro i x hx hxt
  have:=hok x (List.mem_of_getElem? hx)
  unfold Slot.ok at this
  rw[hxt]at this
  exact this
 refine⟨hsat,hv,?_,hinj,?_,?_,?_⟩
 .intro x hx
  obtain⟨h1,h2,y,hy,h3⟩:=ho x hx
  obtain⟨t,nd,r⟩:=hi.objs y hy
  refine⟨h1,by rw[h3];exact nd,fun b hb=>⟨h2 b hb,fun o=>?_⟩⟩
  rw[hKW b (h2 b hb) (h1.lt b hb)]
  rw[h3]at hb
  exact (r b hb).2 o
 .intro g hg
  obtain⟨x,hx⟩:=hocc g hg
  rw[hG g x hx]
  cases hxt:x.tok with
  | none=>exact .inl (hnil g x hx hxt)
  | some t=>
   obtain⟨h1,h2⟩:=htok g x t hx hxt
   rw[h2]
   refine (hi.toks t (ht t h1)).turn fun b hs _ hlt=>?_
   have hw:=hW t h1 b hs
   exact⟨rfl,hw,fun k hk=>by rw[hKW b hw hlt];exact hk⟩
 .intro g g' b h1 h2 s1 s2
  obtain⟨x,hx⟩:=hocc g h1
  obtain⟨x',hx'⟩:=hocc g' h2
  rw[hG g x hx]at s1
  rw[hG g' x' hx']at s2
  cases hxt:x.tok with
  | none=>rw[hnil g x hx hxt]at s1;simp[spare]at s1
  | some t=>
   cases hxt':x'.tok with
   | none=>rw[hnil g' x' hx' hxt']at s2;simp[spare]at s2
   | some t'=>
    obtain⟨p1,p2⟩:=htok g x t hx hxt
    obtain⟨q1,q2⟩:=htok g' x' t' hx' hxt'
    rw[p2]at s1
    rw[q2]at s2
    have hte:=hi.tinj t t' b (ht t p1) (ht t' q1) s1 s2
    subst hte
    have:∀ (sl:List Slot) (i j:Nat) (x y:Slot),(slotToks sl).Nodup->sl[i]?=some x->sl[j]?=some y->x.tok=some t->y.tok=some t->i=j:=by
     intro sl
     induction sl with
     | nil=>intro i j x y _ hi;simp at hi
     | cons z sl ih=>
      intro i j x y hnd hi hj hx hy
      have hmem:∀ (i:Nat) (x:Slot),sl[i]?=some x->x.tok=some t->t∈slotToks sl:=fun i x h1 h2=>List.mem_filterMap.2 ⟨x,List.mem_of_getElem? h1,h2⟩
      have hnd':(slotToks sl).Nodup:=by
       unfold slotToks at hnd ⊢
       rw[List.filterMap_cons]at hnd
       split at hnd
       .exact hnd
       .exact (List.nodup_cons.1 hnd).2
      cases i with
      | zero=>
       cases j with
       | zero=>rfl
       | succ j=>
        simp at hi
        subst hi
        exfalso
        unfold slotToks at hnd
        rw[List.filterMap_cons,hx]at hnd
        exact (List.nodup_cons.1 hnd).1 (hmem j y (by simpa using hj) hy)
      | succ i=>
       cases j with
       | zero=>
        simp at hj
        subst hj
        exfalso
        unfold slotToks at hnd
        rw[List.filterMap_cons,hy]at hnd
        exact (List.nodup_cons.1 hnd).1 (hmem i x (by simpa using hi) hx)
       | succ j=>rw[ih i j x y hnd' (by simpa using hi) (by simpa using hj) hx hy]
    exact this sl g g' x x' hnd hx hx' hxt hxt'
 .intro g x hg hx b hsp
  obtain⟨y,hy⟩:=hocc g hg
  rw[hG g y hy]at hsp
  cases hyt:y.tok with
  | none=>rw[hnil g y hy hyt]at hsp;simp[spare]at hsp
  | some t=>
   obtain⟨p1,p2⟩:=htok g y t hy hyt
   rw[p2]at hsp
   obtain⟨_,_,z,hz,h3⟩:=ho x hx
   rw[h3]
   exact hi.tobj t z (ht t p1) hz b hsp
open Go.RowKit
def FnOk (P : Program) (f : Nat) : Prop := ∃ fn, P.funcs[f]? = some fn ∧ fn.name ≠ "runtime.NumGoroutine" ∧ fn.body.isSome = true
def newOf:Nat->List (Option Obj)->List (Nat×Obj)
 | _,[]=>[]
 | j,some x::r=>(rnm j,x)::newOf (j+1) r
 | j,none::r=>newOf (j+1) r
def backOf:List (Nat×Obj)->List (Option Obj)->List (Nat×Obj)
 | o::os,some x::r=>(o.1,x)::backOf os r
 | _::os,none::r=>backOf os r
 | [],r=>newOf 0 r
 | _::_,[]=>[]
def CallOk (P:Program) (K0:Tabs) (call:CallF):Prop:=
 ∀f as os r,call f as os=some r->FnOk P (fid f) /\
  ∀ (Wr:Nat->Prop) (K:Know) (N:Names) (w:World) (vs:List Value),Stand K0 Wr w.heap->(∀b,w.heap.size<=b->Wr b)->RepLs K N as vs->Inv Wr K N w.heap (vs.zip as) os ->
  Calls P (fid f) (List.toArray vs) w fun e w'=>∃v K' N',e = .returned v/\KExt Wr K K'/\Keep Wr w w'/\Inv Wr K' N' w'.heap [(v,r.1)] (backOf os r.2)/\∀x∈os,N'.at x.1=N.at x.1
mutual
theorem LV.toks_imp (g:Nat):∀ (l:LV),(l.imp g).toks=l.toks.map fun h=>h*4096+g
 | .pv _=>rfl
 | .nils _=>rfl
 | .nk _ _ _=>rfl
 | .own _ _ _=>rfl
 | .ref _ _=>rfl
 | .eref _ _ _=>rfl
 | .arr _ _=>rfl
 | .agg ls=>by simp only[LV.imp,LV.toks];exact LV.toksL_imp g ls
 | .tup ls=>by simp only[LV.imp,LV.toks];exact LV.toksL_imp g ls
 | .clo _ ls=>by simp only[LV.imp,LV.toks];exact LV.toksL_imp g ls
 | .box _ _ _=>rfl
 | .dead=>rfl
theorem LV.toksL_imp (g:Nat):∀ (l:List LV),LV.toksL (LV.impL g l)=(LV.toksL l).map fun h=>h*4096+g
 | []=>rfl
 | l::ls=>by simp only[LV.impL,LV.toksL,LV.toks_imp g l,LV.toksL_imp g ls,List.map_append]
end
theorem LV.flat_imp (g:Nat) (l:LV):(l.imp g).flat=l.flat:=by cases l<;>rfl
theorem LV.flat_impL (g:Nat) (ls:List LV) (h:ls.all LV.flat=true):(LV.impL g ls).all LV.flat=true:=by
 induction ls with
 | nil=>rfl
 | cons a l ih=>simp only[LV.impL,List.all_cons,LV.flat_imp,bat]at *;exact⟨h.1,ih h.2⟩
mutual
theorem LV.names_imp (g:Nat):∀l:LV,(l.imp g).names=l.names
 | .pv _=>rfl
 | .nils _=>rfl
 | .nk _ _ _=>rfl
 | .own _ _ _=>rfl
 | .ref _ _=>rfl
 | .eref _ _ _=>rfl
 | .arr _ _=>rfl
 | .agg ls=>by simp only[LV.imp,LV.names];exact LV.namesL_imp g ls
 | .tup ls=>by simp only[LV.imp,LV.names];exact LV.namesL_imp g ls
 | .clo _ ls=>by simp only[LV.imp,LV.names];exact LV.namesL_imp g ls
 | .box _ _ _=>rfl
 | .dead=>rfl
theorem LV.namesL_imp (g:Nat):∀ls:List LV,LV.namesL (LV.impL g ls)=LV.namesL ls
 | []=>rfl
 | l::ls=>by simp only[LV.impL,LV.namesL,LV.names_imp g l,LV.namesL_imp g ls]
end
mutual
theorem LV.names_ren (f:Nat->Nat):∀l:LV,(l.ren f).names=l.names.map f
 | .pv _=>rfl
 | .nils _=>rfl
 | .nk _ _ _=>rfl
 | .own _ _ _=>rfl
 | .ref _ _=>rfl
 | .eref _ _ _=>rfl
 | .arr _ _=>rfl
 | .agg ls=>by simp only[LV.ren,LV.names];exact LV.namesL_ren f ls
 | .tup ls=>by simp only[LV.ren,LV.names];exact LV.namesL_ren f ls
 | .clo _ ls=>by simp only[LV.ren,LV.names];exact LV.namesL_ren f ls
 | .box _ _ _=>rfl
 | .dead=>rfl
theorem LV.namesL_ren (f:Nat->Nat):∀ls:List LV,LV.namesL (LV.renL f ls)=(LV.namesL ls).map f
 | []=>rfl
 | l::ls=>by simp only[LV.renL,LV.namesL,LV.names_ren f l,LV.namesL_ren f ls,List.map_append]
end
mutual
theorem LV.toks_ren (f:Nat->Nat):∀l:LV,(l.ren f).toks=l.toks
 | .pv _=>rfl
 | .nils _=>rfl
 | .nk _ _ _=>rfl
 | .own _ _ _=>rfl
 | .ref _ _=>rfl
 | .eref _ _ _=>rfl
 | .arr _ _=>rfl
 | .agg ls=>by simp only[LV.ren,LV.toks];exact LV.toksL_ren f ls
 | .tup ls=>by simp only[LV.ren,LV.toks];exact LV.toksL_ren f ls
 | .clo _ ls=>by simp only[LV.ren,LV.toks];exact LV.toksL_ren f ls
 | .box _ _ _=>rfl
 | .dead=>rfl
theorem LV.toksL_ren (f:Nat->Nat):∀ls:List LV,LV.toksL (LV.renL f ls)=LV.toksL ls
 | []=>rfl
 | l::ls=>by simp only[LV.renL,LV.toksL,LV.toks_ren f l,LV.toksL_ren f ls]
end
theorem LV.flat_ren (f:Nat->Nat) (l:LV):(l.ren f).flat=l.flat:=by cases l<;>rfl
theorem LV.flat_renL (f:Nat->Nat) (ls:List LV):(LV.renL f ls).all LV.flat=ls.all LV.flat:=by
 induction ls with
 | nil=>rfl
 | cons a l ih=>simp only[LV.renL,List.all_cons,LV.flat_ren,ih]
mutual
theorem RepL.ren {K:Know}{N N':Names}(f:Nat->Nat):∀ {l:LV}{v:Value},(∀o∈l.names,N'.at (f o)=N.at o)->(∀h∈l.toks,N'.G h=N.G h)->RepL K N l v->RepL K N' (l.ren f) v
 | .pv _,_,_,_,r=>r
 | .nils _,_,_,_,e=>e
 | .nk _ _ _,_,_,_,e=>e
 | .own h _ _,_,_,hg,⟨a,b,c⟩=>by
  have:=hg h (by simp[LV.toks])
  exact⟨by rw[this];exact a,by rw[this];exact b,c⟩
 | .ref o _,_,hn,_,r=>by
  have:=hn o (by simp[LV.names]);simp only[Names.at,Prod.mk.injEq]at this
  simp only[RepL,LV.ren]at *;rw[this.1];exact r
 | .eref o _ _,_,hn,_,r=>by
  have:=hn o (by simp[LV.names]);simp only[Names.at,Prod.mk.injEq]at this
  simp only[RepL,LV.ren]at *;rw[this.1,this.2.1];exact r
 | .arr o _,_,hn,_,r=>by
  have:=hn o (by simp[LV.names]);simp only[Names.at,Prod.mk.injEq]at this
  simp only[RepL,LV.ren]at *;rw[this.2.2];exact r
 | .agg _,_,hn,hg,⟨vs,e,hf,r⟩=>⟨vs,e,by rw[LV.flat_renL];exact hf,RepLs.ren f (by simpa[LV.names]using hn) (by simpa[LV.toks]using hg) r⟩
 | .tup _,_,hn,hg,⟨vs,e,r⟩=>⟨vs,e,RepLs.ren f (by simpa[LV.names]using hn) (by simpa[LV.toks]using hg) r⟩
 | .clo _ _,_,hn,hg,⟨vs,e,r⟩=>⟨vs,e,RepLs.ren f (by simpa[LV.names]using hn) (by simpa[LV.toks]using hg) r⟩
 | .box _ _ _,_,_,_,e=>e
 | .dead,_,_,_,e=>e
theorem RepLs.ren {K:Know}{N N':Names}(f:Nat->Nat):∀ {l:List LV}{v:List Value},(∀o∈LV.namesL l,N'.at (f o)=N.at o)->(∀h∈LV.toksL l,N'.G h=N.G h)->RepLs K N l v->RepLs K N' (LV.renL f l) v
 | [],_,_,_,e=>e
 | l::ls,_,hn,hg,⟨v,r,e,a,b⟩=>
  ⟨v,r,e,RepL.ren f (fun o ho=>hn o (by simp[LV.namesL,ho])) (fun h hh=>hg h (by simp[LV.toksL,hh])) a,RepLs.ren f (fun o ho=>hn o (by simp[LV.namesL,ho])) (fun h hh=>hg h (by simp[LV.toksL,hh])) b⟩
end
mutual
theorem RepL.imp {K:Know}{N N':Names}(g:Nat):∀ {l:LV}{v:Value},N.same N' l.names->(∀h∈l.toks,N'.G (h*4096+g)=N.G h)->RepL K N l v->RepL K N' (l.imp g) v
 | .pv _,_,_,_,r=>r
 | .nils _,_,_,_,e=>e
 | .nk _ _ _,_,_,_,e=>e
 | .own h _ _,_,_,hg,⟨a,b,c⟩=>by
  have:=hg h (by simp[LV.toks])
  exact⟨by rw[this];exact a,by rw[this];exact b,c⟩
 | .ref o _,_,hn,_,r=>by
  have:=Names.same_at (hn o (by simp[LV.names]))
  simp only[RepL,LV.imp]at *;rw[this.1];exact r
 | .eref o _ _,_,hn,_,r=>by
  have:=Names.same_at (hn o (by simp[LV.names]))
  simp only[RepL,LV.imp]at *;rw[this.1,this.2.1];exact r
 | .arr o _,_,hn,_,r=>by
  have:=Names.same_at (hn o (by simp[LV.names]))
  simp only[RepL,LV.imp]at *;rw[this.2.2];exact r
 | .agg _,_,hn,hg,⟨vs,e,hf,r⟩=>⟨vs,e,LV.flat_impL g _ hf,RepLs.imp g (by simpa[LV.names]using hn) (by simpa[LV.toks]using hg) r⟩
 | .tup _,_,hn,hg,⟨vs,e,r⟩=>⟨vs,e,RepLs.imp g (by simpa[LV.names]using hn) (by simpa[LV.toks]using hg) r⟩
 | .clo _ _,_,hn,hg,⟨vs,e,r⟩=>⟨vs,e,RepLs.imp g (by simpa[LV.names]using hn) (by simpa[LV.toks]using hg) r⟩
 | .box _ _ _,_,_,_,e=>e
 | .dead,_,_,_,e=>e
theorem RepLs.imp {K:Know}{N N':Names}(g:Nat):∀ {l:List LV}{v:List Value},N.same N' (LV.namesL l)->(∀h∈LV.toksL l,N'.G (h*4096+g)=N.G h)->RepLs K N l v->RepLs K N' (LV.impL g l) v
 | [],_,_,_,e=>e
 | l::ls,_,hn,hg,⟨v,r,e,a,b⟩=>
  ⟨v,r,e,RepL.imp g (fun o ho=>hn o (by simp[LV.namesL,ho])) (fun h hh=>hg h (by simp[LV.toksL,hh])) a,RepLs.imp g (fun o ho=>hn o (by simp[LV.namesL,ho])) (fun h hh=>hg h (by simp[LV.toksL,hh])) b⟩
end
def Full (K:Know) (h:Heap) (F:List Nat):Prop:=∀b∈F,∀k v,hcell h b k=some v->K b k=some v
mutual
theorem RepU.view {K K':Know}{h:Heap}(hk:K.le K'):∀ {p:PV}{s:Shp}{v:Value}{F:List Nat},RepU K h p s v F->Full K' h F->RepP K' p v
 | .sc _,.v,_,_,r,_=>r.2
 | .sc _,.u _,_,_,r,_=>r.2
 | .lst _ _,.v,_,_,r,_=>RepP.mono (p := .lst _ _) hk r.2
 | .cp _,.v,_,_,r,_=>RepP.mono (p := .cp _) hk r.2
 | .clo _ _,.v,_,_,r,_=>RepP.mono (p := .clo _ _) hk r.2
 | .mth _ _,.v,_,_,r,_=>RepP.mono (p := .mth _ _) hk r.2
 | .lst _ _,.u _,_,_,.inl ⟨e,_,e'⟩,_=>⟨none,0,0,e',by rw[e];rfl,Nat.le_refl _,.inl e⟩
 | .lst sz es,.u sh,_,_,.inr ⟨b,cap,cs,el,G,e1,e2,e3,e4,e5,e6⟩,hf=>
  ⟨_,_,_,e1,rfl,e2,.inr ⟨b,0,rfl,RepUR.view hk (b:=b) (o:=0) e6 (fun i u hu=>hf b (by simp[e5]) _ _ (by simp only[hcell,e3,List.getElem?_toArray,Nat.zero_add];exact hu)) fun c hc=>hf c (by simp[e5,hc])⟩⟩
theorem RepUs.view {K K':Know}{h:Heap}(hk:K.le K'):∀ {e:List PV}{s:List Shp}{vs:List Value}{F:List Nat}{b o:Nat},RepUs K h e s vs F->(∀i u,vs[i]?=some u->K' b (o+i)=some u)->Full K' h F->RepRow K' e b o
 | [],_,_,_,_,_,_,_,_=>trivial
 | _::_,_,_,_,_,o,⟨v,r,F1,F2,e1,e2,x,y⟩,hv,hf=>
  ⟨⟨v,by simpa using hv 0 v (by rw[e1];rfl),RepU.view hk x fun c hc=>hf c (by simp[e2,hc])⟩,
   RepUs.view hk y (fun i u hu=>by have:=hv (i+1) u (by rw[e1];simpa using hu);rwa [show o+1+i=o+(i+1) by omega]) fun c hc=>hf c (by simp[e2,hc])⟩
theorem RepUR.view {K K':Know}{h:Heap}(hk:K.le K'){sz:Nat}{s:List Shp}:∀ {es:List (List PV)}{vs:List Value}{F:List Nat}{b o:Nat},RepUR K h sz s es vs F->(∀i u,vs[i]?=some u->K' b (o+i)=some u)->Full K' h F->RepRows K' sz es b o
 | [],_,_,_,_,_,_,_=>trivial
 | _::_,vs,_,_,o,⟨e1,F1,F2,e2,x,y⟩,hv,hf=>
  ⟨e1,RepUs.view hk x hv fun c hc=>hf c (by simp[e2,hc]),
   RepUR.view hk y (fun i u hu=>by rw[List.getElem?_drop]at hu;have:=hv _ u hu;rwa [show o+sz+i=o+(sz+i) by omega]) fun c hc=>hf c (by simp[e2,hc])⟩
end
theorem impC_rep {K:Know}{N N':Names}{hp:Heap}{o' o g:Nat}:∀ {l:List LV}{v:List Value}{F:List Nat},okCells o' l=true->(∀h∈LV.toksL l,N'.G (h*4096+g)=N.G h)->N'.M o=N.M o' ->
  RepCs K N hp l v F->RepCs K N' hp (impC o' o g l) v F
 | [],_,_,_,_,_,e=>e
 | l::ls,_,_,hn,hg,hM,⟨v,r,F1,F2,e,e',a,b⟩=>by
  simp only[okCells,List.all_cons,bat]at hn
  have i1:=impC_rep (o':=o') (o:=o) (g:=g) hn.2 (fun h hh=>hg h (by simp[LV.toksL,hh])) hM b
  simp only[impC]
  cases hl:ownCell o' o l with
  | some l'=>
   obtain⟨k,rfl,rfl⟩:=ownCell_some hl
   refine⟨v,r,F1,F2,e,e',⟨a.1,?_⟩,i1⟩
   have:=a.2
   simp only[RepL]at this ⊢;rw[hM];exact this
  | none=>
   have hl':ownCell o' o' l=none:=by
    cases hx:ownCell o' o' l with
    | none=>rfl
    | some l'=>obtain⟨k,rfl,rfl⟩:=ownCell_some hx;simp[ownCell]at hl
   have hnm:l.names=[]:=by
    have:=hn.1
    rw[hl']at this
    simpa[List.isEmpty_iff]using this
   refine⟨v,r,F1,F2,e,e',?_,i1⟩
   cases hb:l with
   | box z es sh=>rw[hb]at a;exact RepC.named (N:=N) ⟨by simp[LV.imp,LV.names],by simp[LV.imp,LV.toks]⟩ a
   | _=>
    have ha:F1=[]/\RepL K N l v:=by rw[hb]at a ⊢;exact a
    rw[<-hb,ha.1]
    exact RepC.of (RepL.imp g (fun x hx=>by rw[hnm]at hx;cases hx) (fun h hh=>hg h (by simp[LV.toksL,hh])) ha.2)
theorem impC_facts {o' o g:Nat}:∀ {l:List LV},(impC o' o g l).all LV.flat=l.all LV.flat/\LV.toksL (impC o' o g l)=(LV.toksL l).map (fun h=>h*4096+g)/\(impC o' o g l).length=l.length
 | []=>⟨rfl,rfl,rfl⟩
 | l::ls=>by
  obtain⟨a,b,c⟩:=impC_facts (o':=o') (o:=o) (g:=g) (l:=ls)
  simp only[impC]
  cases hl:ownCell o' o l with
  | some l'=>
   obtain⟨k,rfl,rfl⟩:=ownCell_some hl
   exact⟨by simp[a,LV.flat],by simp[LV.toksL,LV.toks,b],by simp[c]⟩
  | none=>exact⟨by simp[a,LV.flat_imp],by simp[LV.toksL,b,LV.toks_imp],by simp[c]⟩
section
variable {call:CallF}{P:Program}{nt:Nat}{F:Fr}{Wr:Nat->Prop}{K:Know}{N:Names}{a:Act}{w:World}{s:LSt}{o:Oper}
mutual
theorem arg_rep (h:Rel nt F Wr K N a w s) {K':Know}{N':Names}(hk:K.le K'):∀ {l l':LV}{v:Value},l.arg s.objs=some l'->RepL K N l v->(∀o∈l.names,Full K' w.heap (N.F o)) ->
  RepL K' N' l' v/\l'.toks=[]/\l'.names=[]/\l'.flat=l.flat/\∀o∈l.names,∃z es sh,(o,Obj.rows z es sh none)∈s.objs
 | .pv _,_,_,h,r,_=>by simp only[LV.arg,osi]at h;subst h;exact⟨RepP.mono hk r,rfl,rfl,rfl,by simp[LV.names]⟩
 | .nk _ _ _,_,_,h,e,_=>by simp only[LV.arg,osi]at h;subst h;exact⟨RepP.mono (p := .lst _ _) hk e.1,rfl,rfl,rfl,by simp[LV.names]⟩
 | .nils _,_,_,h,e,_=>by simp only[LV.arg,osi]at h;subst h;exact⟨⟨none,0,0,e,rfl,Nat.le_refl _,.inl rfl⟩,rfl,rfl,rfl,by simp[LV.names]⟩
 | .own _ _ _,_,_,h,⟨_,_,c⟩,_=>by simp only[LV.arg,osi]at h;subst h;exact⟨RepP.mono (p := .lst _ _) hk c,rfl,rfl,rfl,by simp[LV.names]⟩
 | .ref _ _,_,_,h,_,_=>by simp[LV.arg]at h
 | .eref _ _ _,_,_,h,_,_=>by simp[LV.arg]at h
 | .arr o n,_,_,he,r,hf=>by
  simp only[LV.arg]at he
  obtain⟨q,hq,he⟩:=obs he
  simp only[osi]at he
  subst he
  obtain⟨m1,m2,m3⟩:=rowsOfO_rep h hq
  refine⟨?_,rfl,rfl,rfl,by simpa[LV.names]using ⟨_,_,_,m1⟩⟩
  have hfo:=hf o (by simp[LV.names])
  rcases m3 with⟨vs,el,G,cap,e1,e2,e3,e4,e5,e6⟩ | ⟨⟨e1,e2⟩,e3⟩
  .exact RepU.view hk (p := .lst q.1 q.2.1) (s := .u q.2.2) (.inr ⟨_,cap,vs,el,G,by rw[r.1];exact e4,e5,e1,e6,e2,e3⟩) hfo
  .exact RepU.view hk (p := .lst q.1 q.2.1) (s := .u q.2.2) (.inl ⟨e1,e3,by rw[r.1];exact e2⟩) hfo
 | .agg ls,_,_,he,⟨vs,e,hf,r⟩,hn=>by
  simp only[LV.arg]at he
  obtain⟨ls',hls,he⟩:=obs he
  simp only[osi]at he
  subst he
  obtain⟨a,b,c,d,e'⟩:=argL_rep h (N':=N') hk hls r (by simpa[LV.names]using hn)
  exact⟨⟨vs,e,d▸hf,a⟩,by simpa[LV.toks]using b,by simpa[LV.names]using c,rfl,by simpa[LV.names]using e'⟩
 | .tup _,_,_,h,_,_=>by simp[LV.arg]at h
 | .clo _ _,_,_,h,_,_=>by simp[LV.arg]at h
 | .box _ _ _,_,_,h,_,_=>by simp[LV.arg]at h
 | .dead,_,_,h,r,_=>by simp only[LV.arg,osi]at h;subst h;exact⟨r,rfl,rfl,rfl,by simp[LV.names]⟩
theorem argL_rep (h:Rel nt F Wr K N a w s) {K':Know}{N':Names}(hk:K.le K'):∀ {l l':List LV}{v:List Value},LV.argL s.objs l=some l'->RepLs K N l v->(∀o∈LV.namesL l,Full K' w.heap (N.F o)) ->
  RepLs K' N' l' v/\LV.toksL l'=[]/\LV.namesL l'=[]/\l'.all LV.flat=l.all LV.flat/\∀o∈LV.namesL l,∃z es sh,(o,Obj.rows z es sh none)∈s.objs
 | [],_,_,h,e,_=>by simp only[LV.argL,osi]at h;subst h;exact⟨e,rfl,rfl,rfl,by simp[LV.namesL]⟩
 | l::ls,_,_,he,⟨v,r,e,x,y⟩,hn=>by
  simp only[LV.argL]at he
  obtain⟨p,hp,he⟩:=obs he
  obtain⟨q,hq,he⟩:=obs he
  simp only[osi]at he
  subst he
  obtain⟨a1,a2,a3,a4,a5⟩:=arg_rep h (N':=N') hk hp x fun o ho=>hn o (by simp[LV.namesL,ho])
  obtain⟨b1,b2,b3,b4,b5⟩:=argL_rep h (N':=N') hk hq y fun o ho=>hn o (by simp[LV.namesL,ho])
  refine⟨⟨v,r,e,a1,b1⟩,by simp[LV.toksL,a2,b2],by simp[LV.namesL,a3,b3],by simp[a4,b4],fun o ho=>?_⟩
  simp only[LV.namesL,List.mem_append]at ho
  exact ho.elim (a5 o) (b5 o)
end
def Know.full (K:Know) (h:Heap) (F:List Nat):Know:=fun b k=>if F.contains b then hcell h b k else K b k
theorem Know.full_spec {K:Know}{h:Heap}{F:List Nat}:Full (K.full h F) h F:=fun b hb k v hv=>by
 have:F.contains b=true:=by simpa using hb
 simp only[Know.full,this,if_true];exact hv
theorem givs_some {l:LV}{ls:List LV}(h:l.givs=some ls):l = .agg ls:=by
 unfold LV.givs at h
 split at h
 .split at h
  .simp only[osi]at h;rw[h]
  .cases h
 .cases h
theorem toPV_rep {l:LV}{p:PV}{v:Value}(h:l.toPV=some p) (r:RepL K N l v):RepP K p v:=by
 obtain⟨u,q,e,r,_⟩:=toPVs_rep (ls:=[l]) (ps:=[p]) (vs:=[v]) (by simp[toPVs,h]) ⟨v,[],rfl,r,rfl⟩
 simp only[List.cons.injEq]at e
 rw[e.1];exact r
theorem givL_rep (h:Rel nt F Wr K N a w s):∀ {ls:List LV}{i:Nat}{p:List LV×List (Nat×Obj)×List Nat}{vs:List Value},givL s.objs i ls=some p->RepLs K N ls vs ->
  p.2.2.length=p.2.1.length/\LV.toksL p.1=[]/\p.1.all LV.flat=true /\
  (∀x∈p.2.2.zip p.2.1,∃ob,(x.1,ob)∈s.objs/\LV.toksL x.2.2.cells=[]/\∀N':Names,N'.at x.2.1=N.at x.1->N'.F x.2.1=N.F x.1->ObjAt K N' w.heap x.2.1 x.2.2) /\
  (∀ (K':Know) (N':Names),K.le K'->(∀x∈p.2.2.zip p.2.1,N'.at x.2.1=N.at x.1)->RepLs K' N' p.1 vs)
 | [],i,p,vs,he,r=>by
  simp only[givL,osi]at he
  subst he
  exact⟨rfl,rfl,rfl,by simp,fun _ _ _ _=>r⟩
 | l::ls,i,p,vs,he,r=>by
  obtain⟨v,vs',rfl,r1,r2⟩:=r
  have key:(∃o n,l = .arr o n)\/(∃l',(givL s.objs i ls).bind (fun h=>some (l'::h.1,h.2.1,h.2.2))=some p/\l'.toks=[]/\l'.flat=true/\∀ (K':Know) (N':Names),K.le K'->RepL K' N' l' v):=by
   cases l with
   | arr o n=>exact .inl ⟨o,n,rfl⟩
   | dead=>simp only[givL]at he;exact .inr ⟨_,he,rfl,rfl,fun _ _ _=>r1⟩
   | _=>
    simp only[givL]at he
    obtain⟨q,hq,he⟩:=obs he
    have:=toPV_rep hq r1
    exact .inr ⟨_,he,rfl,rfl,fun K' N' hk=>RepP.mono hk this⟩
  rcases key with⟨o,n,rfl⟩ | ⟨l',he,ht,hf,hr⟩
  .simp only[givL]at he
   obtain⟨q,hq,he⟩:=obs he
   obtain⟨p',hp,he⟩:=obs he
   simp only[osi]at he
   subst he
   obtain⟨a1,a2,a3,a4,a5⟩:=givL_rep h hp r2
   obtain⟨m1,m2,m3⟩:=rowsOfO_rep h hq
   refine⟨by simp[a1],by simp[LV.toksL,LV.toks,a2],by simp[LV.flat,a3],?_,fun K' N' hk hM=>⟨v,vs',rfl,?_,a5 K' N' hk fun x hx=>hM x (by simp[hx])⟩⟩
   .intro x hx
    simp only[List.zip_cons_cons,List.mem_cons]at hx
    rcases hx with rfl | hx
    .refine⟨_,m1,by simp[Obj.cells,LV.toksL],fun N' hM hF=>?_⟩
     obtain⟨n1,n2,n3⟩:=Names.same_at hM
     refine⟨m3.imp (fun⟨vs,el,G,cap,e1,e2,e3,e4,e5,e6⟩=>⟨vs,el,G,by rw[n1];exact e1,by rw[hF,n1];exact e2,e3,cap,by rw[n3,n1];exact e4,e5,e6⟩)
      (fun⟨⟨e1,e2⟩,e3⟩=>⟨⟨e1,by rw[n3];exact e2⟩,by rw[hF];exact e3⟩),by rw[n2];exact m2,trivial⟩
    .exact a4 x hx
   .have:=(Names.same_at (hM (o,(newName o i,.rows q.1 q.2.1 q.2.2 none)) (by simp))).2.2
    exact⟨by rw[this];exact r1.1,r1.2⟩
  .obtain⟨p',hp,he⟩:=obs he
   simp only[osi]at he
   subst he
   obtain⟨a1,a2,a3,a4,a5⟩:=givL_rep h hp r2
   exact⟨a1,by simp[LV.toksL,ht,a2],by simp[hf,a3],a4,fun K' N' hk hM=>⟨v,vs',rfl,hr K' N' hk,a5 K' N' hk hM⟩⟩
theorem hand_rep (h:Rel nt F Wr K N a w s):∀ {args:List (Opd×Bool)}{As:List Operand}{k i:Nat}{hd:Hand},handOf s k i args=some hd->chkOpds (args.map (·.1)) As=true ->
  ∃sl:List Slot,slotToks sl=hd.gs/\(∀x∈sl,x.ok N)/\(∀g∈hd.gs,Occ (pairs a s.env) s.objs g)/\hd.ns.length=hd.os.length /\
   (∀x∈hd.ns.zip hd.os,∃ob,(x.1,ob)∈s.objs/\(∀t∈LV.toksL x.2.2.cells,k<=t/\t<k+sl.length) /\
    ∀N':Names,(∀i y,sl[i]?=some y->N'.G (k+i)=y.val)->N'.at x.2.1=N.at x.1->N'.F x.2.1=N.F x.1->ObjAt K N' w.heap x.2.1 x.2.2) /\
   (∀t∈LV.toksL hd.as,k<=t/\t<k+sl.length)/\(∀o∈hd.bs,∃z es sh,(o,Obj.rows z es sh none)∈s.objs) /\
   (∀ (K':Know) (N':Names),K.le K'->(∀o∈hd.bs,Full K' w.heap (N.F o))->(∀i y,sl[i]?=some y->N'.G (k+i)=y.val)->(∀x∈hd.ns.zip hd.os,N'.at x.2.1=N.at x.1)->RepLs K' N' hd.as (As.map a.eval)):=by
 intro args
 induction args with
 | nil=>
  intro As k i hd he hc
  simp only[handOf,osi]at he
  subst he
  cases As with
  | nil=>exact⟨[],rfl,by simp,by simp,rfl,by simp,by simp[LV.toksL],by simp,fun _ _ _ _ _ _=>rfl⟩
  | cons _ _=>simp[chkOpds]at hc
 | cons x args ih=>
  intro As k i hd he hc
  obtain⟨x,m⟩:=x
  cases As with
  | nil=>simp[chkOpds]at hc
  | cons X As=>
   simp only[List.map_cons,chkOpds,bat]at hc
   cases m with
   | false=>
    simp only[handOf]at he
    obtain⟨l,hl,he⟩:=obs he
    obtain⟨l',hl',he⟩:=obs he
    obtain⟨hd',hh,he⟩:=obs he
    simp only[osi]at he
    subst he
    obtain⟨sl,a1,a2,a3,a4,a5,a6,a7,a8⟩:=ih hh hc.2
    obtain⟨r1,_⟩:=h.opd hl hc.1
    have hfull:∀o∈l.names,Full (K.full w.heap (l.names.flatMap N.F)) w.heap (N.F o):=fun o ho b hb=>Know.full_spec b (List.mem_flatMap.2 ⟨o,ho,hb⟩)
    have hle:K.le (K.full w.heap (l.names.flatMap N.F)):=fun b o v hv=>by
     unfold Know.full
     split
     .exact h.inv.sat b o v hv
     .exact hv
    have hr0:=arg_rep h (N':=N) hle hl' r1 hfull
    refine⟨sl,a1,a2,a3,a4,a5,?_,fun o ho=>?_,fun K' N' hk hb hN hM=>⟨_,_,rfl,(arg_rep h (N':=N') hk hl' r1 fun o ho=>hb o (by simp[ho])).1,a8 K' N' hk (fun o ho=>hb o (by simp[ho])) hN hM⟩⟩
    .intro t ht
     simp only[LV.toksL,List.mem_append]at ht
     rcases ht with ht | ht
     .rw[hr0.2.1]at ht;simp at ht
     .exact a6 t ht
    .rcases lma ho with ho | ho
     .exact hr0.2.2.2.2 o ho
     .exact a7 o ho
   | true=>
    simp only[handOf]at he
    obtain⟨l,hl,he⟩:=obs he
    obtain⟨r1,r2⟩:=h.opd hl hc.1
    split at he
    .rename_i o
     obtain⟨ob,hob,he⟩:=obs he
     split at he
     .rename_i cs
      obtain⟨⟨cs',k1⟩,hcs,he⟩:=obs he
      split at he<;>(try simp only[reduceCtorEq]at he)
      rename_i hok0
      obtain⟨hok,hi⟩:=hok0
      obtain⟨hd',hh,he⟩:=obs he
      simp only[osi]at he
      subst he
      have hm:=aget_mem hob
      obtain⟨t1,t2⟩:=(h.inv.objs _ hm).1
      rcases t1 with⟨vs,el,G,e1,e2,e3,e4,e5⟩ | ⟨e,_⟩
      case inr=>exact e.elim
      simp only at e1 e2 e3 e4 e5 t2 hok
      obtain⟨s1,b1,b2,b3,b4,b5,b6,b7,b8⟩:=expC_rep hcs hok e3
      obtain⟨sl,a1,a2,a3,a4,a5,a6,a7,a8⟩:=ih hh hc.2
      have hsl1:∀N':Names,(∀i y,(s1++sl)[i]?=some y->N'.G (k+i)=y.val)->∀i y,s1[i]?=some y->N'.G (k+i)=y.val:=fun N' hN i z hz=>
       hN i z (by rw[List.getElem?_append_left (lgs hz).1];exact hz)
      have hsl2:∀N':Names,(∀i y,(s1++sl)[i]?=some y->N'.G (k+i)=y.val)->∀i y,sl[i]?=some y->N'.G (k1+i)=y.val:=fun N' hN i z hz=>by
       have:=hN (s1.length+i) z (by rw[List.getElem?_append_right (by omega)];simpa using hz)
       rw[b1,Nat.add_assoc];exact this
      refine⟨s1++sl,by show slotToks (s1++sl)=LV.toksL cs++hd'.gs;rw[<-b2,<-a1];simp[slotToks],fun z hz=>(lma hz).elim (b3 z) (a2 z),fun g hg=>?_,by simp[a4],?_,?_,a7,fun K' N' hk hb hN hM=>⟨_,_,rfl,?_,a8 K' N' hk hb (hsl2 N' hN) fun x hx=>hM x (by simp[hx])⟩⟩
      .rcases lma hg with hg | hg
       .exact .inr ⟨_,hm,hg⟩
       .exact a3 g hg
      .intro x hx
       simp only[List.zip_cons_cons,List.mem_cons]at hx
       rcases hx with rfl | hx
       .refine⟨_,hm,fun t ht=>?_,fun N' hN hM hF=>⟨.inl ⟨vs,el,G,?_,?_,b4 N' (hsl1 N' hN) (Names.same_at hM).1,?_,?_⟩,?_⟩⟩
        .have:=b5 t ht
         simp only[List.length_append];omega
        .rw[(Names.same_at hM).1];exact e1
        .rw[hF,(Names.same_at hM).1];exact e2
        .show vs.length=cs'.length
         rw[b8];exact e4
        .show o/1024*1024+i<1099511627776->(o/1024*1024+i)/1024≠0->el=(o/1024*1024+i)/1024
         intro h1 h2
         have e6:(o/1024*1024+i)/1024=o/1024:=by omega
         rw[e6]at h2 ⊢
         exact e5 (by omega) h2
        .show cs'.all LV.flat=true
         rw[b7];exact t2
       .obtain⟨ob,c1,c2,c3⟩:=a5 x hx
        refine⟨ob,c1,fun t ht=>?_,fun N' hN hM hF=>c3 N' (hsl2 N' hN) hM hF⟩
        have:=c2 t ht
        simp only[List.length_append];omega
      .intro t ht
       simp only[LV.toksL,LV.toks,List.nil_append]at ht
       have:=a6 t ht
       simp only[List.length_append];omega
      .have:=hM (o,(newName o i,.var cs')) (by simp)
       have:=(Names.same_at this).1
       simp only[RepL]at r1 ⊢
       rw[this];exact r1
     .cases he
    .rename_i o n
     obtain⟨q,hq,he⟩:=obs he
     obtain⟨hd',hh,he⟩:=obs he
     simp only[osi]at he
     subst he
     obtain⟨m1,m2,m3⟩:=rowsOfO_rep h hq
     obtain⟨sl,a1,a2,a3,a4,a5,a6,a7,a8⟩:=ih hh hc.2
     refine⟨sl,a1,a2,a3,by simp[a4],?_,?_,a7,fun K' N' hk hb hN hM=>⟨_,_,rfl,?_,a8 K' N' hk hb hN fun x hx=>hM x (by simp[hx])⟩⟩
     .intro x hx
      simp only[List.zip_cons_cons,List.mem_cons]at hx
      rcases hx with rfl | hx
      .refine⟨_,m1,by simp[Obj.cells,LV.toksL],fun N' hN hM hF=>?_⟩
       obtain⟨n1,n2,n3⟩:=Names.same_at hM
       refine⟨m3.imp (fun⟨vs,el,G,cap,e1,e2,e3,e4,e5,e6⟩=>⟨vs,el,G,by rw[n1];exact e1,by rw[hF,n1];exact e2,e3,cap,by rw[n3,n1];exact e4,e5,e6⟩)
        (fun⟨⟨e1,e2⟩,e3⟩=>⟨⟨e1,by rw[n3];exact e2⟩,by rw[hF];exact e3⟩),by rw[n2];exact m2,trivial⟩
      .exact a5 x hx
     .intro t ht
      simp only[LV.toksL,LV.toks,List.nil_append]at ht
      exact a6 t ht
     .have:=(Names.same_at (hM (o,(newName o i,.rows q.1 q.2.1 q.2.2 none)) (by simp))).2.2
      exact⟨by rw[this];exact r1.1,r1.2⟩
    .split at he
     .rename_i ls hls
      have:=givs_some hls
      subst this
      obtain⟨p,hp,he⟩:=obs he
      obtain⟨hd',hh,he⟩:=obs he
      simp only[osi]at he
      subst he
      obtain⟨vs,e1,_,r3⟩:=r1
      obtain⟨b1,b2,b3,b4,b5⟩:=givL_rep h hp r3
      obtain⟨sl,a1,a2,a3,a4,a5,a6,a7,a8⟩:=ih hh hc.2
      have hz:(p.2.2++hd'.ns).zip (p.2.1++hd'.os)=p.2.2.zip p.2.1++hd'.ns.zip hd'.os:=List.zip_append b1
      refine⟨sl,a1,a2,a3,by simp[a4,b1],?_,?_,a7,fun K' N' hk hb hN hM=>⟨_,_,rfl,⟨vs,e1,b3,b5 K' N' hk fun x hx=>hM x (by rw[hz];exact List.mem_append_left _ hx)⟩,a8 K' N' hk hb hN fun x hx=>hM x (by rw[hz];exact List.mem_append_right _ hx)⟩⟩
      .intro x hx
       rw[show (Hand.mk (.agg p.1::hd'.as) (p.2.1++hd'.os) hd'.gs (p.2.2++hd'.ns) hd'.bs).ns.zip (Hand.mk (.agg p.1::hd'.as) (p.2.1++hd'.os) hd'.gs (p.2.2++hd'.ns) hd'.bs).os=_ from hz]at hx
       rcases lma hx with hx | hx
       .obtain⟨ob,c1,c2,c3⟩:=b4 x hx
        exact⟨ob,c1,by rw[c2];simp,fun N' _ hM hF=>c3 N' hM hF⟩
       .exact a5 x hx
      .intro t ht
       simp only[LV.toksL,LV.toks,b2,List.nil_append]at ht
       exact a6 t ht
     obtain⟨⟨l',k1⟩,hl',he⟩:=obs he
     split at he<;>(try simp only[reduceCtorEq]at he)
     rename_i hnm
     obtain⟨hd',hh,he⟩:=obs he
     simp only[osi]at he
     subst he
     obtain⟨s1,b1,b2,b3,b4,b5,b6,b7⟩:=exp_rep hl' r1
     obtain⟨sl,a1,a2,a3,a4,a5,a6,a7,a8⟩:=ih hh hc.2
     have hsl1:∀N':Names,(∀i y,(s1++sl)[i]?=some y->N'.G (k+i)=y.val)->∀i y,s1[i]?=some y->N'.G (k+i)=y.val:=fun N' hN i z hz=>
      hN i z (by rw[List.getElem?_append_left (lgs hz).1];exact hz)
     have hsl2:∀N':Names,(∀i y,(s1++sl)[i]?=some y->N'.G (k+i)=y.val)->∀i y,sl[i]?=some y->N'.G (k1+i)=y.val:=fun N' hN i z hz=>by
      have:=hN (s1.length+i) z (by rw[List.getElem?_append_right (by omega)];simpa using hz)
      rw[b1,Nat.add_assoc];exact this
     refine⟨s1++sl,by show slotToks (s1++sl)=l.toks++hd'.gs;rw[<-b2,<-a1];simp[slotToks],fun z hz=>(lma hz).elim (b3 z) (a2 z),fun g hg=>?_,a4,?_,?_,a7,fun K' N' hk hb hN hM=>⟨_,_,rfl,(b4 N' (hsl1 N' hN) fun o ho=>by rw[hnm]at ho;cases ho).mono hk,a8 K' N' hk hb (hsl2 N' hN) hM⟩⟩
     .rcases lma hg with hg | hg
      .exact r2 g hg
      .exact a3 g hg
     .intro x hx
      obtain⟨ob,c1,c2,c3⟩:=a5 x hx
      refine⟨ob,c1,fun t ht=>?_,fun N' hN hM hF=>c3 N' (hsl2 N' hN) hM hF⟩
      have:=c2 t ht
      simp only[List.length_append];omega
     .intro t ht
      simp only[LV.toksL,List.mem_append]at ht
      simp only[List.length_append]
      rcases ht with ht | ht
      .have:=b5 t ht
       omega
      .have:=a6 t ht
       omega
end
def skTy (P:Program) (t:TypeId):Nat->Bool
 | 0=>match P.underlying t with | some (.int _)=>true | _=>false
 | 1=>match P.underlying t with | some .string=>true | _=>false
 | 2=>match P.underlying t with | some .bool=>true | _=>false
 | _=>false
def chkScFields (P:Program):Nat->List Nat->List Field->Bool
 | _,[],[]=>true
 | k, n :: ns, f :: fs => f.name != "_" && f.offset == k && skTy P f.type n && chkScFields P (k + 1) ns fs
 | _,_,_=>false
def chkScStruct (P:Program) (t:TypeId) (ks:List Nat):Bool:=match P.underlying t with
 | some (.struct fs) => !P.stoodInHeld t&&chkScFields P 0 ks fs.toList
 | _=>false
section
variable {call:CallF}{P:Program}{nt:Nat}{F:Fr}{Wr:Nat->Prop}{K:Know}{N:Names}{a:Act}{w:World}{s:LSt}{o:Oper}
theorem nilOf_rep {l:LV}{v:Value}{b:Bool}(h:nilOf l=some b) (hr:RepL K N l v):∃x n c,v = .slice x n c/\x.isNone=b:=by
 unfold nilOf at h
 split at h<;>simp only[osi,reduceCtorEq]at h<;>subst h
 .simp only[RepL]at hr;subst hr;exact⟨_,_,_,rfl,rfl⟩
 .obtain⟨⟨x,n,c,e1,_⟩,h2⟩:=hr
  subst e1
  exact⟨_,_,_,rfl,h2⟩
 .obtain⟨x,n,c,e1,_,_,h3⟩:=hr
  rcases h3 with h3 | ⟨b,o,rfl,_⟩
  .cases h3
  .exact⟨_,_,_,e1,rfl⟩
 .obtain⟨_,_,x,n,c,e1,_,_,h3⟩:=hr
  rcases h3 with h3 | ⟨b,o,rfl,_⟩
  .cases h3
  .exact⟨_,_,_,e1,rfl⟩
theorem ok_isnil (h:Rel nt F Wr K N a w s){ne:Bool}{x:Opd}{X:Operand}{t t':TypeId}{e:Eff}(he:evOp call s (.isnil ne x)=some e)
  (ho:o.op = .binOp (if ne then .neq else .eql) t X (.const (.slice none 0 0)) t') (hc:(chkOpd x X&&sliceTy P t)=true):OpOk P F Wr K a w s o e:=by
 simp only[bat]at hc
 simp only[evOp]at he
 obtain⟨l,hl,he⟩:=obs he
 obtain⟨b,hb,he⟩:=obs he
 simp only[pureE,osi]at he
 subst he
 obtain⟨z,n,c,ex,hz⟩:=nilOf_rep hb (h.opd hl hc.1).1
 obtain⟨el,hu⟩:=sliceTy_eq hc.2
 have hg:∀op,(eqGuard op t X (.const (.slice none 0 0)) (.slice z n c) (.slice none 0 0)).run P w = .ok () w:=by intro op;unfold eqGuard;split<;>rfl
 have hq:(Op.equal t (.slice z n c) (.slice none 0 0)).run P w = .ok b w:=by
  unfold Op.equal Op.maxDepth Op.equalIn
  cases z<;>simp[run_underlying hu]at hz ⊢ <;> exact hz
 have ey:a.eval (.const (.slice none 0 0)) = .slice none 0 0:=rfl
 refine OpOk.pure h (v := .bool (b != ne)) ?_ (RepL.sc rfl) (by simp[LV.toks,wantB])
 cases ne<;>simp[execOp,ho,ex,ey,hg,binOp,hq]
theorem skTy_plain {t:TypeId}{k:Nat}(ht:skTy P t k=true):(isAgg t).run P w = .ok false w/\∀d,P.eqGuardType d t=decide (d=0):=by
 unfold skTy at ht
 split at ht<;>try cases ht
 all_goals
  split at ht<;>try cases ht
  rename_i hu
  refine⟨by unfold isAgg;simp[run_underlying hu],fun d=>?_⟩
  cases d<;>simp[Program.eqGuardType,hu]
theorem scEqv_run {u v:Value}{b:Bool}{t:TypeId}{d k:Nat}(h:scEqv k u v=some b) (ht:skTy P t k=true):(Op.equalIn (d+1) t u v).run P w = .ok b w:=by
 unfold Op.equalIn
 unfold scEqv at h
 unfold skTy at ht
 split at h
 .simp only at ht
  split at h
  .rename_i hk
   subst hk
   simp only[osi]at h
   subst h
   split at ht<;>try cases ht
   rename_i hu
   simp[run_underlying hu]
  .cases h
 .simp only[osi]at h
  subst h
  simp only at ht
  split at ht<;>try cases ht
  rename_i hu
  simp[run_underlying hu]
 .simp only[osi]at h
  subst h
  simp only at ht
  split at ht<;>try cases ht
  rename_i hu
  simp[run_underlying hu]
 .cases h
theorem part_run {t:TypeId}{k off:Nat}{xs:Array Value}{v:Value}(ht:skTy P t k=true) (hv:xs[off]?=some v):(part t xs off).run P w = .ok v w:=by
 unfold part
 simp[(skTy_plain (w:=w) ht).1,hv]
theorem eqsL_run {d:Nat}:∀ {ks:List Nat}{fs:List Field}{as bs:List LV}{us vs:List Value}{b:Bool}{xs ys:Array Value}{n:Nat},eqsL ks as bs=some b->chkScFields P n ks fs=true->RepLs K N as us->RepLs K N bs vs ->
  (∀i u,us[i]?=some u->xs[n+i]?=some u)->(∀i u,vs[i]?=some u->ys[n+i]?=some u) ->
  (forIn fs ((none,()):Option Bool×Unit) fun (f:Field) (_:Option Bool×Unit)=>do
   if f.name = "_" then pure (ForInStep.yield (none, ()))
   else
    let u <-part f.type xs f.offset
    let v <-part f.type ys f.offset
    let t <-Op.equalIn (d+1) f.type u v
    if t=false then pure (ForInStep.done (some false,())) else pure (ForInStep.yield (none,())):Sem (Option Bool×Unit)).run P w = .ok (if b then none else some false,()) w:=by
 intro ks
 induction ks with
 | nil=>
  intro fs as bs us vs b xs ys n h1 h2 h3 h4 h5 h6
  cases fs with
  | cons _ _=>cases h2
  | nil=>
   cases as<;>cases bs<;>simp only[eqsL,osi,reduceCtorEq]at h1
   subst h1
   simp
 | cons k ks ih=>
  intro fs as bs us vs b xs ys n h1 h2 h3 h4 h5 h6
  cases fs with
  | nil=>cases h2
  | cons f fs=>
   cases as with
   | nil=>simp[eqsL]at h1
   | cons a as=>
    cases bs with
    | nil=>simp[eqsL]at h1
    | cons b0 bs=>
     simp only[eqsL]at h1
     obtain⟨u,i1,h1⟩:=obs h1
     obtain⟨v,i2,h1⟩:=obs h1
     obtain⟨t,i3,h1⟩:=obs h1
     obtain⟨r,i4,h1⟩:=obs h1
     simp only[osi]at h1
     subst h1
     obtain⟨u',us',rfl,j1,j2⟩:=h3
     obtain⟨v',vs',rfl,j3,j4⟩:=h4
     have:=sc?_rep i1 j1
     subst this
     have:=sc?_rep i2 j3
     subst this
     simp only[chkScFields,bat]at h2
     obtain⟨⟨⟨c1,c2⟩,c3⟩,c4⟩:=h2
     have c2:=eq_of_beq c2
     have e1:=part_run (w:=w) (xs:=xs) (off:=n) (v:=u') c3 (by simpa using h5 0 u' rfl)
     have e2:=part_run (w:=w) (xs:=ys) (off:=n) (v:=v') c3 (by simpa using h6 0 v' rfl)
     have e3:=scEqv_run (w:=w) (d:=d) i3 c3
     have hn : f.name ≠ "_" := by simpa using c1
     cases t with
     | true=>
      have:=ih (xs:=xs) (ys:=ys) i4 c4 j2 j4 (fun i u hu=>by have:=h5 (i+1) u (by simpa using hu);rw[<-this];congr 1;omega) (fun i u hu=>by have:=h6 (i+1) u (by simpa using hu);rw[<-this];congr 1;omega)
      simp[List.forIn_cons,hn,c2,e1,e2,e3]at this ⊢
      exact this
     | false=>simp[List.forIn_cons,hn,c2,e1,e2,e3]
theorem eqGuard_fields {n m : Nat} : ∀ {ks : List Nat} {fs : List Field}, chkScFields P n ks fs = true → (fs.any fun f => f.name != "_" && P.eqGuardType (m + 1) f.type) = false := by
 intro ks
 induction ks generalizing n with
 | nil=>intro fs h;cases fs<;>simp_all [chkScFields]
 | cons k ks ih=>
  intro fs h
  cases fs with
  | nil=>cases h
  | cons f fs=>
   simp only[chkScFields,bat]at h
   have h0:P.eqGuardType (m+1) f.type=false:=by rw[(skTy_plain (w:=default) h.1.2).2];rfl
   simp only[List.any_cons,h0,Bool.and_false,Bool.false_or]
   exact ih h.2
theorem ok_eqs (h:Rel nt F Wr K N a w s){ne:Bool}{ks:List Nat}{x y:Opd}{X Y:Operand}{t t':TypeId}{e:Eff}(he:evOp call s (.eqs ne ks x y)=some e)
  (ho:o.op = .binOp (if ne then .neq else .eql) t X Y t') (hc:(chkOpd x X&&chkOpd y Y&&chkScStruct P t ks)=true):OpOk P F Wr K a w s o e:=by
 simp only[bat]at hc
 simp only[evOp]at he
 obtain⟨lx,hlx,he⟩:=obs he
 obtain⟨ly,hly,he⟩:=obs he
 obtain⟨b,hb,he⟩:=obs he
 simp only[pureE,osi]at he
 subst he
 unfold eqsOf at hb
 split at hb
 case h_2=>cases hb
 rename_i as bs
 obtain⟨us,ex,_,hus⟩:=(h.opd hlx hc.1.1).1
 obtain⟨vs,ey,_,hvs⟩:=(h.opd hly hc.1.2).1
 have hs:=hc.2
 unfold chkScStruct at hs
 split at hs
 case h_2=>cases hs
 rename_i fs hu
 simp only[bat]at hs
 obtain⟨hs1,hs2⟩:=hs
 have hs1:P.stoodInHeld t=false:=by simpa using hs1
 have hgt:P.eqGuardType P.depth t=false:=by
  unfold Program.depth Program.eqGuardType
  simp only[hu]
  have:=eqGuard_fields (m:=2*(P.types.size+Made.depth)) hs2
  rw[<-Array.any_toList]
  exact this
 have hg:∀op,(eqGuard op t X Y (.agg us.toArray) (.agg vs.toArray)).run P w = .ok () w:=by
  intro op;unfold eqGuard;cases op<;>simp[hgt]
 have hq:(Op.equal t (.agg us.toArray) (.agg vs.toArray)).run P w = .ok b w:=by
  have:=eqsL_run (P:=P) (w:=w) (d:=9998) (xs:=us.toArray) (ys:=vs.toArray) (n:=0) hb hs2 hus hvs (fun i u hi=>by simpa using hi) (fun i u hi=>by simpa using hi)
  unfold Op.equal Op.maxDepth Op.equalIn
  simp[run_underlying hu,hs1]at this ⊢
  rw[this]
  cases b<;>simp
 refine OpOk.pure h (v := .bool (b != ne)) ?_ (RepL.sc rfl) (by simp[LV.toks,wantB])
 cases ne<;>simp[execOp,ho,ex,ey,hg,binOp,hq]
end
open Go.RowKit
theorem exM {β:Type}(f:Nat->Nat):∀ (l:List (Nat×(Nat×β))),(l.map (fun x=>x.2.1)).Nodup->∃M':Nat->Nat,∀x∈l,M' x.2.1=f x.1
 | [],_=>⟨f,by simp⟩
 | y::l,h=>by
  simp only[List.map_cons,List.nodup_cons]at h
  obtain⟨M',hM⟩:=exM f l h.2
  refine⟨fun z=>if z=y.2.1 then f y.1 else M' z,fun x hx=>?_⟩
  rcases lm1 hx with rfl | hx
  .simp
  .have:x.2.1≠y.2.1:=fun e=>h.1 (by rw[<-e];exact List.mem_map.2 ⟨x,hx,rfl⟩)
   simp only[this,if_false];exact hM x hx
theorem zip_fst {α β:Type}:∀ {l:List α}{m:List β}{o:α}{x y:β},l.Nodup->(o,x)∈l.zip m->(o,y)∈l.zip m->x=y
 | [],_,_,_,_,_,h,_=>by simp at h
 | _::_,[],_,_,_,_,h,_=>by simp at h
 | a::l,b::m,o,x,y,hn,h,h'=>by
  simp only[List.zip_cons_cons,List.mem_cons,Prod.mk.injEq]at h h'
  have hn':=List.nodup_cons.1 hn
  rcases h with⟨rfl,rfl⟩ | h
  .rcases h' with⟨_,rfl⟩ | h'
   .rfl
   .exact absurd (List.of_mem_zip h').1 hn'.1
  .rcases h' with⟨rfl,rfl⟩ | h'
   .exact absurd (List.of_mem_zip h).1 hn'.1
   .exact zip_fst hn'.2 h h'
theorem mem_zip_right {α β:Type}:∀ {l:List α}{m:List β}{x:β},l.length=m.length->x∈m->∃o,(o,x)∈l.zip m
 | [],[],_,_,h=>by simp at h
 | [],_::_,_,h,_=>by simp at h
 | _::_,[],_,h,_=>by simp at h
 | a::l,b::m,x,hl,h=>by
  rcases lm1 h with rfl | h
  .exact⟨a,by simp⟩
  .obtain⟨o,ho⟩:=mem_zip_right (by simpa using hl) h
   exact⟨o,by simp[ho]⟩
theorem zip_map_snd {α β:Type}:∀ {l:List α}{m:List β},l.length=m.length->(l.zip m).map (·.2)=m
 | [],[],_=>rfl
 | [],_::_,h=>by simp at h
 | _::_,[],h=>by simp at h
 | a::l,b::m,h=>by simp[zip_map_snd (l:=l) (m:=m) (by simpa using h)]
theorem RepLs.zip {K:Know}{N:Names}:∀ {ls:List LV}{vs:List Value},RepLs K N ls vs->∀p∈vs.zip ls,RepL K N p.2 p.1
 | [],_,e=>by cases e;simp
 | l::ls,_,⟨v,r,e,x,y⟩=>by
  subst e
  intro p hp
  rcases lm1 hp with rfl | hp
  .exact x
  .exact RepLs.zip y p hp
theorem toksL_of_mem {l:LV}{g:Nat}:∀ {ls:List LV},l∈ls->g∈l.toks->g∈LV.toksL ls
 | [],h,_=>by simp at h
 | x::ls,h,hg=>by
  simp only[LV.toksL,List.mem_append]
  rcases lm1 h with rfl | h
  .exact .inl hg
  .exact .inr (toksL_of_mem h hg)
def WrC (N:Names) (n:Nat) (ns gs:List Nat):Nat->Prop:=fun b=>n<=b\/(∃o∈ns,b∈N.F o)\/∃t∈gs,spare (N.G t).1=some b
section
variable {call:CallF}{P:Program}{nt:Nat}{F:Fr}{Wr:Nat->Prop}{K:Know}{N:Names}{a:Act}{w:World}{s:LSt}{o:Oper}
theorem spare_wr (h:Rel nt F Wr K N a w s){t:Nat}(ht:Occ (pairs a s.env) s.objs t){b:Nat}(hs:spare (N.G t).1=some b):Wr b:=by
 obtain⟨_,_,_,_,_,_,f3,_⟩:=(h.inv.toks t ht).at hs
 exact f3
theorem wrC_sub (h:Rel nt F Wr K N a w s){hd:Hand}(hns:∀x∈hd.ns,∃ob,(x,ob)∈s.objs) (hgs:∀g∈hd.gs,Occ (pairs a s.env) s.objs g):∀b,WrC N w.heap.size hd.ns hd.gs b->Wr b:=by
 rintro b (hb | ⟨x,hx,hb⟩ | ⟨t,ht,hs⟩)
 .exact h.new b hb
 .obtain⟨cs,hcs⟩:=hns x hx
  exact ((h.inv.objs _ hcs).2.2 b hb).1
 .exact spare_wr h (hgs t ht) hs
theorem full_le (h:Rel nt F Wr K N a w s) (Fs:List Nat):K.le (K.full w.heap Fs):=fun b o v hv=>by
 unfold Know.full
 split
 .exact h.inv.sat b o v hv
 .exact hv
theorem call_in (h:Rel nt F Wr K N a w s){args:List (Opd×Bool)}{As:List Operand}{hd:Hand}(he:handOf s 0 0 args=some hd) (hc:chkOpds (args.map (·.1)) As=true)
  (n1:hd.gs.Nodup) (n2:hd.ns.Nodup) (n3:(hd.os.map (·.1)).Nodup) (nb:hd.bs.all (fun o => !hd.ns.contains o)=true){q1 q2:List LV}{u1 us:List Value}(hq1:∀ (K':Know) (N':Names),K.le K'->RepLs K' N' q1 u1) (hq2:∀ (K':Know) (N':Names),K.le K'->RepLs K' N' q2 us) (ht1:LV.toksL q1=[]) (ht2:LV.toksL q2=[]):
  ∃N',RepLs (K.full w.heap (hd.bs.flatMap N.F)) N' (q1++(hd.as++q2)) (u1++(As.map a.eval++us))/\(∀x∈hd.ns.zip hd.os,N'.at x.2.1=N.at x.1) /\
   Inv (WrC N w.heap.size hd.ns hd.gs) (K.full w.heap (hd.bs.flatMap N.F)) N' w.heap ((u1++(As.map a.eval++us)).zip (q1++(hd.as++q2))) hd.os /\
   (∀x∈hd.ns,∃ob,(x,ob)∈s.objs)/\(∀g∈hd.gs,Occ (pairs a s.env) s.objs g)/\hd.ns.length=hd.os.length/\∀o∈hd.bs,∃z es sh,(o,Obj.rows z es sh none)∈s.objs:=by
 obtain⟨sl,a1,a2,a3,a4,a5,a6,a7,a8⟩:=hand_rep h he hc
 obtain⟨φ,hφ⟩:=exM id (hd.ns.zip hd.os) (by
  have:(hd.ns.zip hd.os).map (fun x=>x.2.1)=(hd.os.map (·.1)):=by
   have:=congrArg (List.map (fun x:Nat×Obj=>x.1)) (zip_map_snd a4)
   rw[List.map_map]at this
   exact this
  rw[this];exact n3)
 let N':Names:={ M:=fun o=>N.M (φ o),S:=fun o=>N.S (φ o),A:=fun o=>N.A (φ o),F:=fun o=>N.F (φ o),G:=fun t=>match sl[t]? with | some x=>x.val | none=>N.G t }
 have hM:∀x∈hd.ns.zip hd.os,N'.at x.2.1=N.at x.1:=fun x hx=>by
  have:=hφ x hx
  simp only[id]at this
  simp only[N',Names.at,this]
 have hF:∀x∈hd.ns.zip hd.os,N'.F x.2.1=N.F x.1:=fun x hx=>by
  have:=hφ x hx
  simp only[id]at this
  simp only[N',this]
 have hG:∀ (i:Nat) (x:Slot),sl[i]?=some x->N'.G i=x.val:=fun i x hx=>by simp[N',hx]
 have hG0:∀ (i:Nat) (x:Slot),sl[i]?=some x->N'.G (0+i)=x.val:=fun i x hx=>by rw[Nat.zero_add];exact hG i x hx
 have hle:=full_le h (hd.bs.flatMap N.F)
 have hr:=(hq1 _ N' hle).join ((a8 _ N' hle (fun o ho b hb=>Know.full_spec b (List.mem_flatMap.2 ⟨o,ho,hb⟩)) hG0 hM).join (hq2 _ N' hle))
 have hns:∀x∈hd.ns,∃ob,(x,ob)∈s.objs:=by
  intro x hx
  have:∃y,(x,y)∈hd.ns.zip hd.os:=by
   obtain⟨i,hi,rfl⟩:=List.mem_iff_getElem.1 hx
   exact⟨hd.os[i]'(by omega),by
    rw[List.mem_iff_getElem]
    exact⟨i,by simp;omega,by simp⟩⟩
  obtain⟨y,hy⟩:=this
  obtain⟨ob,c1,_⟩:=a5 _ hy
  exact⟨ob,c1⟩
 refine⟨N',hr,hM,?_,hns,a3,a4,a7⟩
 have hbs:∀b∈hd.bs.flatMap N.F,∃u z,u∈hd.bs/\(u,z)∈s.objs/\b∈N.F u:=fun b hb=>by
  obtain⟨u,hu,hbu⟩:=List.mem_flatMap.1 hb
  obtain⟨z,es,sh,hz⟩:=a7 u hu
  exact⟨u,_,hu,hz,hbu⟩
 refine h.inv.part hG (fun b o v hv=>?_) (fun b hb hbl o=>?_) a2 (fun g hg=>a3 g (a1▸hg)) (a1▸n1) (hr.zip) ?_ ?_ ?_ ?_
 .unfold Know.full at hv
  split at hv
  .exact hv
  .exact h.inv.sat b o v hv
 .have:¬(hd.bs.flatMap N.F).contains b=true:=fun hcb=>by
   obtain⟨u,z,hu,hz,hbu⟩:=hbs b (by simpa using hcb)
   rcases hb with hb | ⟨o',ho',hbo⟩ | ⟨t,ht,hs⟩
   .omega
   .obtain⟨ob,hob⟩:=hns o' ho'
    have:=congrArg Prod.fst (h.inv.inj _ hz _ hob b hbu hbo)
    simp only at this
    subst this
    have:=List.all_eq_true.1 nb u hu
    simp[ho']at this
   .exact h.inv.tobj t _ (a3 t ht) hz b hs hbu
  simp only[Know.full,this,if_false];rfl
 .rintro t (⟨p,hp,ht⟩ | ⟨x,hx,ht⟩)
  .have hm:=(List.of_mem_zip hp).2
   rcases lma hm with hm | hm
   .have:=toksL_of_mem hm ht
    rw[ht1]at this;cases this
   .rcases lma hm with hm | hm
    .have:=a6 t (toksL_of_mem hm ht);omega
    .have:=toksL_of_mem hm ht
     rw[ht2]at this;cases this
  .obtain⟨o',hz⟩:=mem_zip_right a4 hx
   obtain⟨ob,_,c4,_⟩:=a5 _ hz
   have:=c4 t ht;omega
 .intro x hx
  obtain⟨o',hz⟩:=mem_zip_right a4 hx
  obtain⟨ob,c1,c4,c5⟩:=a5 _ hz
  exact⟨(c5 N' hG0 (hM _ hz) (hF _ hz)).mono hle,fun b hb => .inr (.inl ⟨o',(List.of_mem_zip hz).1,by rw[hF _ hz]at hb;exact hb⟩),_,c1,hF _ hz⟩
 .intro x hx y hy b h1 h2
  obtain⟨o1,hz1⟩:=mem_zip_right a4 hx
  obtain⟨o2,hz2⟩:=mem_zip_right a4 hy
  obtain⟨ob1,c1,_⟩:=a5 _ hz1
  obtain⟨ob2,c2,_⟩:=a5 _ hz2
  rw[hF _ hz1]at h1
  rw[hF _ hz2]at h2
  have:=h.inv.inj _ c1 _ c2 b h1 h2
  simp only[Prod.mk.injEq]at this
  obtain⟨rfl,_⟩:=this
  exact zip_fst n2 hz1 hz2
 .intro g hg b hb
  exact .inr (.inr ⟨g,a1▸hg,hb⟩)
theorem updObjs_mem:∀ {u:List (Nat×Option Obj)}{os:List (Nat×Obj)}{x:Nat×Obj},x∈updObjs os u->(x∈os/\∀y∈u,y.1≠x.1)\/(x.1,some x.2)∈u
 | [],_,_,h => .inl ⟨h,by simp⟩
 | (o,some z)::u,os,x,h=>by
  simp only[updObjs]at h
  rcases updObjs_mem h with⟨h1,h2⟩ | h1
  .rcases aset_mem h1 with rfl | ⟨h3,h4⟩
   .exact .inr (by simp)
   .exact .inl ⟨h3,fun y hy=>by
     rcases lm1 hy with rfl | hy
     .exact fun e=>h4 e.symm
     .exact h2 y hy⟩
  .exact .inr (by simp[h1])
 | (o,none)::u,os,x,h=>by
  simp only[updObjs]at h
  rcases updObjs_mem h with⟨h1,h2⟩ | h1
  .obtain⟨h3,h4⟩:=adel_mem h1
   exact .inl ⟨h3,fun y hy=>by
     rcases lm1 hy with rfl | hy
     .exact fun e=>h4 e.symm
     .exact h2 y hy⟩
  .exact .inr (by simp[h1])
mutual
theorem RepL.kfree {K K':Know}{N:Names}:∀ {l:LV}{v:Value},l.kfree=true->RepL K' N l v->RepL K N l v
 | .pv (.sc _),_,_,r=>r
 | .pv (.lst _ es),_,hk,⟨a,len,cap,e,e',hc,_⟩=>⟨a,len,cap,e,e',hc,.inl (by simpa[LV.kfree,List.isEmpty_iff]using hk)⟩
 | .pv (.cp _),_,hk,_=>by simp[LV.kfree]at hk
 | .pv (.clo _ _),_,hk,_=>by simp[LV.kfree]at hk
 | .pv (.mth _ _),_,hk,_=>by simp[LV.kfree]at hk
 | .nils _,_,_,r=>r
 | .nk _ _ es,_,hk,⟨⟨a,len,cap,e,e',hc,_⟩,q⟩=>⟨⟨a,len,cap,e,e',hc,.inl (by simpa[LV.kfree,List.isEmpty_iff]using hk)⟩,q⟩
 | .own _ _ es,_,hk,⟨q1,q2,a,len,cap,e,e',hc,_⟩=>⟨q1,q2,a,len,cap,e,e',hc,.inl (by simpa[LV.kfree,List.isEmpty_iff]using hk)⟩
 | .ref _ _,_,_,r=>r
 | .eref _ _ _,_,_,r=>r
 | .arr _ _,_,_,r=>r
 | .agg _,_,hk,⟨vs,e,hf,r⟩=>⟨vs,e,hf,RepLs.kfree (by simpa[LV.kfree]using hk) r⟩
 | .tup _,_,hk,⟨vs,e,r⟩=>⟨vs,e,RepLs.kfree (by simpa[LV.kfree]using hk) r⟩
 | .clo _ _,_,hk,⟨vs,e,r⟩=>⟨vs,e,RepLs.kfree (by simpa[LV.kfree]using hk) r⟩
 | .box _ _ _,_,_,r=>r
 | .dead,_,_,r=>r
theorem RepLs.kfree {K K':Know}{N:Names}:∀ {l:List LV}{v:List Value},LV.kfreeL l=true->RepLs K' N l v->RepLs K N l v
 | [],_,_,e=>e
 | l::ls,_,hk,⟨v,r,e,a,b⟩=>by
  simp only[LV.kfreeL,bat]at hk
  exact⟨v,r,e,RepL.kfree hk.1 a,RepLs.kfree hk.2 b⟩
end
theorem LV.flat_kf (l:LV) (h:l.flat=true):l.kf.flat=true:=by
 cases l with
 | pv p=>cases p<;>rfl
 | _=>first | rfl | cases h
theorem LV.flat_kfL (ls:List LV) (h:ls.all LV.flat=true):(LV.kfL ls).all LV.flat=true:=by
 induction ls with
 | nil=>rfl
 | cons a l ih=>simp only[LV.kfL,List.all_cons,bat]at *;exact⟨LV.flat_kf a h.1,ih h.2⟩
mutual
theorem RepL.kf {K K':Know}{N:Names}:∀ {l:LV}{v:Value},RepL K' N l v->RepL K N l.kf v/\∀t∈l.kf.toks,t∈l.toks
 | .pv (.sc _),_,r=>⟨r,by simp[LV.kf,LV.toks]⟩
 | .pv (.lst _ _),_,r=>⟨repP_one r,by simp[LV.kf,LV.toks]⟩
 | .pv (.cp _),_,r=>⟨repP_one r,by simp[LV.kf,LV.toks]⟩
 | .pv (.clo _ _),_,r=>⟨repP_one r,by simp[LV.kf,LV.toks]⟩
 | .pv (.mth _ _),_,r=>⟨repP_one r,by simp[LV.kf,LV.toks]⟩
 | .nils _,_,r=>⟨r,by simp[LV.kf,LV.toks]⟩
 | .nk _ _ _,_,r=>⟨repP_one r.1,by simp[LV.kf,LV.toks]⟩
 | .own _ _ _,_,r=>⟨repP_one r.2.2,by simp[LV.kf,LV.toks]⟩
 | .ref _ _,_,r=>⟨r,by simp[LV.kf,LV.toks]⟩
 | .eref _ _ _,_,r=>⟨r,by simp[LV.kf,LV.toks]⟩
 | .arr _ _,_,r=>⟨r,by simp[LV.kf,LV.toks]⟩
 | .agg _,_,⟨vs,e,hf,r⟩=>⟨⟨vs,e,LV.flat_kfL _ hf,(RepLs.kf r).1⟩,by simpa[LV.kf,LV.toks]using (RepLs.kf (K:=K) r).2⟩
 | .tup _,_,⟨vs,e,r⟩=>⟨⟨vs,e,(RepLs.kf r).1⟩,by simpa[LV.kf,LV.toks]using (RepLs.kf (K:=K) r).2⟩
 | .clo _ _,_,⟨vs,e,r⟩=>⟨by rw[e];rfl,by simp[LV.kf,LV.toks]⟩
 | .box _ _ _,_,r=>r.elim
 | .dead,_,r=>⟨r,by simp[LV.kf,LV.toks]⟩
theorem RepLs.kf {K K':Know}{N:Names}:∀ {l:List LV}{v:List Value},RepLs K' N l v->RepLs K N (LV.kfL l) v/\∀t∈LV.toksL (LV.kfL l),t∈LV.toksL l
 | [],_,e=>⟨e,by simp[LV.kfL,LV.toksL]⟩
 | l::ls,_,⟨v,r,e,a,b⟩=>by
  obtain⟨a1,a2⟩:=RepL.kf (K:=K) a
  obtain⟨b1,b2⟩:=RepLs.kf (K:=K) b
  refine⟨⟨v,r,e,a1,b1⟩,fun t ht=>?_⟩
  simp only[LV.kfL,LV.toksL,List.mem_append]at ht ⊢
  exact ht.imp (a2 t) (b2 t)
end
mutual
theorem RepU.kfree {K K':Know}{h:Heap}:∀ {p:PV}{s:Shp}{v:Value}{F:List Nat},p.kfree s=true->RepU K' h p s v F->RepU K h p s v F
 | .sc _,.v,_,_,_,r=>r
 | .sc _,.u _,_,_,_,r=>r
 | .lst _ es,.v,_,_,hk,⟨e0,a,len,cap,e,e',hc,_⟩=>⟨e0,a,len,cap,e,e',hc,.inl (by simpa[PV.kfree,List.isEmpty_iff]using hk)⟩
 | .lst _ _,.u _,_,_,hk,r=>r.imp id fun⟨b,cap,cs,el,G,e1,e2,e3,e4,e5,e6⟩=>⟨b,cap,cs,el,G,e1,e2,e3,e4,e5,RepUR.kfree (by simpa[PV.kfree]using hk) e6⟩
 | .cp _,.v,_,_,hk,_=>by simp[PV.kfree]at hk
 | .clo _ _,.v,_,_,hk,_=>by simp[PV.kfree]at hk
 | .mth _ _,.v,_,_,hk,_=>by simp[PV.kfree]at hk
theorem RepUs.kfree {K K':Know}{h:Heap}:∀ {e:List PV}{s:List Shp}{v:List Value}{F:List Nat},PV.kfrees e s=true->RepUs K' h e s v F->RepUs K h e s v F
 | [],_,_,_,_,r=>r
 | c::cs,[],_,_,hk,⟨v,r,F1,F2,e1,e2,x,y⟩=>by
  simp only[PV.kfrees,bat]at hk
  exact⟨v,r,F1,F2,e1,e2,RepU.kfree hk.1 x,RepUs.kfree hk.2 y⟩
 | c::cs,s::sh,_,_,hk,⟨v,r,F1,F2,e1,e2,x,y⟩=>by
  simp only[PV.kfrees,bat]at hk
  exact⟨v,r,F1,F2,e1,e2,RepU.kfree hk.1 x,RepUs.kfree hk.2 y⟩
theorem RepUR.kfree {K K':Know}{h:Heap}{sz:Nat}{s:List Shp}:∀ {es:List (List PV)}{v:List Value}{F:List Nat},PV.kfreeR s es=true->RepUR K' h sz s es v F->RepUR K h sz s es v F
 | [],_,_,_,r=>r
 | e::es,_,_,hk,⟨e1,F1,F2,e2,x,y⟩=>by
  simp only[PV.kfreeR,bat]at hk
  exact⟨e1,F1,F2,e2,RepUs.kfree hk.1 x,RepUR.kfree hk.2 y⟩
end
theorem RepCs.kfree {K K':Know}{N:Names}{h:Heap}:∀ {l:List LV}{v:List Value}{F:List Nat},LV.kfreeL l=true->RepCs K' N h l v F->RepCs K N h l v F
 | [],_,_,_,r=>r
 | l::ls,_,_,hk,⟨v,r,F1,F2,e1,e2,x,y⟩=>by
  simp only[LV.kfreeL,bat]at hk
  refine⟨v,r,F1,F2,e1,e2,?_,RepCs.kfree hk.2 y⟩
  cases l with
  | box _ _ _=>simp[LV.kfree]at hk
  | _=>exact⟨x.1,x.2.kfree hk.1⟩
theorem Inv.kfree {Wr:Nat->Prop}{K K':Know}{N:Names}{h:Heap}{ps ps':List (Value×LV)}{os:List (Nat×Obj)}(hi:Inv Wr K' N h ps os) (hk:K.le K') (hp:∀p∈ps',RepL K N p.2 p.1) (ht:∀g,Occ ps' os g->Occ ps os g)
  (ho:∀x∈os,kfreeO (some x.2)=true/\∀z es sh hole,x.2 = .rows z es sh hole->hole=none):Inv Wr K N h ps' os:=by
 have hnone:∀b k,K' b k=none->K b k=none:=fun b k hn=>by
  cases hkb:K b k with
  | none=>rfl
  | some v=>rw[hk b k v hkb]at hn;cases hn
 refine⟨fun b o v hv=>hi.sat b o v (hk b o v hv),hp,fun x hx=>?_,hi.inj,fun g hg=>?_,fun g g' b h1 h2=>hi.tinj g g' b (ht g h1) (ht g' h2),fun g x hg=>hi.tobj g x (ht g hg)⟩
 .obtain⟨⟨t1,t2⟩,nd,r⟩:=hi.objs x hx
  refine⟨⟨t1.imp (fun⟨vs,el,G,e1,e2,e3⟩=>⟨vs,el,G,e1,e2,?_⟩) id,t2⟩,nd,fun b hb=>⟨(r b hb).1,fun o=>hnone b o ((r b hb).2 o)⟩⟩
  obtain⟨q1,q2⟩:=ho x hx
  cases hob:x.2 with
  | var cs=>rw[hob]at e3 q1;exact⟨e3.1.kfree q1,e3.2⟩
  | rows z es sh hole=>
   have:=q2 z es sh hole hob
   subst this
   rw[hob]at e3 q1
   exact⟨RepUR.kfree q1 e3.1,e3.2⟩
 .exact (hi.toks g (ht g hg)).turn fun b _ hw _=>⟨rfl,hw,fun k hk=>hnone b k hk⟩
theorem newOf_mem:∀ {r:List (Option Obj)}{j:Nat}{x:Nat×Obj},x∈newOf j r->∃i,x.1=rnm (j+i)/\r[i]?=some (some x.2)
 | [],_,_,h=>by simp[newOf]at h
 | some y::r,j,x,h=>by
  simp only[newOf,List.mem_cons]at h
  rcases h with rfl | h
  .exact⟨0,rfl,rfl⟩
  .obtain⟨i,h1,h2⟩:=newOf_mem h
   exact⟨i+1,by rw[h1];congr 1;omega,by simpa using h2⟩
 | none::r,j,x,h=>by
  simp only[newOf]at h
  obtain⟨i,h1,h2⟩:=newOf_mem h
  exact⟨i+1,by rw[h1];congr 1;omega,by simpa using h2⟩
theorem newOf_get:∀ {r:List (Option Obj)}{j i:Nat}{x:Obj},r[i]?=some (some x)->(rnm (j+i),x)∈newOf j r
 | [],_,_,_,h=>by simp at h
 | some y::r,j,0,x,h=>by simp at h;subst h;simp[newOf]
 | none::r,j,0,x,h=>by simp at h
 | some y::r,j,i+1,x,h=>by
  have:=newOf_get (j:=j+1) (i:=i) (by simpa using h)
  simp only[newOf,List.mem_cons]
  right;rw[show j+(i+1)=j+1+i by omega];exact this
 | none::r,j,i+1,x,h=>by
  have:=newOf_get (j:=j+1) (i:=i) (by simpa using h)
  simp only[newOf]
  rw[show j+(i+1)=j+1+i by omega];exact this
theorem backUpd_mem {g:Nat}:∀ {ns:List Nat}{os:List (Nat×Obj)}{us:List Nat}{r:List (Option Obj)},ns.length=os.length->r.length=os.length+us.length ->
  (∀n x',(n,some x')∈backUpd g ns os us r->(∃o z,(n,o)∈ns.zip os/\(o.1,z)∈backOf os r/\x'=impO o.1 n g z)\/∃j,us[j]?=some n/\(rnm j,x')∈backOf os r/\r[os.length+j]?=some (some x')) /\
  (∀n,n∈ns\/n∈us->∃y,(n,y)∈backUpd g ns os us r)/\(∀x∈backUpd g ns os us r,x.1∈ns\/x.1∈us)
 | n::ns,o::os,us,x::r,h1,h2=>by
  obtain⟨i1,i2,i3⟩:=backUpd_mem (g:=g) (ns:=ns) (os:=os) (us:=us) (r:=r) (by simpa using h1) (by simp at h2;omega)
  have hsub:∀z∈backOf os r,z∈backOf (o::os) (x::r):=fun z hz=>by cases x<;>simp[backOf,hz]
  refine⟨fun m x' hm=>?_,fun m hm=>?_,fun y hy=>?_⟩
  .simp only[backUpd,List.mem_cons,Prod.mk.injEq]at hm
   rcases hm with⟨rfl,hm⟩ | hm
   .cases x with
    | none=>cases hm
    | some z=>simp only[Option.map_some,osi]at hm;exact .inl ⟨o,z,by simp,by simp[backOf],hm⟩
   .rcases i1 m x' hm with⟨o',z,q1,q2,q3⟩ | ⟨j,q1,q2,q4⟩
    .exact .inl ⟨o',z,by simp[q1],hsub _ q2,q3⟩
    .exact .inr ⟨j,q1,hsub _ q2,by rw[List.length_cons,show os.length+1+j=os.length+j+1 by omega];simpa using q4⟩
  .simp only[backUpd,List.mem_cons,Prod.mk.injEq]
   rcases hm with hm | hm
   .rcases lm1 hm with rfl | hm
    .exact⟨_,.inl ⟨rfl,rfl⟩⟩
    .obtain⟨y,hy⟩:=i2 m (.inl hm);exact⟨y,.inr hy⟩
   .obtain⟨y,hy⟩:=i2 m (.inr hm);exact⟨y,.inr hy⟩
  .simp only[backUpd,List.mem_cons]at hy
   rcases hy with rfl | hy
   .simp
   .exact (i3 y hy).imp (by simp +contextual) id
 | n::ns,o::os,us,[],h1,h2=>by simp at h2;omega
 | n::ns,[],us,r,h1,_=>by simp at h1
 | [],o::os,us,r,h1,_=>by simp at h1
 | [],[],us,r,_,h2=>by
  have key:∀ (us:List Nat) (r:List (Option Obj)) (j:Nat),r.length=us.length->(∀n x',(n,some x')∈backUpd g [] [] us r->∃i,us[i]?=some n/\(rnm (j+i),x')∈newOf j r/\r[i]?=some (some x'))/\(∀n∈us,∃y,(n,y)∈backUpd g [] [] us r)/\∀x∈backUpd g [] [] us r,x.1∈us:=by
   intro us
   induction us with
   | nil=>intro r j hl;cases r with | nil=>simp[backUpd] | cons _ _=>simp at hl
   | cons u us ih=>
    intro r j hl
    cases r with
    | nil=>simp at hl
    | cons x r=>
     obtain⟨i1,i2,i3⟩:=ih r (j+1) (by simpa using hl)
     refine⟨fun n x' hm=>?_,fun n hn=>?_,fun y hy=>?_⟩
     .simp only[backUpd,List.mem_cons,Prod.mk.injEq]at hm
      rcases hm with⟨rfl,hm⟩ | hm
      .subst hm;exact⟨0,rfl,by simp[newOf],rfl⟩
      .obtain⟨i,q1,q2,q3⟩:=i1 n x' hm
       refine⟨i+1,by simpa using q1,?_,by simpa using q3⟩
       rw[show j+(i+1)=j+1+i by omega]
       cases x<;>simp[newOf,q2]
     .simp only[backUpd,List.mem_cons,Prod.mk.injEq]
      rcases lm1 hn with rfl | hn
      .exact⟨_,.inl ⟨rfl,rfl⟩⟩
      .obtain⟨y,hy⟩:=i2 n hn;exact⟨y,.inr hy⟩
     .simp only[backUpd,List.mem_cons]at hy
      rcases hy with rfl | hy
      .simp
      .simp[i3 y hy]
  obtain⟨i1,i2,i3⟩:=key us r 0 (by simpa using h2)
  have hb:backOf [] r=newOf 0 r:=by cases r<;>rfl
  refine⟨fun n x' hm => .inr ?_,fun n hn=>i2 n (by simpa using hn),fun x hx => .inr (i3 x hx)⟩
  obtain⟨i,q1,q2,q3⟩:=i1 n x' hm
  exact⟨i,q1,by rw[hb];simpa using q2,by simpa using q3⟩
def backGood (n:Nat):Obj->Prop
 | .var cs=>okCells n cs=true
 | .rows _ _ _ hole=>hole=none
theorem isPv_eq {l:LV}(h:l.isPv=true):∃p,l = .pv p:=by cases l<;>first | exact⟨_,rfl⟩ | cases h
theorem freshOk_good {x:Obj}{n:Nat}(h:freshOk x=true):backGood n x:=by
 cases x with
 | rows a b c hole=>
  cases hole with
  | none=>rfl
  | some _=>cases h
 | var cs=>
  show okCells n cs=true
  unfold okCells
  rw[List.all_eq_true]
  intro l hl
  obtain⟨p,rfl⟩:=isPv_eq (List.all_eq_true.1 h l hl)
  simp[LV.names]
theorem backOk_mem:∀ {os:List (Nat×Obj)}{r:List (Option Obj)}{x:Nat×Obj},backOk os r=true->x∈backOf os r->backGood x.1 x.2
 | o::os,some (.var cs)::r,x,h,hx=>by
  simp only[backOk,bat]at h
  simp only[backOf,List.mem_cons]at hx
  rcases hx with rfl | hx
  .exact h.1
  .exact backOk_mem h.2 hx
 | o::os,some (.rows _ _ _ none)::r,x,h,hx=>by
  simp only[backOk]at h
  simp only[backOf,List.mem_cons]at hx
  rcases hx with rfl | hx
  .rfl
  .exact backOk_mem h hx
 | o::os,some (.rows _ _ _ (some _))::r,x,h,hx=>by simp[backOk]at h
 | o::os,none::r,x,h,hx=>by
  simp only[backOk]at h
  simp only[backOf]at hx
  exact backOk_mem h hx
 | o::os,[],x,_,hx=>by simp[backOf]at hx
 | [],r,x,h,hx=>by
  have hb:backOf [] r=newOf 0 r:=by cases r<;>rfl
  rw[hb]at hx
  have key:∀ (r:List (Option Obj)) (j:Nat),backOk [] r=true->x∈newOf j r->backGood x.1 x.2:=by
   intro r
   induction r with
   | nil=>intro j _ hx;simp[newOf]at hx
   | cons y r ih=>
    intro j h hx
    cases y with
    | none=>simp[backOk]at h
    | some y=>
     simp only[backOk,bat]at h
     simp only[newOf,List.mem_cons]at hx
     rcases hx with rfl | hx
     .exact freshOk_good h.1
     .exact ih _ h.2 hx
  exact key r 0 h hx
theorem backOk_new:∀ {os:List (Nat×Obj)}{r:List (Option Obj)}{j:Nat}{x:Obj},backOk os r=true->r[os.length+j]?=some (some x)->freshOk x=true
 | o::os,some (.var cs)::r,j,x,h,hx=>by
  simp only[backOk,bat]at h
  exact backOk_new (os:=os) (j:=j) h.2 (by rw[List.length_cons,show os.length+1+j=os.length+j+1 by omega]at hx;simpa using hx)
 | o::os,some (.rows _ _ _ none)::r,j,x,h,hx=>by
  simp only[backOk]at h
  exact backOk_new (os:=os) (j:=j) h (by rw[List.length_cons,show os.length+1+j=os.length+j+1 by omega]at hx;simpa using hx)
 | o::os,some (.rows _ _ _ (some _))::r,_,_,h,_=>by simp[backOk]at h
 | o::os,none::r,j,x,h,hx=>by
  simp only[backOk]at h
  exact backOk_new (os:=os) (j:=j) h (by rw[List.length_cons,show os.length+1+j=os.length+j+1 by omega]at hx;simpa using hx)
 | o::os,[],_,_,_,hx=>by simp at hx
 | [],[],_,_,_,hx=>by simp at hx
 | [],some y::r,0,x,h,hx=>by
  simp only[backOk,bat]at h
  simp at hx;exact hx▸h.1
 | [],some y::r,j+1,x,h,hx=>by
  simp only[backOk,bat]at h
  exact backOk_new (os:=[]) (j:=j) h.2 (by simpa using hx)
 | [],none::r,_,_,h,_=>by simp[backOk]at h
theorem freshOk_names {x:Obj}(h:freshOk x=true):LV.namesL x.cells=[]:=by
 cases x with
 | rows a b c hole=>
  cases hole with
  | none=>rfl
  | some _=>cases h
 | var cs=>
  show LV.namesL cs=[]
  have h:cs.all LV.isPv=true:=h
  induction cs with
  | nil=>rfl
  | cons c r ih=>
   simp only[List.all_cons,bat]at h
   obtain⟨p,rfl⟩:=isPv_eq h.1
   simp only[LV.namesL,LV.names,List.nil_append];exact ih h.2 h.2
theorem lowB_at:∀ {us:List Nat}{r:List (Option Obj)}{j u:Nat}{cs:List LV},lowB us r=true->us[j]?=some u->r[j]?=some (some (.var cs))->u<1024
 | v::us,y::r,0,u,cs,h,h1,h2=>by
  simp at h1 h2;subst h1;subst h2
  simp only[lowB,bat,decide_eq_true_eq]at h;exact h.1
 | v::us,y::r,j+1,u,cs,h,h1,h2=>by
  refine lowB_at (j:=j) (us:=us) (r:=r) ?_ (by simpa using h1) (by simpa using h2)
  cases y with
  | none=>exact h
  | some y=>
   cases y with
   | rows _ _ _ _=>exact h
   | var _=>simp only[lowB,bat]at h;exact h.2
 | [],_,_,_,_,_,h1,_=>by simp at h1
 | _::_,[],_,_,_,_,_,h2=>by simp at h2
theorem repCs_pv {K:Know}{N N':Names}{h:Heap}:∀ {cs:List LV}{vs:List Value}{F:List Nat},cs.all LV.isPv=true->RepCs K N h cs vs F->RepCs K N' h cs vs F
 | [],_,_,_,e=>e
 | c::cs,_,_,hc,⟨v,r,F1,F2,e1,e2,a,b⟩=>by
  simp only[List.all_cons,bat]at hc
  obtain⟨p,rfl⟩:=isPv_eq hc.1
  exact⟨v,r,F1,F2,e1,e2,a,repCs_pv hc.2 b⟩
theorem backOf_toks:∀ {os:List (Nat×Obj)}{r:List (Option Obj)}{x:Nat×Obj},x∈backOf os r->∀t∈LV.toksL x.2.cells,t∈toksO r
 | o::os,some y::r,x,hx,t,ht=>by
  simp only[backOf,List.mem_cons]at hx
  simp only[toksO,List.mem_append]
  rcases hx with rfl | hx
  .exact .inl ht
  .exact .inr (backOf_toks hx t ht)
 | o::os,none::r,x,hx,t,ht=>by
  simp only[backOf]at hx
  simp only[toksO]
  exact backOf_toks hx t ht
 | o::os,[],x,hx,_,_=>by simp[backOf]at hx
 | [],r,x,hx,t,ht=>by
  have hb:backOf [] r=newOf 0 r:=by cases r<;>rfl
  rw[hb]at hx
  obtain⟨i,_,h2⟩:=newOf_mem hx
  have:∀ (r:List (Option Obj)) (i:Nat),r[i]?=some (some x.2)->t∈toksO r:=by
   intro r
   induction r with
   | nil=>intro i h;simp at h
   | cons y r ih=>
    intro i h
    cases i with
    | zero=>simp at h;subst h;simp[toksO,ht]
    | succ i=>
     have:=ih i (by simpa using h)
     cases y<;>simp[toksO,this]
  exact this r i h2
theorem toksO_occ:∀ {os:List (Nat×Obj)}{r:List (Option Obj)}{t:Nat},os.length<=r.length->t∈toksO r->∃x∈backOf os r,t∈LV.toksL x.2.cells
 | o::os,some y::r,t,hl,ht=>by
  simp only[toksO,List.mem_append]at ht
  rcases ht with ht | ht
  .exact⟨(o.1,y),by simp[backOf],ht⟩
  .obtain⟨x,h1,h2⟩:=toksO_occ (os:=os) (by simpa using hl) ht
   exact⟨x,by simp[backOf,h1],h2⟩
 | o::os,none::r,t,hl,ht=>by
  simp only[toksO]at ht
  obtain⟨x,h1,h2⟩:=toksO_occ (os:=os) (by simpa using hl) ht
  exact⟨x,by simp[backOf,h1],h2⟩
 | o::os,[],t,hl,ht=>by simp at hl
 | [],r,t,_,ht=>by
  have hb:backOf [] r=newOf 0 r:=by cases r<;>rfl
  rw[hb]
  have:∀ (r:List (Option Obj)) (j:Nat),t∈toksO r->∃x∈newOf j r,t∈LV.toksL x.2.cells:=by
   intro r
   induction r with
   | nil=>intro j h;simp[toksO]at h
   | cons y r ih=>
    intro j h
    cases y with
    | none=>simp only[toksO]at h;obtain⟨x,h1,h2⟩:=ih (j+1) h;exact⟨x,by simp[newOf,h1],h2⟩
    | some y=>
     simp only[toksO,List.mem_append]at h
     rcases h with h | h
     .exact⟨(rnm j,y),by simp[newOf],h⟩
     .obtain⟨x,h1,h2⟩:=ih (j+1) h;exact⟨x,by simp[newOf,h1],h2⟩
  exact this r 0 ht
theorem rnms_mem:∀ {j n o:Nat},o∈rnms j n->∃i,i<n/\o=rnm (j+i)
 | _,0,_,h=>by simp[rnms]at h
 | j,n+1,o,h=>by
  simp only[rnms,List.mem_cons]at h
  rcases h with rfl | h
  .exact⟨0,by omega,rfl⟩
  .obtain⟨i,h1,h2⟩:=rnms_mem h
   exact⟨i+1,by omega,by rw[h2];congr 1;omega⟩
theorem kfreeO_mem {os:List (Nat×Obj)}{r:List (Option Obj)}(h:r.all kfreeO=true):∀x∈backOf os r,kfreeO (some x.2)=true:=by
 induction r generalizing os with
 | nil=>intro x hx;cases os<;>simp[backOf,newOf]at hx
 | cons y r ih=>
  simp only[List.all_cons,bat]at h
  intro x hx
  cases os with
  | nil=>
   rw[show backOf [] (y::r)=newOf 0 (y::r) by rfl]at hx
   obtain⟨i,_,h2⟩:=newOf_mem hx
   have:=List.mem_of_getElem? h2
   rcases lm1 this with hm | hm
   .rw[hm];exact h.1
   .exact List.all_eq_true.1 h.2 _ hm
  | cons o os=>
   cases y with
   | none=>simp only[backOf]at hx;exact ih h.2 x hx
   | some y=>
    simp only[backOf,List.mem_cons]at hx
    rcases hx with rfl | hx
    .exact h.1
    .exact ih h.2 x hx
theorem call_back (h:Rel nt F Wr K N a w s){v:Value}{r:Fin}{hd:Hand}{K':Know}{N' Nc:Names}{w':World}{g:Nat}{us:List Nat}{e:Eff}
  (he:callEff s g us hd r=some e) (hns:∀x∈hd.ns,∃ob,(x,ob)∈s.objs) (hgs:∀g∈hd.gs,Occ (pairs a s.env) s.objs g) (hlen:hd.ns.length=hd.os.length) (hbs:∀o∈hd.bs,∃z es sh,(o,Obj.rows z es sh none)∈s.objs)
  (hMc:∀x∈hd.ns.zip hd.os,Nc.at x.2.1=N.at x.1) (hM':∀x∈hd.os,N'.at x.1=Nc.at x.1)
  (hK0:KExt (WrC N w.heap.size hd.ns hd.gs) (K.full w.heap (hd.bs.flatMap N.F)) K') (hk:Keep (WrC N w.heap.size hd.ns hd.gs) w w')
  (hi0:Inv (WrC N w.heap.size hd.ns hd.gs) K' N' w'.heap [(v,r.1)] (backOf hd.os r.2)):
  ∃K2 N2,KExt Wr K K2/\Keep Wr w w'/\Inv Wr K2 N2 w'.heap (e.val.toList.map (fun l=>(v,l))++demPairs e.dem (pairs a s.env)) (updObjs (s.objs.map fun x=>(x.1,x.2.dem e.dem)) e.upd)/\∀o∈F.fix,N2.at o=F.M0 o:=by
 unfold callEff at he
 split at he
 case isFalse=>cases he
 rename_i hnd
 obtain⟨n1,n2,n3,n4,n5,ng,nl,nr,nu,nf,nk,nb,nkf⟩:=hnd
 simp only[osi]at he
 subst he
 simp only[Option.toList_some,List.map_cons,List.map_nil,List.cons_append,List.nil_append]
 have hWr:∀b,WrC N w.heap.size hd.ns hd.gs b->Wr b:=wrC_sub h hns hgs
 have hle:=full_le h (hd.bs.flatMap N.F)
 obtain⟨K2,hK,hKo,hi⟩:∃K2,K.le K2/\(∀b,¬WrC N w.heap.size hd.ns hd.gs b->∀o,K2 b o=K b o)/\Inv (WrC N w.heap.size hd.ns hd.gs) K2 N' w'.heap [(v,kfOf hd r.1)] (backOf hd.os r.2):=by
  by_cases hb:hd.bs=[]
  .have hfull:K.full w.heap (hd.bs.flatMap N.F)=K:=by
    funext b o;simp[Know.full,hb]
   rw[hfull]at hK0
   refine⟨K',hK0.le,hK0.out,?_⟩
   unfold kfOf;rw[if_pos hb];exact hi0
  .refine⟨K,K.le_refl,fun _ _ _=>rfl,?_⟩
   unfold kfOf;rw[if_neg hb]
   have hr:=hi0.vals (v,r.1) (by simp)
   refine hi0.kfree (Know.le_trans hle hK0.le) (fun p hp=>?_) (fun g hg=>?_) fun x hx=>⟨kfreeO_mem (nkf.resolve_left hb) x hx,fun z es sh hole hob=>?_⟩
   .simp only[List.mem_singleton]at hp;subst hp;exact (RepL.kf hr).1
   .rcases hg with⟨p,hp,hg⟩ | hg
    .simp only[List.mem_singleton]at hp;subst hp
     exact .inl ⟨_,by simp,(RepL.kf (K:=K) hr).2 g hg⟩
    .exact .inr hg
   .have:=backOk_mem nk hx
    rw[hob]at this;exact this
 clear hi0 hK0
 generalize hr1:kfOf hd r.1=r1 at hi nr
 generalize hT:((r1.imp g).toks++(toksO r.2).map (fun t=>t*4096+g))=T
 obtain⟨i1,i2,i3,i4⟩:=dem_inv h (hd.gs++T)
 let ps:=demPairs (hd.gs++T) (pairs a s.env)
 let os:=s.objs.map fun x=>(x.1,x.2.dem (hd.gs++T))
 have hoold:∀x∈os,x.1∉hd.ns->∀b∈N.F x.1,¬WrC N w.heap.size hd.ns hd.gs b:=by
  intro x hx hxn b hb hW
  obtain⟨y,hy,rfl⟩:=List.mem_map.1 hx
  rcases hW with hb' | ⟨o',ho',e⟩ | ⟨t,ht,hs⟩
  .have:=(h.inv.objs y hy).1.lt b hb
   omega
  .obtain⟨cs,hcs⟩:=hns o' ho'
   have:=h.inv.inj _ hy _ hcs b hb e
   exact hxn (by rw[this];exact ho')
  .exact h.inv.tobj t y (hgs t ht) hy b hs hb
 have htold:∀t,Occ ps os t->∀b,spare (N.G t).1=some b->¬WrC N w.heap.size hd.ns hd.gs b:=by
  intro t ht b hs hW
  obtain⟨ht1,ht2⟩:=i3 t ht
  rcases hW with hb | ⟨o',ho',e⟩ | ⟨t',ht',hs'⟩
  .have:=(h.inv.toks t ht1).spare_lt hs;omega
  .obtain⟨cs,hcs⟩:=hns o' ho'
   exact h.inv.tobj t _ ht1 hcs b hs e
  .have:=h.inv.tinj t t' b ht1 (hgs t' ht') hs hs'
   exact ht2 (by rw[this];simp[ht'])
 have hblk:∀b,b<w.heap.size->¬WrC N w.heap.size hd.ns hd.gs b->w'.heap[b]?=w.heap[b]?:=hk.block
 obtain⟨ψ,hψ⟩:∃ψ : Nat->Nat,∀x∈hd.ns.zip hd.os,ψ x.1=x.2.1:=by
  have:∀ (l:List (Nat×(Nat×Obj))),(l.map (·.1)).Nodup->∃ψ : Nat->Nat,∀x∈l,ψ x.1=x.2.1:=by
   intro l
   induction l with
   | nil=>intro _;exact⟨id,by simp⟩
   | cons y l ih=>
    intro hn
    simp only[List.map_cons,List.nodup_cons]at hn
    obtain⟨ψ,hψ⟩:=ih hn.2
    refine⟨fun z=>if z=y.1 then y.2.1 else ψ z,fun x hx=>?_⟩
    rcases lm1 hx with rfl | hx
    .simp
    .have:x.1≠y.1:=fun e=>hn.1 (by rw[<-e];exact List.mem_map.2 ⟨x,hx,rfl⟩)
     simp only[this,if_false];exact hψ x hx
  refine this _ ?_
  have:(hd.ns.zip hd.os).map (·.1)=hd.ns:=by
   rw[List.map_fst_zip];omega
  rw[this];exact n2
 have nlow:=((bat _ _).mp nf).2
 have husn:∀u∈us,noName s u=true:=fun u hu=>List.all_eq_true.1 ((bat _ _).mp nf).1 u hu
 have hnu:∀o∈hd.ns,o∉us:=fun o ho hu=>by
  obtain⟨ob,hob⟩:=hns o ho
  exact (noName_spec (husn o hu)).2.2.1 _ hob rfl
 let q:Nat->Nat:=fun o=>if o∈us then rnm (us.idxOf o) else ψ o
 let N2:Names:={ M:=fun o=>if o∈us then N'.M (q o) else N.M o,S:=fun o=>if o∈us then N'.S (q o) else N.S o,A:=fun o=>if o∈us then N'.A (q o) else N.A o,F:=fun o=>if o∈us\/o∈hd.ns then N'.F (q o) else N.F o,G:=fun t=>if t∈T then N'.G (t/4096) else N.G t }
 have hat2:∀o,o∉us->N2.at o=N.at o:=fun o ho=>by simp only[N2,Names.at,if_neg ho]
 have hold:∀t,Occ ps os t->N2.G t=N.G t:=fun t ht=>by
  have:t∉T:=fun hh=>(i3 t ht).2 (by simp[hh])
  simp only[N2,if_neg this]
 have hTmem:∀t,t∈T↔∃t',(t'∈r1.toks\/t'∈toksO r.2)/\t=t'*4096+g:=by
  intro t
  rw[<-hT,LV.toks_imp]
  simp only[List.mem_append,List.mem_map]
  constructor
  .rintro (⟨t',h1,rfl⟩ | ⟨t',h1,rfl⟩)
   .exact⟨t',.inl h1,rfl⟩
   .exact⟨t',.inr h1,rfl⟩
  .rintro ⟨t',h1 | h1,rfl⟩
   .exact .inl ⟨t',h1,rfl⟩
   .exact .inr ⟨t',h1,rfl⟩
 have hoccn:∀t',(t'∈r1.toks\/t'∈toksO r.2)->Occ [(v,r1)] (backOf hd.os r.2) t':=by
  rintro t' (h1 | h1)
  .exact .inl ⟨_,List.mem_singleton.2 rfl,h1⟩
  .exact .inr (toksO_occ (by omega) h1)
 have hnewG:∀t',(t'∈r1.toks\/t'∈toksO r.2)->N2.G (t'*4096+g)=N'.G t':=fun t' ht'=>by
  have:t'*4096+g∈T:=(hTmem _).2 ⟨t',ht',rfl⟩
  simp only[N2,if_pos this,show (t'*4096+g)/4096=t' by omega]
 obtain⟨bm1,bm2,bm3⟩:=backUpd_mem (g:=g) (us:=us) (r:=r.2) hlen nl
 have hidx:∀ {j n:Nat},us[j]?=some n->n∈us/\us.idxOf n=j:=fun {j n} hj=>by
  have hm:=List.mem_of_getElem? hj
  refine⟨hm,?_⟩
  obtain⟨hlt,hj⟩:=lgs hj
  rw[<-hj];exact nu.idxOf_getElem j hlt
 have hcases:∀x:Nat×Obj,x∈updObjs os (backUpd g hd.ns hd.os us r.2) ->
   (x∈os/\x.1∉hd.ns/\x.1∉us)\/(∃z,(q x.1,z)∈backOf hd.os r.2/\((x.1∈hd.ns/\x.1∉us/\x.2=impO (q x.1) x.1 g z/\N2.at x.1=N'.at (q x.1))\/(x.1∈us/\x.2=z/\N2.at x.1=N'.at (q x.1)/\freshOk z=true/\∀cs,z = .var cs->x.1<1024))/\N2.F x.1=N'.F (q x.1)):=by
  intro x hx
  rcases updObjs_mem hx with⟨h1,h2⟩ | h1
  .refine .inl ⟨h1,fun hxn=>?_,fun hxn=>?_⟩
   .obtain⟨y,hy⟩:=bm2 x.1 (.inl hxn);exact h2 _ hy rfl
   .obtain⟨y,hy⟩:=bm2 x.1 (.inr hxn);exact h2 _ hy rfl
  .right
   rcases bm1 _ _ h1 with⟨o,z,q1,q2,q3⟩ | ⟨j,q1,q2,q4⟩
   .have hn:=(List.of_mem_zip q1).1
    have hu:=hnu _ hn
    have hq:q x.1=o.1:=by simp only[q,if_neg hu];exact hψ _ q1
    refine⟨z,by rw[hq];exact q2,.inl ⟨hn,hu,by rw[hq];exact q3,?_⟩,?_⟩
    .rw[hat2 _ hu,hq,hM' o (List.of_mem_zip q1).2,hMc _ q1]
    .simp only[N2,hn,or_true,if_true]
   .obtain⟨hm,hix⟩:=hidx q1
    have hq:q x.1=rnm j:=by simp only[q,if_pos hm,hix]
    exact⟨x.2,by rw[hq];exact q2,.inr ⟨hm,rfl,by simp only[N2,Names.at,if_pos hm],backOk_new nk q4,fun cs e=>lowB_at nlow q1 (by rw[List.getElem?_drop,q4,e])⟩,by simp only[N2,hm,true_or,if_true]⟩
 have hqinj:∀x y:Nat,(x∈hd.ns\/x∈us)->(y∈hd.ns\/y∈us)->q x=q y->x=y:=by
  have hz:∀x,x∈hd.ns->∃o,(x,o)∈hd.ns.zip hd.os:=fun x hx=>by
   obtain⟨i,hi,rfl⟩:=List.mem_iff_getElem.1 hx
   exact⟨hd.os[i]'(by omega),by
    rw[List.mem_iff_getElem]
    exact⟨i,by simp;omega,by simp⟩⟩
  have hlow:∀x,x∈hd.ns->q x<1099511627776:=fun x hx=>by
   obtain⟨o,ho⟩:=hz x hx
   have:=of_decide_eq_true (List.all_eq_true.1 n4 o (List.of_mem_zip ho).2)
   simp only[q,if_neg (hnu x hx),hψ _ ho];exact this
  have hns':∀x y,x∈hd.ns->y∈hd.ns->q x=q y->x=y:=fun x y hx hy e=>by
   obtain⟨o,ho⟩:=hz x hx
   obtain⟨o',ho'⟩:=hz y hy
   simp only[q,if_neg (hnu x hx),if_neg (hnu y hy),hψ _ ho,hψ _ ho']at e
   obtain⟨i,hi,ei⟩:=List.mem_iff_getElem.1 ho
   obtain⟨j,hj,ej⟩:=List.mem_iff_getElem.1 ho'
   simp only[List.length_zip]at hi hj
   simp only[List.getElem_zip,Prod.mk.injEq]at ei ej
   have:i=j:=by
    have h1:(hd.os.map (·.1))[i]'(by simp;omega)=(hd.os.map (·.1))[j]'(by simp;omega):=by
     simp only[List.getElem_map,ei.2,ej.2];exact e
    exact (List.getElem_inj n3).1 h1
   subst this
   rw[<-ei.1,<-ej.1]
  intro x y hx hy e
  rcases hx with hx | hx
  .rcases hy with hy | hy
   .exact hns' x y hx hy e
   .have:=hlow x hx
    simp only[q,if_pos hy,rnm]at e this
    omega
  .rcases hy with hy | hy
   .have:=hlow y hy
    simp only[q,if_pos hx,rnm]at e this
    omega
   .simp only[q,if_pos hx,if_pos hy,rnm]at e
    have e:us.idxOf x=us.idxOf y:=by omega
    have h1:=List.getElem_idxOf (List.idxOf_lt_length_iff.2 hx)
    have h2:=List.getElem_idxOf (List.idxOf_lt_length_iff.2 hy)
    rw[<-h1,<-h2];congr 1
 have hzF:∀z∈backOf hd.os r.2,∀b∈N'.F z.1,WrC N w.heap.size hd.ns hd.gs b:=fun z hz b hb=>((hi.objs z hz).2.2 b hb).1
 have hzt:∀x:Nat×Obj,∀z,(q x.1,z)∈backOf hd.os r.2->((x.1∈hd.ns/\x.1∉us/\x.2=impO (q x.1) x.1 g z/\N2.at x.1=N'.at (q x.1))\/(x.1∈us/\x.2=z/\N2.at x.1=N'.at (q x.1)/\freshOk z=true/\∀cs,z = .var cs->x.1<1024))->N2.F x.1=N'.F (q x.1) ->
   ObjAt K2 N2 w'.heap x.1 x.2/\∀t∈LV.toksL x.2.cells,∃t',(t'∈r1.toks\/t'∈toksO r.2)/\t=t'*4096+g:=by
  intro x z hz hx hF
  have hG:=backOk_mem nk hz
  have hzto:=backOf_toks hz
  obtain⟨⟨t1,t2⟩,_⟩:=hi.objs _ hz
  simp only at hG t1 t2 hzto
  rcases hx with⟨hxn,_,h3,h4⟩ | ⟨hxu,h3,h4,hfr,hlo⟩
  .obtain⟨m1,m2,m3⟩:=Names.same_at h4
   cases z with
   | var cs=>
    simp only[impO]at h3
    rw[h3]
    obtain⟨f1,f2,f3⟩:=impC_facts (o':=q x.1) (o:=x.1) (g:=g) (l:=cs)
    rcases t1 with⟨vs,el,G,e1,e2,e3,e4,e5⟩ | ⟨e,_⟩
    case inr=>exact e.elim
    refine⟨⟨.inl ⟨vs,el,G,by rw[m1];exact e1,by rw[hF,m1];exact e2,impC_rep hG (fun t ht=>hnewG t (.inr (hzto t ht))) m1 e3,by rw[f3];exact e4,?_⟩,by show (impC _ _ _ _).all LV.flat=true;rw[f1];exact t2⟩,fun t ht=>?_⟩
    . 
     obtain⟨o,ho⟩:∃o,(x.1,o)∈hd.ns.zip hd.os:=by
      obtain⟨i,hi,e⟩:=List.mem_iff_getElem.1 hxn
      exact⟨hd.os[i]'(by omega),by
       rw[List.mem_iff_getElem]
       exact⟨i,by simp;omega,by simp[e]⟩⟩
     have h6:=eq_of_beq (List.all_eq_true.1 n5 _ ho)
     have h7:q x.1=o.1:=by simp only[q,if_neg (hnu _ hxn)];exact hψ _ ho
     simp only at h6
     intro k1 k2
     have h8:=of_decide_eq_true (List.all_eq_true.1 n4 o (List.of_mem_zip ho).2)
     rw[h7]at e5
     rw[h6]at e5
     exact e5 h8 k2
    .simp only[Obj.cells]at ht
     rw[f2]at ht
     obtain⟨t',ht',rfl⟩:=List.mem_map.1 ht
     exact⟨t',.inr (hzto t' ht'),rfl⟩
   | rows sz es sh hole=>
    have hG:hole=none:=hG
    subst hG
    simp only[impO]at h3
    rw[h3]
    refine⟨⟨t1.imp (fun⟨vs,el,G,e1,e2,e3,cap,e4,e5,e6⟩=>⟨vs,el,G,by rw[m1];exact e1,by rw[hF,m1];exact e2,e3,cap,by rw[m3,m1];exact e4,e5,e6⟩) (fun⟨⟨e1,e2⟩,e3⟩=>⟨⟨e1,by rw[m3];exact e2⟩,by rw[hF];exact e3⟩),by rw[m2];exact t2.1,trivial⟩,by simp[Obj.cells,LV.toksL]⟩
  .obtain⟨m1,m2,m3⟩:=Names.same_at h4
   cases z with
   | rows sz es sh hole=>
    cases hole with
    | some _=>cases hfr
    | none=>
     rw[h3]
     refine⟨⟨t1.imp (fun⟨vs,el,G,e1,e2,e3,cap,e4,e5,e6⟩=>⟨vs,el,G,by rw[m1];exact e1,by rw[hF,m1];exact e2,e3,cap,by rw[m3,m1];exact e4,e5,e6⟩) (fun⟨⟨e1,e2⟩,e3⟩=>⟨⟨e1,by rw[m3];exact e2⟩,by rw[hF];exact e3⟩),by rw[m2];exact t2.1,trivial⟩,by simp[Obj.cells,LV.toksL]⟩
   | var cs=>
    rw[h3]
    rcases t1 with⟨vs,el,G,e1,e2,e3,e4,e5⟩ | ⟨e,_⟩
    case inr=>exact e.elim
    have h0:=hlo cs rfl
    refine⟨⟨.inl ⟨vs,el,G,by rw[m1];exact e1,by rw[hF,m1];exact e2,repCs_pv hfr e3,e4,fun _ h=>absurd (Nat.div_eq_of_lt h0) h⟩,t2⟩,fun t ht=>?_⟩
    have:∀ {l:List LV},l.all LV.isPv=true->LV.toksL l=[]:=fun {l} hl=>by
     induction l with
     | nil=>rfl
     | cons c r ih=>
      simp only[List.all_cons,bat]at hl
      obtain⟨p,rfl⟩:=isPv_eq hl.1
      simp only[LV.toksL,LV.toks,List.nil_append,ih hl.2]
    simp only[Obj.cells,this hfr]at ht;cases ht
 have htk:∀t,Occ ((v,(r1.imp g).ren (pick us))::ps) (updObjs os (backUpd g hd.ns hd.os us r.2)) t ->
   (∃t',t=t'*4096+g/\N2.G t=N'.G t'/\Occ [(v,r1)] (backOf hd.os r.2) t')\/(Occ ps os t/\N2.G t=N.G t):=by
  have hnew:∀t',(t'∈r1.toks\/t'∈toksO r.2)->∃t'',t'*4096+g=t''*4096+g/\N2.G (t'*4096+g)=N'.G t''/\Occ [(v,r1)] (backOf hd.os r.2) t'':=
   fun t' ht'=>⟨t',rfl,hnewG t' ht',hoccn t' ht'⟩
  rintro t (⟨p,hp,ht⟩ | ⟨x,hx,ht⟩)
  .cases hp with
   | head=>
    simp only[LV.toks_ren,LV.toks_imp]at ht
    obtain⟨t',h1,rfl⟩:=List.mem_map.1 ht
    exact .inl (hnew t' (.inl h1))
   | tail _ hp=>exact .inr ⟨.inl ⟨p,hp,ht⟩,hold t (.inl ⟨p,hp,ht⟩)⟩
  .rcases hcases x hx with⟨h1,_⟩ | ⟨z,hz,h1,h2⟩
   .exact .inr ⟨.inr ⟨x,h1,ht⟩,hold t (.inr ⟨x,h1,ht⟩)⟩
   .obtain⟨t',h3,rfl⟩:=(hzt x z hz h1 h2).2 t ht
    exact .inl (hnew t' h3)
 have hspn:∀t',Occ [(v,r1)] (backOf hd.os r.2) t'->∀b,spare (N'.G t').1=some b->WrC N w.heap.size hd.ns hd.gs b:=by
  intro t' ht' b hb
  obtain⟨_,_,_,_,_,_,f3,_⟩:=(hi.toks t' ht').at hb
  exact f3
 have hnm:∀x:Nat×Obj,x∈os->x.1∉us/\∀o∈LV.namesL x.2.cells,o∉us:=fun x hx=>by
  obtain⟨y,hy,rfl⟩:=List.mem_map.1 hx
  refine⟨fun hu=>(noName_spec (husn _ hu)).2.2.1 _ hy rfl,fun o ho hu=>?_⟩
  rw[Obj.cells_dem,LV.namesL_dem]at ho
  exact (noName_spec (husn _ hu)).2.1 _ hy ho
 have hnp:∀p∈ps,∀o∈p.2.names,o∉us:=fun p hp o ho hu=>by
  obtain⟨p0,hp0,rfl⟩:=List.mem_map.1 hp
  obtain⟨y,hy,rfl⟩:=List.mem_map.1 hp0
  simp only[LV.names_dem]at ho
  exact (noName_spec (husn _ hu)).1 _ hy ho
 have hag:∀l gs,(∀o∈l,o∉us)->(∀t∈gs,N2.G t=N.G t)->N.agrees N2 l gs:=fun l gs hl hh=>⟨fun o ho=>Names.same_at (hat2 o (hl o ho)),hh⟩
 refine⟨K2,N2,⟨hK,fun b hb o=>hKo b (fun h'=>hb (hWr b h')) o⟩,⟨hk.os,hk.tape,hk.output,hk.size,fun b hb hnb=>hk.block b hb (fun h'=>hnb (hWr b h'))⟩,⟨hi.sat,?_,?_,?_,?_,?_,?_⟩,fun o ho=>?_⟩
 .intro p hp
  cases hp with
  | head=>
   have h0:=hi.vals _ (List.mem_singleton.2 rfl)
   refine RepL.ren (N:={ N' with G:=N2.G }) (pick us) (fun o ho=>?_) (fun _ _=>rfl) (RepL.imp (N:=N') (N':={ N' with G:=N2.G }) g (fun _ _=>rfl) (fun t' ht'=>hnewG t' (.inl ht')) h0)
   rw[LV.names_imp,nr]at ho
   obtain⟨i,hlt,rfl⟩:=rnms_mem ho
   have hu:us[i]?=some us[i]:=List.getElem?_eq_getElem hlt
   obtain⟨hm,hix⟩:=hidx hu
   have hp:pick us (rnm (0+i))=us[i]:=by
    simp only[pick,rnm,Nat.zero_add,Nat.add_sub_cancel_left,List.getD_eq_getElem?_getD,hu,Option.getD_some]
   rw[hp]
   have hq:q us[i]=rnm (0+i):=by simp only[q,if_pos hm,hix,Nat.zero_add]
   simp only[N2,Names.at,if_pos hm,hq]
  | tail _ hp=>exact ((i1.vals p hp).mono hK).named (hag _ _ (hnp p hp) fun t ht=>hold t (.inl ⟨p,hp,ht⟩))
 .intro x hx
  rcases hcases x hx with⟨h1,h2,h3⟩ | ⟨z,hz,h1,h2⟩
  .obtain⟨t,nd,rr⟩:=i1.objs x h1
   have hFx:N2.F x.1=N.F x.1:=by simp only[N2,h2,h3,or_self,if_false]
   obtain⟨m1,m2,m3⟩:=Names.same_at (hat2 x.1 h3)
   refine⟨((t.mono hK).heap fun b hb=>hblk b (t.lt b hb) (hoold x h1 h2 b hb)).named ⟨m1,m2,m3,hFx⟩ (hag _ _ (hnm x h1).2 fun t ht=>hold t (.inr ⟨x,h1,ht⟩)),by rw[hFx];exact nd,?_⟩
   rw[hFx]
   intro b hb
   exact⟨(rr b hb).1,fun o=>by rw[hKo b (hoold x h1 h2 b hb)];exact (rr b hb).2 o⟩
  .obtain⟨_,nd,rr⟩:=hi.objs _ hz
   refine⟨(hzt x z hz h1 h2).1,by rw[h2];exact nd,?_⟩
   rw[h2]
   exact fun b hb=>⟨hWr b (rr b hb).1,(rr b hb).2⟩
 .intro x hx y hy b e1 e2
  rcases hcases x hx with⟨h1,h2,h3⟩ | ⟨z,hz,h1,h2⟩
  .have hFx:N2.F x.1=N.F x.1:=by simp only[N2,h2,h3,or_self,if_false]
   rw[hFx]at e1
   rcases hcases y hy with⟨k1,k2,k3⟩ | ⟨z',hz',k1,k2⟩
   .have hFy:N2.F y.1=N.F y.1:=by simp only[N2,k2,k3,or_self,if_false]
    rw[hFy]at e2
    exact i1.inj x h1 y k1 b e1 e2
   .rw[k2]at e2
    exact absurd (hzF _ hz' b e2) (hoold x h1 h2 b e1)
  .rw[h2]at e1
   rcases hcases y hy with⟨k1,k2,k3⟩ | ⟨z',hz',k1,k2⟩
   .have hFy:N2.F y.1=N.F y.1:=by simp only[N2,k2,k3,or_self,if_false]
    rw[hFy]at e2
    exact absurd (hzF _ hz b e1) (hoold y k1 k2 b e2)
   .rw[k2]at e2
    have hzz:=hi.inj _ hz _ hz' b e1 e2
    simp only[Prod.mk.injEq]at hzz
    have hxm:x.1∈hd.ns\/x.1∈us:=h1.imp (·.1) (·.1)
    have hym:y.1∈hd.ns\/y.1∈us:=k1.imp (·.1) (·.1)
    have hxy:=hqinj _ _ hxm hym hzz.1
    refine Prod.ext hxy ?_
    rcases h1 with⟨a1,a2,a3,_⟩ | ⟨a1,a3,_⟩
    .rcases k1 with⟨_,_,b3,_⟩ | ⟨b1,_⟩
     .rw[a3,b3,hzz.2,hxy]
     .rw[<-hxy]at b1;exact absurd b1 a2
    .rcases k1 with⟨_,b2,_⟩ | ⟨_,b3,_⟩
     .rw[<-hxy]at b2;exact absurd a1 b2
     .rw[a3,b3,hzz.2]
 .intro t ht
  rcases htk t ht with⟨t',_,h2,h3⟩ | ⟨h1,h2⟩
  .rw[h2]
   exact (hi.toks t' h3).turn fun b _ hw _=>⟨rfl,hWr b hw,fun _ h=>h⟩
  .rw[h2]
   refine (i1.toks t h1).turn fun b hs hw hlt=>?_
   have hno:=htold t h1 b hs
   exact⟨hblk _ hlt hno,hw,fun k hk=>by rw[hKo _ hno];exact hk⟩
 .intro t1 t2 b h1 h2 s1 s2
  rcases htk t1 h1 with⟨u1,q1,e1,p1⟩ | ⟨p1,e1⟩
  .rcases htk t2 h2 with⟨u2,q2,e2,p2⟩ | ⟨p2,e2⟩
   .rw[e1]at s1
    rw[e2]at s2
    have:=hi.tinj u1 u2 b p1 p2 s1 s2
    omega
   .rw[e1]at s1
    rw[e2]at s2
    exact absurd (hspn u1 p1 b s1) (htold t2 p2 b s2)
  .rcases htk t2 h2 with⟨u2,q2,e2,p2⟩ | ⟨p2,e2⟩
   .rw[e1]at s1
    rw[e2]at s2
    exact absurd (hspn u2 p2 b s2) (htold t1 p1 b s1)
   .rw[e1]at s1
    rw[e2]at s2
    exact i1.tinj t1 t2 b p1 p2 s1 s2
 .intro t x ht hx b hs
  rcases htk t ht with⟨t',_,h2,h3⟩ | ⟨h1,h2⟩
  .rw[h2]at hs
   rcases hcases x hx with⟨k1,k2,k3⟩ | ⟨z,hz,k1,k2⟩
   .have hFx:N2.F x.1=N.F x.1:=by simp only[N2,k2,k3,or_self,if_false]
    rw[hFx]
    exact fun hb=>absurd (hspn t' h3 _ hs) (hoold x k1 k2 b hb)
   .rw[k2]
    exact hi.tobj t' _ h3 hz b hs
  .rw[h2]at hs
   rcases hcases x hx with⟨k1,k2,k3⟩ | ⟨z,hz,k1,k2⟩
   .have hFx:N2.F x.1=N.F x.1:=by simp only[N2,k2,k3,or_self,if_false]
    rw[hFx]
    exact i1.tobj t x h1 k1 b hs
   .rw[k2]
    exact fun hb=>absurd (hzF _ hz b hb) (htold t h1 _ hs)
 .have:o∉us:=fun hu=>(noName_spec (husn o hu)).2.2.2 (by rw[h.fx];exact ho)
  rw[hat2 o this];exact h.pin o ho
end
open Go.RowKit
def chkOp (P:Program) (o:Oper):LOp->Bool
 | .mv x=>match o.op with | .move X=>chkOpd x X | .assign X=>chkOpd x X | _=>false
 | .nilck x=>match o.op with | .nilCheck X=>chkOpd x X | _=>false
 | .pick c x y=>match o.op with | .pick C X Y=>chkOpd c C&&chkOpd x X&&chkOpd y Y | _=>false
 | .alloc n zs=>match o.op with | .alloc t=>chkZeroA P t zs&&t == n/1024 | _=>false
 | .box n _ x=>match o.op with | .box t X=>chkOpd x X&&t == n/1024 | _=>false
 | .build zs parts=>match o.op with | .build t Parts=>chkBuild P t zs parts Parts.toList | _=>false
 | .bslice _ sz xs=>match o.op with | .buildSlice t n parts=>chkOpds xs (parts.toList.map (·.2))&&chkSeq 0 parts.toList&&(n == parts.size)&&chkZeroSz P t sz&&decide (n*sz<=16777216) | _=>false
 | .load n ag _ x=>match o.op with | .load t X=>chkOpd x X&&chkLoad P t n ag | _=>false
 | .store n _ _ x v=>match o.op with | .store t X V=>chkOpd x X&&chkOpd v V&&(match szOf P t with | some m=>m == n | none=>false)&&n != 0 | _=>false
 | .bin op x y=>match o.op with | .binOp op' _ X Y _=>op == op'&&(chkOpd x X&&chkOpd y Y) | _=>false
 | .binb ne x y=>match o.op with | .binOp op' t X Y _=>(op' == if ne then .neq else .eql)&&(chkOpd x X&&chkOpd y Y&&boolTy P t) | _=>false
 | .isnil ne x=>match o.op with | .binOp op' t X (.const (.slice none 0 0)) _=>(op' == if ne then .neq else .eql)&&(chkOpd x X&&sliceTy P t) | _=>false
 | .eqs ne ks x y=>match o.op with | .binOp op' t X Y _=>(op' == if ne then .neq else .eql)&&(chkOpd x X&&chkOpd y Y&&chkScStruct P t ks) | _=>false
 | .un op x=>match o.op with | .unOp op' _ X=>op == op'&&chkOpd x X | _=>false
 | .conv k x=>match o.op with | .convert t t' X=>chkOpd x X&&intTy P t' k&&(P.underlying t).isSome | _=>false
 | .toStr x=>match o.op with | .convert t t' X=>chkOpd x X&&bytesTy P t&&stringTy P t'&&chkElem P t 1 | _=>false
 | .toBytes _ x=>match o.op with | .convert t t' X=>chkOpd x X&&bytesTy P t'&&stringTy P t | _=>false
 | .mkfn f caps=>match o.op with | .makeFunc (.func f') first CS=>f == f'&&first.isEmpty&&chkOpds caps CS.toList | _=>false
 | .mkmth f x=>match o.op with | .makeFunc (.func f') ⟨[X]⟩ CS=>f == f'&&CS.isEmpty&&chkOpd x X | _=>false
 | .mkslice _ sz _ zs n=>match o.op with | .makeSlice t L C=>chkOpd n L&&chkOpd n C&&chkMake P t sz zs | _=>false
 | .slice sz lo hi x=>match o.op with | .slice t X LO HI none=>chkOpd x X&&chkOptOpd lo LO&&chkOptOpd hi HI&&chkElem P t sz | _=>false
 | .sliceS lo hi x=>match o.op with | .slice t X LO HI none=>chkOpd x X&&chkOptOpd lo LO&&chkOptOpd hi HI&&stringTy P t | _=>false
 | .slice0 _ sz x=>match o.op with | .slice t X none (some H) (some M)=>chkOpd x X&&sliceTy P t&&chkOpd (.c (.int .i64 0)) H&&chkOpd (.c (.int .i64 0)) M&&chkElem P t sz | _=>false
 | .faddr off x=>match o.op with | .fieldAddr t X f=>chkOpd x X&&chkField P t f off | _=>false
 | .iaddr sz _ x i=>match o.op with | .indexAddr t X I=>chkOpd x X&&chkOpd i I&&chkElem P t sz | _=>false
 | .field off n ag x=>match o.op with | .field t X f=>chkOpd x X&&chkPart P t f off n ag | _=>false
 | .index x i=>match o.op with | .index t X I=>chkOpd x X&&chkOpd i I&&stringTy P t | _=>false
 | .extract k x=>match o.op with | .extract X k'=>k == k'&&chkOpd x X | _=>false
 | .len x=>match o.op with | .call { callee := .builtin .len,args:=⟨[X]⟩,argTypes:=⟨[t]⟩ }=>chkOpd x X&&sliceTy P t | _=>false
 | .lenS x=>match o.op with | .call { callee := .builtin .len,args:=⟨[X]⟩,argTypes:=⟨[t]⟩ }=>chkOpd x X&&stringTy P t | _=>false
 | .append _ sz _ x y=>match o.op with | .call { callee := .builtin .append,args:=⟨[X,Y]⟩,argTypes:=⟨[t,t']⟩ }=>(match P.underlying t' with | some u => !isIntTy u | none=>false)&&(chkOpd x X&&chkOpd y Y&&chkZeroSz P t sz) | _=>false
 | .bsu _ sz _ _ xs=>match o.op with | .buildSlice t n parts=>chkOpds xs (parts.toList.map (·.2))&&chkSeq 0 parts.toList&&(n == parts.size)&&chkZeroSz P t sz&&decide (n*sz<=16777216) | _=>false
 | .apu _ sz _ _ _ x y=>match o.op with | .call { callee := .builtin .append,args:=⟨[X,Y]⟩,argTypes:=⟨[t,t']⟩ }=>(match P.underlying t' with | some u => !isIntTy u | none=>false)&&(chkOpd x X&&chkOpd y Y&&chkZeroSz P t sz) | _=>false
 | .max x y=>match o.op with | .call { callee := .builtin .max,args:=⟨[X,Y]⟩,.. }=>chkOpd x X&&chkOpd y Y | _=>false
 | .call f _ _ _ _ _ args=>match o.op with | .call { callee := .value (.func f'),args:=As,.. }=>fid f == f'&&chkOpds (args.map (·.1)) As.toList | _=>false
 | .callv _ _ _ _ _ x args=>match o.op with | .call { callee := .value X,args:=As,.. }=>chkOpd x X&&chkOpds (args.map (·.1)) As.toList | _=>false
section
variable {call:CallF}{P:Program}{nt:Nat}{F:Fr}{Wr:Nat->Prop}{K:Know}{N:Names}{a:Act}{w:World}{s:LSt}{o:Oper}
def Next' (nt:Nat) (F:Fr) (Wr:Nat->Prop) (K:Know) (a:Act) (w:World) (s':LSt) (d:Option Nat) (next:Act->World->Prop):Prop:=
 ∀v w' K' N',KExt Wr K K'->Keep Wr w w'->Rel nt F Wr K' N' (a.put d v) w' s'->next (a.put d v) w'
theorem wp_of_ok {e:Eff}{next:Act->World->Prop}{Q:Exit->Act->World->Prop}(h:Rel nt F Wr K N a w s) (hok:OpOk P F Wr K a w s o e) (hd:∀t,o.dst=some t->t<nt)
  (hn:Next' nt F Wr K a w (s.apply e o.dst) o.dst next):o.wp P a w next Q:=by
 obtain⟨v,w',K',N',hr,hK,hk,hi,hp⟩:=hok
 have:=hn v w' K' N' hK hk (h.put hk hK.le hp hd hi)
 unfold Oper.wp
 rcases hr with hr | ⟨rfl,hr⟩
 .rw[hr];exact this
 .rw[hr];exact this
theorem wp_of_call {f g:Nat}{us:List Nat}{args:List (Opd×Bool)}{As:List Operand}{hh:Hand}{r:Fin}{e:Eff}{q1 q2:List LV}{u1 u2:List Value}{Xs:Array Value}{next:Act->World->Prop}{Q:Exit->Act->World->Prop}(h:Rel nt F Wr K N a w s) (hcall:CallOk P F.K0 call)
  (hha:handOf s 0 0 args=some hh) (hc:chkOpds (args.map (·.1)) As=true) (hq1:∀ (K':Know) (N':Names),K.le K'->RepLs K' N' q1 u1) (hq2:∀ (K':Know) (N':Names),K.le K'->RepLs K' N' q2 u2) (ht1:LV.toksL q1=[]) (ht2:LV.toksL q2=[]) (hf:call f (q1++(hh.as++q2)) hh.os=some r) (he:callEff s g us hh r=some e)
  (hX:Xs=List.toArray (u1++(As.map a.eval++u2))) (hx:(execOp a.eval o).run P w=(callFunc (fid f) Xs).run P w) (hd:∀t,o.dst=some t->t<nt)
  (hn:Next' nt F Wr K a w (s.apply e o.dst) o.dst next):o.wp P a w next Q:=by
 obtain⟨⟨fn,f1,f2,f3⟩,hcalls⟩:=hcall f _ _ r hf
 have hnd:hh.gs.Nodup/\hh.ns.Nodup/\(hh.os.map (·.1)).Nodup/\hh.bs.all (fun o => !hh.ns.contains o)=true:=by
  unfold callEff at he
  split at he
  .rename_i hx;exact⟨hx.1,hx.2.1,hx.2.2.1,hx.2.2.2.2.2.2.2.2.2.2.2.1⟩
  .cases he
 obtain⟨Nc,j1,j2,j3,j4,j5,j6,j7⟩:=call_in h hha hc hnd.1 hnd.2.1 hnd.2.2.1 hnd.2.2.2 hq1 hq2 ht1 ht2
 unfold Oper.wp
 have hcf:(callFunc (fid f) Xs).run P w = .ok (.enter (fid f) Xs) w:=by
  cases hb:fn.body with
  | none=>simp[hb]at f3
  | some c=>simp[callFunc,f1,f2,hb]
 rw[hx,hcf]
 simp only[Oper.upon]
 subst hX
 refine (hcalls _ _ Nc w _ (h.k0.less (wrC_sub h j4 j5)) (fun b hb => .inl hb) j1 j3).mono ?_
 rintro ee w' ⟨v,K',N',rfl,hK,hk,hi,hM⟩
 obtain⟨K2,N2,k1,k2,k3,k4⟩:=call_back h he j4 j5 j6 j7 j2 hM hK hk hi
 have hv:∃l,e.val=some l:=by
  unfold callEff at he
  split at he
  .simp only[osi]at he;rw[<-he];exact⟨_,rfl⟩
  .cases he
 obtain⟨l,hv⟩:=hv
 exact hn v w' K2 N2 k1 k2 (h.put k2 k1.le k4 hd (by rw[hv]at k3;rw[hv];exact k3))
theorem op_wp {e:Eff}{l:LOp}{next:Act->World->Prop}{Q:Exit->Act->World->Prop}(hcall:CallOk P F.K0 call) (h:Rel nt F Wr K N a w s) (he:evOp call s l=some e) (hc:chkOp P o l=true)
  (hd:∀t,o.dst=some t->t<nt) (hn:Next' nt F Wr K a w (s.apply e o.dst) o.dst next):o.wp P a w next Q:=by
 cases l with
 | call f g ws ts us bs args=>
  simp only[chkOp]at hc
  split at hc
  .rename_i f' As ts ho
   rw[bat]at hc
   have hf:=eq_of_beq hc.1
   subst hf
   simp only[evOp]at he
   obtain⟨hh,hha,he⟩:=obs he
   split at he
   case isFalse=>cases he
   obtain⟨r,hr,he⟩:=obs he
   refine wp_of_call (q1:=[]) (q2:=[]) (u1:=[]) (u2:=[]) (Xs:=As.map a.eval) h hcall hha hc.2 (fun _ _ _=>rfl) (fun _ _ _=>rfl) rfl rfl (by simpa using hr) he (by rw[List.append_nil,List.nil_append,<-Array.toList_map]) ?_ hd hn
   simp[execOp,ho,resolve,Act.eval,Deferred.ofValue,invoke]
  .cases hc
 | callv g ws ts us bs x args=>
  simp only[chkOp]at hc
  split at hc
  .rename_i X As ts ho
   rw[bat]at hc
   simp only[evOp]at he
   obtain⟨lx,hlx,he⟩:=obs he
   obtain⟨x1,x2⟩:=h.opd hlx hc.1
   split at he
   .rename_i f ps
    obtain⟨hh,hha,he⟩:=obs he
    split at he
    case isFalse=>cases he
    obtain⟨r,hr,he⟩:=obs he
    obtain⟨hff,hr⟩:=callp_some hr
    obtain⟨vs,ev,hps⟩:=x1
    refine wp_of_call (q1:=[]) (q2:=ps.map .pv) (u1:=[]) (u2:=vs) (Xs:=As.map a.eval++List.toArray vs) h hcall hha hc.2 (fun _ _ _=>rfl) (fun _ _ hk=>(RepPs.mono hk hps).lv) rfl (map_pv_toks _) hr he (by rw[List.nil_append,<-Array.toList_map,<-List.append_toArray]) ?_ hd hn
    simp[execOp,ho,resolve,ev,Deferred.ofValue,invoke,hff]
   .rename_i f ps
    obtain⟨hh,hha,he⟩:=obs he
    split at he
    case isFalse=>cases he
    obtain⟨r,hr,he⟩:=obs he
    obtain⟨hff,hr⟩:=callp_some hr
    obtain⟨vs,ev,hps⟩:=x1
    refine wp_of_call (q1:=[.agg (ps.map .pv)]) (q2:=[]) (u1:=[.agg (List.toArray vs)]) (u2:=[]) (Xs := #[.agg (List.toArray vs)]++As.map a.eval) h hcall hha hc.2 (fun _ _ hk=>⟨_,_,rfl,⟨vs,rfl,map_pv_flat _,(RepPs.mono hk hps).lv⟩,rfl⟩) (fun _ _ _=>rfl) (by simp[LV.toksL,LV.toks,map_pv_toks]) rfl (by simpa using hr) he (by rw[List.append_nil,<-Array.toList_map];simp) ?_ hd hn
    simp[execOp,ho,resolve,ev,Deferred.ofValue,invoke,hff]
   .cases he
  .cases hc
 | mv x=>
  simp only[chkOp]at hc
  split at hc
  .rename_i X ho;exact wp_of_ok h (ok_mv h he (.inl ho) hc) hd hn
  .rename_i X ho;exact wp_of_ok h (ok_mv h he (.inr ho) hc) hd hn
  .cases hc
 | nilck x=>simp only[chkOp]at hc;split at hc<;>first | (rename_i ho;exact wp_of_ok h (ok_nilck h he ho hc) hd hn) | cases hc
 | pick c x y=>simp only[chkOp]at hc;split at hc<;>first | (rename_i ho;exact wp_of_ok h (ok_pick h he ho hc) hd hn) | cases hc
 | alloc o' zs=>simp only[chkOp]at hc;split at hc<;>first | (rename_i ho;exact wp_of_ok h (ok_alloc h he ho hc) hd hn) | cases hc
 | box o' n x=>simp only[chkOp]at hc;split at hc<;>first | (rename_i ho;exact wp_of_ok h (ok_box h he ho hc) hd hn) | cases hc
 | build zs parts=>simp only[chkOp]at hc;split at hc<;>first | (rename_i ho;exact wp_of_ok h (ok_build h he ho hc) hd hn) | cases hc
 | bslice g sz xs=>simp only[chkOp]at hc;split at hc<;>first | (rename_i ho;exact wp_of_ok h (ok_bslice h he ho hc) hd hn) | cases hc
 | load n ag rd x=>simp only[chkOp]at hc;split at hc<;>first | (rename_i ho;exact wp_of_ok h (ok_load h he ho hc) hd hn) | cases hc
 | store n rd us x v=>simp only[chkOp]at hc;split at hc<;>first | (rename_i ho;exact wp_of_ok h (ok_store h he ho hc) hd hn) | cases hc
 | bin op x y=>
  simp only[chkOp]at hc
  split at hc
  .rename_i op' t X Y t' ho
   rw[bat]at hc
   have:op=op':=by have:=hc.1;revert this;cases op<;>cases op'<;>first | (intro _;rfl) | (intro h;cases h)
   subst this
   exact wp_of_ok h (ok_bin h he ho hc.2) hd hn
  .cases hc
 | binb ne x y=>
  simp only[chkOp]at hc
  split at hc
  .rename_i op' t X Y t' ho
   rw[bat]at hc
   have:op'=if ne then .neq else .eql:=by have:=hc.1;revert this;cases ne<;>cases op'<;>first | (intro _;rfl) | (intro h;cases h)
   subst this
   exact wp_of_ok h (ok_binb h he ho hc.2) hd hn
  .cases hc
 | isnil ne x=>
  simp only[chkOp]at hc
  split at hc
  .rename_i op' t X t' ho
   rw[bat]at hc
   have:op'=if ne then .neq else .eql:=by have:=hc.1;revert this;cases ne<;>cases op'<;>first | (intro _;rfl) | (intro h;cases h)
   subst this
   exact wp_of_ok h (ok_isnil h he ho hc.2) hd hn
  .cases hc
 | eqs ne ks x y=>
  simp only[chkOp]at hc
  split at hc
  .rename_i op' t X Y t' ho
   rw[bat]at hc
   have:op'=if ne then .neq else .eql:=by have:=hc.1;revert this;cases ne<;>cases op'<;>first | (intro _;rfl) | (intro h;cases h)
   subst this
   exact wp_of_ok h (ok_eqs h he ho hc.2) hd hn
  .cases hc
 | un op x=>
  simp only[chkOp]at hc
  split at hc
  .rename_i op' t X ho
   rw[bat]at hc
   have:op=op':=by have:=hc.1;revert this;cases op<;>cases op'<;>first | (intro _;rfl) | (intro h;cases h)
   subst this
   exact wp_of_ok h (ok_un h he ho hc.2) hd hn
  .cases hc
 | conv k x=>simp only[chkOp]at hc;split at hc<;>first | (rename_i ho;exact wp_of_ok h (ok_conv h he ho hc) hd hn) | cases hc
 | toStr x=>simp only[chkOp]at hc;split at hc<;>first | (rename_i ho;exact wp_of_ok h (ok_toStr h he ho hc) hd hn) | cases hc
 | toBytes g x=>simp only[chkOp]at hc;split at hc<;>first | (rename_i ho;exact wp_of_ok h (ok_toBytes h he ho hc) hd hn) | cases hc
 | mkfn f caps=>
  simp only[chkOp]at hc
  split at hc
  .rename_i f' first CS ho
   rw[bat,bat]at hc
   have hf:=eq_of_beq hc.1.1
   subst hf
   have hfi:first = #[]:=by simpa using hc.1.2
   subst hfi
   exact wp_of_ok h (ok_mkfn h he ho hc.2) hd hn
  .cases hc
 | mkmth f x=>
  simp only[chkOp]at hc
  split at hc
  .rename_i f' X CS ho
   rw[bat,bat]at hc
   have hf:=eq_of_beq hc.1.1
   subst hf
   have hfi:CS = #[]:=by simpa using hc.1.2
   subst hfi
   exact wp_of_ok h (ok_mkmth h he ho hc.2) hd hn
  .cases hc
 | mkslice o' sz sh zs n=>simp only[chkOp]at hc;split at hc<;>first | (rename_i ho;exact wp_of_ok h (ok_mkslice h he ho hc) hd hn) | cases hc
 | slice sz lo hi x=>simp only[chkOp]at hc;split at hc<;>first | (rename_i ho;exact wp_of_ok h (ok_slice h he ho hc) hd hn) | cases hc
 | sliceS lo hi x=>simp only[chkOp]at hc;split at hc<;>first | (rename_i ho;exact wp_of_ok h (ok_sliceS h he ho hc) hd hn) | cases hc
 | slice0 g sz x=>simp only[chkOp]at hc;split at hc<;>first | (rename_i ho;exact wp_of_ok h (ok_slice0 h he ho hc) hd hn) | cases hc
 | faddr off x=>simp only[chkOp]at hc;split at hc<;>first | (rename_i ho;exact wp_of_ok h (ok_faddr h he ho hc) hd hn) | cases hc
 | iaddr sz rd x i=>simp only[chkOp]at hc;split at hc<;>first | (rename_i ho;exact wp_of_ok h (ok_iaddr h he ho hc) hd hn) | cases hc
 | field off n ag x=>simp only[chkOp]at hc;split at hc<;>first | (rename_i ho;exact wp_of_ok h (ok_field h he ho hc) hd hn) | cases hc
 | index x i=>simp only[chkOp]at hc;split at hc<;>first | (rename_i ho;exact wp_of_ok h (ok_index h he ho hc) hd hn) | cases hc
 | extract k x=>
  simp only[chkOp]at hc
  split at hc
  .rename_i X k' ho
   rw[bat]at hc
   have hf:=eq_of_beq hc.1
   subst hf
   exact wp_of_ok h (ok_extract h he ho hc.2) hd hn
  .cases hc
 | len x=>simp only[chkOp]at hc;split at hc<;>first | (rename_i ho;exact wp_of_ok h (ok_len h he ho hc) hd hn) | cases hc
 | lenS x=>simp only[chkOp]at hc;split at hc<;>first | (rename_i ho;exact wp_of_ok h (ok_lenS h he ho hc) hd hn) | cases hc
 | append g sz gx x y=>
  simp only[chkOp]at hc
  split at hc
  .rename_i X Y t t' ho
   rw[bat]at hc
   have h1:=hc.1
   split at h1
   .rename_i u hu
    exact wp_of_ok h (ok_append h he ho hu (by simpa using h1) hc.2) hd hn
   .cases h1
  .cases hc
 | bsu o' sz sh us xs=>simp only[chkOp]at hc;split at hc<;>first | (rename_i ho;exact wp_of_ok h (ok_bsu h he ho hc) hd hn) | cases hc
 | apu o' sz sh gx gy x y=>
  simp only[chkOp]at hc
  split at hc
  .rename_i X Y t t' ho
   rw[bat]at hc
   have h1:=hc.1
   split at h1
   .rename_i u hu
    exact wp_of_ok h (ok_apu h he ho hu (by simpa using h1) hc.2) hd hn
   .cases h1
  .cases hc
 | max x y=>simp only[chkOp]at hc;split at hc<;>first | (rename_i ho;exact wp_of_ok h (ok_max h he ho hc) hd hn) | cases hc
def chkLI (P:Program) (nt:Nat) (ops:Array Oper) (o:Oper) (i:LI):Bool:=
 (match i.dst,o.dst with | none,none=>true | some d,some d'=>d == d'&&decide (d<nt) | _,_=>false) &&
 (match i.guard,o.guard with | none,none=>true | some (t,b),some (j,want)=>b == want&&(match (ops[j]?).bind (·.dst) with | some d=>d == t | none=>false) | _,_=>false) &&
 chkOp P o i.op
def chkLIs (P:Program) (nt:Nat) (ops:Array Oper):List LI->List Oper->Bool
 | [],[]=>true
 | i::is,o::os=>chkLI P nt ops o i&&chkLIs P nt ops is os
 | _,_=>false
theorem chkLI_eq {ops:Array Oper}{i:LI}(h:chkLI P nt ops o i=true):i.dst=o.dst/\(∀t,o.dst=some t->t<nt)/\chkOp P o i.op=true /\
  (match i.guard,o.guard with | none,none=>True | some (t,b),some (j,want)=>b=want/\(ops[j]?).bind (·.dst)=some t | _,_=>False):=by
 unfold chkLI at h
 simp only[bat]at h
 obtain⟨⟨h1,h2⟩,h3⟩:=h
 have hd:i.dst=o.dst/\∀t,o.dst=some t->t<nt:=by
  split at h1
  .rename_i e1 e2;exact⟨by rw[e1,e2],by rw[e2];simp⟩
  .rename_i d d' e1 e2
   rw[bat]at h1
   have:=eq_of_beq h1.1
   subst this
   exact⟨by rw[e1,e2],by rw[e2];intro t ht;cases ht;exact of_decide_eq_true h1.2⟩
  .cases h1
 refine⟨hd.1,hd.2,h3,?_⟩
 split at h2
 .trivial
 .rename_i t b j want e1 e2
  rw[bat]at h2
  refine⟨eq_of_beq h2.1,?_⟩
  have:=h2.2
  split at this
  .rename_i d hd;rw[hd,eq_of_beq this]
  .cases this
 .cases h2
theorem wanted_eq {ops:Array Oper}{i:LI}{b:Bool}(h:Rel nt F Wr K N a w s) (hw:wantedL s i.guard=some b)
  (hg:match i.guard,o.guard with | none,none=>True | some (t,b),some (j,want)=>b=want/\(ops[j]?).bind (·.dst)=some t | _,_=>False):
  Region.wanted o (yielded ops a.tmps)=b:=by
 cases hgi:i.guard with
 | none=>
  cases hgo:o.guard with
  | none=>rw[hgi]at hw;simp only[wantedL,osi]at hw;subst hw;simp[Region.wanted,hgo]
  | some _=>rw[hgi,hgo]at hg;exact hg.elim
 | some tb=>
  obtain⟨t,want⟩:=tb
  cases hgo:o.guard with
  | none=>rw[hgi,hgo]at hg;exact hg.elim
  | some jw=>
   obtain⟨j,want'⟩:=jw
   rw[hgi,hgo]at hg
   obtain⟨rfl,hj⟩:=hg
   rw[hgi]at hw
   simp only[wantedL]at hw
   obtain⟨l,hl,hw⟩:=obs hw
   have hm:=aget_mem hl
   have hv:=h.inv.vals (a.tmps.getD t undef,l) (List.mem_map.2 ⟨_,hm,rfl⟩)
   have hlt:t<a.tmps.size:=by rw[h.size];exact h.bnd _ hm
   split at hw
   .simp only[osi]at hw
    subst hw
    obtain⟨vs,e1,e2⟩:=hv
    cases e2
    have htm:a.tmps[t]?=some (.tuple #[]):=by
     rw[Array.getElem?_eq_getElem hlt]
     simp only[Array.getD,hlt,dite_true]at e1
     exact congrArg some e1
    simp[Region.wanted,hgo,yielded,hj,htm]
   .obtain⟨c,hc,hw⟩:=obs hw
    simp only[osi]at hw
    subst hw
    have hb:=bool?_rep hc hv
    have htm:a.tmps[t]?=some (.bool c):=by
     rw[Array.getElem?_eq_getElem hlt]
     simp only[Array.getD,hlt,dite_true]at hb
     exact congrArg some hb
    simp[Region.wanted,hgo,yielded,hj,htm]
theorem Rel.skip (h:Rel nt F Wr K N a w s) (d:Option Nat) (hd:∀t,d=some t->t<nt):Rel nt F Wr K N (a.put d undef) w (s.apply skipE d):=by
 refine h.put (Keep.refl _ _) (Know.le_refl _) h.pin hd ?_
 have h0:demPairs [] (pairs a s.env)=pairs a s.env:=by
  unfold demPairs
  have:(fun p:Value×LV=>(p.1,p.2.dem []))=id:=funext fun x=>by simp[LV.dem_nil]
  rw[this];simp
 have h1:(s.objs.map fun x=>(x.1,x.2.dem []))=s.objs:=demMap_nil _
 show Inv Wr K N w.heap ((undef,.tup [])::demPairs [] (pairs a s.env)) (s.objs.map fun x=>(x.1,x.2.dem []))
 rw[h0,h1]
 exact h.inv.add ⟨[],rfl,rfl⟩ (by simp[LV.toks,LV.toksL])
theorem killEnv_mem {ts:List Nat}{env:List (Nat×LV)}{x:Nat×LV}(h:x∈killEnv ts env):x∈env:=by
 unfold killEnv at h
 induction ts generalizing env with
 | nil=>exact h
 | cons t ts ih=>exact (adel_mem (ih h)).1
theorem Rel.sub (h:Rel nt F Wr K N a w s) {s':LSt}(h1:∀x∈s'.env,x∈s.env) (h2:∀x∈s'.objs,x∈s.objs) (h3:s'.fix=s.fix:=by rfl):Rel nt F Wr K N a w s':=
 ⟨h.inv.sub (fun p hp=>by obtain⟨x,hx,rfl⟩:=List.mem_map.1 hp;exact List.mem_map.2 ⟨x,h1 x hx,rfl⟩) h2,fun x hx=>h.bnd x (h1 x hx),h.size,h.new,h.k0,h3.trans h.fx,h.pin⟩
theorem Rel.kill (h:Rel nt F Wr K N a w s) (ts:List Nat):Rel nt F Wr K N a w (s.kill ts):=by
 cases ts with
 | nil=>exact h
 | cons t ts=>exact h.sub (fun x hx=>killEnv_mem hx) fun _ h=>h
def Post (nt:Nat) (F:Fr) (Wr:Nat->Prop) (K:Know) (a:Act) (w:World) (s':LSt) (Q:Act->World->Prop):Prop:=
 ∀a' w' K' N',KExt Wr K K'->Keep Wr w w'->a'.defers=a.defers->Rel nt F Wr K' N' a' w' s'->Q a' w'
theorem ops_wp (hcall:CallOk P F.K0 call){ops:Array Oper}{Q:Exit->Act->World->Prop}:∀ {is:List LI}{os:List Oper}{K:Know}{N:Names}{a:Act}{w:World}{s s':LSt},
  chkLIs P nt ops is os=true->evOps call is s=some s'->Rel nt F Wr K N a w s->Post nt F Wr K a w s' (Q .normal)->wpList P ops Q os a w:=by
 intro is
 induction is with
 | nil=>
  intro os K N a w s s' hc he h hn
  cases os with
  | nil=>simp only[evOps,osi]at he;subst he;exact hn a w K N KExt.refl (Keep.refl _ _) rfl h
  | cons _ _=>simp[chkLIs]at hc
 | cons i is ih=>
  intro os K N a w s s' hc he h hn
  cases os with
  | nil=>simp[chkLIs]at hc
  | cons o os=>
   simp only[chkLIs,bat]at hc
   obtain⟨c1,c2,c3,c4⟩:=chkLI_eq hc.1
   simp only[evOps]at he
   obtain⟨b,hb,he⟩:=obs he
   have hw:=wanted_eq (ops:=ops) h hb c4
   refine wpList_step fun Kn hKn=>?_
   cases b with
   | true=>
    simp only at he
    obtain⟨e,hev,he⟩:=obs he
    rw[if_pos hw]
    rw[c1]at he
    refine op_wp hcall h hev c3 c2 ?_
    intro v w' K' N' hK hk hrel
    refine hKn _ _ (ih hc.2 he (hrel.kill _) ?_)
    intro a'' w'' K'' N'' hK' hk' hdf hrel'
    exact hn a'' w'' K'' N'' (hK.trans hK') (hk.trans hk') (by rw[hdf,defers_put]) hrel'
   | false=>
    simp only at he
    rw[if_neg (by simp[hw])]
    rw[c1]at he
    refine hKn _ _ (ih hc.2 he ((h.skip o.dst c2).kill _) ?_)
    intro a'' w'' K'' N'' hK' hk' hdf hrel'
    exact hn a'' w'' K'' N'' hK' hk' (by rw[hdf,defers_put]) hrel'
end
def Opd.tmps:Opd->List Nat
 | .t n=>[n]
 | _=>[]
def optTmps:Option Opd->List Nat
 | some x=>x.tmps
 | none=>[]
def LOp.tmps:LOp->List Nat
 | .mv x | .nilck x | .load _ _ _ x | .un _ x | .conv _ x | .toStr x | .toBytes _ x | .slice0 _ _ x | .faddr _ x | .field _ _ _ x | .extract _ x | .len x | .lenS x | .box _ _ x | .mkmth _ x | .isnil _ x=>x.tmps
 | .pick c a b=>c.tmps++a.tmps++b.tmps
 | .alloc _ _=>[]
 | .build _ ps=>ps.flatMap fun p=>p.2.2.tmps
 | .bslice _ _ xs=>xs.flatMap Opd.tmps
 | .store _ _ _ x v=>x.tmps++v.tmps
 | .bin _ x y | .binb _ x y | .eqs _ _ x y | .max x y | .append _ _ _ x y | .iaddr _ _ x y | .index x y | .apu _ _ _ _ _ x y=>x.tmps++y.tmps
 | .mkfn _ xs | .bsu _ _ _ _ xs=>xs.flatMap Opd.tmps
 | .mkslice _ _ _ _ n=>n.tmps
 | .slice _ lo hi x | .sliceS lo hi x=>optTmps lo++optTmps hi++x.tmps
 | .call _ _ _ _ _ _ xs=>xs.flatMap fun p=>p.1.tmps
 | .callv _ _ _ _ _ x xs=>x.tmps++xs.flatMap fun p=>p.1.tmps
def LOp.robj:LOp->List Nat
 | .load _ _ rd _ | .iaddr _ rd _ _=>rd.toList
 | .store _ o us _ _=>o::us
 | .call _ _ ws _ _ bs _ | .callv _ ws _ _ bs _ _=>ws++bs
 | .bsu _ _ _ us _=>us
 | .apu _ _ _ gx gy _ _=>gx.toList++gy.toList
 | _=>[]
def LOp.wobj:LOp->List Nat
 | .store _ o us _ _=>o::us
 | .call _ _ ws _ us _ _ | .callv _ ws _ us _ _ _=>ws++us
 | .alloc o _ | .box o _ _ | .mkslice o _ _ _ _=>[o]
 | .bsu o _ _ us _=>o::us
 | .apu o _ _ gx gy _ _=>o::(gx.toList++gy.toList)
 | _=>[]
def LOp.ends:LOp->List Nat
 | .bslice g _ _ | .slice0 g _ _=>[g]
 | .append g _ gx _ _=>g::gx.toList
 | .call _ _ _ ts _ _ _ | .callv _ _ ts _ _ _ _=>ts
 | _=>[]
def LOp.cls:LOp->Option Nat
 | .call _ g _ _ _ _ _ | .callv g _ _ _ _ _ _=>some g
 | _=>none
def LOp.moves:LOp->Bool
 | .call _ _ _ _ _ _ xs | .callv _ _ _ _ _ _ xs=>xs.any (·.2)
 | _=>false
structure Agr (D ts os al:List Nat) (s t:LSt):Prop where
 env:∀x∈ts,aget t.env x=(aget s.env x).map (LV.dem D)
 obj:∀o∈os,aget t.objs o=(aget s.objs o).map (Obj.dem D)
 new:∀o∈al,noName s o=true/\noName t o=true
def Eff.demE (D:List Nat) (e:Eff):Eff:=⟨e.dem,e.upd.map fun x=>(x.1,x.2.map (Obj.dem D)),e.val.map (LV.dem D)⟩
theorem int?_dem (D:List Nat) (l:LV):(l.dem D).int?=l.int?:=by cases l<;>first | rfl | (simp only[LV.dem];split<;>rfl)
theorem nilOf_dem (D:List Nat) (l:LV):nilOf (l.dem D)=nilOf l:=by
 cases l with
 | own g sz es=>simp only[LV.dem];split<;>(cases es<;>rfl)
 | _=>rfl
theorem bool?_dem (D:List Nat) (l:LV):(l.dem D).bool?=l.bool?:=by cases l<;>first | rfl | (simp only[LV.dem];split<;>rfl)
theorem str?_dem (D:List Nat) (l:LV):(l.dem D).str?=l.str?:=by cases l<;>first | rfl | (simp only[LV.dem];split<;>rfl)
theorem sc?_dem (D:List Nat) (l:LV):(l.dem D).sc?=l.sc?:=by cases l<;>first | rfl | (simp only[LV.dem];split<;>rfl)
theorem eqsL_dem (D:List Nat):∀ (ks:List Nat) (as bs:List LV),eqsL ks (LV.demL D as) (LV.demL D bs)=eqsL ks as bs:=by
 intro ks
 induction ks with
 | nil=>intro as bs;cases as<;>cases bs<;>rfl
 | cons k ks ih=>
  intro as bs
  cases as with
  | nil=>cases bs<;>rfl
  | cons a as=>
   cases bs with
   | nil=>rfl
   | cons b bs=>simp only[LV.demL,eqsL,sc?_dem,ih]
theorem eqsOf_dem (D:List Nat) (ks:List Nat) (a b:LV):eqsOf ks (a.dem D) (b.dem D)=eqsOf ks a b:=by
 cases a<;>cases b<;>simp only[LV.dem]<;>(repeat' split)<;>first | rfl | exact eqsL_dem D _ _ _
theorem lst?_dem (D:List Nat) (l:LV):(l.dem D).lst?=l.lst?:=by cases l<;>first | rfl | (simp only[LV.dem];split<;>rfl)
theorem cat?_dem (D:List Nat) (l:LV):(l.dem D).cat?=l.cat?:=by
 cases l with
 | pv p=>rfl
 | own g sz es=>simp only[LV.dem];split<;>rfl
 | _=>first | rfl | (simp only[LV.dem];rfl)
theorem toPV_dem (D:List Nat) (l:LV):(l.dem D).toPV=l.toPV:=by cases l<;>first | rfl | (simp only[LV.dem];split<;>rfl)
theorem toPVs_dem (D:List Nat):∀ls:List LV,toPVs (LV.demL D ls)=toPVs ls
 | []=>rfl
 | l::ls=>by simp only[LV.demL,toPVs,toPV_dem,toPVs_dem D ls]
theorem cells_dem (D:List Nat) (l:LV):(l.dem D).cells=LV.demL D l.cells:=by
 cases l<;>try rfl
 simp only[LV.dem];split<;>rename_i h<;>simp only[LV.cells,LV.demL,LV.dem,h]<;>rfl
theorem flatL_dem (D:List Nat) (ls:List LV):(LV.demL D ls).all LV.flat=ls.all LV.flat:=by
 induction ls with
 | nil=>rfl
 | cons a l ih=>simp only[LV.demL,List.all_cons,LV.flat_dem,ih]
theorem len_dem (D:List Nat) (ls:List LV):(LV.demL D ls).length=ls.length:=by simp[LV.demL_map]
theorem cellsN_dem (D:List Nat) (n:Nat) (l:LV):(l.dem D).cellsN n=(l.cellsN n).map (LV.demL D):=by
 simp only[LV.cellsN,cells_dem,len_dem,flatL_dem]
 split<;>rfl
theorem ofCells_dem (D:List Nat) (ag:Bool) (ls:List LV):ofCells ag (LV.demL D ls)=(ofCells ag ls).map (LV.dem D):=by
 unfold ofCells
 cases ag with
 | true=>rfl
 | false=>
  match ls with
  | []=>rfl
  | [l]=>rfl
  | _::_::_=>rfl
theorem drop_dem (D:List Nat) (ls:List LV) (k:Nat):(LV.demL D ls).drop k=LV.demL D (ls.drop k):=by simp[LV.demL_map]
theorem takeL_dem (D:List Nat) (ag:Bool):∀ (n:Nat) (ls:List LV) (k k':List LV->Option Eff) (_:∀l,k' (LV.demL D l)=(k l).map (Eff.demE D)),takeL n (LV.demL D ls) k'=(takeL n ls k).map (Eff.demE D)
 | 0,ls,k,k',h=>by simp only[takeL];exact h []
 | n+1,[],k,k',h=>rfl
 | n+1,l::ls,k,k',h=>by
  simp only[LV.demL,takeL]
  exact takeL_dem D ag n ls _ _ fun x=>h (l::x)
theorem putCells_dem (D:List Nat):∀ (cs:List LV) (k:Nat) (ls:List LV),putCells (LV.demL D cs) k (LV.demL D ls)=(putCells cs k ls).map (LV.demL D)
 | cs,_,[]=>by cases cs<;>simp[putCells,LV.demL]
 | [],_,_::_=>rfl
 | c::cs,k+1,l::ls=>by
  have:=putCells_dem D cs k (l::ls)
  simp only[LV.demL]at this
  simp only[LV.demL,putCells,this]
  cases putCells cs k (l::ls)<;>rfl
 | c::cs,0,l::ls=>by
  simp only[LV.demL,putCells,putCells_dem D cs 0 ls]
  cases putCells cs 0 ls<;>rfl
section
variable {D ts os al:List Nat}{s t:LSt}
theorem Agr.opd (h:Agr D ts os al s t){x:Opd}(hx:∀n∈x.tmps,n∈ts):t.opd x=(s.opd x).map (LV.dem D):=by
 cases x with
 | t n=>exact h.env n (hx n (by simp[Opd.tmps]))
 | c v=>rfl
 | nil sz=>rfl
 | f n=>rfl
theorem Agr.int (h:Agr D ts os al s t){x:Opd}(hx:∀n∈x.tmps,n∈ts):t.int x=s.int x:=by
 simp only[LSt.int,h.opd hx,Option.bind_map,Function.comp_def,int?_dem]
theorem Agr.optInt (h:Agr D ts os al s t){x:Option Opd}(hx:∀n∈optTmps x,n∈ts):t.optInt x=s.optInt x:=by
 cases x with
 | none=>rfl
 | some x=>simp only[LSt.optInt,h.int (x:=x) hx]
theorem Agr.opds (h:Agr D ts os al s t):∀ {xs:List Opd},(∀n∈xs.flatMap Opd.tmps,n∈ts)->t.opds xs=(s.opds xs).map (LV.demL D)
 | [],_=>rfl
 | x::xs,hx=>by
  simp only[LSt.opds,h.opd (x:=x) fun n hn=>hx n (by simp[hn]),Agr.opds h (xs:=xs) fun n hn=>hx n (by simp only[List.flatMap_cons,List.mem_append];exact .inr hn)]
  cases s.opd x<;>simp
  cases s.opds xs<;>simp[LV.demL]
theorem Agr.rows (h:Agr D ts os al s t){sz:Nat}:∀ {xs:List Opd},(∀n∈xs.flatMap Opd.tmps,n∈ts)->rowsOf t sz xs=rowsOf s sz xs
 | [],_=>rfl
 | x::xs,hx=>by
  simp only[rowsOf,h.opd (x:=x) fun n hn=>hx n (by simp[hn]),Agr.rows h (xs:=xs) fun n hn=>hx n (by simp only[List.flatMap_cons,List.mem_append];exact .inr hn)]
  cases s.opd x<;>simp[cells_dem,toPVs_dem]
theorem Agr.parts (h:Agr D ts os al s t):∀ {ps:List (Nat×Nat×Opd)}{cs:List LV},(∀n∈ps.flatMap (fun p=>p.2.2.tmps),n∈ts)->partsOf t (LV.demL D cs) ps=(partsOf s cs ps).map (LV.demL D)
 | [],_,_=>rfl
 | (off,n,x)::ps,cs,hx=>by
  simp only[partsOf,h.opd (x:=x) fun n hn=>hx n (by simp[hn])]
  cases s.opd x with
  | none=>rfl
  | some l=>
   simp only[Option.map_some,obb,cellsN_dem]
   cases l.cellsN n with
   | none=>rfl
   | some ls=>
    simp only[Option.map_some,obb,putCells_dem]
    cases putCells cs off ls with
    | none=>rfl
    | some cs'=>
     simp only[Option.map_some,obb]
     exact Agr.parts h fun n hn=>hx n (by simp only[List.flatMap_cons,List.mem_append];exact .inr hn)
theorem pureE_dem (l:LV):pureE (l.dem D)=(pureE l).map (Eff.demE D):=rfl
theorem Agr.rowsO (h:Agr D ts os al s t){o:Nat}(ho:o∈os):rowsOfO t.objs o=rowsOfO s.objs o:=by
 unfold rowsOfO
 rw[h.obj o ho]
 cases aget s.objs o with
 | none=>rfl
 | some x=>cases x<;>rfl
mutual
theorem Agr.arg (h:Agr D ts os al s t):∀ {l:LV},(∀o∈l.names,o∈os)->(l.dem D).arg t.objs=l.arg s.objs
 | .pv _,_=>rfl
 | .nils _,_=>rfl
 | .nk _ _ _,_=>rfl
 | .own _ _ _,_=>by simp only[LV.dem];split<;>rfl
 | .ref _ _,_=>rfl
 | .eref _ _ _,_=>rfl
 | .arr o _,ho=>by simp only[LV.dem,LV.arg,h.rowsO (ho o (by simp[LV.names]))]
 | .agg ls,ho=>by simp only[LV.dem,LV.arg,Agr.argL h (l:=ls) (by simpa[LV.names]using ho)]
 | .tup _,_=>rfl
 | .clo _ _,_=>rfl
 | .box _ _ _,_=>rfl
 | .dead,_=>rfl
theorem Agr.argL (h:Agr D ts os al s t):∀ {l:List LV},(∀o∈LV.namesL l,o∈os)->LV.argL t.objs (LV.demL D l)=LV.argL s.objs l
 | [],_=>rfl
 | l::ls,ho=>by simp only[LV.demL,LV.argL,Agr.arg h (l:=l) fun o hh=>ho o (by simp[LV.namesL,hh]),Agr.argL h (l:=ls) fun o hh=>ho o (by simp[LV.namesL,hh])]
end
theorem Agr.hand (h:Agr D ts os al s t):∀ {xs:List (Opd×Bool)}{k i:Nat}{hd:Hand},xs.any (·.2)=false->(∀n∈xs.flatMap (fun p=>p.1.tmps),n∈ts)->(∀o∈hd.bs,o∈os)->(handOf t k i xs=some hd↔handOf s k i xs=some hd)
 | [],_,_,_,_,_,_=>Iff.rfl
 | (x,true)::xs,_,_,_,hm,_,_=>by simp at hm
 | (x,false)::xs,k,i,hd,hm,hx,hb=>by
  have hm':xs.any (·.2)=false:=by simpa using hm
  have hx':∀n∈xs.flatMap (fun p=>p.1.tmps),n∈ts:=fun n hn=>hx n (by simp only[List.flatMap_cons,List.mem_append];exact .inr hn)
  simp only[handOf,h.opd (x:=x) fun n hn=>hx n (by simp[hn])]
  cases s.opd x with
  | none=>simp
  | some l=>
   simp only[Option.map_some,obb,LV.names_dem]
   constructor
   .intro he
    obtain⟨l',h1,he⟩:=obs he
    obtain⟨hd',h2,he⟩:=obs he
    simp only[osi]at he
    subst he
    rw[h.arg fun o ho=>hb o (by simp[ho])]at h1
    have:=(Agr.hand h (k:=k) (i:=i) (hd:=hd') hm' hx' fun o ho=>hb o (by simp[ho])).1 h2
    simp only[h1,this,obb]
   .intro he
    obtain⟨l',h1,he⟩:=obs he
    obtain⟨hd',h2,he⟩:=obs he
    simp only[osi]at he
    subst he
    rw[h.arg fun o ho=>hb o (by simp[ho])]
    have:=(Agr.hand h (k:=k) (i:=i) (hd:=hd') hm' hx' fun o ho=>hb o (by simp[ho])).2 h2
    simp only[h1,this,obb]
mutual
theorem dem_id:∀ {l:LV},(∀g∈l.toks,g∉D)->l.dem D=l
 | .pv _,_=>rfl
 | .nils _,_=>rfl
 | .nk _ _ _,_=>rfl
 | .own g _ _,h=>by
  have:¬D.contains g=true:=by simpa using h g (by simp[LV.toks])
  simp only[LV.dem,if_neg this]
 | .ref _ _,_=>rfl
 | .eref _ _ _,_=>rfl
 | .arr _ _,_=>rfl
 | .agg ls,h=>by simp only[LV.dem,demL_id (ls:=ls) (by simpa[LV.toks]using h)]
 | .tup ls,h=>by simp only[LV.dem,demL_id (ls:=ls) (by simpa[LV.toks]using h)]
 | .clo _ ls,h=>by simp only[LV.dem,demL_id (ls:=ls) (by simpa[LV.toks]using h)]
 | .box _ _ _,_=>rfl
 | .dead,_=>rfl
theorem demL_id:∀ {ls:List LV},(∀g∈LV.toksL ls,g∉D)->LV.demL D ls=ls
 | [],_=>rfl
 | l::ls,h=>by
  simp only[LV.demL,dem_id (l:=l) fun g hg=>h g (by simp[LV.toksL,hg]),demL_id (ls:=ls) fun g hg=>h g (by simp[LV.toksL,hg])]
end
theorem demE_nil (e:Eff):e.demE []=e:=by
 obtain⟨d,u,v⟩:=e
 simp only[Eff.demE,Eff.mk.injEq,true_and]
 refine⟨?_,by cases v<;>simp[LV.dem_nil]⟩
 have:(fun x:Nat×Option Obj=>(x.1,x.2.map (Obj.dem [])))=id:=funext fun⟨a,b⟩=>by cases b<;>simp[Obj.dem_nil]
 rw[this];simp
theorem hand_none:∀ {xs:List (Opd×Bool)}{k i:Nat}{hd:Hand},xs.any (·.2)=false->handOf s k i xs=some hd->hd.os=[]/\hd.ns=[]/\hd.gs=[]
 | [],_,_,_,_,h=>by simp only[handOf,osi]at h;subst h;exact⟨rfl,rfl,rfl⟩
 | (x,true)::xs,_,_,_,hm,_=>by simp at hm
 | (x,false)::xs,k,i,hd,hm,h=>by
  simp only[handOf]at h
  obtain⟨l,_,h⟩:=obs h
  obtain⟨l',_,h⟩:=obs h
  obtain⟨hd',hh,h⟩:=obs h
  simp only[osi]at h
  subst h
  exact hand_none (xs:=xs) (hd:=hd') (by simpa using hm) hh
theorem givL_cases {os:List (Nat×Obj)}{l:LV}{ls:List LV}{i:Nat}{p:List LV×List (Nat×Obj)×List Nat}(he:givL os i (l::ls)=some p):
  (∃o n q p',l = .arr o n/\rowsOfO os o=some q/\givL os (i+1) ls=some p'/\p=(.arr (newName o i) n::p'.1,(newName o i,.rows q.1 q.2.1 q.2.2 none)::p'.2.1,o::p'.2.2)) \/
  (∃l' p',givL os i ls=some p'/\p=(l'::p'.1,p'.2.1,p'.2.2)/\∀os' p'',givL os' i ls=some p''->givL os' i (l::ls)=some (l'::p''.1,p''.2.1,p''.2.2)):=by
 cases l with
 | arr o n=>
  simp only[givL]at he
  obtain⟨q,hq,he⟩:=obs he
  obtain⟨p',hp,he⟩:=obs he
  simp only[osi]at he
  exact .inl ⟨o,n,q,p',rfl,hq,hp,he.symm⟩
 | dead=>
  simp only[givL]at he
  obtain⟨p',hp,he⟩:=obs he
  simp only[osi]at he
  exact .inr ⟨.dead,p',hp,he.symm,fun os' p'' h=>by simp only[givL,h,obb]⟩
 | _=>
  simp only[givL]at he
  obtain⟨q,hq,he⟩:=obs he
  obtain⟨p',hp,he⟩:=obs he
  simp only[osi]at he
  exact .inr ⟨.pv q,p',hp,he.symm,fun os' p'' h=>by simp only[givL,hq,h,obb]⟩
theorem givL_len {os:List (Nat×Obj)}:∀ {ls:List LV}{i:Nat}{p:List LV×List (Nat×Obj)×List Nat},givL os i ls=some p->p.2.2.length=p.2.1.length
 | [],i,p,he=>by simp only[givL,osi]at he;subst he;rfl
 | l::ls,i,p,he=>by
  rcases givL_cases he with⟨_,_,_,p',_,_,h,rfl⟩ | ⟨_,p',h,rfl,_⟩
  .simp[givL_len h]
  .exact givL_len (p:=p') h
theorem givL_same (h:Agr [] ts os al s t):∀ {ls:List LV}{i:Nat}{p:List LV×List (Nat×Obj)×List Nat},givL s.objs i ls=some p->(∀o∈p.2.2,o∈os)->givL t.objs i ls=some p
 | [],i,p,he,_=>he
 | l::ls,i,p,he,ho=>by
  rcases givL_cases he with⟨o,n,q,p',rfl,hq,hp,rfl⟩ | ⟨l',p',hp,rfl,hr⟩
  .simp only[givL,h.rowsO (ho o (by simp)),hq,givL_same h hp fun o' ho'=>ho o' (by simp[ho']),obb]
  .exact hr _ _ (givL_same h hp ho)
theorem hand_same (h:Agr [] ts os al s t):∀ {xs:List (Opd×Bool)}{k i:Nat}{hd:Hand},handOf s k i xs=some hd->(∀n∈xs.flatMap (fun p=>p.1.tmps),n∈ts)->(∀o∈hd.ns,o∈os)->(∀o∈hd.bs,o∈os)->handOf t k i xs=some hd
 | [],_,_,_,he,_,_,_=>he
 | (x,m)::xs,k,i,hd,he,hx,ho,hb=>by
  have hxo:t.opd x=s.opd x:=by
   rw[h.opd (x:=x) fun n hn=>hx n (by simp[hn])]
   cases s.opd x<;>simp[LV.dem_nil]
  have hx':∀n∈xs.flatMap (fun p=>p.1.tmps),n∈ts:=fun n hn=>hx n (by simp only[List.flatMap_cons,List.mem_append];exact .inr hn)
  cases m with
  | false=>
   simp only[handOf]at he ⊢
   rw[hxo]
   obtain⟨l,hl,he⟩:=obs he
   obtain⟨l',hl',he⟩:=obs he
   obtain⟨hd',hh,he⟩:=obs he
   simp only[osi]at he
   subst he
   have harg:=h.arg (l:=l) fun o hh=>hb o (by simp[hh])
   rw[LV.dem_nil]at harg
   simp only[hl,harg,hl',obb,hand_same h hh hx' ho fun o hh=>hb o (by simp[hh])]
  | true=>
   simp only[handOf]at he ⊢
   rw[hxo]
   obtain⟨l,hl,he⟩:=obs he
   rw[hl]
   simp only[obb]
   split at he
   .rename_i o
    obtain⟨ob,hob,he⟩:=obs he
    split at he
    .rename_i cs
     obtain⟨p,hp,he⟩:=obs he
     split at he
     case isFalse=>cases he
     rename_i hok
     obtain⟨hd',hh,he⟩:=obs he
     simp only[osi]at he
     subst he
     have hobt:aget t.objs o=some (.var cs):=by
      rw[h.obj o (ho o (by simp)),hob]
      simp[Obj.dem_nil]
     simp only[hobt,hp,obb,if_pos hok,hand_same h hh hx' (fun o' ho'=>ho o' (by simp[ho'])) hb]
    .cases he
   .rename_i o n
    obtain⟨q,hq,he⟩:=obs he
    obtain⟨hd',hh,he⟩:=obs he
    simp only[osi]at he
    subst he
    simp only[h.rowsO (ho o (by simp)),hq,obb,hand_same h hh hx' (fun o' ho'=>ho o' (by simp[ho'])) hb]
   .rename_i hne1 hne2
    split at he
    .rename_i ls hls
     obtain⟨p,hp,he⟩:=obs he
     obtain⟨hd',hh,he⟩:=obs he
     simp only[osi]at he
     subst he
     simp only[givL_same h hp fun o' ho'=>ho o' (by simp[ho']),obb,hand_same h hh hx' (fun o' ho'=>ho o' (by simp[ho'])) hb]
    obtain⟨p,hp,he⟩:=obs he
    split at he
    case isFalse=>cases he
    rename_i hnm
    obtain⟨hd',hh,he⟩:=obs he
    simp only[osi]at he
    subst he
    simp only[hp,obb,if_pos hnm,hand_same h hh hx' ho hb]
theorem Agr.symm (h:Agr [] ts os al s t):Agr [] ts os al t s:=
 ⟨fun x hx=>by have:=h.env x hx;rw[this];cases aget s.env x<;>simp[LV.dem_nil],fun x hx=>by have:=h.obj x hx;rw[this];cases aget s.objs x<;>simp[Obj.dem_nil],fun o ho=>⟨(h.new o ho).2,(h.new o ho).1⟩⟩
theorem bind_two {α β:Type}{A B:Option α}{f:α->Option β}{good:α->Prop}(h1:∀p,good p->(A=some p↔B=some p)) (hf:∀p,¬good p->f p=none):A.bind f=B.bind f:=by
 cases hA:A with
 | none=>
  cases hB:B with
  | none=>rfl
  | some q=>
   simp only[Option.bind_none,obb]
   by_cases hg:good q
   .have:=(h1 q hg).2 hB
    rw[hA]at this;cases this
   .exact (hf q hg).symm
 | some p=>
  by_cases hg:good p
  .rw[(h1 p hg).1 hA]
  .simp only[obb,hf p hg]
   cases hB:B with
   | none=>rfl
   | some q=>
    simp only[obb]
    by_cases hg':good q
    .have:=(h1 q hg').2 hB
     rw[hA]at this
     simp only[osi]at this
     exact absurd (this▸hg') hg
    .exact (hf q hg').symm
theorem callEff_agr (h:Agr D ts os al s t){g:Nat}{us:List Nat}{hd:Hand}{r:Fin}(hu:∀o∈us,o∈al):callEff t g us hd r=callEff s g us hd r:=by
 have h1:us.all (noName s)=true:=List.all_eq_true.2 fun o ho=>(h.new o (hu o ho)).1
 have h2:us.all (noName t)=true:=List.all_eq_true.2 fun o ho=>(h.new o (hu o ho)).2
 unfold callEff
 rw[h1,h2]
theorem backUpd_dem:∀ {us:List Nat}{r:List (Option Obj)}{g:Nat},backOk [] r=true->(backUpd g [] [] us r).map (fun x=>(x.1,x.2.map (Obj.dem D)))=backUpd g [] [] us r
 | [],r,_,_=>by cases r<;>rfl
 | u::us,[],_,_=>rfl
 | u::us,x::r,g,h=>by
  cases x with
  | none=>simp[backOk]at h
  | some x=>
   cases x with
   | var cs=>
    simp only[backOk,bat]at h
    have:∀ {l:List LV},l.all LV.isPv=true->LV.demL D l=l:=fun {l} hl=>by
     induction l with
     | nil=>rfl
     | cons c r ih=>
      simp only[List.all_cons,bat]at hl
      obtain⟨h1,h2⟩:=hl
      cases c<;>first | (cases h1;done) | simp only[LV.demL,LV.dem,ih h2]
    simp only[backUpd,List.map_cons,Option.map_some,Obj.dem,this h.1,backUpd_dem (us:=us) (g:=g) h.2]
   | rows a b c hole=>
    cases hole with
    | some _=>simp[backOk,freshOk]at h
    | none=>
     simp only[backOk,bat]at h
     simp only[backUpd,List.map_cons,Option.map_some,Obj.dem,backUpd_dem (us:=us) (g:=g) h.2]
theorem call_nat (h:Agr D ts os al s t){xs:List (Opd×Bool)}{ws gs us bs:List Nat}{g:Nat}(K:Hand->Option Fin) (hm:D=[]\/xs.any (·.2)=false) (hx:∀n∈xs.flatMap (fun p=>p.1.tmps),n∈ts) (ho:∀o∈ws++bs,o∈os) (hu:∀o∈us,o∈al)
  (hg:∀d∈D,d%4096≠g):
  ((handOf t 0 0 xs).bind fun h=>if h.ns=ws/\h.gs=gs/\h.bs=bs then (K h).bind fun r=>callEff t g us h r else none) =
  ((handOf s 0 0 xs).bind fun h=>if h.ns=ws/\h.gs=gs/\h.bs=bs then (K h).bind fun r=>callEff s g us h r else none).map (Eff.demE D):=by
 have e1:((handOf t 0 0 xs).bind fun h=>if h.ns=ws/\h.gs=gs/\h.bs=bs then (K h).bind fun r=>callEff t g us h r else none) =
   ((handOf s 0 0 xs).bind fun h=>if h.ns=ws/\h.gs=gs/\h.bs=bs then (K h).bind fun r=>callEff s g us h r else none):=by
  have:(fun h:Hand=>if h.ns=ws/\h.gs=gs/\h.bs=bs then (K h).bind fun r=>callEff t g us h r else none)=fun h:Hand=>if h.ns=ws/\h.gs=gs/\h.bs=bs then (K h).bind fun r=>callEff s g us h r else none:=by
   funext hd
   split
   .cases K hd with
    | none=>rfl
    | some r=>simp only[obb,callEff_agr h hu]
   .rfl
  rw[this]
  refine bind_two (good:=fun hd=>hd.ns=ws/\hd.gs=gs/\hd.bs=bs) (fun hd hgd=>?_) (fun hd hgd=>if_neg hgd)
  have hb:∀o∈hd.bs,o∈os:=fun o hh=>ho o (by rw[hgd.2.2]at hh;simp[hh])
  have hn:∀o∈hd.ns,o∈os:=fun o hh=>ho o (by rw[hgd.1]at hh;simp[hh])
  rcases hm with rfl | hm
  .exact⟨fun e=>hand_same h.symm e hx hn hb,fun e=>hand_same h e hx hn hb⟩
  .exact h.hand hm hx hb
 rw[e1]
 rcases hm with rfl | hm
 .have hid:∀x:Option Eff,x.map (Eff.demE [])=x:=fun x=>by cases x<;>simp[demE_nil]
  rw[hid]
 .cases hs:handOf s 0 0 xs with
  | none=>rfl
  | some hd=>
   simp only[obb]
   split
   .cases K hd with
    | none=>rfl
    | some r=>
     simp only[obb]
     cases hc:callEff s g us hd r with
     | none=>rfl
     | some e=>
      simp only[Option.map_some,osi]
      obtain⟨n1,n2,n3⟩:=hand_none hm hs
      unfold callEff at hc
      split at hc
      case isFalse=>cases hc
      rename_i hcond
      simp only[osi]at hc
      subst hc
      obtain⟨_,_,_,_,_,hg4,_,_,_,_,hbk,_⟩:=hcond
      rw[n1]at hbk
      simp only[Eff.demE,n2,n1,backUpd_dem hbk,Option.map_some,Eff.mk.injEq,osi,true_and]
      refine (dem_id fun q hq hd'=>?_).symm
      rw[LV.toks_ren,LV.toks_imp]at hq
      obtain⟨q',_,rfl⟩:=List.mem_map.1 hq
      have:=hg _ hd'
      omega
   .rfl
theorem Agr.into (h:Agr D ts os al s t){sh:Shp}{l:LV}{p:PV×List Nat}(hp:∀o∈p.2,o∈os):(l.dem D).into t.objs sh=some p↔l.into s.objs sh=some p:=by
 cases sh with
 | v=>simp only[LV.into,toPV_dem]
 | self=>cases l<;>first | exact Iff.rfl | (simp only[LV.dem];split<;>exact Iff.rfl)
 | u sh=>
  cases l with
  | arr o n=>
   simp only[LV.dem,LV.into]
   by_cases ho:o∈os
   .rw[h.rowsO ho]
   .have key:∀ (X:Option (Nat×List (List PV)×List Shp)),¬(X.bind fun r=>if Shp.eqL r.2.2 sh=true then some (PV.lst r.1 r.2.1,[o]) else none)=some p:=fun X hX=>by
     obtain⟨r,_,hX⟩:=obs hX
     split at hX
     .simp only[osi]at hX;subst hX;exact ho (hp o (by simp))
     .cases hX
    exact⟨fun e=>absurd e (key _),fun e=>absurd e (key _)⟩
  | own g sz es=>simp only[LV.dem];split<;>exact Iff.rfl
  | _=>exact Iff.rfl
theorem Agr.intoL (h:Agr D ts os al s t):∀ {ls:List LV}{sh:List Shp}{p:List PV×List Nat},(∀o∈p.2,o∈os)->(LV.intoL t.objs sh (LV.demL D ls)=some p↔LV.intoL s.objs sh ls=some p)
 | [],sh,p,_=>by cases sh<;>exact Iff.rfl
 | l::ls,sh,p,hp=>by
  simp only[LV.demL]
  rw[intoL_cons,intoL_cons]
  constructor
  .intro he
   obtain⟨a,h1,he⟩:=obs he
   obtain⟨b,h2,he⟩:=obs he
   simp only[osi]at he
   subst he
   have h1:=(h.into fun o ho=>hp o (by simp[ho])).1 h1
   have h2:=(Agr.intoL h fun o ho=>hp o (by simp[ho])).1 h2
   simp only[h1,h2,obb]
  .intro he
   obtain⟨a,h1,he⟩:=obs he
   obtain⟨b,h2,he⟩:=obs he
   simp only[osi]at he
   subst he
   have h1:=(h.into fun o ho=>hp o (by simp[ho])).2 h1
   have h2:=(Agr.intoL h fun o ho=>hp o (by simp[ho])).2 h2
   simp only[h1,h2,obb]
theorem Agr.rowsIn (h:Agr D ts os al s t){sh:List Shp}{sz:Nat}:∀ {xs:List Opd}{p:List (List PV)×List Nat},(∀n∈xs.flatMap Opd.tmps,n∈ts)->(∀o∈p.2,o∈os)->(rowsIn t sh sz xs=some p↔rowsIn s sh sz xs=some p)
 | [],p,_,_=>Iff.rfl
 | x::xs,p,hx,hp=>by
  have hx':∀n∈xs.flatMap Opd.tmps,n∈ts:=fun n hn=>hx n (by simp only[List.flatMap_cons,List.mem_append];exact .inr hn)
  simp only[LM.rowsIn,h.opd (x:=x) fun n hn=>hx n (by simp[hn])]
  cases s.opd x with
  | none=>simp
  | some l=>
   simp only[Option.map_some,obb,cells_dem]
   constructor
   .intro he
    obtain⟨a,h1,he⟩:=obs he
    split at he
    case isFalse=>cases he
    rename_i hl
    obtain⟨b,h2,he⟩:=obs he
    simp only[osi]at he
    subst he
    have h1:=(h.intoL fun o ho=>hp o (by simp[ho])).1 h1
    have h2:=(Agr.rowsIn h hx' fun o ho=>hp o (by simp[ho])).1 h2
    simp only[h1,h2,obb,if_pos hl]
   .intro he
    obtain⟨a,h1,he⟩:=obs he
    split at he
    case isFalse=>cases he
    rename_i hl
    obtain⟨b,h2,he⟩:=obs he
    simp only[osi]at he
    subst he
    have h1:=(h.intoL fun o ho=>hp o (by simp[ho])).2 h1
    have h2:=(Agr.rowsIn h hx' fun o ho=>hp o (by simp[ho])).2 h2
    simp only[h1,h2,obb,if_pos hl]
end
section
variable {D ts os al:List Nat}{s t:LSt}{call:CallF}
theorem objdem_var (cs:List LV):(Obj.var cs).dem D = .var (LV.demL D cs):=rfl
theorem objdem_rows (sz:Nat) (es:List (List PV)) (sh:List Shp) (hole:Option (Nat×Nat×Nat×Nat)):(Obj.rows sz es sh hole).dem D = .rows sz es sh hole:=rfl
theorem rowLV_dem (sh:List Shp) (hole:Option (Nat×Nat×Nat×Nat)) (i:Nat) (e:List PV):LV.demL D (rowLV sh hole i e)=rowLV sh hole i e:=demL_id fun g hg=>by rw[rowLV_toks]at hg;cases hg
theorem gone_dem (us:List Nat):(gone us).map (fun x=>(x.1,x.2.map (Obj.dem D)))=gone us:=by simp[gone]
theorem takeN_map {n:Nat}{ps:List PV}{k:List LV->Option Eff}(h:∀ls:List LV,(∀l∈ls,∃p,l = .pv p)->k ls=(k ls).map (Eff.demE D)):takeN n ps k=(takeN n ps k).map (Eff.demE D):=by
 have key:∀ (n:Nat) (ps:List PV) (k:List LV->Option Eff),(∀ls:List LV,(∀l∈ls,∃p,l = .pv p)->k ls=(k ls).map (Eff.demE D))->takeN n ps k=(takeN n ps k).map (Eff.demE D):=by
  intro n
  induction n with
  | zero=>intro ps k h;simp only[takeN];exact h [] (by simp)
  | succ n ih=>
   intro ps k h
   cases ps with
   | nil=>rfl
   | cons p ps=>
    simp only[takeN]
    exact ih ps _ fun ls hl=>h (.pv p::ls) fun l hm=>by
     rcases lm1 hm with rfl | hm
     .exact⟨_,rfl⟩
     .exact hl l hm
 exact key n ps k h
theorem demL_pv:∀ {ls:List LV},(∀l∈ls,∃p,l=LV.pv p)->LV.demL D ls=ls
 | [],_=>rfl
 | l::ls,h=>by
  obtain⟨p,rfl⟩:=h l (by simp)
  simp only[LV.demL,LV.dem,demL_pv (ls:=ls) fun l hl=>h l (by simp[hl])]
theorem dem_own (D:List Nat) (g sz:Nat) (es:List (List PV)):(LV.own g sz es).dem D = .pv (.lst sz es)\/(LV.own g sz es).dem D = .own g sz es:=by
 simp only[LV.dem];split<;>simp
theorem unbox_dem (l:LV):(l.dem D).unbox=l.unbox.dem D:=by
 cases l with
 | own g sz es=>
  show ((LV.own g sz es).dem D).unbox=(LV.own g sz es).dem D
  rcases dem_own D g sz es with e | e<;>rw[e]<;>rfl
 | _=>rfl
theorem unboxL_dem (ls:List LV):(LV.demL D ls).map LV.unbox=LV.demL D (ls.map LV.unbox):=by
 induction ls with
 | nil=>rfl
 | cons a l ih=>simp only[LV.demL,List.map_cons,unbox_dem,ih]
theorem bind_dem {x:Opd}{f f':LV->Option Eff}(h:Agr D ts os al s t) (hx:∀n∈x.tmps,n∈ts) (hf:∀l,f' (l.dem D)=(f l).map (Eff.demE D)):(t.opd x).bind f'=((s.opd x).bind f).map (Eff.demE D):=by
 rw[h.opd hx]
 cases s.opd x with
 | none=>rfl
 | some l=>exact hf l
theorem sliceL_dem {sz:Nat}{es:List (List PV)}{lo hi:Option Int}:(sliceL sz es lo hi).bind pureE=((sliceL sz es lo hi).bind pureE).map (Eff.demE D):=by
 unfold sliceL
 simp only[]
 split<;>rfl
theorem sliceS_dem {b:ByteArray}{lo hi:Option Int}:(LM.sliceS b lo hi).bind pureE=((LM.sliceS b lo hi).bind pureE).map (Eff.demE D):=by
 unfold LM.sliceS
 simp only[]
 split<;>rfl
theorem mem3 {a b c:List Nat}(h:∀n∈a++b++c,n∈ts):(∀n∈a,n∈ts)/\(∀n∈b,n∈ts)/\∀n∈c,n∈ts:=
 ⟨fun n hn=>h n (by simp[hn]),fun n hn=>h n (by simp[hn]),fun n hn=>h n (by simp[hn])⟩
theorem mem2 {a b:List Nat}(h:∀n∈a++b,n∈ts):(∀n∈a,n∈ts)/\∀n∈b,n∈ts:=
 ⟨fun n hn=>h n (by simp[hn]),fun n hn=>h n (by simp[hn])⟩
def LOp.zeros:LOp->List LV
 | .alloc _ zs | .build zs _=>zs
 | _=>[]
theorem ev_nat (h:Agr D ts os al s t){op:LOp}(h1:∀n∈op.tmps,n∈ts) (h2:∀o∈op.robj,o∈os) (h3:∀o∈op.allocs,o∈al) (h4:∀g∈op.ends,g∉D) (h5:∀g,op.cls=some g->∀d∈D,d%4096≠g)
  (h6:D=[]\/op.moves=false) (h7:LV.toksL op.zeros=[]):evOp call t op=(evOp call s op).map (Eff.demE D):=by
 cases op with
 | mv x=>exact bind_dem h h1 fun l=>pureE_dem l
 | nilck x=>
  refine bind_dem h h1 fun l=>?_
  cases l<;>try rfl
  .rename_i p;cases p<;>rfl
  .rename_i g0 z0 es0;rcases dem_own D g0 z0 es0 with e | e<;>rw[e]<;>rfl
 | pick c a b=>
  obtain⟨m1,m2,m3⟩:=mem3 h1
  refine bind_dem h m1 fun lc=>?_
  rw[bool?_dem]
  cases lc.bool? with
  | none=>rfl
  | some bc=>
   simp only[obb]
   cases bc with
   | true=>exact bind_dem h m2 fun l=>pureE_dem l
   | false=>exact bind_dem h m3 fun l=>pureE_dem l
 | alloc o zs=>
  obtain⟨n1,n2⟩:=h.new o (h3 o (by simp[LOp.allocs]))
  have hz:LV.demL D zs=zs:=demL_id fun g hg=>by rw[show LV.toksL zs=[] from h7]at hg;cases hg
  simp only[evOp,n1,n2,if_true,Option.map_some,Eff.demE,List.map_cons,List.map_nil,objdem_var,hz,LV.dem]
 | box o n x=>
  obtain⟨n1,n2⟩:=h.new o (h3 o (by simp[LOp.allocs]))
  refine bind_dem h h1 fun l=>?_
  simp only[cellsN_dem,n1,n2,if_true]
  cases l.cellsN n<;>rfl
 | build zs parts=>
  have hz:LV.demL D zs=zs:=demL_id fun g hg=>by rw[show LV.toksL zs=[] from h7]at hg;cases hg
  have:=h.parts (ps:=parts) (cs:=zs) h1
  rw[hz]at this
  simp only[evOp,this]
  cases partsOf s zs parts<;>rfl
 | bslice g sz xs=>
  simp only[evOp,h.rows (sz:=sz) (xs:=xs) h1]
  cases rowsOf s sz xs with
  | none=>rfl
  | some es=>
   have:¬D.contains g=true:=by simpa using h4 g (by simp[LOp.ends])
   simp only[obb,Option.map_some,Eff.demE,List.map_nil,LV.dem,if_neg this]
 | load n ag rd x=>
  refine bind_dem h h1 fun l=>?_
  cases l with
  | pv p=>
   cases p<;>try rfl
   rename_i cs
   refine takeN_map fun ls hl=>?_
   have:=ofCells_dem D ag ls
   rw[demL_pv hl]at this
   cases ho:ofCells ag ls with
   | none=>rfl
   | some l=>
    rw[ho]at this
    simp only[Option.map_some,osi]at this
    simp only[obb]
    rw[<-pureE_dem,<-this]
  | own g sz es=>rcases dem_own D g sz es with e | e<;>rw[e]<;>rfl
  | ref o off=>
   simp only[LV.dem]
   split
   .rename_i hr
    rw[h.obj o (h2 o (by simp[LOp.robj,hr]))]
    cases aget s.objs o with
    | none=>rfl
    | some ob=>
     cases ob with
     | rows _ _ _ _=>rfl
     | var cs=>
      simp only[Option.map_some,obb,objdem_var,drop_dem]
      refine takeL_dem D ag n _ _ _ fun ls=>?_
      rw[unboxL_dem,ofCells_dem]
      cases ofCells ag (ls.map LV.unbox)<;>rfl
   .rfl
  | eref o i off=>
   simp only[LV.dem]
   split
   .rename_i hr
    rw[h.obj o (h2 o (by simp[LOp.robj,hr]))]
    cases aget s.objs o with
    | none=>rfl
    | some ob=>
     cases ob with
     | var _=>rfl
     | rows z es sh hole=>
      simp only[Option.map_some,obb,objdem_rows]
      cases es[i]? with
      | none=>rfl
      | some e=>
       simp only[obb]
       have:=takeL_dem D ag n ((rowLV sh hole i e).drop off) (fun ls=>(ofCells ag ls).bind pureE) (fun ls=>(ofCells ag ls).bind pureE) fun ls=>by
        rw[ofCells_dem]
        cases ofCells ag ls<;>rfl
       rw[<-drop_dem,rowLV_dem]at this
       exact this
   .rfl
  | _=>rfl
 | store n rd us x v=>
  obtain⟨m1,m2⟩:=mem2 h1
  refine bind_dem h m1 fun lx=>?_
  rw[h.opd m2]
  cases s.opd v with
  | none=>rfl
  | some lv=>
   simp only[Option.map_some,obb,cellsN_dem]
   cases lv.cellsN n with
   | none=>rfl
   | some ls=>
    simp only[Option.map_some,obb]
    cases lx with
    | own g sz es=>rcases dem_own D g sz es with e | e<;>rw[e]<;>rfl
    | ref o off=>
     simp only[LV.dem]
     split
     .rename_i hr
      rw[h.obj o (h2 o (by simp[LOp.robj,hr]))]
      cases aget s.objs o with
      | none=>rfl
      | some ob=>
       cases ob with
       | rows _ _ _ _=>rfl
       | var cs=>
        simp only[Option.map_some,obb,objdem_var,putCells_dem]
        cases putCells cs off ls<;>rfl
     .rfl
    | eref o i off=>
     simp only[LV.dem]
     split
     .rename_i hr
      rw[h.obj o (h2 o (by simp[LOp.robj,hr]))]
      cases aget s.objs o with
      | none=>rfl
      | some ob=>
       cases ob with
       | var _=>rfl
       | rows z es sh hole=>
        simp only[Option.map_some,obb,objdem_rows]
        cases es[i]? with
        | none=>rfl
        | some e=>
         simp only[obb]
         rw[bind_two (A:=LV.intoL t.objs ((ush sh).drop off) (LV.demL D ls)) (B:=LV.intoL s.objs ((ush sh).drop off) ls) (good:=fun p=>p.2=us/\us.Nodup/\us.contains o=false) (fun p hp=>h.intoL fun o' ho'=>h2 o' (by rw[hp.1]at ho';simp[LOp.robj,ho'])) (fun p hp=>if_neg hp)]
         cases LV.intoL s.objs ((ush sh).drop off) ls with
         | none=>rfl
         | some p=>
          simp only[obb]
          split
          .cases putPV e off p.1 with
           | none=>rfl
           | some e'=>simp only[obb,Option.map_some,Eff.demE,List.map_append,gone_dem,List.map_cons,List.map_nil,objdem_rows,Option.map_none]
          .rfl
     .rfl
    | _=>rfl
 | bin op x y=>
  obtain⟨m1,m2⟩:=mem2 h1
  refine bind_dem h m1 fun lx=>?_
  rw[sc?_dem,h.opd m2]
  cases lx.sc? with
  | none=>rfl
  | some a=>
   cases s.opd y with
   | none=>rfl
   | some ly=>
    simp only[Option.map_some,obb,sc?_dem]
    cases ly.sc? with
    | none=>rfl
    | some b=>simp only[obb];cases scBin op a b<;>rfl
 | binb ne x y=>
  obtain⟨m1,m2⟩:=mem2 h1
  refine bind_dem h m1 fun lx=>?_
  rw[bool?_dem,h.opd m2]
  cases lx.bool? with
  | none=>rfl
  | some a=>
   cases s.opd y with
   | none=>rfl
   | some ly=>
    simp only[Option.map_some,obb,bool?_dem]
    cases ly.bool?<;>rfl
 | isnil ne x=>
  refine bind_dem h h1 fun l=>?_
  rw[nilOf_dem]
  cases nilOf l<;>rfl
 | eqs ne ks x y=>
  obtain⟨m1,m2⟩:=mem2 h1
  refine bind_dem h m1 fun lx=>?_
  rw[h.opd m2]
  cases s.opd y with
  | none=>rfl
  | some ly=>
   simp only[Option.map_some,obb,eqsOf_dem]
   cases eqsOf ks lx ly<;>rfl
 | un op x=>
  refine bind_dem h h1 fun l=>?_
  rw[sc?_dem]
  cases l.sc? with
  | none=>rfl
  | some v=>simp only[obb];cases scUn op v<;>rfl
 | conv k x=>
  refine bind_dem h h1 fun l=>?_
  rw[int?_dem]
  cases l.int?<;>rfl
 | toStr x=>
  refine bind_dem h h1 fun l=>?_
  rw[lst?_dem]
  cases l.lst? with
  | none=>rfl
  | some r=>simp only[obb];cases bytesOf r.2<;>rfl
 | toBytes g x=>
  refine bind_dem h h1 fun l=>?_
  rw[str?_dem]
  cases l.str? with
  | none=>rfl
  | some r=>simp only[obb];split<;>rfl
 | mkfn f caps=>
  simp only[evOp,h.opds (xs:=caps) h1]
  cases s.opds caps with
  | none=>rfl
  | some ls=>
   simp only[Option.map_some,obb,toPVs_dem]
   cases toPVs ls<;>rfl
 | mkmth f x=>
  refine bind_dem h h1 fun l=>?_
  cases l<;>try rfl
  .rename_i g0 z0 es0;rcases dem_own D g0 z0 es0 with e | e<;>rw[e]<;>rfl
  .rename_i ls
   simp only[LV.dem,flatL_dem,toPVs_dem]
   split
   .cases toPVs ls<;>rfl
   .rfl
 | mkslice o sz sh zs n=>
  obtain⟨n1,n2⟩:=h.new o (h3 o (by simp[LOp.allocs]))
  simp only[evOp,h.int (x:=n) h1,n1,n2]
  cases s.int n with
  | none=>rfl
  | some k=>
   simp only[obb]
   split
   .simp only[Option.map_some,Eff.demE,List.map_cons,List.map_nil,objdem_rows,LV.dem]
   .rfl
 | bsu o sz sh us xs=>
  obtain⟨n1,n2⟩:=h.new o (h3 o (by simp[LOp.allocs]))
  simp only[evOp,n1,n2]
  rw[bind_two (A:=LM.rowsIn t sh sz xs) (B:=LM.rowsIn s sh sz xs) (good:=fun p=>True/\p.2=us/\us.Nodup) (fun p hp=>h.rowsIn h1 fun o' ho'=>h2 o' (by rw[hp.2.1]at ho';simp[LOp.robj,ho'])) (fun p hp=>if_neg hp)]
  cases LM.rowsIn s sh sz xs with
  | none=>rfl
  | some p=>
   simp only[obb]
   split
   .simp only[Option.map_some,Eff.demE,List.map_append,gone_dem,List.map_cons,List.map_nil,objdem_rows,LV.dem]
   .rfl
 | apu o sz sh gx gy x y=>
  obtain⟨m1,m2⟩:=mem2 h1
  obtain⟨n1,n2⟩:=h.new o (h3 o (by simp[LOp.allocs]))
  refine bind_dem h m1 fun lx=>?_
  rw[h.opd m2]
  cases s.opd y with
  | none=>rfl
  | some ly=>
   simp only[Option.map_some,obb,n1,n2]
   have ex:apX t.objs sz sh gx (lx.dem D)=apX s.objs sz sh gx lx:=by
    cases lx with
    | own g z es=>rcases dem_own D g z es with e | e<;>rw[e]<;>rfl
    | arr o1 n=>
     simp only[LV.dem,apX]
     split
     .rename_i hg
      rw[h.rowsO (h2 o1 (by simp[LOp.robj,hg]))]
     .rfl
    | _=>rfl
   have ey:apY t.objs sz sh gx gy (ly.dem D)=apY s.objs sz sh gx gy ly:=by
    cases ly with
    | own g z es=>rcases dem_own D g z es with e | e<;>rw[e]<;>rfl
    | arr o2 n=>
     simp only[LV.dem,apY]
     split
     .rename_i hg
      rw[h.rowsO (h2 o2 (by simp[LOp.robj,hg.1]))]
     .rfl
    | _=>rfl
   rw[ex,ey]
   generalize apX s.objs sz sh gx lx=X
   generalize apY s.objs sz sh gx gy ly=Y
   cases X with
   | none=>rfl
   | some es=>
    cases Y with
    | none=>rfl
    | some ys=>
     simp only[obb]
     split
     .simp only[Option.map_some,Eff.demE,List.map_append,gone_dem,List.map_cons,List.map_nil,objdem_rows,LV.dem]
     .rfl
 | slice sz lo hi x=>
  obtain⟨m1,m2,m3⟩:=mem3 h1
  simp only[evOp,h.optInt m1,h.optInt m2]
  cases s.optInt lo with
  | none=>rfl
  | some l=>
   cases s.optInt hi with
   | none=>rfl
   | some hh=>
    simp only[obb]
    refine bind_dem h m3 fun lx=>?_
    rw[lst?_dem]
    cases lx.lst? with
    | none=>rfl
    | some r=>
     simp only[obb]
     split
     .exact sliceL_dem
     .rfl
 | sliceS lo hi x=>
  obtain⟨m1,m2,m3⟩:=mem3 h1
  simp only[evOp,h.optInt m1,h.optInt m2]
  cases s.optInt lo with
  | none=>rfl
  | some l=>
   cases s.optInt hi with
   | none=>rfl
   | some hh=>
    simp only[obb]
    refine bind_dem h m3 fun lx=>?_
    rw[str?_dem]
    cases lx.str? with
    | none=>rfl
    | some r=>exact sliceS_dem
 | slice0 g sz x=>rfl
 | faddr off x=>
  refine bind_dem h h1 fun l=>?_
  cases l<;>try rfl
  .rename_i p;cases p<;>rfl
  .rename_i g0 z0 es0;rcases dem_own D g0 z0 es0 with e | e<;>rw[e]<;>rfl
 | iaddr sz rd x i=>
  obtain⟨m1,m2⟩:=mem2 h1
  simp only[evOp,h.int (x:=i) m2]
  cases s.int i with
  | none=>rfl
  | some i=>
   simp only[obb]
   refine bind_dem h m1 fun l=>?_
   have hl:∀l:LV,((l.dem D).lst?.bind fun r=>if r.1=sz/\0<=i then (r.2[i.toNat]?).bind fun e=>pureE (.pv (.cp e)) else none) =
     (l.lst?.bind fun r=>if r.1=sz/\0<=i then (r.2[i.toNat]?).bind fun e=>pureE (.pv (.cp e)) else none).map (Eff.demE D):=by
    intro l
    rw[lst?_dem]
    cases l.lst? with
    | none=>rfl
    | some r=>
     simp only[obb]
     split
     .cases r.2[i.toNat]?<;>rfl
     .rfl
   cases l with
   | arr o n=>
    simp only[LV.dem]
    split
    .rename_i hr
     rw[h.obj o (h2 o (by simp[LOp.robj,hr.1]))]
     cases aget s.objs o with
     | none=>rfl
     | some ob=>
      cases ob with
      | var _=>rfl
      | rows z es sh hole=>
       simp only[Option.map_some,obb,objdem_rows]
       split<;>rfl
    .rfl
   | own g z es=>
    have:=hl (.own g z es)
    rcases dem_own D g z es with e | e<;>rw[e]at this ⊢ <;> exact this
   | pv p=>exact hl (.pv p)
   | nils z=>exact hl (.nils z)
   | nk b z es=>exact hl (.nk b z es)
   | ref _ _=>rfl
   | eref _ _ _=>rfl
   | agg _=>rfl
   | tup _=>rfl
   | clo _ _=>rfl
   | box _ _ _=>rfl
   | dead=>rfl
 | field off n ag x=>
  refine bind_dem h h1 fun l=>?_
  cases l<;>try rfl
  .rename_i g0 z0 es0;rcases dem_own D g0 z0 es0 with e | e<;>rw[e]<;>rfl
  .simp only[LV.dem,drop_dem]
   refine takeL_dem D ag n _ _ _ fun ls=>?_
   rw[ofCells_dem]
   cases ofCells ag ls<;>rfl
 | index x i=>
  obtain⟨m1,m2⟩:=mem2 h1
  simp only[evOp,h.int (x:=i) m2]
  cases s.int i with
  | none=>rfl
  | some i=>
   simp only[obb]
   refine bind_dem h m1 fun l=>?_
   rw[str?_dem]
   cases l.str? with
   | none=>rfl
   | some b=>
    simp only[obb]
    split
    .cases b.data[i.toNat]?<;>rfl
    .rfl
 | extract k x=>
  refine bind_dem h h1 fun l=>?_
  cases l<;>try rfl
  .rename_i g0 z0 es0;rcases dem_own D g0 z0 es0 with e | e<;>rw[e]<;>rfl
  .rename_i ls
   simp only[LV.dem,LV.demL_map,List.getElem?_map]
   cases ls[k]?<;>rfl
 | len x=>
  refine bind_dem h h1 fun l=>?_
  have hl:∀l:LV,((l.dem D).lst?.bind fun r=>pureE (lstLen r.2))=(l.lst?.bind fun r=>pureE (lstLen r.2)).map (Eff.demE D):=by
   intro l
   rw[lst?_dem]
   cases l.lst?<;>rfl
  cases l with
  | own g z es=>
   have:=hl (.own g z es)
   rcases dem_own D g z es with e | e<;>rw[e]at this ⊢ <;> exact this
  | pv p=>exact hl (.pv p)
  | nils z=>exact hl (.nils z)
  | nk b z es=>exact hl (.nk b z es)
  | _=>rfl
 | lenS x=>
  refine bind_dem h h1 fun l=>?_
  rw[str?_dem]
  cases l.str?<;>rfl
 | append g sz gx x y=>
  obtain⟨m1,m2⟩:=mem2 h1
  have hg:¬D.contains g=true:=by simpa using h4 g (by simp[LOp.ends])
  refine bind_dem h m2 fun ly=>?_
  rw[cat?_dem]
  cases ly.cat? with
  | none=>rfl
  | some r=>
   simp only[obb]
   split
   .refine bind_dem h m1 fun lx=>?_
    cases lx with
    | nils z=>
     simp only[LV.dem]
     split
     .simp only[Option.map_some,Eff.demE,List.map_nil,LV.dem,if_neg hg]
     .rfl
    | own g' z es=>
     by_cases hc:D.contains g'=true
     .have e:(LV.own g' z es).dem D = .pv (.lst z es):=by simp only[LV.dem,if_pos hc]
      rw[e]
      have hx:¬(gx=some g'/\z=sz/\es.length+r.2.length<=bigLen):=fun hx=>h4 g' (by simp[LOp.ends,hx.1]) (by simpa using hc)
      simp only[if_neg hx,Option.map_none]
     .have e:(LV.own g' z es).dem D = .own g' z es:=by simp only[LV.dem,if_neg hc]
      rw[e]
      simp only[]
      split
      .simp only[Option.map_some,Eff.demE,List.map_nil,LV.dem,if_neg hg]
      .rfl
    | _=>rfl
   .rfl
 | max x y=>
  obtain⟨m1,m2⟩:=mem2 h1
  refine bind_dem h m1 fun lx=>?_
  rw[int?_dem,h.opd m2]
  cases lx.int? with
  | none=>rfl
  | some a=>
   cases s.opd y with
   | none=>rfl
   | some ly=>
    simp only[Option.map_some,obb,int?_dem]
    cases ly.int? with
    | none=>rfl
    | some b=>simp only[obb];split<;>rfl
 | call f g ws gs us bs xs=>exact call_nat h (fun hd=>call f hd.as hd.os) h6 h1 h2 h3 (h5 g rfl)
 | callv g ws gs us bs x xs=>
  obtain⟨m1,m2⟩:=mem2 h1
  refine bind_dem h m1 fun l=>?_
  cases l<;>try rfl
  .rename_i p
   cases p<;>try rfl
   .rename_i f ps
    exact call_nat (ws:=ws) (gs:=gs) h (fun hd=>callp call f (hd.as++ps.map .pv) hd.os) h6 m2 h2 h3 (h5 g rfl)
   .rename_i f ps
    exact call_nat (ws:=ws) (gs:=gs) h (fun hd=>callp call f (.agg (ps.map .pv)::hd.as) hd.os) h6 m2 h2 h3 (h5 g rfl)
  .rename_i g0 z0 es0;rcases dem_own D g0 z0 es0 with e | e<;>rw[e]<;>rfl
end
structure Spec (op:LOp) (s:LSt) (e:Eff):Prop where
 dem:∀t∈e.dem,t∈op.ends\/∃g,op.cls=some g/\t%4096=g
 key:∀x∈e.upd,x.1∈op.wobj
 val:∀o,noName s o=true->o∉op.allocs->∀l,e.val=some l->o∉l.names
 upd:∀o,noName s o=true->o∉op.allocs->∀x∈e.upd,x.1≠o/\∀ob,x.2=some ob->o∉LV.namesL ob.cells
section
variable {s:LSt}{call:CallF}{op:LOp}{e:Eff}
theorem Spec.pure {l:LV}(h:pureE l=some e) (hn:∀o,noName s o=true->o∉l.names):Spec op s e:=by
 simp only[pureE,osi]at h
 subst h
 exact⟨by simp,by simp,fun o ho _ l hl=>by simp only[osi]at hl;subst hl;exact hn o ho,by simp⟩
theorem Spec.one {l:LV}{ds:List Nat}(hd:∀t∈ds,t∈op.ends) (hn:l.names=[]):Spec op s { dem:=ds,upd:=[],val:=some l }:=
 ⟨fun t ht => .inl (hd t ht),by simp,fun o _ _ l' hl=>by simp only[osi]at hl;subst hl;rw[hn];simp,by simp⟩
theorem mem_namesL {o:Nat}:∀ {ls:List LV},o∈LV.namesL ls↔∃l∈ls,o∈l.names
 | []=>by simp[LV.namesL]
 | l::ls=>by simp[LV.namesL,mem_namesL (ls:=ls)]
theorem cells_names (l:LV):LV.namesL l.cells=l.names:=by
 cases l<;>simp[LV.cells,LV.namesL,LV.names]
theorem cellsN_names {n:Nat}{l:LV}{ls:List LV}(h:l.cellsN n=some ls):LV.namesL ls=l.names:=by
 unfold LV.cellsN at h
 split at h
 .simp only[osi]at h;subst h;exact cells_names l
 .cases h
theorem ofCells_names {ag:Bool}{ls:List LV}{l:LV}(h:ofCells ag ls=some l):l.names=LV.namesL ls:=by
 unfold ofCells at h
 split at h
 .simp only[osi]at h;subst h;rfl
 .split at h
  .simp only[osi]at h;subst h;simp[LV.namesL]
  .cases h
theorem putCells_names {o:Nat}{cs ls cs':List LV}{k:Nat}(h:putCells cs k ls=some cs') (h1:o∉LV.namesL cs) (h2:o∉LV.namesL ls):o∉LV.namesL cs':=by
 obtain⟨_,h3⟩:=putCells_mem h
 intro hm
 obtain⟨l,hl,ho⟩:=mem_namesL.1 hm
 rcases h3 l hl with hl | hl
 .exact h1 (mem_namesL.2 ⟨l,hl,ho⟩)
 .exact h2 (mem_namesL.2 ⟨l,hl,ho⟩)
theorem obj_names {o o':Nat}{ob:Obj}(h:noName s o=true) (hm:aget s.objs o'=some ob):o∉LV.namesL ob.cells/\o'≠o:=
 ⟨(noName_spec h).2.1 _ (aget_mem hm),(noName_spec h).2.2.1 _ (aget_mem hm)⟩
theorem pvs_names {ls:List LV}(h:∀l∈ls,∃p,l=LV.pv p):LV.namesL ls=[]:=by
 refine List.eq_nil_iff_forall_not_mem.2 fun o ho=>?_
 obtain⟨l,hl,ho⟩:=mem_namesL.1 ho
 obtain⟨p,rfl⟩:=h l hl
 simp[LV.names]at ho
theorem sub_names {o:Nat}{ls ms:List LV}(h:∀l∈ls,l∈ms) (hn:o∉LV.namesL ms):o∉LV.namesL ls:=fun ho=>by
 obtain⟨l,hl,ho⟩:=mem_namesL.1 ho
 exact hn (mem_namesL.2 ⟨l,h l hl,ho⟩)
theorem takeN_pv {β:Type}{n:Nat}:∀ {ps:List PV}{k:List LV->Option β}{r:β},takeN n ps k=some r->∃ls:List LV,(∀l∈ls,∃p,l=LV.pv p)/\k ls=some r:=by
 induction n with
 | zero=>intro ps k r h;exact⟨[],by simp,h⟩
 | succ n ih=>
  intro ps k r h
  cases ps with
  | nil=>cases h
  | cons p ps=>
   simp only[takeN]at h
   obtain⟨ls,h1,h2⟩:=ih h
   exact⟨.pv p::ls,by simpa using h1,h2⟩
theorem takeL_sub {β:Type}{n:Nat}:∀ {ps:List LV}{k:List LV->Option β}{r:β},takeL n ps k=some r->∃ls:List LV,(∀l∈ls,l∈ps)/\k ls=some r:=by
 induction n with
 | zero=>intro ps k r h;exact⟨[],by simp,h⟩
 | succ n ih=>
  intro ps k r h
  cases ps with
  | nil=>cases h
  | cons p ps=>
   simp only[takeL]at h
   obtain⟨ls,h1,h2⟩:=ih h
   exact⟨p::ls,by simpa using fun l hl => .inr (h1 l hl),h2⟩
theorem parts_names {o:Nat}(ho:noName s o=true):∀ {ps:List (Nat×Nat×Opd)}{cs cs':List LV},partsOf s cs ps=some cs'->o∉LV.namesL cs->o∉LV.namesL cs'
 | [],_,_,h,hn=>by simp only[partsOf,osi]at h;subst h;exact hn
 | (off,n,x)::ps,cs,cs',h,hn=>by
  simp only[partsOf]at h
  obtain⟨l,hl,h⟩:=obs h
  obtain⟨ls,hls,h⟩:=obs h
  obtain⟨cs1,hc,h⟩:=obs h
  exact parts_names ho h (putCells_names hc hn (by rw[cellsN_names hls];exact opd_names ho hl))
theorem rowsO_get {o:Nat}{r:Nat×List (List PV)×List Shp}(h:rowsOfO s.objs o=some r):∃ob,aget s.objs o=some ob:=by
 unfold rowsOfO at h
 obtain⟨ob,hob,_⟩:=obs h
 exact⟨ob,hob⟩
theorem givL_ns {os:List (Nat×Obj)}:∀ {ls:List LV}{i:Nat}{p:List LV×List (Nat×Obj)×List Nat},givL os i ls=some p->∀o∈p.2.2,∃ob,aget os o=some ob
 | [],i,p,he=>by simp only[givL,osi]at he;subst he;simp
 | l::ls,i,p,he=>by
  rcases givL_cases he with⟨o,_,q,p',_,hq,h,rfl⟩ | ⟨_,p',h,rfl,_⟩
  .intro o' ho'
   rcases lm1 ho' with rfl | ho'
   .exact rowsO_get (s:=⟨[],os,[]⟩) hq
   .exact givL_ns h o' ho'
  .exact givL_ns (p:=p') h
theorem hand_ns:∀ {xs:List (Opd×Bool)}{k i:Nat}{hd:Hand},handOf s k i xs=some hd->∀o∈hd.ns,∃ob,aget s.objs o=some ob
 | [],_,_,_,h=>by simp only[handOf,osi]at h;subst h;simp
 | (x,false)::xs,k,i,hd,h=>by
  simp only[handOf]at h
  obtain⟨l,_,h⟩:=obs h
  obtain⟨l',_,h⟩:=obs h
  obtain⟨hd',hh,h⟩:=obs h
  simp only[osi]at h
  subst h
  exact hand_ns (hd:=hd') hh
 | (x,true)::xs,k,i,hd,h=>by
  simp only[handOf]at h
  obtain⟨l,_,h⟩:=obs h
  split at h
  .rename_i o
   obtain⟨ob,hob,h⟩:=obs h
   split at h
   .obtain⟨p,_,h⟩:=obs h
    split at h
    case isFalse=>cases h
    obtain⟨hd',hh,h⟩:=obs h
    simp only[osi]at h
    subst h
    intro o' ho'
    rcases lm1 ho' with rfl | ho'
    .exact⟨_,hob⟩
    .exact hand_ns hh o' ho'
   .cases h
  .rename_i o n
   obtain⟨q,hq,h⟩:=obs h
   obtain⟨hd',hh,h⟩:=obs h
   simp only[osi]at h
   subst h
   intro o' ho'
   rcases lm1 ho' with rfl | ho'
   .exact rowsO_get hq
   .exact hand_ns hh o' ho'
  .split at h
   .obtain⟨p,hp,h⟩:=obs h
    obtain⟨hd',hh,h⟩:=obs h
    simp only[osi]at h
    subst h
    exact fun o' ho'=>(lma ho').elim (givL_ns hp o') (hand_ns hh o')
   obtain⟨p,_,h⟩:=obs h
   split at h
   case isFalse=>cases h
   obtain⟨hd',hh,h⟩:=obs h
   simp only[osi]at h
   subst h
   exact hand_ns (hd:=hd') hh
theorem impC_names {o o' n g:Nat}(hne:n≠o):∀ {ls:List LV},okCells o' ls=true->o∉LV.namesL (impC o' n g ls):=by
 intro ls
 induction ls with
 | nil=>intro _;simp[impC,LV.namesL]
 | cons l ls ih=>
  intro hl
  simp only[okCells,List.all_cons,bat]at hl
  simp only[impC,LV.namesL,List.mem_append,not_or]
  refine⟨?_,ih hl.2⟩
  cases ho1:ownCell o' n l with
  | some l'=>
   obtain⟨k,rfl,rfl⟩:=ownCell_some ho1
   simp only[LV.names,List.mem_singleton]
   exact fun e=>hne e.symm
  | none=>
   have ho2:ownCell o' o' l=none:=by
    cases hx:ownCell o' o' l with
    | none=>rfl
    | some l'=>obtain⟨k,rfl,_⟩:=ownCell_some hx;simp[ownCell]at ho1
   have h0:=hl.1
   rw[ho2]at h0
   simp only[LV.names_imp]
   have:l.names=[]:=by simpa[List.isEmpty_iff]using h0
   rw[this];simp
theorem call_spec {xs:List (Opd×Bool)}{ws gs us bs:List Nat}{g:Nat}{hd:Hand}{r:Fin}(hh:handOf s 0 0 xs=some hd) (hw:hd.ns=ws/\hd.gs=gs/\hd.bs=bs) (hc:callEff s g us hd r=some e)
  (h1:op.ends=gs) (h2:op.cls=some g) (h3:op.wobj=ws++us) (h4:op.allocs=us):Spec op s e:=by
 unfold callEff at hc
 split at hc
 case isFalse=>cases hc
 rename_i hx
 obtain⟨n1,n2,n3,n4,n5,ng,nl,nr,nu,nf,nk,nb,nkf⟩:=hx
 simp only[osi]at hc
 subst hc
 have hlen:hd.ns.length=hd.os.length:=by
  have:∀ (xs:List (Opd×Bool)) (k i:Nat) (hd:Hand),handOf s k i xs=some hd->hd.ns.length=hd.os.length:=by
   intro xs
   induction xs with
   | nil=>intro k i hd h;simp only[handOf,osi]at h;subst h;rfl
   | cons x xs ih=>
    intro k i hd h
    obtain⟨x,m⟩:=x
    cases m with
    | false=>
     simp only[handOf]at h
     obtain⟨l,_,h⟩:=obs h
     obtain⟨l',_,h⟩:=obs h
     obtain⟨hd',hh,h⟩:=obs h
     simp only[osi]at h
     subst h
     exact ih _ _ hd' hh
    | true=>
     simp only[handOf]at h
     obtain⟨l,_,h⟩:=obs h
     split at h
     .obtain⟨ob,hob,h⟩:=obs h
      split at h
      .obtain⟨p,_,h⟩:=obs h
       split at h
       case isFalse=>cases h
       obtain⟨hd',hh,h⟩:=obs h
       simp only[osi]at h
       subst h
       simp[ih _ _ hd' hh]
      .cases h
     .obtain⟨q,_,h⟩:=obs h
      obtain⟨hd',hh,h⟩:=obs h
      simp only[osi]at h
      subst h
      simp[ih _ _ hd' hh]
     .split at h
      .obtain⟨p,hp,h⟩:=obs h
       obtain⟨hd',hh,h⟩:=obs h
       simp only[osi]at h
       subst h
       simp[ih _ _ hd' hh,givL_len hp]
      obtain⟨p,_,h⟩:=obs h
      split at h
      case isFalse=>cases h
      obtain⟨hd',hh,h⟩:=obs h
      simp only[osi]at h
      subst h
      exact ih _ _ hd' hh
  exact this _ _ _ _ hh
 obtain⟨bm1,bm2,bm3⟩:=backUpd_mem (g:=g) (us:=us) (r:=r.2) hlen nl
 refine⟨fun t ht=>?_,fun x hx=>?_,fun o _ ha l hl=>?_,fun o ho ha x hx=>?_⟩
 .rcases lma ht with ht | ht
  .exact .inl (by rw[h1,<-hw.2.1];exact ht)
  .refine .inr ⟨g,h2,?_⟩
   rcases lma ht with ht | ht
   .rw[LV.toks_imp]at ht
    obtain⟨q,_,rfl⟩:=List.mem_map.1 ht
    omega
   .obtain⟨q,_,rfl⟩:=List.mem_map.1 ht
    omega
 .rw[h3,<-hw.1,List.mem_append]
  exact bm3 x hx
 .simp only[osi]at hl
  subst hl
  rw[LV.names_ren,LV.names_imp,nr]
  intro hm
  obtain⟨q,hq,rfl⟩:=List.mem_map.1 hm
  obtain⟨i,hlt,rfl⟩:=rnms_mem hq
  have hu:us[i]?=some us[i]:=List.getElem?_eq_getElem hlt
  have hp:pick us (rnm (0+i))=us[i]:=by
   simp only[pick,rnm,Nat.zero_add,Nat.add_sub_cancel_left,List.getD_eq_getElem?_getD,hu,Option.getD_some]
  rw[hp,h4]at ha
  exact ha (List.getElem_mem hlt)
 .have hkey:=bm3 x hx
  have hne:x.1≠o:=by
   rcases hkey with hk | hk
   .obtain⟨ob,hob⟩:=hand_ns hh x.1 hk
    exact (obj_names ho hob).2
   .rintro rfl;rw[h4]at ha;exact ha hk
  refine⟨hne,fun ob' hob'=>?_⟩
  rcases bm1 x.1 ob' (by rw[<-hob'];exact hx) with⟨o1,z,q1,q2,rfl⟩ | ⟨j,q1,q2,q3⟩
  .have hg:=backOk_mem nk q2
   cases z with
   | var cs=>exact impC_names hne hg
   | rows a b c hole=>
    have hg:hole=none:=hg
    subst hg
    simp[impO,Obj.cells,LV.namesL]
  .rw[freshOk_names (backOk_new nk q3)];simp
theorem unbox_names {o:Nat}{ls:List LV}(h:o∈LV.namesL (ls.map LV.unbox)):o∈LV.namesL ls:=by
 obtain⟨l,hl,ho⟩:=mem_namesL.1 h
 obtain⟨l0,h0,rfl⟩:=List.mem_map.1 hl
 refine mem_namesL.2 ⟨l0,h0,?_⟩
 cases l0<;>first | exact ho | (simp[LV.unbox,LV.names]at ho)
theorem outRow_names (sh:List Shp) (e:List PV):LV.namesL (outRow sh e)=[]:=by
 induction e generalizing sh with
 | nil=>cases sh<;>rfl
 | cons p ps ih=>
  rw[outRow_cons]
  simp only[LV.namesL,ih,List.append_nil]
  cases shpAt sh 0<;>cases p<;>rfl
theorem rowLV_names {o:Nat}{sz:Nat}{es:List (List PV)}{sh:List Shp}{hole:Option (Nat×Nat×Nat×Nat)}{i:Nat}{e:List PV}(h:o∈LV.namesL (rowLV sh hole i e)):o∈LV.namesL (Obj.rows sz es sh hole).cells:=by
 unfold rowLV at h
 split at h
 .rw[outRow_names]at h;cases h
 .split at h
  .obtain⟨l,hl,ho⟩:=mem_namesL.1 h
   rcases List.mem_or_eq_of_mem_set hl with hl | rfl
   .have:=mem_namesL.2 ⟨l,hl,ho⟩;rw[outRow_names]at this;cases this
   .simpa[Obj.cells,LV.namesL]using ho
  .rw[outRow_names]at h;cases h
theorem hole_names {o:Nat}{sz:Nat}{es es':List (List PV)}{sh:List Shp}{hole:Option (Nat×Nat×Nat×Nat)}{i off n:Nat}(h:o∉LV.namesL (Obj.rows sz es sh hole).cells):o∉LV.namesL (Obj.rows sz es' sh (holeOff hole i off n)).cells:=by
 cases hole with
 | none=>simp[holeOff,Obj.cells,LV.namesL]
 | some y=>
  obtain⟨j,k,u,m⟩:=y
  simp only[holeOff]
  split
  .simp[Obj.cells,LV.namesL]
  .simpa[Obj.cells,LV.namesL]using h
theorem into_names:∀ {ls:List LV}{sh:List Shp}{os:List (Nat×Obj)}{p:List PV×List Nat},LV.intoL os sh ls=some p->∀o∈p.2,o∈LV.namesL ls
 | [],sh,os,p,h,o,ho=>by
  have:p=([],[]):=by cases sh<;>(simp only[LV.intoL,osi]at h;exact h.symm)
  subst this;cases ho
 | l::ls,sh,os,p,h,o,ho=>by
  rw[intoL_cons]at h
  obtain⟨a,h1,h⟩:=obs h
  obtain⟨b,h2,h⟩:=obs h
  simp only[osi]at h
  subst h
  simp only[LV.namesL,List.mem_append]at ho ⊢
  rcases ho with ho | ho
  .left
   cases hs:shpAt sh 0 with
   | v=>
    rw[hs]at h1
    simp only[LV.into]at h1
    obtain⟨q,_,h1⟩:=obs h1
    simp only[osi]at h1
    subst h1;cases ho
   | self=>rw[hs]at h1;cases l<;>simp[LV.into]at h1
   | u sh'=>
    rw[hs]at h1
    cases l with
    | nils z=>simp only[LV.into,osi]at h1;subst h1;cases ho
    | arr o1 n=>
     simp only[LV.into]at h1
     obtain⟨q,_,h1⟩:=obs h1
     split at h1
     .simp only[osi]at h1;subst h1;simpa[LV.names]using ho
     .cases h1
    | _=>simp[LV.into]at h1
  .exact .inr (into_names h2 o ho)
theorem rowsIn_names {o:Nat}(ho:noName s o=true):∀ {xs:List Opd}{sh:List Shp}{sz:Nat}{p:List (List PV)×List Nat},rowsIn s sh sz xs=some p->o∉p.2
 | [],_,_,p,h=>by simp only[rowsIn,osi]at h;subst h;simp
 | x::xs,sh,sz,p,h=>by
  simp only[rowsIn]at h
  obtain⟨l,hl,h⟩:=obs h
  obtain⟨a,h1,h⟩:=obs h
  split at h
  case isFalse=>cases h
  obtain⟨b,h2,h⟩:=obs h
  simp only[osi]at h
  subst h
  simp only[List.mem_append,not_or]
  refine⟨fun hm=>?_,rowsIn_names ho h2⟩
  have:=into_names h1 o hm
  rw[cells_names]at this
  exact opd_names ho hl this
theorem ev_spec (he:evOp call s op=some e) (h7:LV.namesL op.zeros=[]):Spec op s e:=by
 cases op with
 | mv x=>
  obtain⟨l,hl,h⟩:=obs he
  exact Spec.pure h fun o ho=>opd_names ho hl
 | nilck x=>
  obtain⟨l,hl,h⟩:=obs he
  split at h
  .exact Spec.pure h fun o ho=>by simp[LV.names]
  .exact Spec.pure h fun o ho=>opd_names ho hl
  .exact Spec.pure h fun o ho=>opd_names ho hl
  .cases h
 | pick c a b=>
  obtain⟨l,hl,h⟩:=obs he
  obtain⟨b',_,h⟩:=obs h
  obtain⟨la,ha,h⟩:=obs h
  refine Spec.pure h fun o ho=>?_
  cases b'
  .exact opd_names (x:=b) ho ha
  .exact opd_names (x:=a) ho ha
 | alloc o' zs=>
  simp only[evOp]at he
  split at he
  .simp only[osi]at he
   subst he
   refine⟨by simp,by simp[LOp.wobj],fun o _ ha l hl=>?_,fun o _ ha x hx=>?_⟩
   .simp only[osi]at hl;subst hl;simpa[LV.names,LOp.allocs]using ha
   .simp only[List.mem_singleton]at hx
    subst hx
    refine⟨fun e=>ha (List.mem_singleton.2 e.symm),fun ob hob=>?_⟩
    simp only[osi]at hob
    subst hob
    rw[show LV.namesL (Obj.var zs).cells=[] from h7];simp
  .cases he
 | box o' n x=>
  simp only[evOp]at he
  obtain⟨l,hl,he⟩:=obs he
  obtain⟨ls,hls,he⟩:=obs he
  split at he
  .simp only[osi]at he
   subst he
   refine⟨by simp,by simp[LOp.wobj],fun o _ ha l hl=>?_,fun o ho ha x hx=>?_⟩
   .simp only[osi]at hl;subst hl;simpa[LV.names,LOp.allocs]using ha
   .simp only[List.mem_singleton]at hx
    subst hx
    refine⟨fun e=>ha (List.mem_singleton.2 e.symm),fun ob hob=>?_⟩
    simp only[osi]at hob
    subst hob
    show o∉LV.namesL ls
    rw[cellsN_names hls];exact opd_names ho hl
  .cases he
 | build zs parts=>
  simp only[evOp]at he
  obtain⟨cs,hcs,he⟩:=obs he
  exact Spec.pure he fun o ho=>parts_names ho hcs (by rw[show LV.namesL zs=[] from h7];simp)
 | bslice g sz xs=>
  simp only[evOp]at he
  obtain⟨es,_,he⟩:=obs he
  simp only[osi]at he
  subst he
  exact Spec.one (by simp[LOp.ends]) rfl
 | load n ag rd x=>
  obtain⟨l,hl,h⟩:=obs he
  split at h
  .obtain⟨ls,h1,h⟩:=takeN_pv h
   obtain⟨l',hl',h⟩:=obs h
   refine Spec.pure h fun o ho=>?_
   rw[ofCells_names hl',pvs_names h1];simp
  .split at h
   .obtain⟨ob,hob,h⟩:=obs h
    split at h
    .obtain⟨ls,h1,h⟩:=takeL_sub h
     obtain⟨l',hl',h⟩:=obs h
     refine Spec.pure h fun o ho=>?_
     rw[ofCells_names hl']
     exact fun hm=>sub_names (fun l hl=>List.mem_of_mem_drop (h1 l hl)) (obj_names ho hob).1 (unbox_names hm)
    .cases h
   .cases h
  .split at h
   .obtain⟨ob,hob,h⟩:=obs h
    split at h
    .cases h
    .obtain⟨cs,hcs,h⟩:=obs h
     obtain⟨ls,h1,h⟩:=takeL_sub h
     obtain⟨l',hl',h⟩:=obs h
     refine Spec.pure h fun o ho=>?_
     rw[ofCells_names hl']
     exact sub_names (fun l hl=>List.mem_of_mem_drop (h1 l hl)) fun hm=>(obj_names ho hob).1 (rowLV_names hm)
   .cases h
  .cases h
 | store n rd us x v=>
  simp only[evOp]at he
  obtain⟨lx,hlx,he⟩:=obs he
  obtain⟨lv,hlv,he⟩:=obs he
  obtain⟨ls,hls,he⟩:=obs he
  have hln:∀o,noName s o=true->o∉LV.namesL ls:=fun o ho=>by rw[cellsN_names hls];exact opd_names ho hlv
  split at he
  .split at he
   .rename_i hr
    obtain⟨ob,hob,he⟩:=obs he
    split at he
    .obtain⟨cs',hcs,he⟩:=obs he
     simp only[osi]at he
     subst he
     refine⟨by simp,by simp[LOp.wobj,hr],by simp,fun o ho ha x hx=>?_⟩
     simp only[List.mem_singleton]at hx
     subst hx
     refine⟨(obj_names ho hob).2,fun ob hob'=>?_⟩
     simp only[osi]at hob'
     subst hob'
     exact putCells_names hcs (obj_names ho hob).1 (hln o ho)
    .cases he
   .cases he
  .split at he
   .rename_i hr
    obtain⟨ob,hob,he⟩:=obs he
    split at he
    .cases he
    .rename_i z es sh hole
     obtain⟨e0,_,he⟩:=obs he
     obtain⟨p,hp,he⟩:=obs he
     split at he
     case isFalse=>cases he
     rename_i hus
     obtain⟨e',_,he⟩:=obs he
     simp only[osi]at he
     subst he
     refine⟨by simp,fun x hx=>?_,by simp,fun o ho ha x hx=>?_⟩
     .simp only[gone,List.mem_append,List.mem_map,List.mem_singleton]at hx
      rcases hx with⟨u,hu,rfl⟩ | rfl
      .simp[LOp.wobj,hu]
      .simp[LOp.wobj,hr]
     .simp only[gone,List.mem_append,List.mem_map,List.mem_singleton]at hx
      rcases hx with⟨u,hu,rfl⟩ | rfl
      .refine⟨fun e=>?_,by simp⟩
       simp only at e
       subst e
       exact hln u ho (into_names hp u (hus.1▸hu))
      .refine⟨(obj_names ho hob).2,fun ob hob'=>?_⟩
       simp only[osi]at hob'
       subst hob'
       exact hole_names (obj_names ho hob).1
   .cases he
  .cases he
 | bin op x y=>
  obtain⟨_,_,he⟩:=obs he
  obtain⟨_,_,he⟩:=obs he
  obtain⟨_,_,he⟩:=obs he
  obtain⟨_,_,he⟩:=obs he
  obtain⟨_,_,he⟩:=obs he
  exact Spec.pure he fun o ho=>by simp[LV.names]
 | binb ne x y=>
  obtain⟨_,_,he⟩:=obs he
  obtain⟨_,_,he⟩:=obs he
  obtain⟨_,_,he⟩:=obs he
  obtain⟨_,_,he⟩:=obs he
  exact Spec.pure he fun o ho=>by simp[LV.names,wantB]
 | isnil ne x=>
  obtain⟨_,_,he⟩:=obs he
  obtain⟨_,_,he⟩:=obs he
  exact Spec.pure he fun o ho=>by simp[LV.names,wantB]
 | eqs ne ks x y=>
  obtain⟨_,_,he⟩:=obs he
  obtain⟨_,_,he⟩:=obs he
  obtain⟨_,_,he⟩:=obs he
  exact Spec.pure he fun o ho=>by simp[LV.names,wantB]
 | un op x=>
  obtain⟨_,_,he⟩:=obs he
  obtain⟨_,_,he⟩:=obs he
  obtain⟨_,_,he⟩:=obs he
  exact Spec.pure he fun o ho=>by simp[LV.names]
 | conv k x=>
  obtain⟨_,_,he⟩:=obs he
  obtain⟨_,_,he⟩:=obs he
  exact Spec.pure he fun o ho=>by simp[LV.names,wantI]
 | toStr x=>
  obtain⟨_,_,he⟩:=obs he
  obtain⟨_,_,he⟩:=obs he
  obtain⟨_,_,he⟩:=obs he
  exact Spec.pure he fun o ho=>by simp[LV.names]
 | toBytes g x=>
  obtain⟨_,_,he⟩:=obs he
  obtain⟨_,_,he⟩:=obs he
  split at he
  .exact Spec.pure he fun o ho=>by simp[LV.names]
  .cases he
 | mkfn f caps=>
  obtain⟨_,_,he⟩:=obs he
  obtain⟨_,_,he⟩:=obs he
  exact Spec.pure he fun o ho=>by simp[LV.names]
 | mkmth f x=>
  obtain⟨_,_,he⟩:=obs he
  split at he
  .split at he
   .obtain⟨_,_,he⟩:=obs he
    exact Spec.pure he fun o ho=>by simp[LV.names]
   .cases he
  .cases he
 | mkslice o' sz sh zs n=>
  simp only[evOp]at he
  obtain⟨k,_,he⟩:=obs he
  split at he
  .simp only[osi]at he
   subst he
   refine⟨by simp,by simp[LOp.wobj],fun o _ ha l hl=>?_,fun o _ ha x hx=>?_⟩
   .simp only[osi]at hl;subst hl;simpa[LV.names,LOp.allocs]using ha
   .simp only[List.mem_singleton]at hx
    subst hx
    refine⟨fun e=>ha (List.mem_singleton.2 e.symm),fun ob hob=>?_⟩
    simp only[osi]at hob
    subst hob
    simp[Obj.cells,LV.namesL]
  .cases he
 | bsu o' sz sh us xs=>
  simp only[evOp]at he
  obtain⟨p,hp,he⟩:=obs he
  split at he
  case isFalse=>cases he
  rename_i hus
  simp only[osi]at he
  subst he
  refine⟨by simp,fun x hx=>?_,fun o _ ha l hl=>?_,fun o ho ha x hx=>?_⟩
  .simp only[gone,List.mem_append,List.mem_map,List.mem_singleton]at hx
   rcases hx with⟨u,hu,rfl⟩ | rfl<;>simp[LOp.wobj, *]
  .simp only[osi]at hl;subst hl;simpa[LV.names,LOp.allocs]using ha
  .simp only[gone,List.mem_append,List.mem_map,List.mem_singleton]at hx
   rcases hx with⟨u,hu,rfl⟩ | rfl
   .refine⟨fun e=>?_,by simp⟩
    simp only at e
    subst e
    exact rowsIn_names ho hp (hus.2.1▸hu)
   .refine⟨fun e=>ha (List.mem_singleton.2 e.symm),fun ob hob=>?_⟩
    simp only[osi]at hob
    subst hob
    simp[Obj.cells,LV.namesL]
 | apu o' sz sh gx gy x y=>
  simp only[evOp]at he
  obtain⟨lx,hlx,he⟩:=obs he
  obtain⟨ly,hly,he⟩:=obs he
  obtain⟨es,hes,he⟩:=obs he
  obtain⟨ys,hys,he⟩:=obs he
  split at he
  case isFalse=>cases he
  simp only[osi]at he
  subst he
  have hgx:∀o,noName s o=true->o∉gx.toList:=fun o ho hm=>by
   have:=opd_names ho hlx
   unfold apX at hes
   split at hes
   .split at hes
    .rename_i hg;subst hg;simp at hm
    .cases hes
   .split at hes
    .rename_i hg;subst hg;simp at hm;subst hm;simp[LV.names]at this
    .cases hes
   .cases hes
  have hgy:∀o,noName s o=true->o∉gy.toList:=fun o ho hm=>by
   have:=opd_names ho hly
   unfold apY at hys
   split at hys
   .split at hys
    .rename_i hg;rw[hg.1]at hm;simp at hm;subst hm;simp[LV.names]at this
    .cases hys
   .split at hys
    .rename_i hg;rw[hg.1]at hm;simp at hm
    .cases hys
  refine⟨by simp,fun x hx=>?_,fun o _ ha l hl=>?_,fun o ho ha x hx=>?_⟩
  .simp only[gone,List.mem_append,List.mem_map,List.mem_singleton]at hx
   rcases hx with⟨u,hu,rfl⟩ | rfl
   .simp only[LOp.wobj,List.mem_cons,List.mem_append];exact .inr hu
   .simp[LOp.wobj]
  .simp only[osi]at hl;subst hl;simpa[LV.names,LOp.allocs]using ha
  .simp only[gone,List.mem_append,List.mem_map,List.mem_singleton]at hx
   rcases hx with⟨u,hu,rfl⟩ | rfl
   .refine⟨fun e=>?_,by simp⟩
    simp only at e
    subst e
    exact hu.elim (hgx u ho) (hgy u ho)
   .refine⟨fun e=>ha (List.mem_singleton.2 e.symm),fun ob hob=>?_⟩
    simp only[osi]at hob
    subst hob
    simp[Obj.cells,LV.namesL]
 | slice sz lo hi x=>
  obtain⟨_,_,he⟩:=obs he
  obtain⟨_,_,he⟩:=obs he
  obtain⟨_,_,he⟩:=obs he
  obtain⟨_,_,he⟩:=obs he
  split at he
  .obtain⟨l,hl,he⟩:=obs he
   refine Spec.pure he fun o ho=>?_
   unfold sliceL at hl
   simp only[]at hl
   split at hl
   .simp only[osi]at hl;subst hl;simp[LV.names]
   .cases hl
  .cases he
 | sliceS lo hi x=>
  obtain⟨_,_,he⟩:=obs he
  obtain⟨_,_,he⟩:=obs he
  obtain⟨_,_,he⟩:=obs he
  obtain⟨_,_,he⟩:=obs he
  obtain⟨l,hl,he⟩:=obs he
  refine Spec.pure he fun o ho=>?_
  unfold LM.sliceS at hl
  simp only[]at hl
  split at hl
  .simp only[osi]at hl;subst hl;simp[LV.names]
  .cases hl
 | slice0 g sz x=>cases he
 | faddr off x=>
  obtain⟨l,hl,h⟩:=obs he
  split at h
  .exact Spec.pure h fun o ho=>by simp[LV.names]
  .exact Spec.pure h fun o ho=>by have:=opd_names ho hl;simpa[LV.names]using this
  .exact Spec.pure h fun o ho=>by have:=opd_names ho hl;simpa[LV.names]using this
  .cases h
 | iaddr sz rd x i=>
  obtain⟨_,_,he⟩:=obs he
  obtain⟨l,hl,he⟩:=obs he
  split at he
  .split at he
   .obtain⟨ob,hob,he⟩:=obs he
    split at he
    .split at he
     .exact Spec.pure he fun o ho=>by have:=opd_names ho hl;simpa[LV.names]using this
     .cases he
    .cases he
   .cases he
  .obtain⟨_,_,he⟩:=obs he
   split at he
   .obtain⟨_,_,he⟩:=obs he
    exact Spec.pure he fun o ho=>by simp[LV.names]
   .cases he
 | field off n ag x=>
  obtain⟨l,hl,h⟩:=obs he
  split at h
  .obtain⟨ls,h1,h⟩:=takeL_sub h
   obtain⟨l',hl',h⟩:=obs h
   refine Spec.pure h fun o ho=>?_
   rw[ofCells_names hl']
   exact sub_names (fun l hl=>List.mem_of_mem_drop (h1 l hl)) (opd_names ho hl)
  .cases h
 | index x i=>
  obtain⟨_,_,he⟩:=obs he
  obtain⟨_,_,he⟩:=obs he
  obtain⟨_,_,he⟩:=obs he
  split at he
  .obtain⟨_,_,he⟩:=obs he
   exact Spec.pure he fun o ho=>by simp[LV.names,wantI]
  .cases he
 | extract k x=>
  obtain⟨l,hl,h⟩:=obs he
  split at h
  .obtain⟨l',hl',h⟩:=obs h
   exact Spec.pure h fun o ho hm=>opd_names ho hl (mem_namesL.2 ⟨l',List.mem_of_getElem? hl',hm⟩)
  .cases h
 | len x=>
  obtain⟨l,hl,h⟩:=obs he
  split at h
  .exact Spec.pure h fun o ho=>by simp[LV.names,wantI]
  .obtain⟨_,_,h⟩:=obs h
   exact Spec.pure h fun o ho=>by simp[LV.names,wantI,lstLen]
 | lenS x=>
  obtain⟨_,_,he⟩:=obs he
  obtain⟨_,_,he⟩:=obs he
  exact Spec.pure he fun o ho=>by simp[LV.names,wantI]
 | append g sz gx x y=>
  simp only[evOp]at he
  obtain⟨_,_,he⟩:=obs he
  obtain⟨_,_,he⟩:=obs he
  split at he
  .obtain⟨_,_,he⟩:=obs he
   split at he
   .split at he
    .simp only[osi]at he
     subst he
     exact Spec.one (by simp[LOp.ends]) rfl
    .cases he
   .split at he
    .rename_i hx
     simp only[osi]at he
     subst he
     exact Spec.one (by simp[LOp.ends,hx.1]) rfl
    .cases he
   .cases he
  .cases he
 | max x y=>
  obtain⟨_,_,he⟩:=obs he
  obtain⟨_,_,he⟩:=obs he
  obtain⟨_,_,he⟩:=obs he
  obtain⟨_,_,he⟩:=obs he
  split at he
  .exact Spec.pure he fun o ho=>by simp[LV.names,wantI]
  .cases he
 | call f g ws gs us bs xs=>
  simp only[evOp]at he
  obtain⟨hd,hh,he⟩:=obs he
  split at he
  .rename_i hw
   obtain⟨r,_,he⟩:=obs he
   exact call_spec hh hw he rfl rfl rfl rfl
  .cases he
 | callv g ws gs us bs x xs=>
  simp only[evOp]at he
  obtain⟨l,_,he⟩:=obs he
  split at he
  .obtain⟨hd,hh,he⟩:=obs he
   split at he
   .rename_i hw
    obtain⟨r,_,he⟩:=obs he
    exact call_spec hh hw he rfl rfl rfl rfl
   .cases he
  .obtain⟨hd,hh,he⟩:=obs he
   split at he
   .rename_i hw
    obtain⟨r,_,he⟩:=obs he
    exact call_spec hh hw he rfl rfl rfl rfl
   .cases he
  .cases he
end
abbrev Sorted {α:Type}(l:List (Nat×α)):Prop:=l.Pairwise fun x y=>x.1<y.1
theorem aget_none {α:Type}:∀ {l:List (Nat×α)}{n:Nat},(∀x∈l,x.1≠n)->aget l n=none
 | [],_,_=>rfl
 | (k,v)::l,n,h=>by
  have:¬n=k:=fun e=>h (k,v) (by simp) e.symm
  simp only[aget,if_neg this]
  exact aget_none fun x hx=>h x (by simp[hx])
theorem aget_of_mem {α:Type}:∀ {l:List (Nat×α)}{x:Nat×α},Sorted l->x∈l->aget l x.1=some x.2
 | [],_,_,h=>by simp at h
 | (k,v)::l,x,hs,h=>by
  have hs':=List.pairwise_cons.1 hs
  simp only[aget]
  rcases lm1 h with rfl | h
  .simp
  .have:=hs'.1 x h
   rw[if_neg (by simp at this;omega)]
   exact aget_of_mem hs'.2 h
theorem sorted_ext {α:Type}:∀ {l m:List (Nat×α)},Sorted l->Sorted m->(∀n,aget l n=aget m n)->l=m
 | [],[],_,_,_=>rfl
 | [],(k,v)::m,_,_,h=>by have:=h k;simp[aget]at this
 | (k,v)::l,[],_,_,h=>by have:=h k;simp[aget]at this
 | (k,v)::l,(k',v')::m,h1,h2,h=>by
  have h1':=List.pairwise_cons.1 h1
  have h2':=List.pairwise_cons.1 h2
  have hk:k=k':=by
   have a:=h k
   have b:=h k'
   simp only[aget,if_true]at a b
   by_cases e:k=k'
   .exact e
   .exfalso
    rw[if_neg e]at a
    rw[if_neg (fun e'=>e e'.symm)]at b
    have m1:=aget_mem a.symm
    have m2:=aget_mem b
    have:=h2'.1 _ m1
    have:=h1'.1 _ m2
    simp at *
    omega
  subst hk
  have hv:=h k
  simp only[aget,if_true,osi]at hv
  subst hv
  have:l=m:=sorted_ext h1'.2 h2'.2 fun n=>by
   by_cases e:n=k
   .subst e
    rw[aget_none fun x hx=>by have:=h1'.1 x hx;simp at this;omega,aget_none fun x hx=>by have:=h2'.1 x hx;simp at this;omega]
   .have:=h n
    simpa only[aget,if_neg e]using this
  rw[this]
theorem aget_adel {α:Type}:∀ (l:List (Nat×α)) (n m:Nat),aget (adel l n) m=if n=m then none else aget l m
 | [],n,m=>by simp[adel,aget]
 | (k,v)::l,n,m=>by
  simp only[adel]
  by_cases h:n=k
  .rw[if_pos h,aget_adel l n m]
   subst h
   by_cases e:n=m
   .simp[e]
   .simp only[if_neg e,aget];rw[if_neg (fun e'=>e e'.symm)]
  .rw[if_neg h]
   simp only[aget,aget_adel l n m]
   by_cases e:m=k
   .subst e;simp[h]
   .simp[e]
theorem aget_ains {α:Type}:∀ (l:List (Nat×α)) (n m:Nat) (x:α),(∀y∈l,y.1≠n)->aget (ains l n x) m=if n=m then some x else aget l m
 | [],n,m,x,_=>by simp only[ains,aget,eq_comm]
 | (k,v)::l,n,m,x,h=>by
  have hk:k≠n:=h (k,v) (by simp)
  simp only[ains]
  split
  .simp only[aget,eq_comm]
  .simp only[aget,aget_ains l n m x fun y hy=>h y (by simp[hy])]
   by_cases e:m=k
   .subst e;simp only[if_neg (fun e':n=m=>hk e'.symm),if_true]
   .simp[e]
theorem aget_aset {α:Type}(l:List (Nat×α)) (n m:Nat) (x:α):aget (aset l n x) m=if n=m then some x else aget l m:=by
 rw[aset,aget_ains _ _ _ _ fun y hy=>(adel_mem hy).2,aget_adel]
 split<;>rfl
theorem sorted_adel {α:Type}:∀ {l:List (Nat×α)}{n:Nat},Sorted l->Sorted (adel l n)
 | [],_,_=>List.Pairwise.nil
 | (k,v)::l,n,h=>by
  have h':=List.pairwise_cons.1 h
  simp only[adel]
  split
  .exact sorted_adel h'.2
  .exact List.pairwise_cons.2 ⟨fun x hx=>h'.1 x (adel_mem hx).1,sorted_adel h'.2⟩
theorem sorted_ains {α:Type}:∀ {l:List (Nat×α)}{n:Nat}{x:α},Sorted l->(∀y∈l,y.1≠n)->Sorted (ains l n x)
 | [],_,_,_,_=>by simp[ains]
 | (k,v)::l,n,x,h,hn=>by
  have h':=List.pairwise_cons.1 h
  have hk:k≠n:=hn (k,v) (by simp)
  simp only[ains]
  split
  .rename_i hlt
   refine List.pairwise_cons.2 ⟨fun y hy=>?_,h⟩
   rcases lm1 hy with rfl | hy
   .exact hlt
   .exact Nat.lt_trans hlt (h'.1 y hy)
  .rename_i hlt
   refine List.pairwise_cons.2 ⟨fun y hy=>?_,sorted_ains h'.2 fun y hy=>hn y (by simp[hy])⟩
   rcases ains_mem hy with rfl | hy
   .show k<n;omega
   .exact h'.1 y hy
theorem sorted_aset {α:Type}{l:List (Nat×α)}{n:Nat}{x:α}(h:Sorted l):Sorted (aset l n x):=sorted_ains (sorted_adel h) fun _ hy=>(adel_mem hy).2
theorem aget_demEnv (D:List Nat):∀ (l:List (Nat×LV)) (m:Nat),aget (l.map fun x=>(x.1,x.2.dem D)) m=(aget l m).map (LV.dem D)
 | [],_=>rfl
 | (k,v)::l,m=>by
  simp only[List.map_cons,aget]
  split
  .rfl
  .exact aget_demEnv D l m
theorem aget_demObjs (D:List Nat):∀ (l:List (Nat×Obj)) (m:Nat),aget (l.map fun x=>(x.1,x.2.dem D)) m=(aget l m).map (Obj.dem D)
 | [],_=>rfl
 | (k,v)::l,m=>by
  simp only[List.map_cons,aget]
  split
  .rfl
  .exact aget_demObjs D l m
theorem sorted_map {α β:Type}{f:α->β}{l:List (Nat×α)}(h:Sorted l):Sorted (l.map fun x=>(x.1,f x.2)):=List.Pairwise.map _ (fun _ _ h=>h) h
def lookU:List (Nat×Option Obj)->Nat->Option (Option Obj)
 | [],_=>none
 | (o,x)::r,m=>match lookU r m with
  | some y=>some y
  | none=>if o=m then some x else none
theorem aget_updObjs:∀ (u:List (Nat×Option Obj)) (os:List (Nat×Obj)) (m:Nat),aget (updObjs os u) m=match lookU u m with | some y=>y | none=>aget os m
 | [],_,_=>rfl
 | (o,some x)::r,os,m=>by
  simp only[updObjs,aget_updObjs r,lookU]
  cases lookU r m with
  | some y=>rfl
  | none=>simp only[aget_aset];split<;>rfl
 | (o,none)::r,os,m=>by
  simp only[updObjs,aget_updObjs r,lookU]
  cases lookU r m with
  | some y=>rfl
  | none=>simp only[aget_adel];split<;>rfl
theorem lookU_none:∀ {u:List (Nat×Option Obj)}{m:Nat},(∀x∈u,x.1≠m)->lookU u m=none
 | [],_,_=>rfl
 | (o,x)::r,m,h=>by
  simp only[lookU,lookU_none (u:=r) fun y hy=>h y (by simp[hy])]
  rw[if_neg (h (o,x) (by simp))]
theorem lookU_map (D:List Nat):∀ (u:List (Nat×Option Obj)) (m:Nat),lookU (u.map fun x=>(x.1,x.2.map (Obj.dem D))) m=(lookU u m).map (Option.map (Obj.dem D))
 | [],_=>rfl
 | (o,x)::r,m=>by
  simp only[List.map_cons,lookU,lookU_map D r]
  cases lookU r m with
  | some y=>rfl
  | none=>simp only[Option.map_none];split<;>rfl
theorem sorted_updObjs:∀ {u:List (Nat×Option Obj)}{os:List (Nat×Obj)},Sorted os->Sorted (updObjs os u)
 | [],_,h=>h
 | (o,some x)::r,os,h=>by simp only[updObjs];exact sorted_updObjs (sorted_aset h)
 | (o,none)::r,os,h=>by simp only[updObjs];exact sorted_updObjs (sorted_adel h)
theorem apply_env_get (s:LSt) (e:Eff) (d:Option Nat) (m:Nat):aget (s.apply e d).env m=if d=some m then e.val else (aget s.env m).map (LV.dem e.dem):=by
 rw[apply_env]
 cases d with
 | none=>simp only[reduceCtorEq,if_false];exact aget_demEnv _ _ _
 | some k=>
  cases hv:e.val with
  | none=>
   simp only[aget_adel,osi]
   split
   .rfl
   .exact aget_demEnv _ _ _
  | some l=>
   simp only[aget_aset,osi]
   split
   .rfl
   .exact aget_demEnv _ _ _
theorem apply_objs_get (s:LSt) (e:Eff) (d:Option Nat) (m:Nat):aget (s.apply e d).objs m=match lookU e.upd m with | some y=>y | none=>(aget s.objs m).map (Obj.dem e.dem):=by
 rw[apply_objs,aget_updObjs,aget_demObjs]
theorem apply_sorted {s:LSt}(e:Eff) (d:Option Nat) (h1:Sorted s.env) (h2:Sorted s.objs):Sorted (s.apply e d).env/\Sorted (s.apply e d).objs:=by
 rw[apply_env,apply_objs]
 refine⟨?_,sorted_updObjs (sorted_map h2)⟩
 cases d with
 | none=>exact sorted_map h1
 | some k=>
  cases e.val with
  | none=>exact sorted_adel (sorted_map h1)
  | some l=>exact sorted_aset (sorted_map h1)
mutual
theorem dem_comm (D E:List Nat):∀l:LV,(l.dem D).dem E=(l.dem E).dem D
 | .pv _=>rfl
 | .nils _=>rfl
 | .nk _ _ _=>rfl
 | .own g sz es=>by
  simp only[LV.dem]
  split
  .split
   .rfl
   .rename_i h _;simp only[LV.dem,if_pos h]
  .split
   .rename_i h;simp only[LV.dem,if_pos h]
   .rename_i h1 h2;simp only[LV.dem,if_neg h1,if_neg h2]
 | .ref _ _=>rfl
 | .eref _ _ _=>rfl
 | .arr _ _=>rfl
 | .agg ls=>by simp only[LV.dem,demL_comm D E ls]
 | .tup ls=>by simp only[LV.dem,demL_comm D E ls]
 | .clo _ ls=>by simp only[LV.dem,demL_comm D E ls]
 | .box _ _ _=>rfl
 | .dead=>rfl
theorem demL_comm (D E:List Nat):∀ls:List LV,LV.demL E (LV.demL D ls)=LV.demL D (LV.demL E ls)
 | []=>rfl
 | l::ls=>by simp only[LV.demL,dem_comm D E l,demL_comm D E ls]
end
theorem odem_comm (D E:List Nat) (x:Obj):(x.dem D).dem E=(x.dem E).dem D:=by
 cases x with
 | var cs=>simp only[Obj.dem,demL_comm D E]
 | rows _ _ _ _=>rfl
theorem apply_comm {s:LSt}{e f:Eff}{d d':Option Nat}(h1:Sorted s.env) (h2:Sorted s.objs) (hd:∀n,d=some n->d'≠some n) (hu:∀x∈e.upd,∀y∈f.upd,x.1≠y.1):
  (s.apply e d).apply (f.demE e.dem) d'=(s.apply f d').apply (e.demE f.dem) d:=by
 obtain⟨a1,a2⟩:=apply_sorted e d h1 h2
 obtain⟨b1,b2⟩:=apply_sorted f d' h1 h2
 obtain⟨c1,c2⟩:=apply_sorted (f.demE e.dem) d' a1 a2
 obtain⟨e1,e2⟩:=apply_sorted (e.demE f.dem) d b1 b2
 have henv:((s.apply e d).apply (f.demE e.dem) d').env=((s.apply f d').apply (e.demE f.dem) d).env:=by
  refine sorted_ext c1 e1 fun m=>?_
  simp only[apply_env_get,Eff.demE]
  by_cases x:d'=some m
  .have:¬d=some m:=fun hh=>hd m hh x
   simp only[x,this,if_true,if_false]
  .by_cases y:d=some m
   .simp only[x,y,if_true,if_false]
   .simp only[x,y,if_false,Option.map_map,Function.comp_def,dem_comm e.dem f.dem]
 have hobj:((s.apply e d).apply (f.demE e.dem) d').objs=((s.apply f d').apply (e.demE f.dem) d).objs:=by
  refine sorted_ext c2 e2 fun m=>?_
  simp only[apply_objs_get,Eff.demE,lookU_map]
  cases hf:lookU f.upd m with
  | none=>
   cases he:lookU e.upd m with
   | none=>simp only[Option.map_none,Option.map_map,Function.comp_def,odem_comm e.dem f.dem]
   | some y=>rfl
  | some y=>
   have:lookU e.upd m=none:=by
    refine lookU_none fun x hx hm=>?_
    have:lookU f.upd m=none:=lookU_none fun z hz hm'=>hu x hx z hz (hm.trans hm'.symm)
    rw[this]at hf;cases hf
   rw[this]
   rfl
 have:∀a b:LSt,a.env=b.env->a.objs=b.objs->a.fix=b.fix->a=b:=by
  intro a b h1 h2 h3;cases a;cases b;simp only at h1 h2 h3;rw[h1,h2,h3]
 exact this _ _ henv hobj rfl
open Go.RowKit
def LI.tmps (i:LI):List Nat:=i.op.tmps++(match i.guard with | some (t,_)=>[t] | none=>[])
def apart (a b:List Nat):Bool:=a.all fun x => !b.contains x
def ownsApart (a b:LOp):Bool:=
 apart a.ends b.ends&&(match b.cls with | some g=>a.ends.all fun t=>t%4096 != g | none=>true) &&
 (match a.cls with | some g=>(b.ends.all fun t=>t%4096 != g)&&(match b.cls with | some g'=>g != g' | none=>true) | none=>true)
def LOp.still (a:LOp):Bool:=a.ends.isEmpty&&a.cls.isNone
def sep (j i:LI):Bool:=
 (match j.dst with | some d => !i.tmps.contains d&&(match i.dst with | some d'=>d != d' | none=>true) | none=>true) &&
 (match i.dst with | some d => !j.tmps.contains d | none=>true) &&
 apart j.op.wobj i.op.robj&&apart j.op.wobj i.op.wobj&&apart i.op.wobj j.op.robj&&ownsApart j.op i.op &&
 (j.op.still || !i.op.moves)&&(i.op.still || !j.op.moves)
def okZeros (a:LOp):Bool:=(LV.toksL a.zeros).isEmpty&&(LV.namesL a.zeros).isEmpty
def boundT (ops:Array Oper) (j:Nat):Nat->Nat->Bool
 | 0,_=>false
 | n+1,i=>match ops[i]? with
  | some o=>o.after.any fun e=>Region.binds .any e&&(e.on == j || boundT ops j n e.on)
  | none=>false
def bound (ops:Array Oper) (j i:Nat):Bool:=boundT ops j 8 i
def pairOk (ops:Array Oper) (x y:Nat×LI):Bool:=decide (x.1<y.1)&&(bound ops x.1 y.1 || sep x.2 y.2)&&apart x.2.op.allocs y.2.op.allocs
def drawPairs (ops:Array Oper):List (Nat×LI)->Bool
 | []=>true
 | x::r=>(r.all (pairOk ops x))&&drawPairs ops r
def backward:Nat->List Oper->Bool
 | _,[]=>true
 | k,o::r=>(o.after.all fun e => !Region.binds .any e || decide (e.on<k))&&backward (k+1) r
def indexed:Nat->List LI->List (Nat×LI)
 | _,[]=>[]
 | k,i::r=>(k,i)::indexed (k+1) r
def drawOk (ops:Array Oper) (l:List LI):Bool:=
 drawPairs ops (indexed 0 l)&&(l.all fun i=>okZeros i.op&&i.kill.isEmpty)&&backward 0 ops.toList
theorem apart_spec {a b:List Nat}(h:apart a b=true):∀x∈a,x∉b:=fun x hx=>by
 have:=List.all_eq_true.1 h x hx
 simpa using this
section
variable {call:CallF}{s t s1 s2:LSt}{D ts os al:List Nat}
def evLI (call:CallF) (s:LSt) (i:LI):Option Eff:=
 (wantedL s i.guard).bind fun | true=>evOp call s i.op | false=>some skipE
def stepLI (call:CallF) (i:LI) (s:LSt):Option LSt:=(evLI call s i).bind fun e=>some (s.apply e i.dst)
def evLs (call:CallF):List (Nat×LI)->LSt->Option LSt
 | [],s=>some s
 | (_,i)::r,s=>(stepLI call i s).bind (evLs call r)
theorem evOps_eq:∀ (l:List LI) (k:Nat) (s:LSt),(∀i∈l,i.kill=[])->evOps call l s=evLs call (indexed k l) s
 | [],_,_,_=>rfl
 | i::r,k,s,hk=>by
  have hki:=hk i (by simp)
  have hkr:∀j∈r,j.kill=[]:=fun j hj=>hk j (by simp[hj])
  simp only[evOps,hki,LSt.kill,indexed,evLs,stepLI,evLI]
  cases wantedL s i.guard with
  | none=>rfl
  | some b=>
   cases b with
   | true=>
    simp only[obb]
    cases evOp call s i.op with
    | none=>rfl
    | some e=>simp only[obb];exact evOps_eq r (k+1) _ hkr
   | false=>
    simp only[obb]
    exact evOps_eq r (k+1) _ hkr
theorem evLI_nat (h:Agr D ts os al s t){i:LI}(h1:∀n∈i.tmps,n∈ts) (h2:∀o∈i.op.robj,o∈os) (h3:∀o∈i.op.allocs,o∈al) (h4:∀g∈i.op.ends,g∉D) (h5:∀g,i.op.cls=some g->∀d∈D,d%4096≠g)
  (h6:D=[]\/i.op.moves=false) (h7:LV.toksL i.op.zeros=[]):evLI call t i=(evLI call s i).map (Eff.demE D):=by
 have hw:wantedL t i.guard=wantedL s i.guard:=by
  cases hg:i.guard with
  | none=>rfl
  | some tb=>
   obtain⟨n,b⟩:=tb
   simp only[wantedL,h.env n (h1 n (by simp[LI.tmps,hg]))]
   cases aget s.env n with
   | none=>rfl
   | some l=>
    have:=bool?_dem D l
    cases l with
    | tup ls=>cases ls<;>rfl
    | own g sz es=>rcases dem_own D g sz es with e | e<;>(simp only[Option.map_some,obb,e]<;>rfl)
    | _=>rfl
 unfold evLI
 rw[hw]
 cases wantedL s i.guard with
 | none=>rfl
 | some b=>
  cases b with
  | true=>exact ev_nat h (fun n hn=>h1 n (by simp[LI.tmps,hn])) h2 h3 h4 h5 h6 h7
  | false=>rfl
theorem evLI_spec {i:LI}{e:Eff}(he:evLI call s i=some e) (h7:LV.namesL i.op.zeros=[]):Spec i.op s e:=by
 unfold evLI at he
 obtain⟨b,_,he⟩:=obs he
 cases b with
 | true=>exact ev_spec he h7
 | false=>simp only[osi]at he;subst he;exact⟨by simp[skipE],by simp[skipE],by intro o _ _ l hl;cases hl;simp[LV.names,LV.namesL],by simp[skipE]⟩
theorem apply_free {op:LOp}{e:Eff}(hsp:Spec op s e){o:Nat}(ho:noName s o=true) (ha:o∉op.allocs) (d:Option Nat):noName (s.apply e d) o=true:=by
 obtain⟨n1,n2,n3,n4⟩:=noName_spec ho
 simp only[noName,bat,List.all_eq_true]
 refine⟨⟨?_,fun x hx=>?_⟩,fun x hx=>?_⟩
 .rw[apply_fix];simpa using n4
 .have hold:x∈s.env.map (fun x=>(x.1,x.2.dem e.dem))->o∉x.2.names:=fun hx=>by
   obtain⟨y,hy,rfl⟩:=List.mem_map.1 hx
   rw[LV.names_dem];exact n1 y hy
  rw[apply_env]at hx
  have:o∉x.2.names:=by
   cases d with
   | none=>exact hold hx
   | some d=>
    cases hv:e.val with
    | none=>rw[hv]at hx;exact hold (adel_mem hx).1
    | some l=>
     rw[hv]at hx
     rcases aset_mem hx with rfl | ⟨hx,_⟩
     .exact hsp.val o ho ha l hv
     .exact hold hx
  simpa using this
 .rw[apply_objs]at hx
  rcases updObjs_mem hx with⟨hx,_⟩ | hx
  .obtain⟨y,hy,rfl⟩:=List.mem_map.1 hx
   simp only[Obj.cells_dem,LV.namesL_dem]
   have h1:=n3 y hy
   have h2:=n2 y hy
   simp[h1,h2]
  .obtain⟨h1,h2⟩:=hsp.upd o ho ha _ hx
   have:=h2 _ rfl
   simp only at h1
   simp[h1,this]
structure Well (s:LSt) (al:List Nat):Prop where
 env:Sorted s.env
 objs:Sorted s.objs
 free:∀o∈al,noName s o=true
theorem agr_step {j i:LI}{e:Eff}(he:evLI call s j=some e) (hz:LV.namesL j.op.zeros=[]) (hdi:∀d,j.dst=some d->d∉i.tmps) (hw:∀o∈j.op.wobj,o∉i.op.robj) (hja:∀o∈j.op.allocs,o∉i.op.allocs)
  (hf:∀o∈i.op.allocs,noName s o=true):Agr e.dem i.tmps i.op.robj i.op.allocs s (s.apply e j.dst):=by
 have hsp:=evLI_spec he hz
 refine⟨fun x hx=>?_,fun o ho=>?_,fun o ho=>⟨hf o ho,apply_free hsp (hf o ho) (fun h=>hja o h ho) _⟩⟩
 .rw[apply_env_get,if_neg fun h=>hdi x h hx]
 .rw[apply_objs_get,lookU_none fun y hy e=>hw _ (hsp.key y hy) (e▸ho)]
theorem allocs_wobj {op:LOp}{o:Nat}(h:o∈op.allocs):o∈op.wobj:=by
 cases op<;>simp_all [LOp.allocs,LOp.wobj]
theorem dem_apart {a b:LOp}{e:Eff}{s:LSt}(hs:Spec a s e) (h:ownsApart a b=true):(∀g∈b.ends,g∉e.dem)/\∀g,b.cls=some g->∀d∈e.dem,d%4096≠g:=by
 unfold ownsApart at h
 simp only[bat]at h
 obtain⟨⟨h1,h2⟩,h3⟩:=h
 refine⟨fun g hg hd=>?_,fun g hg d hd e=>?_⟩
 .rcases hs.dem g hd with h | ⟨c,hc,h⟩
  .exact apart_spec h1 g h hg
  .rw[hc]at h3
   simp only[bat]at h3
   have:=List.all_eq_true.1 h3.1 g hg
   simp[h]at this
 .rcases hs.dem d hd with h | ⟨c,hc,h⟩
  .rw[hg]at h2
   have:=List.all_eq_true.1 h2 d h
   simp[e]at this
  .rw[hc]at h3
   simp only[bat,hg]at h3
   have:=h3.2
   rw[<-h,e]at this
   simp at this
theorem ownsApart_symm {a b:LOp}(h:ownsApart a b=true):ownsApart b a=true:=by
 unfold ownsApart at h ⊢
 simp only[bat]at h ⊢
 obtain⟨⟨h1,h2⟩,h3⟩:=h
 refine⟨⟨?_,?_⟩,?_⟩
 .refine List.all_eq_true.2 fun x hx=>?_
  have:x∉a.ends:=fun h=>apart_spec h1 x h hx
  simpa using this
 .cases hc:a.cls with
  | none=>rfl
  | some g=>rw[hc]at h3;simp only[bat]at h3;exact h3.1
 .cases hc:b.cls with
  | none=>rfl
  | some g=>
   rw[hc]at h2 h3
   simp only[bat]
   refine⟨h2,?_⟩
   cases hd:a.cls with
   | none=>rfl
   | some g'=>
    rw[hd]at h3
    simp only[bat]at h3
    have:=h3.2
    simp only[bne_iff_ne,ne_eq]at this ⊢
    exact fun e=>this e.symm
theorem still_dem {a:LOp}{e:Eff}{s:LSt}(hs:Spec a s e) (h:a.still=true):e.dem=[]:=by
 unfold LOp.still at h
 simp only[bat,List.isEmpty_iff,Option.isNone_iff_eq_none]at h
 refine List.eq_nil_iff_forall_not_mem.2 fun d hd=>?_
 rcases hs.dem d hd with h' | ⟨c,hc,_⟩
 .rw[h.1]at h';cases h'
 .rw[h.2]at hc;cases hc
theorem swap {j i:LI}(hw:Well s (j.op.allocs++i.op.allocs)) (hs:sep j i=true) (hzj:okZeros j.op=true) (hzi:okZeros i.op=true) (h1:stepLI call j s=some s1) (h2:stepLI call i s1=some s2):
  ∃s1',stepLI call i s=some s1'/\stepLI call j s1'=some s2:=by
 unfold sep at hs
 simp only[bat]at hs
 obtain⟨⟨⟨⟨⟨⟨⟨p1,p2⟩,p3⟩,p4⟩,p5⟩,p6⟩,p7⟩,p8⟩:=hs
 unfold okZeros at hzj hzi
 simp only[bat,List.isEmpty_iff]at hzj hzi
 have hdi:∀d,j.dst=some d->d∉i.tmps:=fun d hd=>by
  rw[hd]at p1;simp only[bat]at p1;simpa using p1.1
 have hdd:∀d,j.dst=some d->i.dst≠some d:=fun d hd hd'=>by
  rw[hd]at p1;simp only[bat,hd']at p1;simp at p1
 have hdj:∀d,i.dst=some d->d∉j.tmps:=fun d hd=>by
  rw[hd]at p2;simpa using p2
 have p3:=apart_spec p3
 have p4:=apart_spec p4
 have p5:=apart_spec p5
 unfold stepLI at h1 h2
 obtain⟨ej,hej,h1⟩:=obs h1
 simp only[osi]at h1
 subst h1
 obtain⟨ei',hei',h2⟩:=obs h2
 simp only[osi]at h2
 subst h2
 have sj:=evLI_spec hej hzj.2
 have ag:=agr_step (i:=i) hej hzj.2 hdi p3 (fun o ho ho'=>p4 o (allocs_wobj ho) (allocs_wobj ho')) (fun o ho=>hw.free o (by simp[ho]))
 obtain⟨q1,q2⟩:=dem_apart sj p6
 have hmi:ej.dem=[]\/i.op.moves=false:=by
  rcases Bool.or_eq_true _ _▸p7 with h | h
  .exact .inl (still_dem sj h)
  .exact .inr (by simpa using h)
 have nat1:=evLI_nat (call:=call) ag (fun _ h=>h) (fun _ h=>h) (fun _ h=>h) q1 q2 hmi hzi.1
 rw[hei']at nat1
 cases hei:evLI call s i with
 | none=>rw[hei]at nat1;cases nat1
 | some ei=>
  rw[hei]at nat1
  simp only[Option.map_some,osi]at nat1
  subst nat1
  have si:=evLI_spec hei hzi.2
  have ag':=agr_step (i:=j) hei hzi.2 hdj p5 (fun o ho ho'=>p4 o (allocs_wobj ho') (allocs_wobj ho)) (fun o ho=>hw.free o (by simp[ho]))
  obtain⟨r1,r2⟩:=dem_apart si (ownsApart_symm p6)
  have hmj:ei.dem=[]\/j.op.moves=false:=by
   rcases Bool.or_eq_true _ _▸p8 with h | h
   .exact .inl (still_dem si h)
   .exact .inr (by simpa using h)
  have nat2:=evLI_nat (call:=call) ag' (fun _ h=>h) (fun _ h=>h) (fun _ h=>h) r1 r2 hmj hzj.1
  rw[hej]at nat2
  refine⟨s.apply ei i.dst,by simp[stepLI,hei],?_⟩
  simp only[stepLI,nat2,Option.map_some,obb,osi]
  exact (apply_comm hw.env hw.objs hdd fun x hx y hy e=>p4 _ (sj.key x hx) (e▸si.key y hy)).symm
theorem sortedB_spec {α:Type}:∀ {l:List (Nat×α)},sortedB l=true->Sorted l
 | [],_=>List.Pairwise.nil
 | x::r,h=>by
  simp only[sortedB,bat]at h
  exact List.pairwise_cons.2 ⟨fun y hy=>by have:=List.all_eq_true.1 h.1 y hy;simpa using this,sortedB_spec h.2⟩
def allocsOf (l:List (Nat×LI)):List Nat:=l.flatMap fun x=>x.2.op.allocs
theorem step_well {i:LI}{al:List Nat}(hw:Well s al) (hz:okZeros i.op=true) (h:stepLI call i s=some s1) {al':List Nat}(ha:∀o∈al',o∈al/\o∉i.op.allocs):Well s1 al':=by
 unfold okZeros at hz
 simp only[bat,List.isEmpty_iff]at hz
 unfold stepLI at h
 obtain⟨e,he,h⟩:=obs h
 simp only[osi]at h
 subst h
 obtain⟨a1,a2⟩:=apply_sorted e i.dst hw.env hw.objs
 exact⟨a1,a2,fun o ho=>apply_free (evLI_spec he hz.2) (hw.free o (ha o ho).1) (ha o ho).2 _⟩
theorem move_front {k:Nat}{i:LI}{post:List (Nat×LI)}{s':LSt}:∀ {pre:List (Nat×LI)}{s:LSt},Well s (allocsOf (pre++(k,i)::post))->(∀x∈pre,sep x.2 i=true)->(∀x∈pre,okZeros x.2.op=true)->okZeros i.op=true ->
  (pre++(k,i)::post).Pairwise (fun x y=>∀o∈x.2.op.allocs,o∉y.2.op.allocs)->evLs call (pre++(k,i)::post) s=some s'->∃s1,stepLI call i s=some s1/\evLs call (pre++post) s1=some s':=by
 intro pre
 induction pre with
 | nil=>
  intro s _ _ _ _ _ h
  simp only[List.nil_append,evLs]at h ⊢
  exact obs h
 | cons x pre ih=>
  intro s hw hs hz hzi hp h
  obtain⟨j,a⟩:=x
  simp only[List.cons_append,evLs]at h
  obtain⟨s1,h1,h⟩:=obs h
  have hp':=List.pairwise_cons.1 hp
  have hw1:Well s1 (allocsOf (pre++(k,i)::post)):=step_well hw (hz (j,a) (by simp)) h1 fun o ho=>by
   refine⟨by simp only[allocsOf,List.cons_append,List.flatMap_cons,List.mem_append];exact .inr ho,fun hoa=>?_⟩
   obtain⟨y,hy,hyo⟩:=List.mem_flatMap.1 ho
   exact hp'.1 y hy o hoa hyo
  obtain⟨s2,h2,h3⟩:=ih hw1 (fun x hx=>hs x (by simp[hx])) (fun x hx=>hz x (by simp[hx])) hzi hp'.2 h
  have hwj:Well s (a.op.allocs++i.op.allocs):=⟨hw.env,hw.objs,fun o ho=>hw.free o (by
   simp only[allocsOf,List.mem_flatMap]
   rcases lma ho with ho | ho
   .exact⟨(j,a),by simp,ho⟩
   .exact⟨(k,i),by simp,ho⟩)⟩
  obtain⟨s1',q1,q2⟩:=swap hwj (hs (j,a) (by simp)) (hz (j,a) (by simp)) hzi h1 h2
  exact⟨s1',q1,by simp only[List.cons_append,evLs,q2,obb,h3]⟩
theorem drawPairs_spec {ops:Array Oper}:∀ {l:List (Nat×LI)},drawPairs ops l=true->l.Pairwise fun x y=>pairOk ops x y=true
 | [],_=>List.Pairwise.nil
 | x::r,h=>by
  simp only[drawPairs,bat]at h
  exact List.pairwise_cons.2 ⟨fun y hy=>List.all_eq_true.1 h.1 y hy,drawPairs_spec h.2⟩
theorem backward_spec:∀ {l:List Oper}{k i:Nat}{o:Oper},backward k l=true->l[i]?=some o->∀e∈o.after,Region.binds .any e=true->e.on<k+i
 | [],_,_,_,_,h=>by simp at h
 | x::l,k,i,o,hb,h=>by
  simp only[backward,bat]at hb
  cases i with
  | zero=>
   simp at h
   subst h
   intro e he hbd
   have:=Array.all_eq_true_iff_forall_mem.1 hb.1 e he
   simp[hbd]at this
   omega
  | succ i=>
   intro e he hbd
   have:=backward_spec hb.2 (by simpa using h) e he hbd
   omega
theorem chk_indexed {P:Program}{nt:Nat}{ops:Array Oper}:∀ {is:List LI}{os:List Oper}{k:Nat},chkLIs P nt ops is os=true->(∀i o,os[i]?=some o->ops[k+i]?=some o) ->
  (∀x∈indexed k is,∃o,ops[x.1]?=some o/\chkLI P nt ops o x.2=true)/\(indexed k is).length=os.length/\∀m,k<=m->m<k+os.length->∃i,(m,i)∈indexed k is
 | [],[],_,_,_=>⟨by simp[indexed],rfl,fun m h1 h2=>by simp at h2;omega⟩
 | [],_::_,_,h,_=>by simp[chkLIs]at h
 | _::_,[],_,h,_=>by simp[chkLIs]at h
 | i::is,o::os,k,h,ho=>by
  simp only[chkLIs,bat]at h
  obtain⟨a1,a2,a3⟩:=chk_indexed (k:=k+1) h.2 fun j o' hj=>by
   have:=ho (j+1) o' (by simpa using hj)
   rwa [show k+1+j=k+(j+1) by omega]
  refine⟨fun x hx=>?_,by simp[indexed,a2],fun m h1 h2=>?_⟩
  .rcases lm1 hx with rfl | hx
   .exact⟨o,by simpa using ho 0 o rfl,h.1⟩
   .exact a1 x hx
  .by_cases e:m=k
   .exact⟨i,by simp[indexed,e]⟩
   .simp only[List.length_cons]at h2
    obtain⟨j,hj⟩:=a3 m (by omega) (by omega)
    exact⟨j,by simp[indexed,hj]⟩
end
section
variable {call:CallF}{P:Program}{nt:Nat}{F:Fr}{Wr:Nat->Prop}
def Down (ops:Array Oper) (listed:Array Bool):Prop:=∀i o,ops[i]?=some o->listed.getD i false=true->∀e∈o.after,Region.binds .any e=true->listed.getD e.on false=true
theorem boundT_listed {ops:Array Oper}{listed:Array Bool}(hd:Down ops listed){j:Nat}:∀ {n i:Nat}{o:Oper},ops[i]?=some o->(∀e∈o.after,Region.binds .any e=true->listed.getD e.on false=true)->boundT ops j n i=true->listed.getD j false=true
 | 0,_,_,_,_,h=>by cases h
 | n+1,i,o,ho,hl,h=>by
  simp only[boundT,ho]at h
  obtain⟨e,he1,he2⟩:=Array.any_eq_true'.1 h
  simp only[bat,Bool.or_eq_true,beq_iff_eq]at he2
  have h1:=hl e he1 he2.1
  rcases he2.2 with h2 | h2
  .rw[<-h2];exact h1
  .cases hoe:ops[e.on]? with
   | none=>cases n<;>simp[boundT,hoe]at h2
   | some o'=>exact boundT_listed hd hoe (hd e.on o' hoe h1) h2
theorem any_wp (hcall:CallOk P F.K0 call){ops:Array Oper}{Q:Exit->Act->World->Prop}(hb:backward 0 ops.toList=true):∀ (fuel:Nat){rem:List (Nat×LI)}{listed:Array Bool}{K:Know}{N:Names}{a:Act}{w:World}{s s':LSt},
  (∀k,k<ops.size->(listed.getD k true=false↔∃i,(k,i)∈rem))->listed.size=ops.size->(∀x∈rem,∃o,ops[x.1]?=some o/\chkLI P nt ops o x.2=true)->(∀x∈rem,okZeros x.2.op=true) ->
  rem.Pairwise (fun x y=>pairOk ops x y=true)->rem.length<=fuel->Down ops listed->Well s (allocsOf rem)->evLs call rem s=some s'->Rel nt F Wr K N a w s->Post nt F Wr K a w s' (Q .normal) ->
  wpAny P .any ops Q fuel listed a w:=by
 intro fuel
 have ready:∀ {rem:List (Nat×LI)}{listed:Array Bool},(∀k,k<ops.size->(listed.getD k true=false↔∃i,(k,i)∈rem))->listed.size=ops.size->(∀x∈rem,∃o,ops[x.1]?=some o/\chkLI P nt ops o x.2=true) ->
   rem.Pairwise (fun x y=>pairOk ops x y=true)->Region.ready .any ops listed=[]->rem=[]:=by
  intro rem listed hl hsz hc hp hr
  cases rem with
  | nil=>rfl
  | cons x rem=>
   exfalso
   obtain⟨k,i⟩:=x
   obtain⟨o,ho,_⟩:=hc (k,i) (by simp)
   have hk:k<ops.size:=(ags ho).1
   have hno:listed.getD k true=false:=(hl k hk).2 ⟨i,by simp⟩
   have:k∈Region.ready .any ops listed:=by
    simp only[Region.ready,List.mem_filter,List.mem_range]
    refine⟨hk,?_⟩
    rw[hno,ho]
    simp only[Bool.not_false,Option.map_some,Option.getD_some,Bool.true_and]
    refine Array.all_eq_true_iff_forall_mem.2 fun e he=>?_
    cases hbd:Region.binds .any e with
    | false=>rfl
    | true=>
     have hlt:=backward_spec (i:=k) hb (by simpa using ho) e he hbd
     rw[Nat.zero_add]at hlt
     simp only[Bool.not_true,Bool.false_or]
     cases hge:listed.getD e.on true with
     | false=>
      obtain⟨i',hi'⟩:=(hl e.on (by omega)).1 hge
      rcases lm1 hi' with h | h
      .simp only[Prod.mk.injEq]at h;omega
      .have:=(List.pairwise_cons.1 hp).1 _ h
       simp only[pairOk,bat,decide_eq_true_eq]at this
       have:=this.1.1
       omega
     | true=>
      have:e.on<listed.size:=by omega
      simp only[Array.getD,this,dif_pos]at hge ⊢
      exact hge
   rw[hr]at this
   cases this
 induction fuel with
 | zero=>
  intro rem listed K N a w s s' hl hsz hc hz hp hlen hdn hw he h hn
  have hr:rem=[]:=by cases rem with | nil=>rfl | cons _ _=>simp at hlen
  subst hr
  simp only[evLs,osi]at he
  subst he
  refine⟨?_,hn a w K N KExt.refl (Keep.refl _ _) rfl h⟩
  refine List.eq_nil_iff_forall_not_mem.2 fun k hk=>?_
  simp only[Region.ready,List.mem_filter,List.mem_range]at hk
  have:¬listed.getD k true=false:=fun hh=>by
   obtain⟨i,hi⟩:=(hl k hk.1).1 hh
   simp at hi
  have:listed.getD k true=true:=by simpa using this
  rw[this]at hk
  simp at hk
 | succ fuel ih=>
  intro rem listed K N a w s s' hl hsz hc hz hp hlen hdn hw he h hn
  refine⟨fun hr=>?_,fun k hk=>?_⟩
  .have:=ready hl hsz hc hp hr
   subst this
   simp only[evLs,osi]at he
   subst he
   exact hn a w K N KExt.refl (Keep.refl _ _) rfl h
  .simp only[Region.ready,List.mem_filter,List.mem_range,bat]at hk
   obtain⟨hk,hkl,hke⟩:=hk
   have hkl:listed.getD k true=false:=by simpa using hkl
   obtain⟨i,hi⟩:=(hl k hk).1 hkl
   obtain⟨pre,post,rfl⟩:=List.append_of_mem hi
   obtain⟨o,ho,hci⟩:=hc _ hi
   simp only at ho hci
   rw[ho]at hke
   simp only[Option.map_some,Option.getD_some]at hke
   have hpw:=List.pairwise_append.1 hp
   have hsep:∀x∈pre,sep x.2 i=true:=by
    intro x hx
    have:=hpw.2.2 x hx (k,i) (by simp)
    simp only[pairOk,bat,Bool.or_eq_true]at this
    rcases this.1.2 with hbd | hs
    .exfalso
     have hpr:∀e∈o.after,Region.binds .any e=true->listed.getD e.on false=true:=fun e he hbe=>by
      have h3:=Array.all_eq_true_iff_forall_mem.1 hke e he
      simpa[hbe]using h3
     have h3:=boundT_listed hdn ho hpr hbd
     obtain⟨o',ho',_⟩:=hc x (by simp[hx])
     have hx1:x.1<ops.size:=(ags ho').1
     have h4:listed.getD x.1 true=false:=(hl x.1 hx1).2 ⟨x.2,by simp[hx]⟩
     have:x.1<listed.size:=by omega
     simp only[Array.getD,this,dif_pos]at h3 h4
     rw[h3]at h4;cases h4
    .exact hs
   obtain⟨s1,h1,h2⟩:=move_front hw hsep (fun x hx=>hz x (by simp[hx])) (hz (k,i) (by simp)) (hp.imp fun {x y} hxy=>by
    simp only[pairOk,bat]at hxy
    exact apart_spec hxy.2) he
   have hsub:(pre++post).Sublist (pre++(k,i)::post):=List.Sublist.append_left (List.sublist_cons_self _ _) _
   have hkn:∀x∈pre++post,x.1≠k:=by
    intro x hx
    rcases lma hx with hx | hx
    .have:=hpw.2.2 x hx (k,i) (by simp)
     simp only[pairOk,bat,decide_eq_true_eq]at this
     have:=this.1.1
     omega
    .have:=(List.pairwise_cons.1 hpw.2.1).1 x hx
     simp only[pairOk,bat,decide_eq_true_eq]at this
     have:=this.1.1
     omega
   have hw1:Well s1 (allocsOf (pre++post)):=step_well hw (hz (k,i) (by simp)) h1 fun o' ho'=>by
    obtain⟨y,hy,hyo⟩:=List.mem_flatMap.1 ho'
    refine⟨List.mem_flatMap.2 ⟨y,hsub.mem hy,hyo⟩,fun hoi=>?_⟩
    rcases lma hy with hy | hy
    .have:=hpw.2.2 y hy (k,i) (by simp)
     simp only[pairOk,bat]at this
     exact apart_spec this.2 o' hyo hoi
    .have:=(List.pairwise_cons.1 hpw.2.1).1 y hy
     simp only[pairOk,bat]at this
     exact apart_spec this.2 o' hoi hyo
   have hl1:∀m,m<ops.size->((listed.setIfInBounds k true).getD m true=false↔∃i,(m,i)∈pre++post):=by
    intro m hm
    by_cases e:m=k
    .subst e
     have:(listed.setIfInBounds m true).getD m true=true:=by
      simp[Array.getD_eq_getD_getElem?,show m<listed.size by omega]
     rw[this]
     constructor
     .intro h;cases h
     .rintro ⟨i',hi'⟩;exact absurd rfl (hkn _ hi')
    .have:(listed.setIfInBounds k true).getD m true=listed.getD m true:=by
      simp only[Array.getD_eq_getD_getElem?]
      rw[Array.getElem?_setIfInBounds_ne (fun e'=>e e'.symm)]
     rw[this,hl m hm]
     constructor
     .rintro ⟨i',hi'⟩
      simp only[List.mem_append,List.mem_cons,Prod.mk.injEq]at hi'
      rcases hi' with hi' | ⟨e1,_⟩ | hi'
      .exact⟨i',by simp[hi']⟩
      .exact absurd e1 e
      .exact⟨i',by simp[hi']⟩
     .rintro ⟨i',hi'⟩;exact⟨i',hsub.mem hi'⟩
   have hdn1:Down ops (listed.setIfInBounds k true):=by
    have hget:∀m,listed.getD m false=true->(listed.setIfInBounds k true).getD m false=true:=fun m hm=>by
     by_cases e:m=k
     .subst e;simp[Array.getD_eq_getD_getElem?,show m<listed.size by omega]
     .simp only[Array.getD_eq_getD_getElem?]at hm ⊢
      rw[Array.getElem?_setIfInBounds_ne (fun e'=>e e'.symm)];exact hm
    intro m o' ho' hm e he hbe
    by_cases e':m=k
    .subst e'
     rw[ho]at ho'
     simp only[osi]at ho'
     subst ho'
     have h3:=Array.all_eq_true_iff_forall_mem.1 hke e he
     exact hget _ (by simpa[hbe]using h3)
    .refine hget _ (hdn m o' ho' ?_ e he hbe)
     simp only[Array.getD_eq_getD_getElem?]at hm ⊢
     rw[Array.getElem?_setIfInBounds_ne (fun e''=>e' e''.symm)]at hm;exact hm
   have hlen1:(pre++post).length<=fuel:=by simp at hlen ⊢;omega
   obtain⟨c1,c2,c3,c4⟩:=chkLI_eq hci
   unfold stepLI evLI at h1
   obtain⟨e,hev,h1⟩:=obs h1
   obtain⟨b,hb',hev⟩:=obs hev
   simp only[osi]at h1
   have hwd:=wanted_eq (ops:=ops) h hb' c4
   unfold wpOp
   rw[ho]
   simp only
   cases b with
   | true=>
    simp only at hev
    rw[if_pos hwd]
    refine .inl (op_wp hcall h hev c3 c2 ?_)
    intro v w' K' N' hK hk' hrel
    rw[<-c1,h1]at hrel
    refine ih hl1 (by simpa using hsz) (fun x hx=>hc x (hsub.mem hx)) (fun x hx=>hz x (hsub.mem hx)) (hp.sublist hsub) hlen1 hdn1 hw1 h2 (by rw[<-c1];exact hrel) ?_
    intro a'' w'' K'' N'' hK' hk'' hdf hrel'
    exact hn a'' w'' K'' N'' (hK.trans hK') (hk'.trans hk'') (by rw[hdf,defers_put]) hrel'
   | false=>
    simp only[osi]at hev
    rw[if_neg (by simp[hwd])]
    have hrel:Rel nt F Wr K N (a.put o.dst undef) w s1:=by
     rw[<-h1,<-hev,c1]
     exact h.skip o.dst c2
    refine ih hl1 (by simpa using hsz) (fun x hx=>hc x (hsub.mem hx)) (fun x hx=>hz x (hsub.mem hx)) (hp.sublist hsub) hlen1 hdn1 hw1 h2 hrel ?_
    intro a'' w'' K'' N'' hK' hk'' hdf hrel'
    exact hn a'' w'' K'' N'' hK' hk'' (by rw[hdf,defers_put]) hrel'
theorem draw_wp (hm:P.follows .mixedOrders=true) (hcall:CallOk P F.K0 call){K:Know}{N:Names}{a:Act}{w:World}{s s':LSt}{ops:Array Oper}{id:Nat}{is:List LI}{Q:Exit->Act->World->Prop}
  (hc:chkLIs P nt ops is ops.toList=true) (hd:drawOk ops is=true) (hr:drawRdy s is=true) (he:evOps call is s=some s') (h:Rel nt F Wr K N a w s) (hn:Post nt F Wr K a w s' (Q .normal)):(Code.region id ops true).wp P Q a w:=by
 unfold drawOk at hd
 simp only[bat]at hd
 obtain⟨⟨d1,d2⟩,d3⟩:=hd
 unfold drawRdy at hr
 simp only[bat]at hr
 obtain⟨⟨r1,r2⟩,r3⟩:=hr
 obtain⟨a1,a2,a3⟩:=chk_indexed (k:=0) hc fun i o hi=>by rw[Nat.zero_add];simpa using hi
 have hmem:∀ {is:List LI}{k:Nat},∀x∈indexed k is,x.2∈is:=by
  intro is
  induction is with
  | nil=>intro k x hx;simp[indexed]at hx
  | cons i is ih=>
   intro k x hx
   rcases lm1 hx with rfl | hx
   .simp
   .simp[ih x hx]
 refine wp_region_any hm (any_wp (nt:=nt) (F:=F) (Wr:=Wr) hcall d3 ops.size (rem:=indexed 0 is) (s:=s) (s':=s') (K:=K) (N:=N) (w:={ w with drawn:=w.drawn+1 }) ?_ (by simp) a1 ?_ (drawPairs_spec d1) (by rw[a2];simp) (fun i o _ hl=>by simp[Array.getD_eq_getD_getElem?,Array.getElem?_replicate]at hl;split at hl<;>simp at hl) ?_ (by rw[<-evOps_eq _ _ _ fun i hi=>by have:=List.all_eq_true.1 d2 i hi;simp only[bat,List.isEmpty_iff]at this;exact this.2];exact he) ?_ ?_)
 .intro k hk
  have:(Array.replicate ops.size false).getD k true=false:=by simp[Array.getD_eq_getD_getElem?,hk]
  rw[this]
  refine⟨fun _=>a3 k (by omega) (by simpa using hk),fun _=>rfl⟩
 .intro x hx
  have:=List.all_eq_true.1 d2 x.2 (hmem x hx)
  simp only[bat]at this
  exact this.1
 .refine⟨sortedB_spec r1,sortedB_spec r2,fun o ho=>?_⟩
  obtain⟨x,hx,hxo⟩:=List.mem_flatMap.1 ho
  exact List.all_eq_true.1 (List.all_eq_true.1 r3 x.2 (hmem x hx)) o hxo
 .exact⟨h.inv,h.bnd,h.size,h.new,h.k0,h.fx,h.pin⟩
 .intro a' w' K' N' hK hk hdf hrel
  exact hn a' w' K' N' hK ⟨hk.os,hk.tape,hk.output,hk.size,hk.block⟩ hdf hrel
end
end Go.Proofs.YtpgmljkhleidjaaGreatDoor.LM
