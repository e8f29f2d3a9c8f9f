/- laws.FnExactAskCheck returns true for every input whose arguments and package variables hold together at most 1048576 values and letters; the input reads as it did. -/
import Derived.Test.YtpgmljkhleidjaaGreatDoorL2
import Derived.WalkKit
import Derived.ProofKit
import Derived.OpenShut
import Derived.ChangeStays
import Derived.ChangeArms
import Derived.ChangeSame
import Derived.ChangeOld
set_option linter.unusedVariables false
set_option linter.unusedSimpArgs false
namespace Go.Proofs.YtpgmljkhleidjaaGreatDoor.LM
open Go.RowKit
def Kh (w:World):Know:=fun b o=>hcell w.heap b o
theorem cell?_plain {w:World}{a:Addr}{v:Value}(h:w.cell? a=some v):a.spot=none/\hcell w.heap a.block a.off=some v:=by
 unfold World.cell? at h
 unfold hcell
 split at h
 .rename_i c _ _ hb
  split at h
  .cases h
  .rename_i hs
   rw[hb]
   exact⟨by simpa using hs,h⟩
 .cases h
theorem mapM_range {β:Type}{f:Nat->Option β}{n:Nat}{r:List β}(h:(List.range n).mapM f=some r):r.length=n/\∀i,i<n->f i=r[i]?:=by
 have key:∀ (l:List Nat) (r:List β),l.mapM f=some r->r.length=l.length/\∀ (i k:Nat),l[i]?=some k->f k=r[i]?:=by
  intro l
  induction l with
  | nil=>intro r h;simp at h;subst h;simp
  | cons a l ih=>
   intro r h
   simp only[List.mapM_cons,Option.pure_def,Option.bind_eq_bind,Option.bind_eq_some_iff,osi]at h
   obtain⟨b,hb,r',hr,rfl⟩:=h
   obtain⟨i1,i2⟩:=ih r' hr
   refine⟨by simp[i1],fun i k hk=>?_⟩
   cases i with
   | zero=>simp at hk;subst hk;simpa using hb
   | succ i=>simp at hk;simpa using i2 i k hk
 obtain⟨i1,i2⟩:=key _ _ h
 simp only[List.length_range]at i1
 exact⟨i1,fun i hi=>i2 i i (by simp[hi])⟩
theorem cells?_plain {w:World}{base:Nat}{a:Addr}{n:Nat}{cs:List Value}(h:w.cells? base a n=some cs):cs.length=n/\∀i,i<n->w.cell? (a.add i)=cs[i]?:=by
 unfold World.cells? at h
 split at h
 .exact mapM_range h
 .cases h
section
variable {P:Program}{w:World}
mutual
def bk {H:Type}:DataW H->Nat
 | .lit (.string b)=>b.length
 | .slice es _=>bks es+es.length
 | .agg es=>bks es
 | _=>0
def bks {H:Type}:List (DataW H)->Nat
 | []=>0
 | d::r=>bk d+bks r
end
theorem bks_mem {H:Type}{d:DataW H}:∀ {l:List (DataW H)},d∈l->bk d<=bks l
 | x::r,h=>by
  simp only[bks]
  rcases lm1 h with rfl | h
  .omega
  .have:=bks_mem h;omega
def Rd (P:Program) (w:World) (t:TypeId) (T:Type) [Enc T] (n:Nat):Prop:=
 ∀ {H:Type}(enc:TypeId×Value->H) (base:Nat) (spare:Nat->Bool) (held:Bool) (cs:List Value) (x:DataW H×List MemPlace),DataW.trod enc P w base spare held n t cs=some x->∃v:T,RepPs (Kh w) (Enc.row v) cs/\(bk x.1<=bigLen->PV.bdRow (Enc.row v))
theorem RepPs.one {K:Know}{p:PV}{v:Value}(h:RepP K p v):RepPs K [p] [v]:=⟨v,[],rfl,h,rfl⟩
theorem rd_str {t:TypeId}(ht:P.underlying t=some .string) (n:Nat):Rd P w t Str n:=by
 intro H enc base spare held cs x h
 cases n with
 | zero=>simp[DataW.trod]at h
 | succ n=>
  unfold DataW.trod at h
  rw[ht]at h
  cases cs with
  | nil=>simp at h
  | cons v r=>
   cases r with
   | cons _ _=>cases v<;>simp at h
   | nil=>
    cases v<;>try (simp at h;done)
    rename_i b
    simp only at h
    split at h
    .simp only[osi]at h
     subst h
     exact⟨b,RepPs.one ⟨rfl,rfl⟩,fun hb=>⟨by simpa[bk,PV.bd,vbd,bigStr,bigLen]using hb,trivial⟩⟩
    .cases h
theorem rd_bool {t:TypeId}(ht:P.underlying t=some .bool) (n:Nat):Rd P w t Bool n:=by
 intro H enc base spare held cs x h
 cases n with
 | zero=>simp[DataW.trod]at h
 | succ n=>
  unfold DataW.trod at h
  rw[ht]at h
  cases cs with
  | nil=>simp at h
  | cons v r=>
   cases r with
   | cons _ _=>cases v<;>simp at h
   | nil=>
    cases v<;>try (simp at h;done)
    rename_i b;exact⟨b,RepPs.one ⟨rfl,rfl⟩,fun _=>⟨trivial,trivial⟩⟩
theorem rd_int {t:TypeId}(ht:P.underlying t=some (.int .i64)) (n:Nat):Rd P w t Int n:=by
 intro H enc base spare held cs x h
 cases n with
 | zero=>simp[DataW.trod]at h
 | succ n=>
  unfold DataW.trod at h
  rw[ht]at h
  cases cs with
  | nil=>simp at h
  | cons v r=>
   cases r with
   | cons _ _=>cases v<;>simp at h
   | nil=>
    cases v<;>try (simp at h;done)
    rename_i k b
    simp only at h
    split at h
    .rename_i hk
     obtain⟨rfl,_⟩:=hk
     exact⟨b,RepPs.one ⟨rfl,rfl⟩,fun _=>⟨trivial,trivial⟩⟩
    .cases h
theorem rd_u8 {t:TypeId}(ht:P.underlying t=some (.int .u8)) (n:Nat):Rd P w t UInt8 n:=by
 intro H enc base spare held cs x h
 cases n with
 | zero=>simp[DataW.trod]at h
 | succ n=>
  unfold DataW.trod at h
  rw[ht]at h
  cases cs with
  | nil=>simp at h
  | cons v r=>
   cases r with
   | cons _ _=>cases v<;>simp at h
   | nil=>
    cases v<;>try (simp at h;done)
    rename_i k b
    simp only at h
    split at h
    .rename_i hk
     obtain⟨rfl,hw⟩:=hk
     have h2:0<=b/\b<=255:=by
      have:=hw
      simp only[Lit.wf,bat,decide_eq_true_eq]at this
      have e1:IntKind.u8.min=0:=by decide
      have e2:IntKind.u8.max=255:=by decide
      omega
     have h3:((UInt8.ofNat b.toNat).toNat:Int)=b:=by rw[UInt8.toNat_ofNat'];omega
     refine⟨UInt8.ofNat b.toNat,RepPs.one ?_,fun _=>⟨trivial,trivial⟩⟩
     show Value.int .u8 b=Value.int .u8 _/\_
     rw[h3];exact⟨rfl,rfl⟩
    .cases h
theorem repRows_each {T:Type} [Enc T] {K:Know}:∀ {xs:List T}{b o:Nat},(∀v∈xs,(Enc.row v).length=Enc.sz T)->(∀i v,xs[i]?=some v->RepRow K (Enc.row v) b (o+i*Enc.sz T))->RepRows K (Enc.sz T) (Enc.E xs) b o
 | [],b,o,_,_=>by rw[Enc.E_eq];trivial
 | x::xs,b,o,hl,h=>by
  have:=repRows_each (xs:=xs) (b:=b) (o:=o+Enc.sz T) (fun v hv=>hl v (by simp[hv])) (fun i v hv=>by
   have:=h (i+1) v (by simpa using hv)
   rwa [Nat.add_mul,Nat.one_mul,Nat.add_comm (i*_),<-Nat.add_assoc]at this)
  rw[Enc.E_eq]at this ⊢
  refine⟨?_,?_,this⟩
  .rw[Enc.row_eq];exact hl x (by simp)
  .rw[Enc.row_eq];simpa using h 0 x rfl
theorem exists_list {β:Type}{Q:Nat->β->Prop}:∀ (n:Nat),(∀i,i<n->∃v,Q i v)->∃xs:List β,xs.length=n/\∀i v,xs[i]?=some v->Q i v
 | 0,_=>⟨[],rfl,by simp⟩
 | n+1,h=>by
  obtain⟨xs,h1,h2⟩:=exists_list n fun i hi=>h i (by omega)
  obtain⟨v,hv⟩:=h n (by omega)
  refine⟨xs++[v],by simp[h1],fun i u hu=>?_⟩
  by_cases hi:i<n
  .rw[List.getElem?_append_left (by omega)]at hu;exact h2 i u hu
  .have:i=n:=by
    have:=(lgs hu).1
    simp[h1]at this;omega
   subst this
   rw[List.getElem?_append_right (by omega)]at hu
   simp[h1]at hu
   subst hu;exact hv
theorem rd_list {t e:TypeId}{T:Type} [Enc T] (ht:P.underlying t=some (.slice e)) (hc:P.cellsOf e=Enc.sz T) (hp:0<Enc.sz T) (hl:∀v:T,(Enc.row v).length=Enc.sz T){n:Nat}(he:∀m,m<n->Rd P w e T m):Rd P w t (List T) n:=by
 intro H enc base spare held cs x h
 rcases DataW.trod_slice ht h with⟨rfl,rfl⟩ | ⟨a,len,cap,elems,rest,m,rfl,rfl,rfl,hb,hle,hm,hlen,hel,_,_⟩
 .exact⟨[],RepPs.one ⟨none,0,0,rfl,by rw[Enc.E_eq];rfl,Nat.le_refl _,.inl (by rw[Enc.E_eq];rfl)⟩,fun _=>⟨⟨by rw[Enc.E_eq];simp,by rw[Enc.E_eq];trivial⟩,trivial⟩⟩
 .rw[hc]at hel
  by_cases h0:len=0
  .subst h0
   exact⟨[],RepPs.one ⟨_,_,_,rfl,by rw[Enc.E_eq];rfl,hle,.inl (by rw[Enc.E_eq];rfl)⟩,fun _=>⟨⟨by rw[Enc.E_eq];simp,by rw[Enc.E_eq];trivial⟩,trivial⟩⟩
  have hspot:a.spot=none:=by
   have h1:=hel 0 (by omega)
   have hs:elems[0]?=some elems[0]:=List.getElem?_eq_getElem (by omega)
   rw[hs]at h1
   obtain⟨vs,h2,h3⟩:=obs h1
   obtain⟨l1,l2⟩:=cells?_plain h2
   have h4:=l2 0 hp
   have:vs[0]?=some vs[0]:=List.getElem?_eq_getElem (by omega)
   rw[this]at h4
   have:=(cell?_plain h4).1
   simpa[Addr.add]using this
  obtain⟨b,o,sp⟩:=a
  simp only at hspot
  subst hspot
  have hadd:∀n,(⟨b,o,none⟩:Addr).add n=⟨b,o+n,none⟩:=fun n=>by unfold Addr.add;split<;>simp_all
  have hz:∀i,i<len->∃ (v:T),RepRow (Kh w) (Enc.row v) b (o+i*Enc.sz T)/\∀y,elems[i]?=some y->bk y.1<=bigLen->PV.bdRow (Enc.row v):=by
   intro i hi
   have h1:=hel i hi
   have hs:elems[i]?=some elems[i]:=List.getElem?_eq_getElem (by omega)
   rw[hs]at h1
   obtain⟨vs,h2,h3⟩:=obs h1
   obtain⟨v,hv,hv2⟩:=he m (by omega) enc base spare held vs _ h3
   obtain⟨l1,l2⟩:=cells?_plain h2
   refine⟨v,repRow_of hv fun k u hu=>?_,fun y hy=>by rw[hs]at hy;cases hy;exact hv2⟩
   have hk:k<Enc.sz T:=by have:=(lgs hu).1;omega
   have h4:=l2 k hk
   simp only[hadd]at h2
   have hadd2:∀n,(⟨b,o+i*Enc.sz T,none⟩:Addr).add n=⟨b,o+i*Enc.sz T+n,none⟩:=fun n=>by unfold Addr.add;split<;>simp_all
   rw[hu,hadd,hadd2]at h4
   exact (cell?_plain h4).2
  obtain⟨xs,x1,x2⟩:=exists_list len hz
  have hE:(Enc.E xs).length=len:=by rw[Enc.E_eq,List.length_map,x1]
  refine⟨xs,RepPs.one ⟨_,_,_,rfl,hE.symm,hle,.inr ⟨b,o,rfl,repRows_each (fun v _=>hl v) fun i v hv=>(x2 i v hv).1⟩⟩,fun hb=>⟨⟨?_,?_⟩,trivial⟩⟩
  .rw[hE];simp only[bk,List.length_map]at hb;omega
  .rw[Enc.E_eq,bdRows_iff]
   intro r hr
   obtain⟨v,hv,rfl⟩:=List.mem_map.1 hr
   obtain⟨i,hi⟩:=List.getElem?_of_mem hv
   rw[Enc.row_eq]
   have hil:i<elems.length:=by have:=(lgs hi).1;omega
   refine (x2 i v hi).2 elems[i] (List.getElem?_eq_getElem hil) ?_
   have:=bks_mem (List.mem_map.2 ⟨elems[i],List.getElem_mem hil,rfl⟩:elems[i].1∈elems.map (·.1))
   simp only[bk]at hb
   omega
def partsT (P:Program) (t:TypeId):Option (List (TypeId×Nat×Nat)):=match P.underlying t with
 | some (.struct fs)=>some (fs.toList.map fun f=>(f.type,f.offset,P.cellsOf f.type))
 | _=>none
theorem struct_parts {H:Type}{enc:TypeId×Value->H}{base:Nat}{spare:Nat->Bool}{held:Bool}{t:TypeId}{n:Nat}{cs:List Value}{x:DataW H×List MemPlace}
  (h:DataW.trod enc P w base spare held (n+1) t cs=some x){ps:List (TypeId×Nat×Nat)}(hp:partsT P t=some ps):
  cs.length=P.cellsOf t/\∀q∈ps,∃y,DataW.trod enc P w base spare held n q.1 ((cs.drop q.2.1).take q.2.2)=some y/\bk y.1<=bk x.1:=by
 unfold partsT at hp
 split at hp
 case h_2=>cases hp
 rename_i fs ht
 simp only[osi]at hp
 unfold DataW.trod at h
 rw[ht]at h
 simp only at h
 split at h
 .rename_i hl
  refine⟨hl,fun q hq=>?_⟩
  obtain⟨xs,h1,h⟩:=Option.map_eq_some_iff.1 h
  subst h
  rw[<-hp]at hq
  obtain⟨f,hf,rfl⟩:=List.mem_map.1 hq
  have key:∀ (l:List Field) (xs:List (DataW H×List MemPlace)),(l.mapM fun f=>DataW.trod enc P w base spare held n f.type ((cs.drop f.offset).take (P.cellsOf f.type)))=some xs->f∈l ->
    ∃y,DataW.trod enc P w base spare held n f.type ((cs.drop f.offset).take (P.cellsOf f.type))=some y/\y∈xs:=by
   intro l
   induction l with
   | nil=>intro xs _ h;cases h
   | cons g l ih=>
    intro xs hx hm
    simp only[List.mapM_cons,Option.pure_def,Option.bind_eq_bind,Option.bind_eq_some_iff,osi]at hx
    obtain⟨y,hy,ys,hys,rfl⟩:=hx
    rcases lm1 hm with rfl | hm
    .exact⟨y,hy,by simp⟩
    .obtain⟨z,z1,z2⟩:=ih ys hys hm
     exact⟨z,z1,by simp[z2]⟩
  obtain⟨y,y1,y2⟩:=key _ _ h1 hf
  refine⟨y,y1,?_⟩
  simp only[bk]
  exact bks_mem (List.mem_map.2 ⟨y,y2,rfl⟩)
 .cases h
theorem bdRow_append {a b:List PV}(h:PV.bdRow a) (h':PV.bdRow b):PV.bdRow (a++b):=by
 rw[bdRow_iff]at *
 intro l hl
 exact (lma hl).elim (h l) (h' l)
theorem keep_grown {w':World}{Wr:Nat->Prop}(hW:∀b,Wr b->w.heap.size<=b) (h:Keep Wr w w'):w'.os=w.os/\w'.output=w.output/\w.heap.size<=w'.heap.size/\∀b,b<w.heap.size->w'.heap[b]?=w.heap[b]?:=
 ⟨h.os,h.output,h.size,fun b hb=>h.block b hb fun hw=>by have:=hW b hw;omega⟩
theorem grown_of {w':World}(h:w'.os=w.os/\w'.output=w.output/\w.heap.size<=w'.heap.size/\∀b,b<w.heap.size->w'.heap[b]?=w.heap[b]?) (may:MemPlace->Prop):w.keptBut w' may:=by
 refine⟨h.1,h.2.1,fun i hi=>?_⟩
 rw[h.2.2.2 i hi]
 have:w.heap[i]?=some w.heap[i]:=Array.getElem?_eq_getElem hi
 rw[this]
 split
 .rename_i e1 e2
  rw[e1]at e2
  cases e2
  exact⟨rfl,rfl,rfl,fun _ _=>rfl⟩
 .rename_i e1 e2
  rw[e1]at e2
  cases e2
  exact .inr ⟨rfl,rfl⟩
 .rfl
theorem first_inv {ps:List (Value×LV)}(h:∀p∈ps,∃q:List PV,(p.2 = .agg (q.map .pv)/\∃vs,p.1 = .agg (List.toArray vs)/\RepPs (Kh w) q vs)\/∃q,p.2 = .pv q/\RepP (Kh w) q p.1) (N:Names):Inv (fun b=>w.heap.size<=b) (Kh w) N w.heap ps []:=by
 have hps:∀ {q:List PV}{vs:List Value},RepPs (Kh w) q vs->RepLs (Kh w) N (q.map .pv) vs/\(q.map LV.pv).all LV.flat=true/\LV.toksL (q.map .pv)=[]:=by
  intro q
  induction q with
  | nil=>intro vs h;exact⟨h,rfl,rfl⟩
  | cons p q ih=>
   rintro vs ⟨v,r,e,h1,h2⟩
   obtain⟨i1,i2,i3⟩:=ih h2
   exact⟨⟨v,r,e,h1,i1⟩,by simp[LV.flat,i2]at i2 ⊢,by simp[LV.toksL,LV.toks,i3]⟩
 have hno:∀g,¬Occ ps [] g:=by
  rintro g (⟨p,hp,hg⟩ | ⟨x,hx,_⟩)
  .obtain⟨q,⟨e,vs,_,hr⟩ | ⟨q,e,_⟩⟩:=h p hp
   .rw[e]at hg
    simp only[LV.toks,(hps hr).2.2]at hg
    cases hg
   .rw[e]at hg;cases hg
  .cases hx
 refine⟨fun _ _ _ h=>h,fun p hp=>?_,by simp,by simp,fun g hg=>absurd hg (hno g),fun g g' b hg=>absurd hg (hno g),fun g x hg=>absurd hg (hno g)⟩
 obtain⟨q,⟨e,vs,e2,hr⟩ | ⟨q,e,hr⟩⟩:=h p hp
 .rw[e]
  exact⟨vs,e2,(hps hr).2.1,(hps hr).1⟩
 .rw[e];exact hr
end
open Go.RowKit
section
variable {P:Program}
def kidsB (P:Program) (l:List TypeId):Bool:=l.all fun t=>match P.underlying t with
 | some (.slice e)=>l.contains e&&decide (0<P.cellsOf e)
 | some (.struct fs)=>(fs.toList.all fun f=>l.contains f.type)&&(P.cellsOf t == (fs.toList.map fun f=>P.cellsOf f.type).sum) &&
   ((List.range fs.toList.length).all fun j=>match fs.toList[j]? with | some f=>f.offset == ((fs.toList.take j).map fun f=>P.cellsOf f.type).sum | none=>true)
 | some (.pointer _)=>false
 | some (.array _ _)=>false
 | some (.map _ _)=>false
 | _=>true
theorem kids_of {l:List TypeId}(h:kidsB P l=true):Kids P (· ∈ l)/\∀ {t e:TypeId},t∈l->P.underlying t=some (.slice e)->0<P.cellsOf e:=by
 have each:∀t∈l,_:=List.all_eq_true.1 h
 refine⟨⟨fun {t e} ht hu=>?_,fun {t e} ht hu=>?_,fun {t e n} ht hu=>?_,fun {t fs} ht hu=>?_,fun {t k e} ht hu=>?_⟩,fun {t e} ht hu=>?_⟩
 .have:=each t ht;rw[hu]at this;cases this
 .have:=each t ht
  rw[hu]at this
  simp only[bat,List.contains_eq_mem,decide_eq_true_eq]at this
  exact this.1
 .have:=each t ht;rw[hu]at this;cases this
 .have:=each t ht
  rw[hu]at this
  simp only[bat,List.all_eq_true,List.contains_eq_mem,decide_eq_true_eq,beq_iff_eq,List.mem_range]at this
  obtain⟨⟨h1,h2⟩,h3⟩:=this
  refine⟨h1,h2,fun j f hf=>?_⟩
  have:=h3 j (lgs hf).1
  rw[hf]at this
  simpa using this
 .have:=each t ht;rw[hu]at this;cases this
 .have:=each t ht
  rw[hu]at this
  simp only[bat,List.contains_eq_mem,decide_eq_true_eq]at this
  exact this.2
theorem all_same {H:Type}{enc:TypeId×Value->H}{W W':World}{l:List TypeId}(hk:kidsB P l=true) (h:∀b,b<W.heap.size->W'.heap[b]?=W.heap[b]?):∀ {ts:List TypeId}{vs:List Value}{ds:List (DataW H)}{p:List MemPlace},
  DataW.TrodAll enc P W 0 (fun _=>true) true ts vs ds p->(∀t∈ts,t∈l)->(∀q∈p,q.block<W.heap.size)->∀sp:Nat->Bool,(∀q∈p,sp q.block=true)->DataW.TrodAll enc P W' 0 sp true ts vs ds p
 | [],[],[],p,ht,_,_,sp,_=>ht
 | t::ts,v::vs,d::ds,p,⟨p1,p2,⟨fuel,h1⟩,h2,e⟩,hl,hlt,sp,hsp=>by
  subst e
  obtain⟨K,hsz⟩:=kids_of hk
  refine⟨p1,p2,⟨fuel,?_⟩,all_same hk h h2 (fun t ht=>hl t (by simp[ht])) (fun q hq=>hlt q (by simp[hq])) sp (fun q hq=>hsp q (by simp[hq])),rfl⟩
  refine DataW.trod_stays K hsz (fun e=>by cases e) (hl t (by simp)) h1 (fun q hq=>?_) fun q hq=>hsp q (by simp[hq])
  have hb:=hlt q (by simp[hq])
  cases q with
  | cell b o=>
   show W'.cell? _=W.cell? _
   simp only[MemPlace.block]at hb
   simp[World.cell?,h b hb]
  | map b=>exact h b hb
 | [],[],_::_,_,ht,_,_,_,_=>ht.elim
 | [],_::_,_,_,ht,_,_,_,_=>ht.elim
 | _::_,[],_,_,ht,_,_,_,_=>ht.elim
 | _::_,_::_,[],_,ht,_,_,_,_=>ht.elim
theorem frozen_same {W W':World}(h:∀b,b<W.heap.size->W'.heap[b]?=W.heap[b]?):∀b,b<W.heap.size->∀o s,W'.frozen? ⟨b,o,s⟩=W.frozen? ⟨b,o,s⟩:=by
 intro b hb o s
 simp[World.frozen?,h b hb]
theorem calls_first {call:CallF}{T:Tabs}(hcall:CallOk P T call){f:Nat}{as:List LV}{r:LV}(hr:call f as []=some (r,[])){W:World}{vs:List Value}(hT:Stand T (fun b=>W.heap.size<=b) W.heap) (hrep:∀N,RepLs (Kh W) N as vs)
  (hp:∀p∈vs.zip as,∃q:List PV,(p.2 = .agg (q.map .pv)/\∃vs,p.1 = .agg (List.toArray vs)/\RepPs (Kh W) q vs)\/∃q,p.2 = .pv q/\RepP (Kh W) q p.1):
  Calls P (fid f) (List.toArray vs) W fun e W'=>∃v K N,e = .returned v/\RepL K N r v/\(W'.os=W.os/\W'.output=W.output/\W.heap.size<=W'.heap.size/\∀b,b<W.heap.size->W'.heap[b]?=W.heap[b]?):=by
 obtain⟨_,h⟩:=hcall f as [] _ hr
 let N:Names:=⟨fun _=>0,fun _=>0,fun _ => .bool false,fun _=>[],fun _=>(.bool false,0)⟩
 refine (h (fun b=>W.heap.size<=b) (Kh W) N W vs hT (fun b hb=>hb) (hrep N) (first_inv hp N)).mono ?_
 rintro e W' ⟨v,K',N',rfl,_,hk,hi,_⟩
 exact⟨v,K',N',rfl,hi.vals (v,r) (by simp),keep_grown (fun _ h=>h) hk⟩
theorem post_same {H:Type}{enc:TypeId×Value->H}{f:Func}{s:ChangeSpec}{apart fresh handsOn again:Bool}{W W':World}{args:Array Value}{v:Value}{ds gs:List (DataW H)}{before pa pv:List MemPlace}
  (hW:DataW.Whole enc P f.params.toList s.vars apart W args.toList ds gs before)
  (hres:∀ (b:Nat) (sp:Nat->Bool) (hd:Bool),DataW.TrodAll enc P W' b sp hd f.resultTypes.toList (v.resultList f.resultTypes.size) (s.fn H (ds++gs)).results [])
  (hargs:∀sp:Nat->Bool,(∀p∈before,sp p.block=true)->DataW.TrodAll enc P W' 0 sp true f.params.toList args.toList (s.fn H (ds++gs)).args pa)
  (hvars:∀sp:Nat->Bool,(∀p∈before,sp p.block=true)->DataW.TrodVars enc P W' sp s.vars (s.fn H (ds++gs)).vars pv)
  (hps:before=pa++pv) (hk:W.keptBut W' (· ∈ before)) (hfz:∀b,b<W.heap.size->∀o s,W'.frozen? ⟨b,o,s⟩=W.frozen? ⟨b,o,s⟩)
  (hok:∀ (j:Nat) (t:TypeId) (r:Value),f.resultTypes[j]?=some t->(v.resultList f.resultTypes.size)[j]?=some r->Value.okWide P W' .any 0 t r):
  s.post enc P f apart fresh handsOn again W args v W':=by
 have hold:∀p∈before,(fun b=>decide (b<W.heap.size)) p.block=true:=fun p hp=>by simpa using hW.lt p hp
 have hlt:=hW.lt
 refine⟨ds,gs,before,[],pa,pv,hW,hres _ _ _,hargs _ hold,hvars _ hold,World.keptBut_mono (fun p hp=>⟨hp,?_⟩) hk,fun _=>?_⟩
 .rw[hps,List.mem_append]at hp
  exact Or.inr hp
 .obtain⟨_,_,_,_,_,hz,hn⟩:=hW
  refine⟨hok,_,_,([]++pa)++pv,⟨[]++pa,pv,Go.ChangeShapes.trodAll_append (hargs _ (fun _ _=>rfl)) (hres _ _ _),hvars _ (fun _ _=>rfl),rfl,?_,?_⟩,?_⟩
  .intro b off hp
   have hm:MemPlace.cell b off∈before:=by rw[hps];simpa using hp
   rw[hfz b (hlt _ hm)]
   exact hz b off hm
  .intro ha
   have:=hn ha
   rw[hps]at this
   simpa using this
  .intro p hp _
   rw[hps]
   simpa using hp
def ArgOk (K:Know) (p:Value×LV):Prop:=∃q:List PV,(p.2 = .agg (q.map .pv)/\∃vs,p.1 = .agg (List.toArray vs)/\RepPs K q vs)\/∃q,p.2 = .pv q/\RepP K q p.1
theorem repPs_lv {K:Know}{N:Names}:∀ {q:List PV}{vs:List Value},RepPs K q vs->RepLs K N (q.map .pv) vs/\(q.map LV.pv).all LV.flat=true
 | [],_,h=>⟨h,rfl⟩
 | p::q,_,⟨v,r,e,h1,h2⟩=>by
  obtain⟨i1,i2⟩:=repPs_lv (N:=N) h2
  exact⟨⟨v,r,e,h1,i1⟩,by simp[LV.flat]at i2 ⊢⟩
theorem ArgOk.rep {K:Know}{p:Value×LV}(h:ArgOk K p) (N:Names):RepL K N p.2 p.1:=by
 obtain⟨q,⟨e,vs,e2,hr⟩ | ⟨q,e,hr⟩⟩:=h
 .rw[e];exact⟨vs,e2,(repPs_lv (N:=N) hr).2,(repPs_lv hr).1⟩
 .rw[e];exact hr
def aggT (P:Program) (t:TypeId):Bool:=match P.underlying t with | some (.struct _) | some (.array _ _)=>true | _=>false
def plainT (P:Program) (t:TypeId):Bool:=match P.underlying t with | some (.slice _) | some .string | some .bool | some (.int _)=>true | _=>false
theorem okWide_agg {W:World}{r:Reach}{base:Nat}{t:TypeId}{v:Value}(ht:aggT P t=true) (h:Value.okWide P W r base t v):∃cs,v = .agg cs:=by
 unfold aggT at ht
 unfold Value.okWide at h
 split at ht
 .rename_i hu;rw[hu]at h;obtain⟨cs,e,_⟩:=h;exact⟨cs,e⟩
 .rename_i hu;rw[hu]at h;obtain⟨cs,e,_⟩:=h;exact⟨cs,e⟩
 .cases ht
theorem okWide_plain {W:World}{r:Reach}{base:Nat}{t:TypeId}{v:Value}(ht:plainT P t=true) (h:Value.okWide P W r base t v):v.oneCell'=true:=by
 unfold plainT at ht
 unfold Value.okWide at h
 split at ht<;>first
  | (rename_i hu;rw[hu]at h;simp only[Cell.okWide,Cell.ok,hu]at h;cases v<;>first | rfl | (simp at h;done))
  | cases ht
theorem arg_agg {T:Type} [Enc T] {W:World}{r:Reach}{base:Nat}{t:TypeId}{v:Value}{x:T}(ht:aggT P t=true) (h:Value.okWide P W r base t v) (hr:RepPs (Kh W) (Enc.row x) v.cells.toList):ArgOk (Kh W) (v,A x):=by
 obtain⟨cs,rfl⟩:=okWide_agg ht h
 exact⟨Enc.row x,.inl ⟨rfl,cs.toList,by simp,hr⟩⟩
theorem arg_plain {q:PV}{W:World}{r:Reach}{base:Nat}{t:TypeId}{v:Value}(ht:plainT P t=true) (h:Value.okWide P W r base t v) (hr:RepPs (Kh W) [q] v.cells.toList):ArgOk (Kh W) (v,.pv q):=by
 rw[cells_one (okWide_plain ht h)]at hr
 obtain⟨u,r',e,h1,_⟩:=hr
 simp only[List.cons.injEq]at e
 exact⟨[],.inr ⟨q,rfl,e.1▸h1⟩⟩
theorem bd_agg {T:Type} [Enc T] {x:T}(h:PV.bdRow (Enc.row x)):(A x).bd:=pv_row_bdL h
end
end Go.Proofs.YtpgmljkhleidjaaGreatDoor.LM
