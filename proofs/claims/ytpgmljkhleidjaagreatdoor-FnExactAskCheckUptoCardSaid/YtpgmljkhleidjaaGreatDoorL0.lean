/- laws.FnExactAskCheck returns true for every input whose arguments and package variables hold together at most 1048576 values and letters; the input reads as it did. -/
import Derived.Tactics
import Derived.WalkKit
import Derived.KernelRfl
import Derived.Laws.BytesArg
import Derived.Laws.OwnMore
import Derived.Laws.MakeOwn
import Derived.Laws.AppendOwn
import Derived.Lib.AppendStr
set_option linter.unusedVariables false
set_option linter.unusedSimpArgs false
namespace Go.Proofs.YtpgmljkhleidjaaGreatDoor.LM
theorem obs {α β:Type}{o:Option α}{f:α->Option β}{b:β}(h:o.bind f=some b):∃a,o=some a/\f a=some b:=Option.bind_eq_some_iff.1 h
theorem osi {α:Type}(a b:α):(some a=some b)=(a=b):=Option.some.injEq a b
theorem bat (a b:Bool):((a&&b)=true)=(a=true/\b=true):=Bool.and_eq_true a b
theorem obb {α β:Type}(a:α) (f:α->Option β):(some a).bind f=f a:=rfl
theorem ags {α:Type}{xs:Array α}{i:Nat}{b:α}(h:xs[i]?=some b):∃h:i<xs.size,xs[i]=b:=Array.getElem?_eq_some_iff.1 h
theorem lgs {α:Type}{xs:List α}{i:Nat}{b:α}(h:xs[i]?=some b):∃h:i<xs.length,xs[i]=b:=List.getElem?_eq_some_iff.1 h
theorem lmc {α:Type}{a:α}(y:α){l:List α}(h:a∈l):a∈y::l:=List.mem_cons_of_mem y h
theorem lma {α:Type}{a:α}{s t:List α}(h:a∈s++t):a∈s\/a∈t:=List.mem_append.1 h
theorem lm1 {α:Type}{a b:α}{l:List α}(h:a∈b::l):a=b\/a∈l:=List.mem_cons.1 h
inductive PV where
 | sc (v:Value)
 | lst (sz:Nat) (es:List (List PV))
 | cp (cs:List PV)
 | clo (f:Nat) (caps:List PV)
 | mth (f:Nat) (cs:List PV)
 deriving Inhabited
inductive Shp where
 | v
 | u (sh:List Shp)
 | self
 deriving Inhabited
mutual
def Shp.eq:Shp->Shp->Bool
 | .v,.v=>true
 | .self,.self=>true
 | .u a,.u b=>Shp.eqL a b
 | _,_=>false
def Shp.eqL:List Shp->List Shp->Bool
 | [],[]=>true
 | a::r,b::q=>a.eq b&&Shp.eqL r q
 | _,_=>false
end
mutual
theorem Shp.eq_of:∀ {a b:Shp},a.eq b=true->a=b
 | .v,.v,_=>rfl
 | .self,.self,_=>rfl
 | .u a,.u b,h=>by simp only[Shp.eq]at h;rw[Shp.eqL_of h]
 | .v,.u _,h=>by cases h
 | .v,.self,h=>by cases h
 | .self,.v,h=>by cases h
 | .self,.u _,h=>by cases h
 | .u _,.self,h=>by cases h
 | .u _,.v,h=>by cases h
theorem Shp.eqL_of:∀ {a b:List Shp},Shp.eqL a b=true->a=b
 | [],[],_=>rfl
 | a::r,b::q,h=>by simp only[Shp.eqL,bat]at h;rw[Shp.eq_of h.1,Shp.eqL_of h.2]
 | [],_::_,h=>by cases h
 | _::_,[],h=>by cases h
end
def Shp.un (sh:List Shp):Shp->Shp
 | .self => .u sh
 | x=>x
def ush (sh:List Shp):List Shp:=sh.map (Shp.un sh)
theorem ush_ne {sh:List Shp}:∀x∈ush sh,x ≠ .self:=by
 intro x hx
 obtain⟨y,_,rfl⟩:=List.mem_map.1 hx
 cases y<;>simp[Shp.un]
def shpAt:List Shp->Nat->Shp
 | [],_ => .v
 | x::_,0=>x
 | _::r,k+1=>shpAt r k
inductive LV where
 | pv (p:PV)
 | nils (sz:Nat)
 | nk (b:Bool) (sz:Nat) (es:List (List PV))
 | own (g sz:Nat) (es:List (List PV))
 | ref (o off:Nat)
 | eref (o i off:Nat)
 | arr (o len:Nat)
 | agg (ls:List LV)
 | tup (ls:List LV)
 | clo (f:Nat) (caps:List LV)
 | box (sz:Nat) (es:List (List PV)) (sh:List Shp)
 | dead
 deriving Inhabited
inductive Obj where
 | var (cs:List LV)
 | rows (sz:Nat) (es:List (List PV)) (sh:List Shp) (hole:Option (Nat×Nat×Nat×Nat))
 deriving Inhabited
abbrev Know:=Nat->Nat->Option Value
mutual
def RepP (K:Know):PV->Value->Prop
 | .sc u,v=>v=u/\u.oneCell'=true
 | .lst sz es,v=>∃a len cap,v = .slice a len cap/\len=es.length/\len<=cap/\(es=[]\/∃b o,a=some ⟨b,o,none⟩/\RepRows K sz es b o)
 | .cp cs,v=>∃b o,v = .pointer (some ⟨b,o,none⟩)/\RepRow K cs b o
 | .clo f cs,v=>∃vs,v = .func (.func f) #[] (List.toArray vs)/\RepPs K cs vs
 | .mth f cs,v=>∃vs,v = .func (.func f) #[.agg (List.toArray vs)] #[]/\RepPs K cs vs
def RepPs (K:Know):List PV->List Value->Prop
 | [],vs=>vs=[]
 | c::cs,vs=>∃v r,vs=v::r/\RepP K c v/\RepPs K cs r
def RepRow (K:Know):List PV->Nat->Nat->Prop
 | [],_,_=>True
 | c::cs,b,o=>(∃u,K b o=some u/\RepP K c u)/\RepRow K cs b (o+1)
def RepRows (K:Know) (sz:Nat):List (List PV)->Nat->Nat->Prop
 | [],_,_=>True
 | e::es,b,o=>e.length=sz/\RepRow K e b o/\RepRows K sz es b (o+sz)
end
def LV.flat:LV->Bool
 | .agg _=>false
 | .tup _=>false
 | _=>true
structure Names where
 M:Nat->Nat
 S:Nat->Nat
 A:Nat->Value
 F:Nat->List Nat
 G:Nat->Value×Nat
def isNilV:Value->Bool
 | .slice a _ _=>a.isNone
 | _=>false
mutual
def RepL (K:Know) (N:Names):LV->Value->Prop
 | .pv p,v=>RepP K p v
 | .nils _,v=>v = .slice none 0 0
 | .nk b sz es,v=>RepP K (.lst sz es) v/\isNilV v=b
 | .own g sz es,v=>v=(N.G g).1/\sz=(N.G g).2/\RepP K (.lst sz es) v
 | .ref o off,v=>v = .pointer (some ⟨N.M o,off,none⟩)
 | .eref o i off,v=>v = .pointer (some ⟨N.M o,i*N.S o+off,none⟩)
 | .arr o len,v=>v=N.A o/\∃a cap,v = .slice a len cap
 | .agg ls,v=>∃vs,v = .agg (List.toArray vs)/\ls.all LV.flat=true/\RepLs K N ls vs
 | .tup ls,v=>∃vs,v = .tuple (List.toArray vs)/\RepLs K N ls vs
 | .clo f ls,v=>∃vs,v = .func (.func f) #[] (List.toArray vs)/\RepLs K N ls vs
 | .box _ _ _,_=>False
 | .dead,v=>v.oneCell'=true
def RepLs (K:Know) (N:Names):List LV->List Value->Prop
 | [],vs=>vs=[]
 | l::ls,vs=>∃v r,vs=v::r/\RepL K N l v/\RepLs K N ls r
end
mutual
def LV.toks:LV->List Nat
 | .own g _ _=>[g]
 | .agg ls=>LV.toksL ls
 | .tup ls=>LV.toksL ls
 | .clo _ ls=>LV.toksL ls
 | _=>[]
def LV.toksL:List LV->List Nat
 | []=>[]
 | l::ls=>l.toks++LV.toksL ls
end
mutual
def LV.names:LV->List Nat
 | .ref o _=>[o]
 | .eref o _ _=>[o]
 | .arr o _=>[o]
 | .agg ls=>LV.namesL ls
 | .tup ls=>LV.namesL ls
 | .clo _ ls=>LV.namesL ls
 | _=>[]
def LV.namesL:List LV->List Nat
 | []=>[]
 | l::ls=>l.names++LV.namesL ls
end
mutual
def LV.dem (gs:List Nat):LV->LV
 | .own g sz es=>if gs.contains g then .pv (.lst sz es) else .own g sz es
 | .agg ls => .agg (LV.demL gs ls)
 | .tup ls => .tup (LV.demL gs ls)
 | .clo f ls => .clo f (LV.demL gs ls)
 | .pv p => .pv p
 | .nils sz => .nils sz
 | .nk b sz es => .nk b sz es
 | .ref o k => .ref o k
 | .eref o i k => .eref o i k
 | .arr o n => .arr o n
 | .box sz es sh => .box sz es sh
 | .dead => .dead
def LV.demL (gs:List Nat):List LV->List LV
 | []=>[]
 | l::ls=>l.dem gs::LV.demL gs ls
end
def Obj.cells:Obj->List LV
 | .var cs=>cs
 | .rows _ _ _ none=>[]
 | .rows _ _ _ (some (_,_,o,n))=>[.arr o n]
def Obj.dem (gs:List Nat):Obj->Obj
 | .var cs => .var (LV.demL gs cs)
 | .rows sz es sh x => .rows sz es sh x
def LV.toPV:LV->Option PV
 | .pv p=>some p
 | .nils sz=>some (.lst sz [])
 | .nk _ sz es=>some (.lst sz es)
 | .own _ sz es=>some (.lst sz es)
 | _=>none
structure LSt where
 env:List (Nat×LV)
 objs:List (Nat×Obj)
 fix:List Nat:=[]
 deriving Inhabited
def aget {α:Type}:List (Nat×α)->Nat->Option α
 | [],_=>none
 | (k,v)::r,n=>if n=k then some v else aget r n
def adel {α:Type}:List (Nat×α)->Nat->List (Nat×α)
 | [],_=>[]
 | (k,v)::r,n=>if n=k then adel r n else (k,v)::adel r n
def ains {α:Type}:List (Nat×α)->Nat->α->List (Nat×α)
 | [],n,x=>[(n,x)]
 | (k,v)::r,n,x=>if n<k then (n,x)::(k,v)::r else (k,v)::ains r n x
def aset {α:Type}(l:List (Nat×α)) (n:Nat) (x:α):List (Nat×α):=ains (adel l n) n x
abbrev Fin:=LV×List (Option Obj)
def fid (f:Nat):Nat:=f%65536
abbrev CallF:=Nat->List LV->List (Nat×Obj)->Option Fin
def callp (c:CallF):CallF:=fun f as os=>if fid f=f then c f as os else none
theorem callp_some {c:CallF}{f:Nat}{as:List LV}{os:List (Nat×Obj)}{r:Fin}(h:callp c f as os=some r):fid f=f/\c f as os=some r:=by
 unfold callp at h
 split at h
 .rename_i e;exact⟨e,h⟩
 .cases h
inductive Opd where
 | t (n:Nat)
 | c (v:Value)
 | nil (sz:Nat)
 | f (n:Nat)
 deriving Inhabited
inductive LOp where
 | mv (x:Opd)
 | nilck (x:Opd)
 | pick (c a b:Opd)
 | alloc (o:Nat) (zs:List LV)
 | box (o n:Nat) (x:Opd)
 | build (zs:List LV) (parts:List (Nat×Nat×Opd))
 | bslice (g sz:Nat) (xs:List Opd)
 | load (n:Nat) (ag:Bool) (rd:Option Nat) (x:Opd)
 | store (n:Nat) (rd:Nat) (us:List Nat) (x v:Opd)
 | bin (op:BinOp) (x y:Opd)
 | binb (ne:Bool) (x y:Opd)
 | un (op:UnOp) (x:Opd)
 | isnil (ne:Bool) (x:Opd)
 | eqs (ne:Bool) (ks:List Nat) (x y:Opd)
 | conv (k:IntKind) (x:Opd)
 | toStr (x:Opd)
 | toBytes (g:Nat) (x:Opd)
 | mkfn (f:Nat) (caps:List Opd)
 | mkmth (f:Nat) (x:Opd)
 | mkslice (o sz:Nat) (sh:List Shp) (zs:List PV) (n:Opd)
 | slice (sz:Nat) (lo hi:Option Opd) (x:Opd)
 | sliceS (lo hi:Option Opd) (x:Opd)
 | slice0 (g sz:Nat) (x:Opd)
 | faddr (off:Nat) (x:Opd)
 | iaddr (sz:Nat) (rd:Option Nat) (x i:Opd)
 | field (off n:Nat) (ag:Bool) (x:Opd)
 | index (x i:Opd)
 | extract (k:Nat) (x:Opd)
 | len (x:Opd)
 | lenS (x:Opd)
 | append (g sz:Nat) (gx:Option Nat) (x y:Opd)
 | max (x y:Opd)
 | call (f g:Nat) (ws ts us bs:List Nat) (args:List (Opd×Bool))
 | callv (g:Nat) (ws ts us bs:List Nat) (x:Opd) (args:List (Opd×Bool))
 | bsu (o sz:Nat) (sh:List Shp) (us:List Nat) (xs:List Opd)
 | apu (o sz:Nat) (sh:List Shp) (gx gy:Option Nat) (x y:Opd)
 deriving Inhabited
structure LI where
 dst:Option Nat
 guard:Option (Nat×Bool)
 op:LOp
 kill:List Nat:=[]
 deriving Inhabited
inductive GIx where
 | o (x:Opd)
 | r (x:Opd)
 | b (op:BinOp) (x y:GIx)
 deriving Inhabited
inductive Ghost where
 | kill (ts:List Nat)
 | keep (ts:List Nat)
 | gc
 | drop (o:Nat)
 | frz (o g:Nat)
 | frzv (o:Nat)
 | cast (t g:Nat)
 | dem (gs:List Nat)
 | castc (o i g:Nat)
 | take (o:Nat) (i:GIx) (off o':Nat)
 | put (o:Nat)
 | takev (o off o':Nat)
 | putv (o off:Nat)
 | ren (o o':Nat)
 | castu (t o:Nat) (sh:List Shp)
 | castuc (o i o':Nat) (sh:List Shp)
 | castb (o i t:Nat)
 deriving Inhabited
inductive LC where
 | skip
 | ops (l:List LI)
 | draw (l:List LI)
 | seq (a b:LC)
 | cond (c:Opd) (a b:LC)
 | block (id:Nat) (a:LC)
 | loop (a:LC)
 | exit (id:Nat)
 | ret
 | stuck
 | gh (gs:List Ghost) (c:LC)
 deriving Inhabited
inductive LExit where
 | nrm
 | ex (id:Nat)
 | ret
 deriving Inhabited,DecidableEq
def LSt.opd (s:LSt):Opd->Option LV
 | .t n=>aget s.env n
 | .c v=>some (.pv (.sc v))
 | .nil sz=>some (.nils sz)
 | .f n=>some (.pv (.clo n []))
def LSt.opds (s:LSt):List Opd->Option (List LV)
 | []=>some []
 | x::xs=>(s.opd x).bind fun l=>(LSt.opds s xs).bind fun ls=>some (l::ls)
def LV.int?:LV->Option (IntKind×Int)
 | .pv (.sc (.int k n))=>some (k,n)
 | _=>none
def LV.bool?:LV->Option Bool
 | .pv (.sc (.bool b))=>some b
 | _=>none
def LV.str?:LV->Option ByteArray
 | .pv (.sc (.string s))=>some s
 | _=>none
def LV.sc?:LV->Option Value
 | .pv (.sc v)=>some v
 | _=>none
def LV.unbox:LV->LV
 | .box _ _ _ => .dead
 | l=>l
def LV.lst?:LV->Option (Nat×List (List PV))
 | .pv (.lst sz es)=>some (sz,es)
 | .own _ sz es=>some (sz,es)
 | .nils sz=>some (sz,[])
 | .nk _ sz es=>some (sz,es)
 | _=>none
def bytesR (s:ByteArray):List (List PV):=s.data.toList.map fun b=>[.sc (.int .u8 (b.toNat:Int))]
def LV.cat?:LV->Option (Nat×List (List PV))
 | .pv (.sc (.string s))=>some (1,bytesR s)
 | l=>l.lst?
def LV.cells:LV->List LV
 | .agg ls=>ls
 | l=>[l]
def LV.cellsN (n:Nat) (l:LV):Option (List LV):=if l.cells.length=n/\l.cells.all LV.flat=true then some l.cells else none
def toPVs:List LV->Option (List PV)
 | []=>some []
 | l::ls=>l.toPV.bind fun p=>(toPVs ls).bind fun ps=>some (p::ps)
def takeN {β:Type}:Nat->List PV->(List LV->Option β)->Option β
 | 0,_,k=>k []
 | n+1,p::ps,k=>takeN n ps fun ls=>k (.pv p::ls)
 | _+1,[],_=>none
def takeL {β:Type}:Nat->List LV->(List LV->Option β)->Option β
 | 0,_,k=>k []
 | n+1,p::ps,k=>takeL n ps fun ls=>k (p::ls)
 | _+1,[],_=>none
def ofCells (ag:Bool) (ls:List LV):Option LV:=
 if ag then some (.agg ls) else match ls with | [l]=>some l | _=>none
def putCells:List LV->Nat->List LV->Option (List LV)
 | cs,_,[]=>some cs
 | [],_,_::_=>none
 | c::cs,n+1,ls=>(putCells cs n ls).bind fun r=>some (c::r)
 | _::cs,0,l::ls=>(putCells cs 0 ls).bind fun r=>some (l::r)
def wantI (k:IntKind) (n:Int):LV := .pv (.sc (.int k n))
def wantB (b:Bool):LV := .pv (.sc (.bool b))
def bigStr:Nat:=68719476736
def bigLen:Nat:=68719476736
def intBin (op:BinOp) (k:IntKind) (a b:Int):Option Value:=
 match op with
 | .add=>some (.int k (k.wrap (a+b)))
 | .sub=>some (.int k (k.wrap (a-b)))
 | .mul=>some (.int k (k.wrap (a*b)))
 | .quo=>if b≠0 then some (.int k (k.wrap (a.tdiv b))) else none
 | .rem=>if b≠0 then some (.int k (a.tmod b)) else none
 | .eql=>some (.bool (a == b))
 | .neq=>some (.bool (a != b))
 | .lss=>some (.bool (decide (a<b)))
 | .leq=>some (.bool (decide (a<=b)))
 | .gtr=>some (.bool (decide (a>b)))
 | .geq=>some (.bool (decide (a>=b)))
 | .xor=>some (.int k (k.wrap (BitVec.ofInt k.bits a ^^^ BitVec.ofInt k.bits b).toNat))
 | .and=>some (.int k (k.wrap (BitVec.ofInt k.bits a &&& BitVec.ofInt k.bits b).toNat))
 | _=>none
def strBin (op:BinOp) (a b:ByteArray):Option Value:=
 match op with
 | .add=>if a.size+b.size<=bigStr then some (.string (a++b)) else none
 | .eql=>some (.bool (a.toList == b.toList))
 | .neq=>some (.bool !(a.toList == b.toList))
 | .lss=>some (.bool (Op.bytesLess a.toList b.toList))
 | .leq=>some (.bool (Op.bytesLess a.toList b.toList || a.toList == b.toList))
 | .gtr=>some (.bool !(Op.bytesLess a.toList b.toList || a.toList == b.toList))
 | .geq=>some (.bool !(Op.bytesLess a.toList b.toList))
 | _=>none
def scBin (op:BinOp) (x y:Value):Option Value:=
 match x,y with
 | .int k a,.int k' b=>if k=k' then intBin op k a b else none
 | .string a,.string b=>strBin op a b
 | _,_=>none
def scUn (op:UnOp) (x:Value):Option Value:=
 match op,x with
 | .neg,.int k n=>some (.int k (k.wrap (0-n)))
 | .not,.bool b=>some (.bool !b)
 | _,_=>none
def bytesOf:List (List PV)->Option (List UInt8)
 | []=>some []
 | [.sc (.int .u8 n)]::r=>(bytesOf r).bind fun bs=>some (UInt8.ofNat n.toNat::bs)
 | _=>none
def ofBytes (bs:List UInt8):List (List PV):=bs.map fun b=>[.sc (.int .u8 b.toNat)]
def nilOf:LV->Option Bool
 | .nils _=>some true
 | .nk b _ _=>some b
 | .pv (.lst _ (_::_))=>some false
 | .own _ _ (_::_)=>some false
 | _=>none
def scEqv:Nat->Value->Value->Option Bool
 | 0,.int k a,.int k' b=>if k=k' then some (a == b) else none
 | 1,.string a,.string b=>some (a == b)
 | 2,.bool a,.bool b=>some (a == b)
 | _,_,_=>none
def eqsL:List Nat->List LV->List LV->Option Bool
 | [],[],[]=>some true
 | k::ks,a::as,b::bs=>a.sc?.bind fun u=>b.sc?.bind fun v=>(scEqv k u v).bind fun t=>(eqsL ks as bs).bind fun r=>some (t&&r)
 | _,_,_=>none
def eqsOf (ks:List Nat):LV->LV->Option Bool
 | .agg as,.agg bs=>eqsL ks as bs
 | _,_=>none
structure Eff where
 dem:List Nat
 upd:List (Nat×Option Obj)
 val:Option LV
def updObjs:List (Nat×Obj)->List (Nat×Option Obj)->List (Nat×Obj)
 | os,[]=>os
 | os,(o,some x)::r=>updObjs (aset os o x) r
 | os,(o,none)::r=>updObjs (adel os o) r
def demEnv (gs:List Nat):List (Nat×LV)->List (Nat×LV)
 | []=>[]
 | (t,l)::r=>(t,l.dem gs)::demEnv gs r
def demObjs (gs:List Nat):List (Nat×Obj)->List (Nat×Obj)
 | []=>[]
 | (t,l)::r=>(t,l.dem gs)::demObjs gs r
def LSt.apply (s:LSt) (e:Eff) (dst:Option Nat):LSt:=
 let env:=match e.dem with | []=>s.env | gs=>demEnv gs s.env
 let objs:=match e.dem with | []=>s.objs | gs=>demObjs gs s.objs
 { s with
  env:=match dst with
   | none=>env
   | some d=>match e.val with
    | some l=>aset env d l
    | none=>adel env d
  objs:=updObjs objs e.upd }
def pureE (l:LV):Option Eff:=some { dem:=[],upd:=[],val:=some l }
def rowsOfO (os:List (Nat×Obj)) (o:Nat):Option (Nat×List (List PV)×List Shp):=(aget os o).bind fun
 | .rows sz es sh none=>some (sz,es,sh)
 | _=>none
mutual
def LV.arg (os:List (Nat×Obj)):LV->Option LV
 | .pv p=>some (.pv p)
 | .nils sz=>some (.pv (.lst sz []))
 | .nk _ sz es=>some (.pv (.lst sz es))
 | .own _ sz es=>some (.pv (.lst sz es))
 | .arr o _=>(rowsOfO os o).bind fun r=>some (.pv (.lst r.1 r.2.1))
 | .dead=>some .dead
 | .agg ls=>(LV.argL os ls).bind fun r=>some (.agg r)
 | _=>none
def LV.argL (os:List (Nat×Obj)):List LV->Option (List LV)
 | []=>some []
 | l::ls=>(l.arg os).bind fun p=>(LV.argL os ls).bind fun ps=>some (p::ps)
end
mutual
def LV.imp (g:Nat):LV->LV
 | .own h sz es => .own (h*4096+g) sz es
 | .agg ls => .agg (LV.impL g ls)
 | .tup ls => .tup (LV.impL g ls)
 | .clo f ls => .clo f (LV.impL g ls)
 | .pv p => .pv p
 | .nils sz => .nils sz
 | .nk b sz es => .nk b sz es
 | .ref o k => .ref o k
 | .eref o i k => .eref o i k
 | .arr o n => .arr o n
 | .box sz es sh => .box sz es sh
 | .dead => .dead
def LV.impL (g:Nat):List LV->List LV
 | []=>[]
 | l::ls=>l.imp g::LV.impL g ls
end
mutual
def LV.ren (f:Nat->Nat):LV->LV
 | .own g sz es => .own g sz es
 | .agg ls => .agg (LV.renL f ls)
 | .tup ls => .tup (LV.renL f ls)
 | .clo g ls => .clo g (LV.renL f ls)
 | .pv p => .pv p
 | .nils sz => .nils sz
 | .nk b sz es => .nk b sz es
 | .ref o k => .ref (f o) k
 | .eref o i k => .eref (f o) i k
 | .arr o n => .arr (f o) n
 | .box sz es sh => .box sz es sh
 | .dead => .dead
def LV.renL (f:Nat->Nat):List LV->List LV
 | []=>[]
 | l::ls=>l.ren f::LV.renL f ls
end
mutual
def LV.exp (k:Nat):LV->Option (LV×Nat)
 | .own _ sz es=>some (.own k sz es,k+1)
 | .pv p=>some (.pv p,k)
 | .nils sz=>some (.own k sz [],k+1)
 | .nk _ sz es=>some (.pv (.lst sz es),k)
 | .agg ls=>(LV.expL k ls).bind fun r=>some (.agg r.1,r.2)
 | .arr o n=>some (.arr o n,k)
 | .box sz es sh=>some (.box sz es sh,k)
 | .dead=>some (.dead,k)
 | _=>none
def LV.expL (k:Nat):List LV->Option (List LV×Nat)
 | []=>some ([],k)
 | l::ls=>(l.exp k).bind fun p=>(LV.expL p.2 ls).bind fun ps=>some (p.1::ps.1,ps.2)
end
def LV.exp1 (k:Nat):LV->Option (LV×Nat)
 | .ref o j=>some (.ref o j,k)
 | l=>l.exp k
def LV.expR (k:Nat):List LV->Option (List LV×Nat)
 | []=>some ([],k)
 | l::ls=>(l.exp1 k).bind fun p=>(LV.expR p.2 ls).bind fun ps=>some (p.1::ps.1,ps.2)
def ownCell (o o':Nat):LV->Option LV
 | .ref x k=>if x=o then some (.ref o' k) else none
 | _=>none
def LV.expC (o o' k:Nat):List LV->Option (List LV×Nat)
 | []=>some ([],k)
 | l::ls=>match ownCell o o' l with
  | some l'=>(LV.expC o o' k ls).bind fun ps=>some (l'::ps.1,ps.2)
  | none=>(l.exp k).bind fun p=>(LV.expC o o' p.2 ls).bind fun ps=>some (p.1::ps.1,ps.2)
def impC (o' o g:Nat):List LV->List LV
 | []=>[]
 | l::ls=>(match ownCell o' o l with | some l'=>l' | none=>l.imp g)::impC o' o g ls
def okCells (o:Nat) (cs:List LV):Bool:=cs.all fun l=>(ownCell o o l).isSome || l.names.isEmpty
mutual
def LV.kfree:LV->Bool
 | .pv (.sc _)=>true
 | .pv (.lst _ es)=>es.isEmpty
 | .pv _=>false
 | .nils _=>true
 | .nk _ _ es=>es.isEmpty
 | .own _ _ es=>es.isEmpty
 | .ref _ _=>true
 | .eref _ _ _=>true
 | .arr _ _=>true
 | .agg ls=>LV.kfreeL ls
 | .tup ls=>LV.kfreeL ls
 | .clo _ ls=>LV.kfreeL ls
 | .box _ _ _=>false
 | .dead=>true
def LV.kfreeL:List LV->Bool
 | []=>true
 | l::ls=>l.kfree&&LV.kfreeL ls
end
mutual
def LV.kf:LV->LV
 | .pv (.sc v) => .pv (.sc v)
 | .pv _ => .dead
 | .nils sz => .nils sz
 | .nk _ _ _ => .dead
 | .own _ _ _ => .dead
 | .ref o k => .ref o k
 | .eref o i k => .eref o i k
 | .arr o n => .arr o n
 | .agg ls => .agg (LV.kfL ls)
 | .tup ls => .tup (LV.kfL ls)
 | .clo _ _ => .dead
 | .box _ _ _ => .dead
 | .dead => .dead
def LV.kfL:List LV->List LV
 | []=>[]
 | l::ls=>l.kf::LV.kfL ls
end
mutual
def PV.kfree:PV->Shp->Bool
 | .sc _,_=>true
 | .lst _ es,.u sh=>PV.kfreeR sh es
 | .lst _ es,.v=>es.isEmpty
 | _,_=>false
def PV.kfrees:List PV->List Shp->Bool
 | [],_=>true
 | c::cs,[]=>c.kfree .v&&PV.kfrees cs []
 | c::cs,x::sh=>c.kfree x&&PV.kfrees cs sh
def PV.kfreeR (sh:List Shp):List (List PV)->Bool
 | []=>true
 | e::es=>PV.kfrees e (ush sh)&&PV.kfreeR sh es
end
def newName (o i:Nat):Nat:=o/1024*1024+i
def LV.isPv:LV->Bool
 | .pv _=>true
 | _=>false
def freshOk:Obj->Bool
 | .rows _ _ _ none=>true
 | .rows _ _ _ (some _)=>false
 | .var cs=>cs.all LV.isPv
def lowB:List Nat->List (Option Obj)->Bool
 | u::us,some (.var _)::r=>decide (u<1024)&&lowB us r
 | _::us,_::r=>lowB us r
 | _,_=>true
def rnm (j:Nat):Nat:=1099511627776+j
def rnms:Nat->Nat->List Nat
 | _,0=>[]
 | j,n+1=>rnm j::rnms (j+1) n
structure Hand where
 as:List LV
 os:List (Nat×Obj)
 gs:List Nat
 ns:List Nat
 bs:List Nat
def givL (os:List (Nat×Obj)):Nat->List LV->Option (List LV×List (Nat×Obj)×List Nat)
 | _,[]=>some ([],[],[])
 | i,.arr o n::r=>(rowsOfO os o).bind fun q=>(givL os (i+1) r).bind fun h=>some (.arr (newName o i) n::h.1,(newName o i,.rows q.1 q.2.1 q.2.2 none)::h.2.1,o::h.2.2)
 | i,.dead::r=>(givL os i r).bind fun h=>some (.dead::h.1,h.2.1,h.2.2)
 | i,l::r=>l.toPV.bind fun p=>(givL os i r).bind fun h=>some (.pv p::h.1,h.2.1,h.2.2)
def LV.isArr:LV->Bool
 | .arr _ _=>true
 | _=>false
def LV.givs:LV->Option (List LV)
 | .agg ls=>if ls.any LV.isArr then some ls else none
 | _=>none
def handOf (s:LSt):Nat->Nat->List (Opd×Bool)->Option Hand
 | _,_,[]=>some ⟨[],[],[],[],[]⟩
 | k,i,(x,false)::r=>(s.opd x).bind fun l=>(l.arg s.objs).bind fun l'=>(handOf s k i r).bind fun h=>some { h with as:=l'::h.as,bs:=l.names++h.bs }
 | k,i,(x,true)::r=>(s.opd x).bind fun
  | .ref o 0=>(aget s.objs o).bind fun
   | .var cs=>(LV.expC o (newName o i) k cs).bind fun p=>if okCells (newName o i) p.1=true/\i<1024 then (handOf s p.2 (i+1) r).bind fun h=>
     some ⟨.ref (newName o i) 0::h.as,(newName o i,.var p.1)::h.os,LV.toksL cs++h.gs,o::h.ns,h.bs⟩ else none
   | .rows _ _ _ _=>none
  | .arr o n=>(rowsOfO s.objs o).bind fun q=>(handOf s k (i+1) r).bind fun h=>
     some ⟨.arr (newName o i) n::h.as,(newName o i,.rows q.1 q.2.1 q.2.2 none)::h.os,h.gs,o::h.ns,h.bs⟩
  | l=>match l.givs with
   | some ls=>(givL s.objs i ls).bind fun p=>(handOf s k (i+p.2.2.length) r).bind fun h=>some ⟨.agg p.1::h.as,p.2.1++h.os,h.gs,p.2.2++h.ns,h.bs⟩
   | none=>(l.exp k).bind fun p=>if l.names=[] then (handOf s p.2 i r).bind fun h=>some { h with as:=p.1::h.as,gs:=l.toks++h.gs } else none
def noName (s:LSt) (o:Nat):Bool := !s.fix.contains o&&s.env.all (fun x => !x.2.names.contains o)&&s.objs.all (fun x=>x.1 != o && !(LV.namesL x.2.cells).contains o)
def backOk:List (Nat×Obj)->List (Option Obj)->Bool
 | o::os,some (.var cs)::r=>okCells o.1 cs&&backOk os r
 | _::os,some (.rows _ _ _ none)::r=>backOk os r
 | _::_,some (.rows _ _ _ (some _))::_=>false
 | _::os,none::r=>backOk os r
 | [],some x::r=>freshOk x&&backOk [] r
 | [],none::_=>false
 | _,[]=>true
def toksO:List (Option Obj)->List Nat
 | []=>[]
 | some x::r=>LV.toksL x.cells++toksO r
 | none::r=>toksO r
def kfreeO:Option Obj->Bool
 | some (.var cs)=>LV.kfreeL cs
 | some (.rows _ es sh _)=>PV.kfreeR sh es
 | none=>true
def impO (o' o g:Nat):Obj->Obj
 | .var cs => .var (impC o' o g cs)
 | x=>x
def backUpd (g:Nat):List Nat->List (Nat×Obj)->List Nat->List (Option Obj)->List (Nat×Option Obj)
 | n::ns,o::os,us,x::r=>(n,x.map (impO o.1 n g))::backUpd g ns os us r
 | _,_,u::us,x::r=>(u,x)::backUpd g [] [] us r
 | _,_,_,_=>[]
def pick (us:List Nat) (o:Nat):Nat:=us.getD (o-1099511627776) 0
def kfOf (h:Hand) (l:LV):LV:=if h.bs=[] then l else l.kf
def callEff (s:LSt) (g:Nat) (us:List Nat) (h:Hand) (r:Fin):Option Eff:=
 if h.gs.Nodup/\h.ns.Nodup/\(h.os.map (·.1)).Nodup/\h.os.all (fun o=>decide (o.1<1099511627776))=true/\(h.ns.zip h.os).all (fun x=>x.2.1/1024 == x.1/1024)=true/\g<4096/\r.2.length=h.os.length+us.length/\(kfOf h r.1).names=rnms 0 us.length/\us.Nodup/\(us.all (noName s)&&lowB us (r.2.drop h.os.length))=true/\backOk h.os r.2=true /\
   h.bs.all (fun o => !h.ns.contains o)=true/\(h.bs=[]\/r.2.all kfreeO=true) then
  some ⟨h.gs++(((kfOf h r.1).imp g).toks++(toksO r.2).map (fun t=>t*4096+g)),backUpd g h.ns h.os us r.2,some (((kfOf h r.1).imp g).ren (pick us))⟩
 else none
def lstLen (es:List (List PV)):LV:=wantI .i64 es.length
def sliceL (sz:Nat) (es:List (List PV)) (lo hi:Option Int):Option LV:=
 let h:Int:=hi.getD es.length
 let l:Int:=lo.getD 0
 if 0<=l/\l<=h/\h<=es.length then some (.pv (.lst sz ((es.drop l.toNat).take (h.toNat-l.toNat)))) else none
def sliceS (s:ByteArray) (lo hi:Option Int):Option LV:=
 let h:Int:=hi.getD s.size
 let l:Int:=lo.getD 0
 if 0<=l/\l<=h/\h<=s.size then some (.pv (.sc (.string (s.extract l.toNat h.toNat)))) else none
def LSt.int (s:LSt) (x:Opd):Option Int:=(s.opd x).bind fun l=>l.int?.bind fun r=>some r.2
def LSt.gix (s:LSt):GIx->Option Int
 | .o x=>s.int x
 | .r x=>(s.opd x).bind fun
   | .eref _ i _=>some (i:Int)
   | _=>none
 | .b op x y=>(s.gix x).bind fun i=>(s.gix y).bind fun j=>match op with
   | .add=>some (IntKind.i64.wrap (i+j))
   | .sub=>some (IntKind.i64.wrap (i-j))
   | .rem=>some (i.tmod j)
   | _=>none
def LSt.optInt (s:LSt):Option Opd->Option (Option Int)
 | none=>some none
 | some x=>(s.int x).bind fun i=>some (some i)
def partsOf (s:LSt):List LV->List (Nat×Nat×Opd)->Option (List LV)
 | cs,[]=>some cs
 | cs,(off,n,x)::r=>(s.opd x).bind fun l=>(l.cellsN n).bind fun ls=>(putCells cs off ls).bind fun cs'=>partsOf s cs' r
def rowsOf (s:LSt) (sz:Nat):List Opd->Option (List (List PV))
 | []=>some []
 | x::xs=>(s.opd x).bind fun l=>(toPVs l.cells).bind fun ps=>if ps.length=sz then (rowsOf s sz xs).bind fun r=>some (ps::r) else none
def LV.into (os:List (Nat×Obj)):Shp->LV->Option (PV×List Nat)
 | .v,l=>l.toPV.bind fun p=>some (p,[])
 | .u _,.nils z=>some (.lst z [],[])
 | .u sh,.arr o _=>(rowsOfO os o).bind fun r=>if Shp.eqL r.2.2 sh=true then some (.lst r.1 r.2.1,[o]) else none
 | _,_=>none
def LV.intoL (os:List (Nat×Obj)):List Shp->List LV->Option (List PV×List Nat)
 | _,[]=>some ([],[])
 | [],l::ls=>(l.into os .v).bind fun p=>(LV.intoL os [] ls).bind fun q=>some (p.1::q.1,p.2++q.2)
 | x::sh,l::ls=>(l.into os x).bind fun p=>(LV.intoL os sh ls).bind fun q=>some (p.1::q.1,p.2++q.2)
def outLV:Shp->PV->LV
 | .v,p => .pv p
 | .u _,.lst _ _ => .dead
 | .u _,p => .pv p
 | .self,_ => .dead
def outRow:List Shp->List PV->List LV
 | _,[]=>[]
 | [],p::ps => .pv p::outRow [] ps
 | x::sh,p::ps=>outLV x p::outRow sh ps
def rowLV (sh:List Shp) (hole:Option (Nat×Nat×Nat×Nat)) (i:Nat) (e:List PV):List LV:=
 match hole with
 | none=>outRow (ush sh) e
 | some (j,off,o,n)=>if j=i then (outRow (ush sh) e).set off (.arr o n) else outRow (ush sh) e
def putPV:List PV->Nat->List PV->Option (List PV)
 | cs,_,[]=>some cs
 | [],_,_::_=>none
 | c::cs,n+1,ls=>(putPV cs n ls).bind fun r=>some (c::r)
 | _::cs,0,l::ls=>(putPV cs 0 ls).bind fun r=>some (l::r)
def holeOff (hole:Option (Nat×Nat×Nat×Nat)) (i off n:Nat):Option (Nat×Nat×Nat×Nat):=
 match hole with
 | none=>none
 | some (j,k,o,m)=>if j=i/\off<=k/\k<off+n then none else some (j,k,o,m)
def gone (us:List Nat):List (Nat×Option Obj):=us.map fun o=>(o,none)
def rowsIn (s:LSt) (sh:List Shp) (sz:Nat):List Opd->Option (List (List PV)×List Nat)
 | []=>some ([],[])
 | x::xs=>(s.opd x).bind fun l=>(LV.intoL s.objs (ush sh) l.cells).bind fun p=>if p.1.length=sz then (rowsIn s sh sz xs).bind fun r=>some (p.1::r.1,p.2++r.2) else none
def apX (os:List (Nat×Obj)) (sz:Nat) (sh:List Shp) (gx:Option Nat):LV->Option (List (List PV))
 | .nils _=>if gx=none then some [] else none
 | .arr o1 _=>if gx=some o1 then (rowsOfO os o1).bind fun r=>if r.1=sz/\Shp.eqL r.2.2 sh=true then some r.2.1 else none else none
 | _=>none
def apY (os:List (Nat×Obj)) (sz:Nat) (sh:List Shp) (gx gy:Option Nat):LV->Option (List (List PV))
 | .arr o2 _=>if gy=some o2/\gx≠gy then (rowsOfO os o2).bind fun r=>if r.1=sz/\Shp.eqL r.2.2 sh=true then some r.2.1 else none else none
 | l=>if gy=none/\Shp.eqL sh []=true then l.cat?.bind fun r=>if r.1=sz then some r.2 else none else none
def evOp (call:CallF) (s:LSt):LOp->Option Eff
 | .mv x=>(s.opd x).bind pureE
 | .nilck x=>(s.opd x).bind fun
   | .pv (.cp cs)=>pureE (.pv (.cp cs))
   | .ref o k=>pureE (.ref o k)
   | .eref o i k=>pureE (.eref o i k)
   | _=>none
 | .pick c a b=>(s.opd c).bind fun c=>c.bool?.bind fun c=>(if c then s.opd a else s.opd b).bind pureE
 | .alloc o zs=>if noName s o then some { dem:=[],upd:=[(o,some (.var zs))],val:=some (.ref o 0) } else none
 | .box o n x=>(s.opd x).bind fun l=>(l.cellsN n).bind fun ls=>if noName s o then some { dem:=[],upd:=[(o,some (.var ls))],val:=some (.ref o 0) } else none
 | .build zs parts=>(partsOf s zs parts).bind fun cs=>pureE (.agg cs)
 | .bslice g sz xs=>(rowsOf s sz xs).bind fun es=>some { dem:=[g],upd:=[],val:=some (.own g sz es) }
 | .load n ag rd x=>(s.opd x).bind fun
   | .pv (.cp cs)=>takeN n cs fun ls=>(ofCells ag ls).bind pureE
   | .ref o off=>if rd=some o then (aget s.objs o).bind fun
     | .var cs=>takeL n (cs.drop off) fun ls=>(ofCells ag (ls.map LV.unbox)).bind pureE
     | .rows _ _ _ _=>none
     else none
   | .eref o i off=>if rd=some o then (aget s.objs o).bind fun
     | .var _=>none
     | .rows _ es sh hole=>(es[i]?).bind fun e=>takeL n ((rowLV sh hole i e).drop off) fun ls=>(ofCells ag ls).bind pureE
     else none
   | _=>none
 | .store n rd us x v=>(s.opd x).bind fun a=>(s.opd v).bind fun l=>(l.cellsN n).bind fun ls=>
    match a with
    | .ref o off=>if rd=o then (aget s.objs o).bind fun
      | .var cs=>(putCells cs off ls).bind fun cs'=>some { dem:=[],upd:=[(o,some (.var cs'))],val:=none }
      | .rows _ _ _ _=>none
      else none
    | .eref o i off=>if rd=o then (aget s.objs o).bind fun
      | .var _=>none
      | .rows sz es sh hole=>(es[i]?).bind fun e=>(LV.intoL s.objs ((ush sh).drop off) ls).bind fun p=>if p.2=us/\us.Nodup/\us.contains o=false then (putPV e off p.1).bind fun e'=>some { dem:=[],upd:=gone us++[(o,some (.rows sz (es.set i e') sh (holeOff hole i off n)))],val:=none } else none
      else none
    | _=>none
 | .bin op x y=>(s.opd x).bind fun a=>a.sc?.bind fun a=>(s.opd y).bind fun b=>b.sc?.bind fun b=>(scBin op a b).bind fun v=>pureE (.pv (.sc v))
 | .binb ne x y=>(s.opd x).bind fun a=>a.bool?.bind fun a=>(s.opd y).bind fun b=>b.bool?.bind fun b=>pureE (wantB (if ne then !(a == b) else a == b))
 | .isnil ne x=>(s.opd x).bind fun l=>(nilOf l).bind fun b=>pureE (wantB (b != ne))
 | .eqs ne ks x y=>(s.opd x).bind fun a=>(s.opd y).bind fun b=>(eqsOf ks a b).bind fun t=>pureE (wantB (t != ne))
 | .un op x=>(s.opd x).bind fun a=>a.sc?.bind fun a=>(scUn op a).bind fun v=>pureE (.pv (.sc v))
 | .conv k x=>(s.opd x).bind fun a=>a.int?.bind fun a=>pureE (wantI k (k.wrap a.2))
 | .toStr x=>(s.opd x).bind fun a=>a.lst?.bind fun r=>(bytesOf r.2).bind fun bs=>pureE (.pv (.sc (.string ⟨bs.toArray⟩)))
 | .toBytes _ x=>(s.opd x).bind fun a=>a.str?.bind fun b=>if b.size<=bigLen then pureE (.pv (.lst 1 (ofBytes b.data.toList))) else none
 | .mkfn f caps=>(s.opds caps).bind fun ls=>(toPVs ls).bind fun ps=>pureE (.pv (.clo f ps))
 | .mkmth f x=>(s.opd x).bind fun
   | .agg ls=>if ls.all LV.flat=true then (toPVs ls).bind fun ps=>pureE (.pv (.mth f ps)) else none
   | _=>none
 | .mkslice o sz sh zs n=>(s.int n).bind fun n=>if noName s o/\0<=n/\n<=bigLen/\zs.length=sz then some { dem:=[],upd:=[(o,some (.rows sz (List.replicate n.toNat zs) sh none))],val:=some (.arr o n.toNat) } else none
 | .bsu o sz sh us xs=>(rowsIn s sh sz xs).bind fun p=>if noName s o/\p.2=us/\us.Nodup then some { dem:=[],upd:=gone us++[(o,some (.rows sz p.1 sh none))],val:=some (.arr o p.1.length) } else none
 | .apu o sz sh gx gy x y=>(s.opd x).bind fun lx=>(s.opd y).bind fun ly=>(apX s.objs sz sh gx lx).bind fun es=>(apY s.objs sz sh gx gy ly).bind fun ys=>
   if noName s o/\es.length+ys.length<=bigLen then some { dem:=[],upd:=gone (gx.toList++gy.toList)++[(o,some (Obj.rows sz (es++ys) sh none))],val:=some (.arr o (es.length+ys.length)) } else none
 | .sliceS lo hi x=>(s.optInt lo).bind fun lo=>(s.optInt hi).bind fun hi=>(s.opd x).bind fun a=>a.str?.bind fun b=>(sliceS b lo hi).bind pureE
 | .slice sz lo hi x=>(s.optInt lo).bind fun lo=>(s.optInt hi).bind fun hi=>(s.opd x).bind fun a=>a.lst?.bind fun r=>if r.1=sz then (sliceL sz r.2 lo hi).bind pureE else none
 | .slice0 _ _ _=>none
 | .faddr off x=>(s.opd x).bind fun
   | .pv (.cp cs)=>pureE (.pv (.cp (cs.drop off)))
   | .ref o k=>pureE (.ref o (k+off))
   | .eref o i k=>pureE (.eref o i (k+off))
   | _=>none
 | .iaddr sz rd x i=>(s.int i).bind fun i=>(s.opd x).bind fun
   | .arr o n=>if rd=some o/\0<=i then
     (aget s.objs o).bind fun
      | .rows z es _ _=>if z=sz/\(i<n\/i<es.length) then pureE (.eref o i.toNat 0) else none
      | .var _=>none
     else none
   | a=>a.lst?.bind fun r=>if r.1=sz/\0<=i then (r.2[i.toNat]?).bind fun e=>pureE (.pv (.cp e)) else none
 | .field off n ag x=>(s.opd x).bind fun
   | .agg ls=>takeL n (ls.drop off) fun ls=>(ofCells ag ls).bind pureE
   | _=>none
 | .index x i=>(s.int i).bind fun i=>(s.opd x).bind fun a=>a.str?.bind fun b=>if 0<=i then (b.data[i.toNat]?).bind fun c=>pureE (wantI .u8 c.toNat) else none
 | .extract k x=>(s.opd x).bind fun
   | .tup ls=>(ls[k]?).bind pureE
   | _=>none
 | .lenS x=>(s.opd x).bind fun a=>a.str?.bind fun b=>pureE (wantI .i64 b.size)
 | .len x=>(s.opd x).bind fun
   | .arr _ n=>pureE (wantI .i64 n)
   | a=>a.lst?.bind fun r=>pureE (lstLen r.2)
 | .append g sz gx x y=>(s.opd y).bind fun b=>b.cat?.bind fun r=>if r.1=sz then
   (s.opd x).bind fun
    | .nils _=>if r.2.length<=bigLen then some { dem:=[g],upd:=[],val:=some (.own g sz r.2) } else none
    | .own g' z es=>if gx=some g'/\z=sz/\es.length+r.2.length<=bigLen then some { dem:=[g,g'],upd:=[],val:=some (.own g sz (es++r.2)) } else none
    | _=>none
   else none
 | .max x y=>(s.opd x).bind fun a=>a.int?.bind fun a=>(s.opd y).bind fun b=>b.int?.bind fun b=>if a.1=b.1 then pureE (wantI a.1 (if b.2>a.2 then b.2 else a.2)) else none
 | .call f g ws ts us bs args=>(handOf s 0 0 args).bind fun h=>if h.ns=ws/\h.gs=ts/\h.bs=bs then (call f h.as h.os).bind fun r=>callEff s g us h r else none
 | .callv g ws ts us bs x args=>(s.opd x).bind fun
   | .pv (.clo f ps)=>(handOf s 0 0 args).bind fun h=>if h.ns=ws/\h.gs=ts/\h.bs=bs then (callp call f (h.as++ps.map .pv) h.os).bind fun r=>callEff s g us h r else none
   | .pv (.mth f ps)=>(handOf s 0 0 args).bind fun h=>if h.ns=ws/\h.gs=ts/\h.bs=bs then (callp call f (.agg (ps.map .pv)::h.as) h.os).bind fun r=>callEff s g us h r else none
   | _=>none
def wantedL (s:LSt):Option (Nat×Bool)->Option Bool
 | none=>some true
 | some (t,b)=>(aget s.env t).bind fun
  | .tup []=>some false
  | l=>l.bool?.bind fun c=>some (c == b)
def skipE:Eff:=⟨[],[],some (.tup [])⟩
def killEnv (ts:List Nat) (env:List (Nat×LV)):List (Nat×LV):=ts.foldl adel env
def LSt.kill (s:LSt):List Nat->LSt
 | []=>s
 | ts=>{ s with env:=killEnv ts s.env }
def evOps (call:CallF):List LI->LSt->Option LSt
 | [],s=>some s
 | i::r,s=>(wantedL s i.guard).bind fun
   | true=>(evOp call s i.op).bind fun e=>evOps call r ((s.apply e i.dst).kill i.kill)
   | false=>evOps call r ((s.apply skipE i.dst).kill i.kill)
def keepEnv (ts:List Nat) (env:List (Nat×LV)):List (Nat×LV):=env.filter fun x=>ts.contains x.1
mutual
def LV.frz (o g sz:Nat) (es:List (List PV)):LV->Option LV
 | .arr o' n=>if o'=o then (if n=es.length then some (.own g sz es) else none) else some (.arr o' n)
 | .agg ls=>(LV.frzL o g sz es ls).bind fun r=>some (.agg r)
 | .tup ls=>(LV.frzL o g sz es ls).bind fun r=>some (.tup r)
 | .clo f ls=>(LV.frzL o g sz es ls).bind fun r=>some (.clo f r)
 | .ref o' k=>if o'=o then none else some (.ref o' k)
 | .eref o' i k=>if o'=o then none else some (.eref o' i k)
 | .own h z xs=>if h=g then none else some (.own h z xs)
 | .pv p=>some (.pv p)
 | .nils z=>some (.nils z)
 | .nk b z es=>some (.nk b z es)
 | .box z es sh=>some (.box z es sh)
 | .dead=>some .dead
def LV.frzL (o g sz:Nat) (es:List (List PV)):List LV->Option (List LV)
 | []=>some []
 | l::ls=>(l.frz o g sz es).bind fun p=>(LV.frzL o g sz es ls).bind fun ps=>some (p::ps)
end
mutual
def LV.frzv (o:Nat) (cs:List PV):LV->Option LV
 | .ref o' k=>if o'=o then some (.pv (.cp (cs.drop k))) else some (.ref o' k)
 | .agg ls=>(LV.frzvL o cs ls).bind fun r=>some (.agg r)
 | .tup ls=>(LV.frzvL o cs ls).bind fun r=>some (.tup r)
 | .clo f ls=>(LV.frzvL o cs ls).bind fun r=>some (.clo f r)
 | .arr o' n=>if o'=o then none else some (.arr o' n)
 | .eref o' i k=>if o'=o then none else some (.eref o' i k)
 | .own h z xs=>some (.own h z xs)
 | .pv p=>some (.pv p)
 | .nils z=>some (.nils z)
 | .nk b z es=>some (.nk b z es)
 | .box z es sh=>some (.box z es sh)
 | .dead=>some .dead
def LV.frzvL (o:Nat) (cs:List PV):List LV->Option (List LV)
 | []=>some []
 | l::ls=>(l.frzv o cs).bind fun p=>(LV.frzvL o cs ls).bind fun ps=>some (p::ps)
end
def mapEnv (f:LV->Option LV):List (Nat×LV)->Option (List (Nat×LV))
 | []=>some []
 | (t,l)::r=>(f l).bind fun l'=>(mapEnv f r).bind fun r'=>some ((t,l')::r')
def mapCells (f:LV->Option LV):List LV->Option (List LV)
 | []=>some []
 | l::r=>(f l).bind fun l'=>(mapCells f r).bind fun r'=>some (l'::r')
def mapObj (f:LV->Option LV):Obj->Option Obj
 | .var cs=>(mapCells f cs).bind fun cs'=>some (.var cs')
 | .rows sz es sh none=>some (.rows sz es sh none)
 | .rows sz es sh (some (i,off,o,n))=>(f (.arr o n)).bind fun
   | .arr o' n'=>some (.rows sz es sh (some (i,off,o',n')))
   | _=>none
def mapObjs (f:LV->Option LV):List (Nat×Obj)->Option (List (Nat×Obj))
 | []=>some []
 | (t,l)::r=>(mapObj f l).bind fun l'=>(mapObjs f r).bind fun r'=>some ((t,l')::r')
def renObj (f:Nat->Nat):Obj->Obj
 | .var cs => .var (LV.renL f cs)
 | .rows sz es sh none => .rows sz es sh none
 | .rows sz es sh (some (i,off,o,n)) => .rows sz es sh (some (i,off,f o,n))
def renObjs (o o':Nat) (os:List (Nat×Obj)):List (Nat×Obj):=
 match aget os o with
 | some x=>aset ((adel os o).map fun y=>(y.1,renObj (fun y=>if y=o then o' else y) y.2)) o' (renObj (fun y=>if y=o then o' else y) x)
 | none=>(adel os o).map fun y=>(y.1,renObj (fun y=>if y=o then o' else y) y.2)
def noTok (s:LSt) (g:Nat):Bool:=s.env.all (fun x => !x.2.toks.contains g)&&s.objs.all (fun x => !(LV.toksL x.2.cells).contains g)
def evGhost (s:LSt):Ghost->Option LSt
 | .kill ts=>some { s with env:=killEnv ts s.env }
 | .keep ts=>some { s with env:=keepEnv ts s.env }
 | .gc=>some { s with objs:=s.objs.filter fun x=>s.fix.contains x.1 || s.env.any (fun y=>y.2.names.contains x.1) || s.objs.any fun y=>(LV.namesL y.2.cells).contains x.1 }
 | .drop o=>some { s with objs:=adel s.objs o }
 | .frz o g=>(rowsOfO s.objs o).bind fun r=>if noTok s g then (mapEnv (LV.frz o g r.1 r.2.1) s.env).bind fun env=>(mapObjs (LV.frz o g r.1 r.2.1) (adel s.objs o)).bind fun objs=>some { s with env:=env,objs:=objs } else none
 | .frzv o=>(aget s.objs o).bind fun
   | .var cs=>(toPVs cs).bind fun ps=>(mapEnv (LV.frzv o ps) s.env).bind fun env=>(mapObjs (LV.frzv o ps) (adel s.objs o)).bind fun objs=>some { s with env:=env,objs:=objs }
   | .rows _ _ _ _=>none
 | .cast t g=>(aget s.env t).bind fun
   | .nils sz=>if noTok s g then some { s with env:=aset s.env t (.own g sz []) } else none
   | _=>some s
 | .castc o i g=>(aget s.objs o).bind fun
   | .var cs=>match cs[i]? with
    | some (.nils sz)=>if noTok s g then some { s with objs:=aset s.objs o (.var (cs.set i (.own g sz []))) } else none
    | _=>some s
   | .rows _ _ _ _=>none
 | .dem gs=>some { s with env:=demEnv gs s.env,objs:=demObjs gs s.objs }
 | .castu t o sh=>(aget s.env t).bind fun
   | .nils sz=>if noName s o then some { s with env:=aset s.env t (.arr o 0),objs:=aset s.objs o (.rows sz [] sh none) } else none
   | _=>some s
 | .castuc o i o' sh=>(aget s.objs o).bind fun
   | .var cs=>match cs[i]? with
    | some (.nils sz)=>if noName s o' then some { s with objs:=aset (aset s.objs o (.var (cs.set i (.arr o' 0)))) o' (.rows sz [] sh none) } else none
    | _=>some s
   | .rows _ _ _ _=>none
 | .castb o i t=>(aget s.objs o).bind fun
   | .var cs=>match cs[i]? with
    | some (.nils 1)=>some { s with objs:=aset s.objs o (.var (cs.set i (.box 0 [] (List.replicate t .v)))) }
    | _=>none
   | .rows _ _ _ _=>none
 | .take o i off o'=>(s.gix i).bind fun i=>(aget s.objs o).bind fun
   | .rows sz es sh none=>(es[i.toNat]?).bind fun e=>match shpAt (ush sh) off,e[off]? with
    | .u sh',some (.lst z ys)=>if noName s o' then some { s with objs:=aset (aset s.objs o (.rows sz es sh (some (i.toNat,off,o',ys.length)))) o' (.rows z ys sh' none) } else none
    | _,_=>none
   | _=>none
 | .put o=>(aget s.objs o).bind fun
   | .rows _ _ _ none=>some s
   | .rows sz es sh (some (i,off,o',_))=>(rowsOfO s.objs o').bind fun r=>(es[i]?).bind fun e=>if o'≠o/\off<e.length/\Shp.eq (shpAt (ush sh) off) (.u r.2.2)=true then some { s with objs:=aset (adel s.objs o') o (.rows sz (es.set i (e.set off (.lst r.1 r.2.1))) sh none) } else none
   | _=>none
 | .takev o off o'=>(aget s.objs o).bind fun
   | .var cs=>match cs[off]? with
    | some (.box z ys sh)=>if noName s o'=true/\z≠0 then some { s with objs:=aset (aset s.objs o (.var (cs.set off (.arr o' ys.length)))) o' (.rows z ys sh none) } else none
    | _=>none
   | .rows _ _ _ _=>none
 | .putv o off=>(aget s.objs o).bind fun
   | .var cs=>match cs[off]? with
    | some (.arr o' _)=>(rowsOfO s.objs o').bind fun r=>if o'≠o/\r.1≠0 then some { s with objs:=aset (adel s.objs o') o (.var (cs.set off (.box r.1 r.2.1 r.2.2))) } else none
    | _=>none
   | .rows _ _ _ _=>none
 | .ren o o'=>if (aget s.objs o).isNone=true then some s else if noName s o'=true/\s.fix.contains o=false/\o'/1024=o/1024 then some { s with env:=s.env.map fun x=>(x.1,x.2.ren fun y=>if y=o then o' else y),objs:=renObjs o o' s.objs } else none
def evGhosts:List Ghost->LSt->Option LSt
 | [],s=>some s
 | g::gs,s=>(evGhost s g).bind (evGhosts gs)
def sortedB {α:Type}:List (Nat×α)->Bool
 | []=>true
 | x::r=>(r.all fun y=>decide (x.1<y.1))&&sortedB r
def LOp.allocs:LOp->List Nat
 | .alloc o _ | .box o _ _ | .mkslice o _ _ _ _ | .bsu o _ _ _ _ | .apu o _ _ _ _ _ _=>[o]
 | .call _ _ _ _ us _ _ | .callv _ _ _ us _ _ _=>us
 | _=>[]
def drawRdy (s:LSt) (l:List LI):Bool:=sortedB s.env&&sortedB s.objs&&l.all fun i=>i.op.allocs.all (noName s)
def iter (f:LSt->Option (LExit×LSt)):Nat->LSt->Option (LExit×LSt)
 | 0,_=>none
 | n+1,s=>(f s).bind fun
   | (.nrm,s')=>iter f n s'
   | r=>some r
def evC (call:CallF) (n:Nat):LC->LSt->Option (LExit×LSt)
 | .skip,s=>some (.nrm,s)
 | .ops l,s=>(evOps call l s).bind fun s'=>some (.nrm,s')
 | .draw l,s=>if drawRdy s l then (evOps call l s).bind fun s'=>some (.nrm,s') else none
 | .seq a b,s=>(evC call n a s).bind fun
   | (.nrm,s')=>evC call n b s'
   | r=>some r
 | .cond c a b,s=>(s.opd c).bind fun l=>l.bool?.bind fun t=>if t then evC call n a s else evC call n b s
 | .block id a,s=>(evC call n a s).bind fun
   | (.ex i,s')=>if i=id then some (.nrm,s') else some (.ex i,s')
   | r=>some r
 | .loop a,s=>iter (evC call n a) n s
 | .exit id,s=>some (.ex id,s)
 | .ret,s=>some (.ret,s)
 | .stuck,_=>none
 | .gh gs c,s=>(evGhosts gs s).bind (evC call n c)
inductive LRes where
 | tmp (t:Nat)
 | cell (t n:Nat) (ag:Bool)
 deriving Inhabited
structure LF where
 np:Nat
 body:LC
 res:List LRes
 split:Option Nat:=none
 deriving Inhabited
def argEnv:Nat->List LV->List (Nat×LV)
 | _,[]=>[]
 | k,l::ls=>(k,l)::argEnv (k+1) ls
def resOf (s:LSt):LRes->Option LV
 | .tmp t=>aget s.env t
 | .cell t n ag=>(aget s.env t).bind fun
   | .ref o off=>(aget s.objs o).bind fun
     | .var cs=>takeL n (cs.drop off) fun ls=>ofCells ag (ls.map LV.unbox)
     | .rows _ _ _ _=>none
   | _=>none
def resOfs (s:LSt):List LRes->Option (List LV)
 | []=>some []
 | r::rs=>(resOf s r).bind fun l=>(resOfs s rs).bind fun ls=>some (l::ls)
def expFix (s:LSt) (ns:List Nat) (k:Nat):List Nat->Option (List (Option Obj)×Nat)
 | []=>some ([],k)
 | o::os=>if ns.contains o then (expFix s ns k os).bind fun q=>some (none::q.1,q.2) else
  match aget s.objs o with
  | some (.var cs)=>(LV.expC o o k cs).bind fun p=>if okCells o p.1=true then (expFix s ns p.2 os).bind fun q=>some (Option.some (Obj.var p.1)::q.1,q.2) else none
  | some (.rows sz es sh none)=>(expFix s ns k os).bind fun q=>some (Option.some (Obj.rows sz es sh none)::q.1,q.2)
  | some (.rows _ _ _ (some _))=>none
  | none=>(expFix s ns k os).bind fun q=>some (none::q.1,q.2)
def fixToks (s:LSt) (ns:List Nat):List Nat->List Nat
 | []=>[]
 | o::os=>(if ns.contains o then [] else match aget s.objs o with | some x=>LV.toksL x.cells | none=>[])++fixToks s ns os
def newObjs (s:LSt):List Nat->Option (List (Option Obj))
 | []=>some []
 | o::os=>(aget s.objs o).bind fun x=>if freshOk x=true then (newObjs s os).bind fun q=>some (Option.some x::q) else none
def rix (ns:List Nat) (o:Nat):Nat:=rnm (ns.idxOf o)
def one:List LV->LV
 | [l]=>l
 | ls => .tup ls
def outOf (s:LSt) (rs:List LRes):Option Fin:=
 (resOfs s rs).bind fun ls=>
  if (LV.namesL ls).Nodup/\(LV.toksL ls++fixToks s (LV.namesL ls) s.fix).Nodup then
   (LV.expR 0 ls).bind fun r=>(expFix s (LV.namesL ls) r.2 s.fix).bind fun q=>(newObjs s (LV.namesL ls)).bind fun nw=>some (one (LV.renL (rix (LV.namesL ls)) r.1),q.1++nw)
  else none
def splitArg (b:Bool):Nat->List LV->Option (List LV)
 | 0,.pv (.lst sz es)::r=>if b=true/\es≠[] then none else some (.nk b sz es::r)
 | k+1,l::r=>(splitArg b k r).bind fun r'=>some (l::r')
 | _,_=>none
def runF (call:CallF) (n:Nat) (p:LF) (args:List LV) (os:List (Nat×Obj)):Option Fin:=
 (evC call n p.body { env:=argEnv 0 args,objs:=os,fix:=os.map (·.1) }).bind fun
  | (.ex _,_)=>none
  | (_,s)=>outOf s p.res
open Classical in
noncomputable def evF (prog:Nat->Option LF) (ext:Nat->Option (List LV->List (Nat×Obj)->Option Fin)):Nat->CallF
 | 0,_,_,_=>none
 | n+1,f,args,os=>
  match ext f with
  | some e=>e args os
  | none=>(prog f).bind fun p=>
   if args.length=p.np/\(os.map (·.1)).Nodup/\os.all (fun o=>decide (o.1<1099511627776))=true then
    match p.split with
    | none=>runF (evF prog ext n) n p args os
    | some k=>(splitArg false k args).bind fun a0=>(runF (evF prog ext n) n p a0 os).bind fun r=>
     match splitArg true k args with
     | none=>some r
     | some a1=>if runF (evF prog ext n) n p a1 os=some r then some r else none
   else none
abbrev Heap:=Array Go.Obj
def hcell (h:Heap) (b o:Nat):Option Value:=
 match h[b]? with
 | some (.cells c _ _)=>c[o]?
 | _=>none
theorem cell?_heap (w:World) (b o:Nat):w.cell? ⟨b,o,none⟩=hcell w.heap b o:=by
 unfold World.cell? hcell
 split<;>simp_all
def Know.le (K K':Know):Prop:=∀b o v,K b o=some v->K' b o=some v
theorem Know.le_refl (K:Know):K.le K:=fun _ _ _ h=>h
theorem Know.le_trans {K K' K'':Know}(h:K.le K') (h':K'.le K''):K.le K'':=fun b o v e=>h' b o v (h b o v e)
mutual
theorem RepP.mono {K K':Know}(h:K.le K'):∀ {p:PV}{v:Value},RepP K p v->RepP K' p v
 | .sc _,_,e=>e
 | .lst _ _,_,⟨a,len,cap,e,e',hc,r⟩=>⟨a,len,cap,e,e',hc,r.imp id fun⟨b,o,ea,r⟩=>⟨b,o,ea,RepRows.mono h r⟩⟩
 | .cp _,_,⟨b,o,e,r⟩=>⟨b,o,e,RepRow.mono h r⟩
 | .clo _ _,_,⟨vs,e,r⟩=>⟨vs,e,RepPs.mono h r⟩
 | .mth _ _,_,⟨vs,e,r⟩=>⟨vs,e,RepPs.mono h r⟩
theorem RepPs.mono {K K':Know}(h:K.le K'):∀ {p:List PV}{v:List Value},RepPs K p v->RepPs K' p v
 | [],_,e=>e
 | _::_,_,⟨v,r,e,a,b⟩=>⟨v,r,e,RepP.mono h a,RepPs.mono h b⟩
theorem RepRow.mono {K K':Know}(h:K.le K'):∀ {p:List PV}{b o:Nat},RepRow K p b o->RepRow K' p b o
 | [],_,_,_=>trivial
 | _::_,_,_,⟨⟨u,e,r⟩,r'⟩=>⟨⟨u,h _ _ _ e,RepP.mono h r⟩,RepRow.mono h r'⟩
theorem RepRows.mono {K K':Know}(h:K.le K'){sz:Nat}:∀ {p:List (List PV)}{b o:Nat},RepRows K sz p b o->RepRows K' sz p b o
 | [],_,_,_=>trivial
 | _::_,_,_,⟨e,r,r'⟩=>⟨e,RepRow.mono h r,RepRows.mono h r'⟩
end
mutual
theorem RepL.mono {K K':Know}{N:Names}(h:K.le K'):∀ {l:LV}{v:Value},RepL K N l v->RepL K' N l v
 | .pv _,_,r=>RepP.mono (p:=_) h r
 | .nils _,_,e=>e
 | .nk _ _ _,_,⟨a,b⟩=>⟨RepP.mono (p := .lst _ _) h a,b⟩
 | .own _ _ _,_,⟨a,b,c⟩=>⟨a,b,RepP.mono (p := .lst _ _) h c⟩
 | .ref _ _,_,e=>e
 | .eref _ _ _,_,e=>e
 | .arr _ _,_,e=>e
 | .agg _,_,⟨vs,e,hf,r⟩=>⟨vs,e,hf,RepLs.mono h r⟩
 | .tup _,_,⟨vs,e,r⟩=>⟨vs,e,RepLs.mono h r⟩
 | .clo _ _,_,⟨vs,e,r⟩=>⟨vs,e,RepLs.mono h r⟩
 | .box _ _ _,_,e=>e
 | .dead,_,e=>e
theorem RepLs.mono {K K':Know}{N:Names}(h:K.le K'):∀ {l:List LV}{v:List Value},RepLs K N l v->RepLs K' N l v
 | [],_,e=>e
 | _::_,_,⟨v,r,e,a,b⟩=>⟨v,r,e,RepL.mono h a,RepLs.mono h b⟩
end
def Names.agrees (N N':Names) (os gs:List Nat):Prop:=
 (∀o∈os,N'.M o=N.M o/\N'.S o=N.S o/\N'.A o=N.A o)/\∀g∈gs,N'.G g=N.G g
mutual
theorem RepL.named {K:Know}{N N':Names}:∀ {l:LV}{v:Value},N.agrees N' l.names l.toks->RepL K N l v->RepL K N' l v
 | .pv _,_,_,r=>r
 | .nils _,_,_,e=>e
 | .nk _ _ _,_,_,e=>e
 | .own g _ _,_,h,⟨a,b,c⟩=>by
  have:=h.2 g (by simp[LV.toks])
  exact⟨by rw[this];exact a,by rw[this];exact b,c⟩
 | .ref o _,_,h,e=>by simp only[RepL]at *;rw[(h.1 o (by simp[LV.names])).1];exact e
 | .eref o _ _,_,h,e=>by simp only[RepL]at *;rw[(h.1 o (by simp[LV.names])).1,(h.1 o (by simp[LV.names])).2.1];exact e
 | .arr o _,_,h,e=>by simp only[RepL]at *;rw[(h.1 o (by simp[LV.names])).2.2];exact e
 | .agg _,_,h,⟨vs,e,hf,r⟩=>⟨vs,e,hf,RepLs.named h r⟩
 | .tup _,_,h,⟨vs,e,r⟩=>⟨vs,e,RepLs.named h r⟩
 | .clo _ _,_,h,⟨vs,e,r⟩=>⟨vs,e,RepLs.named h r⟩
 | .box _ _ _,_,_,e=>e
 | .dead,_,_,e=>e
theorem RepLs.named {K:Know}{N N':Names}:∀ {l:List LV}{v:List Value},N.agrees N' (LV.namesL l) (LV.toksL l)->RepLs K N l v->RepLs K N' l v
 | [],_,_,e=>e
 | _::_,_,h,⟨v,r,e,a,b⟩=>⟨v,r,e,
   RepL.named ⟨fun o ho=>h.1 o (by simp[LV.namesL,ho]),fun g hg=>h.2 g (by simp[LV.toksL,hg])⟩ a,
   RepLs.named ⟨fun o ho=>h.1 o (by simp[LV.namesL,ho]),fun g hg=>h.2 g (by simp[LV.toksL,hg])⟩ b⟩
end
theorem LV.flat_dem (gs:List Nat) (l:LV):(l.dem gs).flat=l.flat:=by
 cases l<;>try rfl
 simp only[LV.dem];split<;>rfl
theorem LV.flat_demL (gs:List Nat) (ls:List LV) (h:ls.all LV.flat=true):(LV.demL gs ls).all LV.flat=true:=by
 induction ls with
 | nil=>rfl
 | cons a l ih=>simp only[LV.demL,List.all_cons,LV.flat_dem,bat]at *;exact⟨h.1,ih h.2⟩
mutual
theorem RepL.dem {K:Know}{N:Names}(gs:List Nat):∀ {l:LV}{v:Value},RepL K N l v->RepL K N (l.dem gs) v
 | .pv _,_,r=>r
 | .nils _,_,e=>e
 | .nk _ _ _,_,e=>e
 | .own g _ _,_,⟨a,b,c⟩=>by
  simp only[LV.dem];split
  .exact c
  .exact⟨a,b,c⟩
 | .ref o _,_,e=>e
 | .eref o _ _,_,e=>e
 | .arr o _,_,e=>e
 | .agg _,_,⟨vs,e,hf,r⟩=>⟨vs,e,LV.flat_demL gs _ hf,RepLs.dem gs r⟩
 | .tup _,_,⟨vs,e,r⟩=>⟨vs,e,RepLs.dem gs r⟩
 | .clo _ _,_,⟨vs,e,r⟩=>⟨vs,e,RepLs.dem gs r⟩
 | .box _ _ _,_,e=>e
 | .dead,_,e=>e
theorem RepLs.dem {K:Know}{N:Names}(gs:List Nat):∀ {l:List LV}{v:List Value},RepLs K N l v->RepLs K N (LV.demL gs l) v
 | [],_,e=>e
 | _::_,_,⟨v,r,e,a,b⟩=>⟨v,r,e,RepL.dem gs a,RepLs.dem gs b⟩
end
mutual
theorem LV.toks_dem (gs:List Nat):∀ (l:LV) (g:Nat),g∈(l.dem gs).toks↔g∈l.toks/\g∉gs
 | .pv _,_=>by simp[LV.dem,LV.toks]
 | .nils _,_=>by simp[LV.dem,LV.toks]
 | .nk _ _ _,_=>by simp[LV.dem,LV.toks]
 | .own h _ _,g=>by
  simp only[LV.dem];split
  .rename_i hc;simp only[LV.toks,List.not_mem_nil,List.mem_singleton,false_iff,not_and,Decidable.not_not]
   rintro rfl;simpa using hc
  .rename_i hc;simp only[LV.toks,List.mem_singleton]
   exact⟨fun e=>⟨e,by subst e;simpa using hc⟩,fun e=>e.1⟩
 | .ref _ _,_=>by simp[LV.dem,LV.toks]
 | .eref _ _ _,_=>by simp[LV.dem,LV.toks]
 | .arr _ _,_=>by simp[LV.dem,LV.toks]
 | .agg ls,g=>by simp only[LV.dem,LV.toks];exact LV.toksL_dem gs ls g
 | .tup ls,g=>by simp only[LV.dem,LV.toks];exact LV.toksL_dem gs ls g
 | .clo _ ls,g=>by simp only[LV.dem,LV.toks];exact LV.toksL_dem gs ls g
 | .box _ _ _,_=>by simp[LV.dem,LV.toks]
 | .dead,_=>by simp[LV.dem,LV.toks]
theorem LV.toksL_dem (gs:List Nat):∀ (l:List LV) (g:Nat),g∈LV.toksL (LV.demL gs l)↔g∈LV.toksL l/\g∉gs
 | [],_=>by simp[LV.demL,LV.toksL]
 | l::ls,g=>by
  simp only[LV.demL,LV.toksL,List.mem_append,LV.toks_dem gs l g,LV.toksL_dem gs ls g]
  constructor
  .rintro (⟨a,b⟩ | ⟨a,b⟩)<;>exact⟨by simp[a],b⟩
  .rintro ⟨a | a,b⟩<;>simp[a,b]
end
mutual
theorem LV.names_dem (gs:List Nat):∀ (l:LV),(l.dem gs).names=l.names
 | .pv _=>rfl
 | .nils _=>rfl
 | .nk _ _ _=>rfl
 | .own h _ _=>by simp only[LV.dem];split<;>rfl
 | .ref _ _=>rfl
 | .eref _ _ _=>rfl
 | .arr _ _=>rfl
 | .agg ls=>by simp only[LV.dem,LV.names];exact LV.namesL_dem gs ls
 | .tup ls=>by simp only[LV.dem,LV.names];exact LV.namesL_dem gs ls
 | .clo _ ls=>by simp only[LV.dem,LV.names];exact LV.namesL_dem gs ls
 | .box _ _ _=>rfl
 | .dead=>rfl
theorem LV.namesL_dem (gs:List Nat):∀ (l:List LV),LV.namesL (LV.demL gs l)=LV.namesL l
 | []=>rfl
 | l::ls=>by simp only[LV.demL,LV.namesL,LV.names_dem gs l,LV.namesL_dem gs ls]
end
theorem LV.demL_map (gs:List Nat) (l:List LV):LV.demL gs l=l.map (LV.dem gs):=by
 induction l with
 | nil=>rfl
 | cons a l ih=>simp[LV.demL,ih]
theorem LV.demL_append (gs:List Nat) (a b:List LV):LV.demL gs (a++b)=LV.demL gs a++LV.demL gs b:=by
 simp[LV.demL_map]
theorem Obj.cells_dem (gs:List Nat) (x:Obj):(x.dem gs).cells=LV.demL gs x.cells:=by
 cases x with
 | var cs=>rfl
 | rows sz es sh hole=>cases hole<;>rfl
def Tip (Wr:Nat->Prop) (K:Know) (h:Heap) (x:Value×Nat):Prop:=
 x.1 = .slice none 0 0\/∃b len cap cs el,x.1 = .slice (some ⟨b,0,none⟩) len cap/\h[b]?=some (.cells cs el (0,0))/\Wr b/\cap*x.2<=cs.size/\∀k,len*x.2<=k->K b k=none
def spare:Value->Option Nat
 | .slice (some a) _ _=>some a.block
 | _=>none
mutual
def RepU (K:Know) (h:Heap):PV->Shp->Value->List Nat->Prop
 | p,.v,v,F=>F=[]/\RepP K p v
 | .sc u,.u _,v,F=>F=[]/\RepP K (.sc u) v
 | .lst sz es,.u sh,v,F=>(es=[]/\F=[]/\v = .slice none 0 0)\/∃b cap cs el G,v = .slice (some ⟨b,0,none⟩) es.length cap/\es.length<=cap/\h[b]?=some (.cells (List.toArray cs) el (0,0))/\cap*sz<=cs.length/\F=b::G/\RepUR K h sz sh es cs G
 | _,_,_,_=>False
def RepUs (K:Know) (h:Heap):List PV->List Shp->List Value->List Nat->Prop
 | [],_,_,F=>F=[]
 | c::cs,sh,vs,F=>∃v r F1 F2,vs=v::r/\F=F1++F2/\RepU K h c (shpAt sh 0) v F1/\RepUs K h cs sh.tail r F2
def RepUR (K:Know) (h:Heap) (sz:Nat) (sh:List Shp):List (List PV)->List Value->List Nat->Prop
 | [],_,F=>F=[]
 | e::es,vs,F=>e.length=sz/\∃F1 F2,F=F1++F2/\RepUs K h e (ush sh) vs F1/\RepUR K h sz sh es (vs.drop sz) F2
end
def RepB (h:Heap) (es:List (List PV)) (t:Nat) (v:Value) (F:List Nat):Prop:=
 ∃bs:List UInt8,es=bs.map (fun b=>[PV.sc (.int .u8 (b.toNat:Int))])/\((v = .slice none 0 0/\bs=[]/\F=[]) \/
  ∃b cap cur,v = .slice (some ⟨b,0,none⟩) bs.length cap/\h[b]?=some (.cells cur t (0,0))/\bs.length<=cap/\cap<=maxLen/\cur.size=cap*1/\cur.toList.take (bs.length*1)=bs.map (fun b=>Value.int .u8 (b.toNat:Int))/\F=[b])
def RepC (K:Know) (N:Names) (h:Heap):LV->Value->List Nat->Prop
 | .box 0 es sh,v,F=>RepB h es sh.length v F
 | .box (z+1) es sh,v,F=>RepU K h (.lst (z+1) es) (.u sh) v F
 | l,v,F=>F=[]/\RepL K N l v
def RepCs (K:Know) (N:Names) (h:Heap):List LV->List Value->List Nat->Prop
 | [],_,F=>F=[]
 | c::cs,vs,F=>∃v r F1 F2,vs=v::r/\F=F1++F2/\RepC K N h c v F1/\RepCs K N h cs r F2
theorem RepU.v {K:Know}{h:Heap}{p:PV}{v:Value}{F:List Nat}:RepU K h p .v v F↔F=[]/\RepP K p v:=by cases p<;>rfl
mutual
theorem RepU.mono {K K':Know}{h:Heap}(hk:K.le K'):∀ {c:PV}{s:Shp}{v:Value}{F:List Nat},RepU K h c s v F->RepU K' h c s v F
 | .sc _,.v,_,_,r=>⟨r.1,r.2⟩
 | .sc _,.u _,_,_,r=>⟨r.1,r.2⟩
 | .lst _ _,.v,_,_,r=>⟨r.1,RepP.mono (p := .lst _ _) hk r.2⟩
 | .lst _ _,.u _,_,_,r=>r.imp id fun⟨b,cap,cs,el,G,e1,e2,e3,e4,e5,e6⟩=>⟨b,cap,cs,el,G,e1,e2,e3,e4,e5,RepUR.mono hk e6⟩
 | .cp _,.v,_,_,r=>⟨r.1,RepP.mono (p := .cp _) hk r.2⟩
 | .clo _ _,.v,_,_,r=>⟨r.1,RepP.mono (p := .clo _ _) hk r.2⟩
 | .mth _ _,.v,_,_,r=>⟨r.1,RepP.mono (p := .mth _ _) hk r.2⟩
theorem RepUs.mono {K K':Know}{h:Heap}(hk:K.le K'):∀ {c:List PV}{s:List Shp}{v:List Value}{F:List Nat},RepUs K h c s v F->RepUs K' h c s v F
 | [],_,_,_,e=>e
 | _::_,_,_,_,⟨v,r,F1,F2,e1,e2,a,b⟩=>⟨v,r,F1,F2,e1,e2,RepU.mono hk a,RepUs.mono hk b⟩
theorem RepUR.mono {K K':Know}{h:Heap}(hk:K.le K'){sz:Nat}{s:List Shp}:∀ {c:List (List PV)}{v:List Value}{F:List Nat},RepUR K h sz s c v F->RepUR K' h sz s c v F
 | [],_,_,e=>e
 | _::_,_,_,⟨e,F1,F2,e2,a,b⟩=>⟨e,F1,F2,e2,RepUs.mono hk a,RepUR.mono hk b⟩
end
mutual
theorem RepU.heap {K:Know}{h h':Heap}:∀ {c:PV}{s:Shp}{v:Value}{F:List Nat},(∀b∈F,h'[b]?=h[b]?)->RepU K h c s v F->RepU K h' c s v F
 | .sc _,.v,_,_,_,r=>r
 | .sc _,.u _,_,_,_,r=>r
 | .lst _ _,.v,_,_,_,r=>r
 | .lst _ _,.u _,_,_,hh,r=>r.imp id fun⟨b,cap,cs,el,G,e1,e2,e3,e4,e5,e6⟩=>⟨b,cap,cs,el,G,e1,e2,by rw[hh b (by simp[e5])];exact e3,e4,e5,RepUR.heap (fun x hx=>hh x (by simp[e5,hx])) e6⟩
 | .cp _,.v,_,_,_,r=>r
 | .clo _ _,.v,_,_,_,r=>r
 | .mth _ _,.v,_,_,_,r=>r
theorem RepUs.heap {K:Know}{h h':Heap}:∀ {c:List PV}{s:List Shp}{v:List Value}{F:List Nat},(∀b∈F,h'[b]?=h[b]?)->RepUs K h c s v F->RepUs K h' c s v F
 | [],_,_,_,_,e=>e
 | _::_,_,_,_,hh,⟨v,r,F1,F2,e1,e2,a,b⟩=>⟨v,r,F1,F2,e1,e2,RepU.heap (fun x hx=>hh x (by simp[e2,hx])) a,RepUs.heap (fun x hx=>hh x (by simp[e2,hx])) b⟩
theorem RepUR.heap {K:Know}{h h':Heap}{sz:Nat}{s:List Shp}:∀ {c:List (List PV)}{v:List Value}{F:List Nat},(∀b∈F,h'[b]?=h[b]?)->RepUR K h sz s c v F->RepUR K h' sz s c v F
 | [],_,_,_,e=>e
 | _::_,_,_,hh,⟨e,F1,F2,e2,a,b⟩=>⟨e,F1,F2,e2,RepUs.heap (fun x hx=>hh x (by simp[e2,hx])) a,RepUR.heap (fun x hx=>hh x (by simp[e2,hx])) b⟩
end
mutual
theorem RepU.lt {K:Know}{h:Heap}:∀ {c:PV}{s:Shp}{v:Value}{F:List Nat},RepU K h c s v F->∀b∈F,b<h.size
 | .sc _,.v,_,_,r=>by simp[r.1]
 | .sc _,.u _,_,_,r=>by simp[r.1]
 | .lst _ _,.v,_,_,r=>by simp[r.1]
 | .cp _,.v,_,_,r=>by simp[r.1]
 | .clo _ _,.v,_,_,r=>by simp[r.1]
 | .mth _ _,.v,_,_,r=>by simp[r.1]
 | .lst _ _,.u _,_,_,.inl r=>by simp[r.2.1]
 | .lst _ _,.u _,_,_,.inr ⟨b,cap,cs,el,G,e1,e2,e3,e4,e5,e6⟩=>fun x hx=>by
  rw[e5]at hx
  rcases lm1 hx with rfl | hx
  .exact (ags e3).1
  .exact RepUR.lt e6 x hx
theorem RepUs.lt {K:Know}{h:Heap}:∀ {c:List PV}{s:List Shp}{v:List Value}{F:List Nat},RepUs K h c s v F->∀b∈F,b<h.size
 | [],_,_,_,e=>by rw[show _=[] from e];simp
 | _::_,_,_,_,⟨v,r,F1,F2,e1,e2,a,b⟩=>fun x hx=>by
  rw[e2]at hx
  exact (lma hx).elim (RepU.lt a x) (RepUs.lt b x)
theorem RepUR.lt {K:Know}{h:Heap}{sz:Nat}{s:List Shp}:∀ {c:List (List PV)}{v:List Value}{F:List Nat},RepUR K h sz s c v F->∀b∈F,b<h.size
 | [],_,_,e=>by rw[show _=[] from e];simp
 | _::_,_,_,⟨e,F1,F2,e2,a,b⟩=>fun x hx=>by
  rw[e2]at hx
  exact (lma hx).elim (RepUs.lt a x) (RepUR.lt b x)
end
section
variable {K K':Know}{N N':Names}{h h':Heap}
theorem RepC.lt {l:LV}{v:Value}{F:List Nat}(r:RepC K N h l v F):∀b∈F,b<h.size:=by
 cases l with
 | box z es sh=>
  cases z with
  | zero=>
   obtain⟨bs,_,⟨_,_,e⟩ | ⟨b,cap,cur,_,e1,_,_,_,_,e⟩⟩:=r
   .simp[e]
   .rw[e];intro c hc;rw[List.mem_singleton]at hc;subst hc;exact (ags e1).1
  | succ z=>exact RepU.lt (c := .lst _ _) (s := .u _) r
 | _=>obtain⟨e,_⟩:=r;simp[e]
theorem RepC.mono {l:LV}{v:Value}{F:List Nat}(hk:K.le K') (r:RepC K N h l v F):RepC K' N h l v F:=by
 cases l with
 | box z es sh=>
  cases z with
  | zero=>exact r
  | succ z=>exact RepU.mono (c := .lst _ _) (s := .u _) hk r
 | _=>exact⟨r.1,RepL.mono hk r.2⟩
theorem RepC.heap {l:LV}{v:Value}{F:List Nat}(hh:∀b∈F,h'[b]?=h[b]?) (r:RepC K N h l v F):RepC K N h' l v F:=by
 cases l with
 | box z es sh=>
  cases z with
  | zero=>
   obtain⟨bs,e0,r⟩:=r
   exact⟨bs,e0,r.imp id fun⟨b,cap,cur,e1,e2,e3,e4,e5,e6,e7⟩=>⟨b,cap,cur,e1,by rw[hh b (by simp[e7])];exact e2,e3,e4,e5,e6,e7⟩⟩
  | succ z=>exact RepU.heap (c := .lst _ _) (s := .u _) hh r
 | _=>exact r
theorem RepC.dem (gs:List Nat){l:LV}{v:Value}{F:List Nat}(r:RepC K N h l v F):RepC K N h (l.dem gs) v F:=by
 cases l with
 | box _ _ _=>exact r
 | own g sz es=>
  have:=RepL.dem gs r.2
  simp only[LV.dem]at this ⊢
  split
  .rename_i hc;simp only[hc,if_true]at this;exact⟨r.1,this⟩
  .rename_i hc;simp only[hc,if_false]at this;exact⟨r.1,this⟩
 | _=>exact⟨r.1,RepL.dem gs r.2⟩
theorem RepC.named {l:LV}{v:Value}{F:List Nat}(hn:N.agrees N' l.names l.toks) (r:RepC K N h l v F):RepC K N' h l v F:=by
 cases l with
 | box z es sh=>cases z<;>exact r
 | _=>exact⟨r.1,RepL.named hn r.2⟩
theorem RepC.of {l:LV}{v:Value}(r:RepL K N l v):RepC K N h l v []:=by
 cases l<;>first | exact r.elim | exact⟨rfl,r⟩
theorem RepCs.lt:∀ {l:List LV}{v:List Value}{F:List Nat},RepCs K N h l v F->∀b∈F,b<h.size
 | [],_,_,e=>by rw[show _=[] from e];simp
 | _::_,_,_,⟨v,r,F1,F2,e1,e2,a,b⟩=>fun x hx=>by
  rw[e2]at hx
  exact (lma hx).elim (RepC.lt a x) (RepCs.lt b x)
theorem RepCs.mono (hk:K.le K'):∀ {l:List LV}{v:List Value}{F:List Nat},RepCs K N h l v F->RepCs K' N h l v F
 | [],_,_,e=>e
 | _::_,_,_,⟨v,r,F1,F2,e1,e2,a,b⟩=>⟨v,r,F1,F2,e1,e2,a.mono hk,RepCs.mono hk b⟩
theorem RepCs.heap:∀ {l:List LV}{v:List Value}{F:List Nat},(∀b∈F,h'[b]?=h[b]?)->RepCs K N h l v F->RepCs K N h' l v F
 | [],_,_,_,e=>e
 | _::_,_,_,hh,⟨v,r,F1,F2,e1,e2,a,b⟩=>⟨v,r,F1,F2,e1,e2,a.heap fun x hx=>hh x (by simp[e2,hx]),RepCs.heap (fun x hx=>hh x (by simp[e2,hx])) b⟩
theorem RepCs.dem (gs:List Nat):∀ {l:List LV}{v:List Value}{F:List Nat},RepCs K N h l v F->RepCs K N h (LV.demL gs l) v F
 | [],_,_,e=>e
 | _::_,_,_,⟨v,r,F1,F2,e1,e2,a,b⟩=>⟨v,r,F1,F2,e1,e2,a.dem gs,RepCs.dem gs b⟩
theorem RepCs.named:∀ {l:List LV}{v:List Value}{F:List Nat},N.agrees N' (LV.namesL l) (LV.toksL l)->RepCs K N h l v F->RepCs K N' h l v F
 | [],_,_,_,e=>e
 | _::_,_,_,hn,⟨v,r,F1,F2,e1,e2,a,b⟩=>⟨v,r,F1,F2,e1,e2,
   a.named ⟨fun o ho=>hn.1 o (by simp[LV.namesL,ho]),fun g hg=>hn.2 g (by simp[LV.toksL,hg])⟩,
   RepCs.named ⟨fun o ho=>hn.1 o (by simp[LV.namesL,ho]),fun g hg=>hn.2 g (by simp[LV.toksL,hg])⟩ b⟩
theorem RepCs.of:∀ {l:List LV}{v:List Value},RepLs K N l v->RepCs K N h l v []
 | [],_,_=>rfl
 | _::_,_,⟨v,r,e,a,b⟩=>⟨v,r,[],[],e,rfl,RepC.of a,RepCs.of b⟩
end
def plug (N:Names) (hole:Option (Nat×Nat×Nat×Nat)) (es:List (List PV)):List (List PV):=
 match hole with
 | none=>es
 | some (i,off,o,_)=>match es[i]? with
  | some e=>es.set i (e.set off (.sc (N.A o)))
  | none=>es
def holeOk (N:Names) (sh:List Shp) (es:List (List PV)):Option (Nat×Nat×Nat×Nat)->Prop
 | none=>True
 | some (i,off,o,n)=>(∃e c,es[i]?=some e/\e[off]?=some c)/\(∃sh',shpAt (ush sh) off = .u sh')/\∃a cap,N.A o = .slice a n cap
def Obj.inMem (K:Know) (N:Names) (h:Heap) (o:Nat) (vs:List Value) (el:TypeId) (G:List Nat):Obj->Prop
 | .var cs=>RepCs K N h cs vs G/\vs.length=cs.length/\(o<1099511627776->o/1024≠0->el=o/1024)
 | .rows sz es sh hole=>RepUR K h sz sh (plug N hole es) vs G/\∃cap,N.A o = .slice (some ⟨N.M o,0,none⟩) es.length cap/\es.length<=cap/\cap*sz<=vs.length
def Obj.void (N:Names) (o:Nat):Obj->Prop
 | .var _=>False
 | .rows _ es _ _=>es=[]/\N.A o = .slice none 0 0
def Obj.shaped (N:Names) (o:Nat):Obj->Prop
 | .var cs=>cs.all LV.flat=true
 | .rows sz es sh hole=>N.S o=sz/\holeOk N sh es hole
def ObjAt (K:Know) (N:Names) (h:Heap) (o:Nat) (x:Obj):Prop:=
 ((∃vs el G,h[N.M o]?=some (.cells (List.toArray vs) el (0,0))/\N.F o=N.M o::G/\x.inMem K N h o vs el G)\/x.void N o/\N.F o=[])/\x.shaped N o
def Occ (ps:List (Value×LV)) (os:List (Nat×Obj)) (g:Nat):Prop:=
 (∃p∈ps,g∈p.2.toks)\/∃x∈os,g∈LV.toksL x.2.cells
theorem ObjAt.lt {K:Know}{N:Names}{h:Heap}{o:Nat}{x:Obj}(t:ObjAt K N h o x):∀b∈N.F o,b<h.size:=by
 rcases t.1 with⟨vs,el,G,e1,e3,e2⟩ | ⟨_,e⟩
 .rw[e3]
  intro b hb
  rcases lm1 hb with rfl | hb
  .exact (ags e1).1
  .cases x with
   | var cs=>exact e2.1.lt b hb
   | rows _ _ _ _=>exact e2.1.lt b hb
 .simp[e]
theorem ObjAt.mono {K K':Know}{N:Names}{h:Heap}{o:Nat}{x:Obj}(hk:K.le K') (t:ObjAt K N h o x):ObjAt K' N h o x:=by
 refine⟨t.1.imp (fun⟨vs,el,G,e1,e2,e3⟩=>⟨vs,el,G,e1,e2,?_⟩) id,t.2⟩
 cases x with
 | var cs=>exact⟨e3.1.mono hk,e3.2⟩
 | rows _ _ _ _=>exact⟨e3.1.mono hk,e3.2⟩
theorem ObjAt.heap {K:Know}{N:Names}{h h':Heap}{o:Nat}{x:Obj}(hh:∀b∈N.F o,h'[b]?=h[b]?) (t:ObjAt K N h o x):ObjAt K N h' o x:=by
 refine⟨t.1.imp (fun⟨vs,el,G,e1,e2,e3⟩=>⟨vs,el,G,by rw[hh _ (by simp[e2])];exact e1,e2,?_⟩) id,t.2⟩
 have hG:∀b∈G,h'[b]?=h[b]?:=fun b hb=>hh b (by simp[e2,hb])
 cases x with
 | var cs=>exact⟨e3.1.heap hG,e3.2⟩
 | rows _ _ _ _=>exact⟨e3.1.heap hG,e3.2⟩
theorem plug_named {N N':Names}{hole:Option (Nat×Nat×Nat×Nat)}{es:List (List PV)}{sz:Nat}{sh:List Shp}(hn:∀o∈LV.namesL (Obj.rows sz es sh hole).cells,N'.A o=N.A o):plug N' hole es=plug N hole es:=by
 cases hole with
 | none=>rfl
 | some x=>
  obtain⟨i,off,o,n⟩:=x
  have:=hn o (by simp[Obj.cells,LV.namesL,LV.names])
  simp only[plug,this]
theorem holeOk_named {N N':Names}{hole:Option (Nat×Nat×Nat×Nat)}{es:List (List PV)}{sz:Nat}{sh:List Shp}(hn:∀o∈LV.namesL (Obj.rows sz es sh hole).cells,N'.A o=N.A o) (h:holeOk N sh es hole):holeOk N' sh es hole:=by
 cases hole with
 | none=>trivial
 | some x=>
  obtain⟨i,off,o,n⟩:=x
  have:=hn o (by simp[Obj.cells,LV.namesL,LV.names])
  obtain⟨h1,h2,h3⟩:=h
  exact⟨h1,h2,by rw[this];exact h3⟩
theorem ObjAt.named {K:Know}{N N':Names}{h:Heap}{o:Nat}{x:Obj}(hM:N'.M o=N.M o/\N'.S o=N.S o/\N'.A o=N.A o/\N'.F o=N.F o) (hn:N.agrees N' (LV.namesL x.cells) (LV.toksL x.cells)) (t:ObjAt K N h o x):ObjAt K N' h o x:=by
 obtain⟨m1,m2,m3,m4⟩:=hM
 obtain⟨t1,t2⟩:=t
 cases x with
 | var cs=>
  refine⟨t1.imp (fun⟨vs,el,G,e1,e2,e3⟩=>⟨vs,el,G,by rw[m1];exact e1,by rw[m4,m1];exact e2,e3.1.named hn,e3.2⟩) (fun⟨e1,_⟩=>e1.elim),t2⟩
 | rows sz es sh hole=>
  have hA:∀o∈LV.namesL (Obj.rows sz es sh hole).cells,N'.A o=N.A o:=fun o ho=>(hn.1 o ho).2.2
  refine⟨t1.imp (fun⟨vs,el,G,e1,e2,e3,cap,c1,c2⟩=>⟨vs,el,G,by rw[m1];exact e1,by rw[m4,m1];exact e2,by rw[plug_named hA];exact e3,cap,by rw[m3,m1];exact c1,c2⟩)
   (fun⟨e1,e2⟩=>⟨⟨e1.1,by rw[m3];exact e1.2⟩,by rw[m4];exact e2⟩),by rw[m2];exact t2.1,holeOk_named hA t2.2⟩
structure Inv (Wr:Nat->Prop) (K:Know) (N:Names) (h:Heap) (ps:List (Value×LV)) (os:List (Nat×Obj)):Prop where
 sat:∀b o v,K b o=some v->hcell h b o=some v
 vals:∀p∈ps,RepL K N p.2 p.1
 objs:∀x∈os,ObjAt K N h x.1 x.2/\(N.F x.1).Nodup/\∀b∈N.F x.1,Wr b/\∀o,K b o=none
 inj:∀x∈os,∀y∈os,∀b,b∈N.F x.1->b∈N.F y.1->x=y
 toks:∀g,Occ ps os g->Tip Wr K h (N.G g)
 tinj:∀g g' b,Occ ps os g->Occ ps os g'->spare (N.G g).1=some b->spare (N.G g').1=some b->g=g'
 tobj:∀g x,Occ ps os g->x∈os->∀b,spare (N.G g).1=some b->b∉N.F x.1
section
variable {Wr:Nat->Prop}{K:Know}{N:Names}{h:Heap}{ps ps':List (Value×LV)}{os os':List (Nat×Obj)}
theorem Occ.sub (hp:∀p∈ps',p∈ps) (ho:∀x∈os',x∈os){g:Nat}(h:Occ ps' os' g):Occ ps os g:=
 h.imp (fun⟨p,a,b⟩=>⟨p,hp p a,b⟩) fun⟨x,a,b⟩=>⟨x,ho x a,b⟩
theorem Inv.sub (hi:Inv Wr K N h ps os) (hp:∀p∈ps',p∈ps) (ho:∀x∈os',x∈os):Inv Wr K N h ps' os':=
 ⟨hi.sat,fun p a=>hi.vals p (hp p a),fun x a=>hi.objs x (ho x a),fun x a y b=>hi.inj x (ho x a) y (ho y b),
  fun g o=>hi.toks g (o.sub hp ho),fun g g' b o o'=>hi.tinj g g' b (o.sub hp ho) (o'.sub hp ho),fun g x o a=>hi.tobj g x (o.sub hp ho) (ho x a)⟩
theorem Inv.add (hi:Inv Wr K N h ps os){v:Value}{l:LV}(hr:RepL K N l v) (ht:∀g∈l.toks,Occ ps os g):Inv Wr K N h ((v,l)::ps) os:=by
 have ho:∀g,Occ ((v,l)::ps) os g->Occ ps os g:=by
  rintro g (⟨p,a,b⟩ | a)
  .cases a with
   | head=>exact ht g b
   | tail _ a=>exact .inl ⟨p,a,b⟩
  .exact .inr a
 exact⟨hi.sat,fun p a=>by cases a with | head=>exact hr | tail _ a=>exact hi.vals p a,hi.objs,hi.inj,
  fun g o=>hi.toks g (ho g o),fun g g' b o o'=>hi.tinj g g' b (ho g o) (ho g' o'),fun g x o a=>hi.tobj g x (ho g o) a⟩
theorem ObjAt.dem {o:Nat}{x:Obj}(gs:List Nat) (t:ObjAt K N h o x):ObjAt K N h o (x.dem gs):=by
 cases x with
 | rows _ _ _ _=>exact t
 | var cs=>
  obtain⟨t1,t2⟩:=t
  exact⟨t1.imp (fun⟨vs,el,G,e1,e2,e3⟩=>⟨vs,el,G,e1,e2,e3.1.dem gs,by simpa[LV.demL_map]using e3.2.1,e3.2.2⟩) (fun⟨e,_⟩=>e.elim),LV.flat_demL gs _ t2⟩
theorem Inv.dem (hi:Inv Wr K N h ps os) (gs:List Nat):
  Inv Wr K N h (ps.map fun p=>(p.1,p.2.dem gs)) (os.map fun x=>(x.1,x.2.dem gs))/\∀g∈gs,¬Occ (ps.map fun p=>(p.1,p.2.dem gs)) (os.map fun x=>(x.1,x.2.dem gs)) g:=by
 have ho:∀g,Occ (ps.map fun p=>(p.1,p.2.dem gs)) (os.map fun x=>(x.1,x.2.dem gs)) g->Occ ps os g/\g∉gs:=by
  rintro g (⟨p,a,b⟩ | ⟨x,a,b⟩)
  .obtain⟨q,hq,rfl⟩:=List.mem_map.1 a
   have:=(LV.toks_dem gs q.2 g).1 b
   exact⟨.inl ⟨q,hq,this.1⟩,this.2⟩
  .obtain⟨q,hq,rfl⟩:=List.mem_map.1 a
   simp only[Obj.cells_dem]at b
   have:=(LV.toksL_dem gs _ g).1 b
   exact⟨.inr ⟨q,hq,this.1⟩,this.2⟩
 refine⟨⟨hi.sat,?_,?_,?_,fun g o=>hi.toks g (ho g o).1,fun g g' b o o'=>hi.tinj g g' b (ho g o).1 (ho g' o').1,?_⟩,fun g hg o=>(ho g o).2 hg⟩
 .intro p a
  obtain⟨q,hq,rfl⟩:=List.mem_map.1 a
  exact RepL.dem gs (hi.vals q hq)
 .intro x a
  obtain⟨q,hq,rfl⟩:=List.mem_map.1 a
  obtain⟨t,r⟩:=hi.objs q hq
  exact⟨t.dem gs,r⟩
 .intro x a y b c e e'
  obtain⟨q,hq,rfl⟩:=List.mem_map.1 a
  obtain⟨q',hq',rfl⟩:=List.mem_map.1 b
  have:=hi.inj q hq q' hq' c e e'
  subst this;rfl
 .intro g x o a
  obtain⟨q,hq,rfl⟩:=List.mem_map.1 a
  exact hi.tobj g q (ho g o).1 hq
end
def HExt (h h':Heap):Prop:=∀ (b:Nat) (x:Go.Obj),h[b]?=some x->h'[b]?=some x
theorem HExt.refl (h:Heap):HExt h h:=fun _ _ e=>e
theorem HExt.cell {h h':Heap}(e:HExt h h'){b o:Nat}{v:Value}(hc:hcell h b o=some v):hcell h' b o=some v:=by
 unfold hcell at *
 cases hb:h[b]? with
 | none=>rw[hb]at hc;simp at hc
 | some x=>rw[e b x hb];rw[hb]at hc;exact hc
theorem hcell_lt {h:Heap}{b o:Nat}{v:Value}(hc:hcell h b o=some v):b<h.size:=by
 unfold hcell at hc
 cases hb:h[b]? with
 | none=>rw[hb]at hc;simp at hc
 | some x=>exact (ags hb).1
section
variable {Wr:Nat->Prop}{K:Know}{N:Names}{h h':Heap}{ps ps':List (Value×LV)}{os os':List (Nat×Obj)}
theorem Tip.ext (e:HExt h h'){x:Value×Nat}(t:Tip Wr K h x):Tip Wr K h' x:=by
 exact t.imp id fun⟨b,len,cap,cs,el,e2,e3,r⟩=>⟨b,len,cap,cs,el,e2,e _ _ e3,r⟩
theorem Tip.at {x:Value×Nat}(t:Tip Wr K h x){b:Nat}(hs:spare x.1=some b):∃len cap cs el,x.1 = .slice (some ⟨b,0,none⟩) len cap/\h[b]?=some (.cells cs el (0,0))/\Wr b/\cap*x.2<=cs.size/\∀k,len*x.2<=k->K b k=none:=by
 rcases t with e | ⟨b',len,cap,cs,el,e,r⟩
 .rw[e]at hs;cases hs
 .rw[e]at hs;cases hs;exact⟨len,cap,cs,el,e,r⟩
theorem Tip.turn {Wr':Nat->Prop}{K':Know}{x:Value×Nat}(t:Tip Wr K h x) (f:∀b,spare x.1=some b->Wr b->b<h.size->h'[b]?=h[b]?/\Wr' b/\∀k,K b k=none->K' b k=none):Tip Wr' K' h' x:=by
 refine t.imp id fun⟨b,len,cap,cs,el,e1,e2,e3,e4,e5⟩=>?_
 obtain⟨f1,f2,f3⟩:=f b (by rw[e1];rfl) e3 (ags e2).1
 exact⟨b,len,cap,cs,el,e1,by rw[f1];exact e2,f2,e4,fun k hk=>f3 k (e5 k hk)⟩
theorem HExt.same {b:Nat}(hb:b<h.size) (e:∀x,h[b]?=some x->h'[b]?=some x):h'[b]?=h[b]?:=by
 rw[Array.getElem?_eq_getElem hb];exact e _ (Array.getElem?_eq_getElem hb)
theorem ObjAt.ext (e:HExt h h'){o:Nat}{x:Obj}(t:ObjAt K N h o x):ObjAt K N h' o x:=t.heap fun b hb=>by
 have:=t.lt b hb
 rw[Array.getElem?_eq_getElem this]
 exact e _ _ (Array.getElem?_eq_getElem this)
theorem Inv.ext (hi:Inv Wr K N h ps os) (e:HExt h h'):Inv Wr K N h' ps os:=
 ⟨fun b o v k=>e.cell (hi.sat b o v k),hi.vals,fun x a=>let ⟨t,r⟩:=hi.objs x a;⟨t.ext e,r⟩,hi.inj,fun g o=>(hi.toks g o).ext e,hi.tinj,hi.tobj⟩
theorem Inv.fresh (hi:Inv Wr K N h ps os){b:Nat}(hb:h.size<=b) (o:Nat):K b o=none:=by
 cases hk:K b o with
 | none=>rfl
 | some v=>have:=hcell_lt (hi.sat b o v hk);omega
def Names.setO (N:Names) (o b z:Nat) (v:Value) (F:List Nat):Names:=
 { N with M:=fun x=>if x=o then b else N.M x,S:=fun x=>if x=o then z else N.S x,A:=fun x=>if x=o then v else N.A x,F:=fun x=>if x=o then F else N.F x }
def Names.setG (N:Names) (g:Nat) (v:Value×Nat):Names:={ N with G:=fun x=>if x=g then v else N.G x }
theorem Names.setO_agrees {N:Names}{o b z:Nat}{v:Value}{F l gs:List Nat}(ho:o∉l):N.agrees (N.setO o b z v F) l gs:=by
 refine⟨fun x hx=>?_,fun _ _=>rfl⟩
 have:x≠o:=fun e=>ho (e▸hx)
 simp[Names.setO,this]
theorem Names.setO_other {N:Names}{o b z x:Nat}{v:Value}{F:List Nat}(hx:x≠o):(N.setO o b z v F).M x=N.M x/\(N.setO o b z v F).S x=N.S x/\(N.setO o b z v F).A x=N.A x/\(N.setO o b z v F).F x=N.F x:=by
 simp[Names.setO,hx]
theorem Names.setG_agrees {N:Names}{g:Nat}{v:Value×Nat}{l gs:List Nat}(hg:g∉gs):N.agrees (N.setG g v) l gs:=by
 refine⟨fun _ _=>⟨rfl,rfl,rfl⟩,fun x hx=>?_⟩
 have:x≠g:=fun e=>hg (e▸hx)
 simp[Names.setG,this]
theorem Occ.cons_obj {o:Nat}{x:Obj}{g:Nat}(hx:∀g∈LV.toksL x.cells,Occ ps os g) (h:Occ ps ((o,x)::os) g):Occ ps os g:=by
 rcases h with h | ⟨y,a,b⟩
 .exact .inl h
 .cases a with
  | head=>exact hx g b
  | tail _ a=>exact .inr ⟨y,a,b⟩
theorem Tip.spare_lt {x:Value×Nat}(t:Tip Wr K h x){b:Nat}(hs:spare x.1=some b):b<h.size:=by
 obtain⟨_,_,_,_,_,e,_⟩:=t.at hs
 exact (ags e).1
theorem Inv.newObj (hi:Inv Wr K N h ps os){o b z:Nat}{v:Value}{F:List Nat}{x:Obj}(e:HExt h h')
  (hp:∀p∈ps,o∉p.2.names) (hx:∀y∈os,o∉LV.namesL y.2.cells) (hk:∀y∈os,y.1≠o)
  (hat:ObjAt K (N.setO o b z v F) h' o x) (hnd:F.Nodup) (hF:∀b∈F,h.size<=b/\Wr b) (ht:∀g∈LV.toksL x.cells,Occ ps os g):
  Inv Wr K (N.setO o b z v F) h' ps ((o,x)::os):=by
 have hi':=hi.ext e
 have hO:∀y∈os,(N.setO o b z v F).F y.1=N.F y.1:=fun y hy=>(Names.setO_other (hk y hy)).2.2.2
 have hFo:(N.setO o b z v F).F o=F:=by simp[Names.setO]
 have hlt:∀y∈os,∀c∈N.F y.1,c∉F:=fun y hy c hc hf=>by have:=(hi.objs y hy).1.lt c hc;have:=(hF c hf).1;omega
 refine⟨hi'.sat,fun p a=>(hi.vals p a).named (Names.setO_agrees (hp p a)),?_,?_,?_,?_,?_⟩
 .intro y a
  cases a with
  | head=>exact⟨hat,by rw[hFo];exact hnd,by rw[hFo];exact fun c hc=>⟨(hF c hc).2,hi.fresh (hF c hc).1⟩⟩
  | tail _ a=>
   obtain⟨t,r⟩:=hi'.objs y a
   exact⟨t.named (Names.setO_other (hk y a)) (Names.setO_agrees (hx y a)),by rw[hO y a];exact r⟩
 .intro y a y' a' c h1 h2
  cases a with
  | head=>
   cases a' with
   | head=>rfl
   | tail _ a'=>rw[hFo]at h1;rw[hO _ a']at h2;exact absurd h1 (hlt _ a' c h2)
  | tail _ a=>
   cases a' with
   | head=>rw[hFo]at h2;rw[hO _ a]at h1;exact absurd h2 (hlt _ a c h1)
   | tail _ a'=>exact hi.inj y a y' a' c (by rw[hO _ a]at h1;exact h1) (by rw[hO _ a']at h2;exact h2)
 .intro g hg;exact hi'.toks g (hg.cons_obj ht)
 .intro g g' b' hg hg';exact hi.tinj g g' b' (hg.cons_obj ht) (hg'.cons_obj ht)
 .intro g y hg a c hsp
  have hg:=hg.cons_obj ht
  cases a with
  | head=>
   rw[hFo]
   intro hc
   have:=(hi.toks g hg).spare_lt hsp
   have:=(hF c hc).1
   omega
  | tail _ a=>rw[hO y a];exact hi.tobj g y hg a c hsp
def Know.put (K:Know) (b:Nat) (f:Nat->Option Value):Know:=fun b' o=>if b'=b then f o else K b' o
theorem Know.le_put {K:Know}{b:Nat}{f:Nat->Option Value}(h:∀o v,K b o=some v->f o=some v):K.le (K.put b f):=by
 intro b' o v hk
 unfold Know.put
 by_cases hb:b'=b
 .subst hb;simpa using h o v hk
 .simpa[hb]using hk
theorem Inv.know (hi:Inv Wr K N h ps os){b:Nat}{f:Nat->Option Value}(e:∀ (b':Nat) (x:Go.Obj),b'≠b->h[b']?=some x->h'[b']?=some x) (hf:∀o v,K b o=some v->f o=some v)
  (hs:∀o v,f o=some v->hcell h' b o=some v) (ho:∀x∈os,b∉N.F x.1) (ht:∀g,Occ ps os g->spare (N.G g).1≠some b):
  Inv Wr (K.put b f) N h' ps os:=by
 have hle:=Know.le_put (K:=K) hf
 refine⟨?_,fun p a=>(hi.vals p a).mono hle,?_,hi.inj,?_,hi.tinj,hi.tobj⟩
 .intro b' o v hk
  unfold Know.put at hk
  by_cases hb:b'=b
  .subst hb;simp at hk;exact hs o v hk
  .simp[hb]at hk
   have:=hi.sat b' o v hk
   unfold hcell at *
   cases hx:h[b']? with
   | none=>rw[hx]at this;simp at this
   | some x=>rw[e b' x hb hx];rw[hx]at this;exact this
 .intro x a
  obtain⟨t,nd,w1⟩:=hi.objs x a
  have hne:∀c∈N.F x.1,c≠b:=fun c hc e=>ho x a (e▸hc)
  refine⟨(t.heap fun c hc=>?_).mono hle,nd,fun c hc=>⟨(w1 c hc).1,fun o=>?_⟩⟩
  .have:=t.lt c hc
   rw[Array.getElem?_eq_getElem this]
   exact e _ _ (hne c hc) (Array.getElem?_eq_getElem this)
  .unfold Know.put;simp[hne c hc,(w1 c hc).2]
 .intro g hg
  refine (hi.toks g hg).turn fun b' hs1 hw hlt=>?_
  have hne:b'≠b:=by
   rintro rfl
   exact ht g hg hs1
  exact⟨HExt.same hlt fun x hx=>e _ _ hne hx,hw,fun k hk=>by unfold Know.put;simp[hne,hk]⟩
theorem Inv.addTok (hi:Inv Wr K N h ps os){g sz:Nat}{v:Value}{es:List (List PV)}(hg:¬Occ ps os g) (ht:Tip Wr K h (v,sz))
  (hs:∀b,spare v=some b->(∀g',Occ ps os g'->spare (N.G g').1≠some b)/\∀x∈os,b∉N.F x.1) (hr:RepP K (.lst sz es) v):
  Inv Wr K (N.setG g (v,sz)) h ((v,.own g sz es)::ps) os:=by
 have hag:∀l gs,g∉gs->N.agrees (N.setG g (v,sz)) l gs:=fun l gs hh=>Names.setG_agrees hh
 have hocc:∀g',Occ ((v,LV.own g sz es)::ps) os g'->g'=g\/Occ ps os g':=by
  rintro g' (⟨p,a,b⟩ | a)
  .cases a with
   | head=>simp[LV.toks]at b;exact .inl b
   | tail _ a=>exact .inr (.inl ⟨p,a,b⟩)
  .exact .inr (.inr a)
 have hG:∀g',Occ ps os g'->(N.setG g (v,sz)).G g'=N.G g':=fun g' hh=>by
  have:g'≠g:=fun e=>hg (e▸hh)
  simp[Names.setG,this]
 have hGg:(N.setG g (v,sz)).G g=(v,sz):=by simp[Names.setG]
 refine⟨hi.sat,?_,?_,hi.inj,?_,?_,?_⟩
 .intro p a
  cases a with
  | head=>exact⟨by rw[hGg],by rw[hGg],hr⟩
  | tail _ a=>exact (hi.vals p a).named (hag _ _ fun hh=>hg (.inl ⟨p,a,hh⟩))
 .intro x a
  obtain⟨t,r⟩:=hi.objs x a
  exact⟨t.named (N:=N) (N':=N.setG g (v,sz)) ⟨rfl,rfl,rfl,rfl⟩ (hag _ _ fun hh=>hg (.inr ⟨x,a,hh⟩)),r⟩
 .intro g' hg'
  rcases hocc g' hg' with rfl | hh
  .rw[hGg];exact ht
  .rw[hG g' hh];exact hi.toks g' hh
 .intro g1 g2 b h1 h2 s1 s2
  rcases hocc g1 h1 with e1 | o1
  .rcases hocc g2 h2 with e2 | o2
   .rw[e1,e2]
   .rw[e1,hGg]at s1;rw[hG g2 o2]at s2
    exact absurd s2 ((hs b s1).1 g2 o2)
  .rcases hocc g2 h2 with e2 | o2
   .rw[e2,hGg]at s2;rw[hG g1 o1]at s1
    exact absurd s1 ((hs b s2).1 g1 o1)
   .rw[hG g1 o1]at s1;rw[hG g2 o2]at s2
    exact hi.tinj g1 g2 b o1 o2 s1 s2
 .intro g' x hg' hx c hsp
  rcases hocc g' hg' with rfl | hh
  .rw[hGg]at hsp;exact (hs _ hsp).2 x hx
  .rw[hG g' hh]at hsp;exact hi.tobj g' x hh hx c hsp
theorem repRow_of {cs:List PV}{vs:List Value}:∀ {b o:Nat},RepPs K cs vs->(∀i u,vs[i]?=some u->K b (o+i)=some u)->RepRow K cs b o:=by
 induction cs generalizing vs with
 | nil=>intros;trivial
 | cons c cs ih=>
  rintro b o ⟨v,r,rfl,hv,hr⟩ hk
  refine⟨⟨v,by simpa using hk 0 v rfl,hv⟩,ih hr fun i u hu=>?_⟩
  have:=hk (i+1) u (by simpa using hu)
  rwa [show o+1+i=o+(i+1) by omega]
theorem RepPs.split {cs ds:List PV}{vs:List Value}(h:RepPs K (cs++ds) vs):∃a b,vs=a++b/\RepPs K cs a/\RepPs K ds b:=by
 induction cs generalizing vs with
 | nil=>exact⟨[],vs,rfl,rfl,h⟩
 | cons c cs ih=>
  obtain⟨v,r,rfl,hv,hr⟩:=h
  obtain⟨a,b,rfl,ha,hb⟩:=ih hr
  exact⟨v::a,b,rfl,⟨v,a,rfl,hv,ha⟩,hb⟩
theorem RepPs.join {cs ds:List PV}{vs us:List Value}(h:RepPs K cs vs) (h':RepPs K ds us):RepPs K (cs++ds) (vs++us):=by
 induction cs generalizing vs with
 | nil=>cases h;exact h'
 | cons c cs ih=>obtain⟨v,r,rfl,hv,hr⟩:=h;exact⟨v,r++us,rfl,hv,ih hr⟩
theorem RepPs.len {cs:List PV}{vs:List Value}(h:RepPs K cs vs):vs.length=cs.length:=by
 induction cs generalizing vs with
 | nil=>cases h;rfl
 | cons c cs ih=>obtain⟨v,r,rfl,hv,hr⟩:=h;simp[ih hr]
theorem RepLs.len {cs:List LV}{vs:List Value}(h:RepLs K N cs vs):vs.length=cs.length:=by
 induction cs generalizing vs with
 | nil=>cases h;rfl
 | cons c cs ih=>obtain⟨v,r,rfl,hv,hr⟩:=h;simp[ih hr]
theorem repRows_of {sz:Nat}{es:List (List PV)}{vs:List Value}:∀ {b o:Nat},(∀e∈es,e.length=sz)->RepPs K es.flatten vs->(∀i u,vs[i]?=some u->K b (o+i)=some u)->RepRows K sz es b o:=by
 induction es generalizing vs with
 | nil=>intros;trivial
 | cons e es ih=>
  intro b o hl hr hk
  simp only[List.flatten_cons]at hr
  obtain⟨a,c,rfl,ha,hc⟩:=hr.split
  have hal:a.length=sz:=by rw[ha.len];exact hl e (by simp)
  refine⟨hl e (by simp),repRow_of ha fun i u hu=>hk i u (by rw[List.getElem?_append_left (by have:=(lgs hu).1;omega)];exact hu),
   ih (fun e' he=>hl e' (by simp[he])) hc fun i u hu=>?_⟩
  have:=hk (sz+i) u (by rw[List.getElem?_append_right (by omega)];simpa[hal]using hu)
  rwa [show o+sz+i=o+(sz+i) by omega]
end
def scEq:Value->Value->Bool
 | .bool a,.bool b=>a == b
 | .int k n,.int k' n'=>k == k'&&n == n'
 | .string a,.string b=>a.data.toList == b.data.toList
 | .pointer none,.pointer none=>true
 | .map none,.map none=>true
 | .nilFunc,.nilFunc=>true
 | .nilIface,.nilIface=>true
 | _,_=>false
theorem scEq_eq {u v:Value}(h:scEq u v=true):u=v/\v.oneCell'=true:=by
 unfold scEq at h
 split at h<;>try (simp at h;done)
 .simp at h;subst h;exact⟨rfl,rfl⟩
 .simp at h;obtain⟨rfl,rfl⟩:=h;exact⟨rfl,rfl⟩
 .rename_i a b
  refine⟨?_,rfl⟩
  obtain⟨⟨a⟩⟩:=a
  obtain⟨⟨b⟩⟩:=b
  simp at h;simp[h]
 all_goals exact⟨rfl,rfl⟩
def chkOpd:Opd->Operand->Bool
 | .t n,.tmp m=>n == m
 | .c v,.const u=>scEq v u
 | .nil _,.const (.slice none 0 0)=>true
 | .f n,.func m=>n == m
 | _,_=>false
def chkOpds:List Opd->List Operand->Bool
 | [],[]=>true
 | x::xs,y::ys=>chkOpd x y&&chkOpds xs ys
 | _,_=>false
def pairs (a:Act) (env:List (Nat×LV)):List (Value×LV):=env.map fun x=>(a.tmps.getD x.1 undef,x.2)
def demPairs (gs:List Nat) (ps:List (Value×LV)):List (Value×LV):=ps.map fun p=>(p.1,p.2.dem gs)
abbrev Tabs:=List (Nat×Array Value)
def Stand (T:Tabs) (Wr:Nat->Prop) (h:Heap):Prop:=∀x∈T,¬Wr x.1/\x.1<h.size/\∃t z,h[x.1]?=some (.cells x.2 t z)
theorem Stand.less {T:Tabs}{Wr Wr':Nat->Prop}{h:Heap}(hs:Stand T Wr h) (hl:∀b,Wr' b->Wr b):Stand T Wr' h:=fun x hx=>⟨fun k=>(hs x hx).1 (hl _ k),(hs x hx).2⟩
structure Fr where
 K0:Tabs
 fix:List Nat
 M0:Nat->Nat×Nat×Value
def Names.at (N:Names) (o:Nat):Nat×Nat×Value:=(N.M o,N.S o,N.A o)
structure Rel (nt:Nat) (F:Fr) (Wr:Nat->Prop) (K:Know) (N:Names) (a:Act) (w:World) (s:LSt):Prop where
 inv:Inv Wr K N w.heap (pairs a s.env) s.objs
 bnd:∀x∈s.env,x.1<nt
 size:a.tmps.size=nt
 new:∀b,w.heap.size<=b->Wr b
 k0:Stand F.K0 Wr w.heap
 fx:s.fix=F.fix
 pin:∀o∈F.fix,N.at o=F.M0 o
structure Keep (Wr:Nat->Prop) (w w':World):Prop where
 os:w'.os=w.os
 tape:w'.tape=w.tape
 output:w'.output=w.output
 size:w.heap.size<=w'.heap.size
 block:∀b,b<w.heap.size->¬Wr b->w'.heap[b]?=w.heap[b]?
theorem Keep.refl (Wr:Nat->Prop) (w:World):Keep Wr w w:=⟨rfl,rfl,rfl,Nat.le_refl _,fun _ _ _=>rfl⟩
theorem Keep.trans {Wr:Nat->Prop}{a b c:World}(h:Keep Wr a b) (h':Keep Wr b c):Keep Wr a c:=
 ⟨h'.os.trans h.os,h'.tape.trans h.tape,h'.output.trans h.output,Nat.le_trans h.size h'.size,
  fun i hi hn=>(h'.block i (Nat.lt_of_lt_of_le hi h.size) hn).trans (h.block i hi hn)⟩
theorem Stand.keep {T:Tabs}{Wr:Nat->Prop}{w w':World}(h:Stand T Wr w.heap) (hk:Keep Wr w w'):Stand T Wr w'.heap:=fun x hx=>
 ⟨(h x hx).1,Nat.lt_of_lt_of_le (h x hx).2.1 hk.size,by rw[hk.block _ (h x hx).2.1 (h x hx).1];exact (h x hx).2.2⟩
structure KExt (Wr:Nat->Prop) (K K':Know):Prop where
 le:K.le K'
 out:∀b,¬Wr b->∀o,K' b o=K b o
theorem KExt.refl {Wr:Nat->Prop}{K:Know}:KExt Wr K K:=⟨K.le_refl,fun _ _ _=>rfl⟩
theorem KExt.trans {Wr:Nat->Prop}{K K' K'':Know}(h:KExt Wr K K') (h':KExt Wr K' K''):KExt Wr K K'':=
 ⟨Know.le_trans h.le h'.le,fun b hb o=>(h'.out b hb o).trans (h.out b hb o)⟩
theorem KExt.put {Wr:Nat->Prop}{K:Know}{b:Nat}{f:Nat->Option Value}(h:K.le (K.put b f)) (hb:Wr b):KExt Wr K (K.put b f):=by
 refine⟨h,fun b' hb' o=>?_⟩
 have:b'≠b:=fun e=>hb' (e▸hb)
 simp[Know.put,this]
def OpOk (P:Program) (F:Fr) (Wr:Nat->Prop) (K:Know) (a:Act) (w:World) (s:LSt) (o:Oper) (e:Eff):Prop:=
 ∃ (v:Value) (w':World) (K':Know) (N':Names),((execOp a.eval o).run P w = .ok (.value v) w'\/(v=undef/\(execOp a.eval o).run P w = .ok .skip w')) /\
  KExt Wr K K'/\Keep Wr w w' /\
  Inv Wr K' N' w'.heap (e.val.toList.map (fun l=>(v,l))++demPairs e.dem (pairs a s.env)) (updObjs (s.objs.map fun x=>(x.1,x.2.dem e.dem)) e.upd)/\∀o∈F.fix,N'.at o=F.M0 o
theorem aget_mem {α:Type}{l:List (Nat×α)}{n:Nat}{x:α}(h:aget l n=some x):(n,x)∈l:=by
 induction l with
 | nil=>simp[aget]at h
 | cons y l ih=>
  obtain⟨k,v⟩:=y
  simp only[aget]at h
  split at h
  .rename_i e;subst e;simp at h;subst h;simp
  .exact lmc _ (ih h)
theorem adel_mem {α:Type}{l:List (Nat×α)}{n:Nat}{x:Nat×α}(h:x∈adel l n):x∈l/\x.1≠n:=by
 induction l with
 | nil=>simp[adel]at h
 | cons y l ih=>
  obtain⟨k,v⟩:=y
  simp only[adel]at h
  split at h
  .have:=ih h;exact⟨lmc _ this.1,this.2⟩
  .rename_i e
   cases h with
   | head=>exact⟨by simp,fun hh=>e hh.symm⟩
   | tail _ h=>have:=ih h;exact⟨lmc _ this.1,this.2⟩
theorem ains_mem {α:Type}{l:List (Nat×α)}{n:Nat}{v:α}{x:Nat×α}(h:x∈ains l n v):x=(n,v)\/x∈l:=by
 induction l with
 | nil=>simp[ains]at h;exact .inl h
 | cons y l ih=>
  obtain⟨k,u⟩:=y
  simp only[ains]at h
  split at h
  .cases h with
   | head=>exact .inl rfl
   | tail _ h=>exact .inr h
  .cases h with
   | head=>exact .inr (by simp)
   | tail _ h=>exact (ih h).imp id (lmc _)
theorem aset_mem {α:Type}{l:List (Nat×α)}{n:Nat}{v:α}{x:Nat×α}(h:x∈aset l n v):x=(n,v)\/(x∈l/\x.1≠n):=
 (ains_mem h).imp id adel_mem
mutual
theorem LV.dem_nil:∀ (l:LV),l.dem []=l
 | .pv _=>rfl
 | .nils _=>rfl
 | .nk _ _ _=>rfl
 | .own _ _ _=>by simp[LV.dem]
 | .ref _ _=>rfl
 | .eref _ _ _=>rfl
 | .arr _ _=>rfl
 | .agg ls=>by simp only[LV.dem,LV.demL_nil ls]
 | .tup ls=>by simp only[LV.dem,LV.demL_nil ls]
 | .clo _ ls=>by simp only[LV.dem,LV.demL_nil ls]
 | .box _ _ _=>rfl
 | .dead=>rfl
theorem LV.demL_nil:∀ (l:List LV),LV.demL [] l=l
 | []=>rfl
 | l::ls=>by simp only[LV.demL,LV.dem_nil l,LV.demL_nil ls]
end
theorem Obj.dem_nil (x:Obj):x.dem []=x:=by
 cases x with
 | var cs=>simp[Obj.dem,LV.demL_nil]
 | rows _ _ _ _=>rfl
theorem demObjs_eq (gs:List Nat) (os:List (Nat×Obj)):demObjs gs os=os.map fun x=>(x.1,x.2.dem gs):=by
 induction os with
 | nil=>rfl
 | cons x os ih=>simp[demObjs,ih]
theorem demEnv_eq (gs:List Nat) (os:List (Nat×LV)):demEnv gs os=os.map fun x=>(x.1,x.2.dem gs):=by
 induction os with
 | nil=>rfl
 | cons x os ih=>simp[demEnv,ih]
theorem apply_objs (s:LSt) (e:Eff) (d:Option Nat):(s.apply e d).objs=updObjs (s.objs.map fun x=>(x.1,x.2.dem e.dem)) e.upd:=by
 unfold LSt.apply
 cases e.dem with
 | nil=>
  have:(fun x:Nat×Obj=>(x.1,x.2.dem []))=id:=funext fun x=>by simp[Obj.dem_nil]
  simp[this]
 | cons g gs=>simp[demObjs_eq]
theorem apply_env (s:LSt) (e:Eff) (d:Option Nat):(s.apply e d).env=match d with
  | none=>s.env.map fun x=>(x.1,x.2.dem e.dem)
  | some d=>match e.val with
   | some l=>aset (s.env.map fun x=>(x.1,x.2.dem e.dem)) d l
   | none=>adel (s.env.map fun x=>(x.1,x.2.dem e.dem)) d:=by
 unfold LSt.apply
 cases he:e.dem with
 | nil=>
  have:(fun x:Nat×LV=>(x.1,x.2.dem []))=id:=funext fun x=>by simp[LV.dem_nil]
  simp only[this,List.map_id]
  all_goals (cases d with | none=>rfl | some d=>cases e.val<;>rfl)
 | cons g gs=>
  simp only[demEnv_eq]
  all_goals (cases d with | none=>rfl | some d=>cases e.val<;>rfl)
theorem apply_fix (s:LSt) (e:Eff) (d:Option Nat):(s.apply e d).fix=s.fix:=rfl
theorem getD_put {a:Act}{d t:Nat}{v:Value}(h:t≠d):(a.put (some d) v).tmps.getD t undef=a.tmps.getD t undef:=by
 simp only[Act.put,Array.getD_eq_getD_getElem?]
 rw[Array.getElem?_setIfInBounds_ne (fun e=>h e.symm)]
theorem getD_put_same {a:Act}{d:Nat}{v:Value}(h:d<a.tmps.size):(a.put (some d) v).tmps.getD d undef=v:=by
 simp[Act.put,Array.getD_eq_getD_getElem?,h]
theorem size_put {a:Act}{d:Option Nat}{v:Value}:(a.put d v).tmps.size=a.tmps.size:=by
 cases d<;>simp[Act.put]
theorem defers_put {a:Act}{d:Option Nat}{v:Value}:(a.put d v).defers=a.defers:=by
 cases d<;>rfl
section
variable {P:Program}{nt:Nat}{F:Fr}{Wr:Nat->Prop}{K:Know}{N:Names}{a:Act}{w:World}{s:LSt}{o:Oper}
theorem Rel.put {w':World}{K':Know}{N':Names}{e:Eff}{v:Value}(h:Rel nt F Wr K N a w s) (hk:Keep Wr w w') (hK:K.le K') (hp:∀o∈F.fix,N'.at o=F.M0 o){d:Option Nat}(hd:∀t,d=some t->t<nt)
  (hi:Inv Wr K' N' w'.heap (e.val.toList.map (fun l=>(v,l))++demPairs e.dem (pairs a s.env)) (updObjs (s.objs.map fun x=>(x.1,x.2.dem e.dem)) e.upd)):
  Rel nt F Wr K' N' (a.put d v) w' (s.apply e d):=by
 have hsz:(a.put d v).tmps.size=nt:=size_put.trans h.size
 have hold:∀x∈s.env.map (fun x=>(x.1,x.2.dem e.dem)),(∀t,d=some t->x.1≠t) ->
   ((a.put d v).tmps.getD x.1 undef,x.2)∈e.val.toList.map (fun l=>(v,l))++demPairs e.dem (pairs a s.env):=by
  intro x hx hn
  obtain⟨y,hy,rfl⟩:=List.mem_map.1 hx
  refine List.mem_append_right _ ?_
  have:(a.put d v).tmps.getD y.1 undef=a.tmps.getD y.1 undef:=by
   cases d with
   | none=>rfl
   | some t=>exact getD_put (hn t rfl)
  simp only[this]
  exact List.mem_map.2 ⟨(a.tmps.getD y.1 undef,y.2),List.mem_map.2 ⟨y,hy,rfl⟩,rfl⟩
 have hbo:∀x∈s.env.map (fun x=>(x.1,x.2.dem e.dem)),x.1<nt:=by
  intro x hx
  obtain⟨y,hy,rfl⟩:=List.mem_map.1 hx
  exact h.bnd y hy
 refine⟨?_,?_,hsz,fun b hb=>h.new b (Nat.le_trans hk.size hb),h.k0.keep hk,(apply_fix s e d).trans h.fx,hp⟩
 .refine hi.sub ?_ (by rw[apply_objs];exact fun _ h=>h)
  intro p hp
  obtain⟨x,hx,rfl⟩:=List.mem_map.1 hp
  rw[apply_env]at hx
  cases d with
  | none=>exact hold x hx (by simp)
  | some t=>
   have ht:t<a.tmps.size:=by rw[h.size];exact hd t rfl
   cases hv:e.val with
   | none=>
    simp only[hv]at hx
    have:=adel_mem hx
    rw[<-hv]
    exact hold x this.1 (by rintro t' rfl' ;cases rfl';exact this.2)
   | some l=>
    simp only[hv]at hx
    rcases aset_mem hx with rfl | ⟨h1,h2⟩
    .simp[getD_put_same ht]
    .rw[<-hv];exact hold x h1 (by rintro t' rfl';cases rfl';exact h2)
 .intro x hx
  rw[apply_env]at hx
  cases d with
  | none=>exact hbo x hx
  | some t=>
   cases hv:e.val with
   | none=>simp only[hv]at hx;exact hbo x (adel_mem hx).1
   | some l=>
    simp only[hv]at hx
    rcases aset_mem hx with rfl | ⟨h1,_⟩
    .exact hd t rfl
    .exact hbo x h1
theorem Rel.opd (h:Rel nt F Wr K N a w s){x:Opd}{X:Operand}{l:LV}(he:s.opd x=some l) (hc:chkOpd x X=true):
  RepL K N l (a.eval X)/\(∀g∈l.toks,Occ (pairs a s.env) s.objs g):=by
 cases x with
 | t n=>
  cases X<;>simp[chkOpd]at hc
  subst hc
  simp only[LSt.opd]at he
  have hm:=aget_mem he
  have hp:(a.tmps.getD n undef,l)∈pairs a s.env:=List.mem_map.2 ⟨_,hm,rfl⟩
  exact⟨h.inv.vals _ hp,fun g hg => .inl ⟨_,hp,hg⟩⟩
 | c v=>
  cases X<;>simp[chkOpd]at hc
  obtain⟨rfl,h1⟩:=scEq_eq hc
  simp only[LSt.opd,osi]at he
  subst he
  exact⟨⟨rfl,h1⟩,by simp[LV.toks]⟩
 | nil sz=>
  simp only[LSt.opd,osi]at he
  subst he
  unfold chkOpd at hc
  split at hc<;>simp_all
  exact⟨rfl,by simp[LV.toks]⟩
 | f n=>
  cases X<;>simp[chkOpd]at hc
  subst hc
  simp only[LSt.opd,osi]at he
  subst he
  exact⟨⟨[],rfl,rfl⟩,by simp[LV.toks]⟩
theorem demPairs_nil (ps:List (Value×LV)):demPairs [] ps=ps:=by
 have:(fun p:Value×LV=>(p.1,p.2.dem []))=id:=funext fun x=>by simp[LV.dem_nil]
 simp[demPairs,this]
theorem demMap_nil (os:List (Nat×Obj)):os.map (fun x=>(x.1,x.2.dem []))=os:=by
 have:(fun x:Nat×Obj=>(x.1,x.2.dem []))=id:=funext fun x=>by simp[Obj.dem_nil]
 simp[this]
theorem OpOk.pure (h:Rel nt F Wr K N a w s){l:LV}{v:Value}(hr:(execOp a.eval o).run P w = .ok (.value v) w) (hv:RepL K N l v)
  (ht:∀g∈l.toks,Occ (pairs a s.env) s.objs g):OpOk P F Wr K a w s o { dem:=[],upd:=[],val:=some l }:=by
 refine⟨v,w,K,N,.inl hr,KExt.refl,Keep.refl _ _,?_⟩
 simp only[demPairs_nil,demMap_nil,updObjs,Option.toList_some,List.map_cons,List.map_nil,List.cons_append,List.nil_append]
 exact⟨h.inv.add hv ht,h.pin⟩
theorem int?_rep {l:LV}{v:Value}{r:IntKind×Int}(h:l.int?=some r) (hr:RepL K N l v):v = .int r.1 r.2:=by
 unfold LV.int? at h
 split at h<;>simp at h
 subst h
 exact hr.1
theorem bool?_rep {l:LV}{v:Value}{r:Bool}(h:l.bool?=some r) (hr:RepL K N l v):v = .bool r:=by
 unfold LV.bool? at h
 split at h<;>simp at h
 subst h
 exact hr.1
theorem str?_rep {l:LV}{v:Value}{r:ByteArray}(h:l.str?=some r) (hr:RepL K N l v):v = .string r:=by
 unfold LV.str? at h
 split at h<;>simp at h
 subst h
 exact hr.1
theorem sc?_rep {l:LV}{v r:Value}(h:l.sc?=some r) (hr:RepL K N l v):v=r:=by
 unfold LV.sc? at h
 split at h<;>simp at h
 subst h
 exact hr.1
theorem lst?_rep {l:LV}{v:Value}{r:Nat×List (List PV)}(h:l.lst?=some r) (hr:RepL K N l v):RepP K (.lst r.1 r.2) v:=by
 unfold LV.lst? at h
 split at h<;>simp at h<;>subst h
 .exact hr
 .exact hr.2.2
 .exact⟨none,0,0,hr,rfl,Nat.le_refl _,.inl rfl⟩
 .exact hr.1
theorem RepL.sc {v:Value}(h:v.oneCell'=true):RepL K N (.pv (.sc v)) v:=⟨rfl,h⟩
theorem ok_mv (h:Rel nt F Wr K N a w s){x:Opd}{X:Operand}{e:Eff}(he:(s.opd x).bind pureE=some e) (ho:o.op = .move X\/o.op = .assign X) (hc:chkOpd x X=true):
  OpOk P F Wr K a w s o e:=by
 cases hx:s.opd x with
 | none=>simp[hx]at he
 | some l=>
  simp only[hx,obb,pureE,osi]at he
  subst he
  obtain⟨h1,h2⟩:=h.opd hx hc
  refine OpOk.pure h ?_ h1 h2
  rcases ho with ho | ho<;>simp[execOp,ho]
end
open Go.RowKit
def isAggB (P:Program) (t:TypeId):Option Bool:=(P.underlying t).map fun d=>match d with | .struct _=>true | .array _ _=>true | _=>false
def szOf (P:Program) (t:TypeId):Option Nat:=(P.info? t).map (·.size)
section
variable {call:CallF}{P:Program}{nt:Nat}{F:Fr}{Wr:Nat->Prop}{K:Know}{N:Names}{a:Act}{w:World}{s:LSt}{o:Oper}
theorem run_isAgg {t:TypeId}{b:Bool}(h:isAggB P t=some b):(isAgg t).run P w = .ok b w:=by
 unfold isAggB at h
 cases hu:P.underlying t with
 | none=>simp[hu]at h
 | some d=>
  simp[hu]at h
  unfold isAgg underlying
  simp[hu]
  cases d<;>simp_all
theorem run_sizeOf {t:TypeId}{n:Nat}(h:szOf P t=some n):(sizeOf t).run P w = .ok n w:=by
 unfold szOf at h
 cases hu:P.info? t with
 | none=>simp[hu]at h
 | some d=>
  simp[hu]at h
  unfold sizeOf typeInfo
  simp[hu,h]
theorem run_underlying {t:TypeId}{d:TypeDesc}(h:P.underlying t=some d):(underlying t).run P w = .ok d w:=by
 unfold underlying;simp[h]
theorem ok_nilck (h:Rel nt F Wr K N a w s){x:Opd}{X:Operand}{e:Eff}(he:evOp call s (.nilck x)=some e) (ho:o.op = .nilCheck X) (hc:chkOpd x X=true):
  OpOk P F Wr K a w s o e:=by
 simp only[evOp]at he
 obtain⟨l,hx,he⟩:=obs he
 obtain⟨h1,h2⟩:=h.opd hx hc
 split at he<;>simp only[pureE,osi,reduceCtorEq]at he<;>subst he
 .have h1':=h1
  obtain⟨b,o',e1,_⟩:=h1
  exact OpOk.pure h (by simp[execOp,ho,e1]) (e1▸h1') h2
 .have h1':=h1
  simp only[RepL]at h1
  exact OpOk.pure h (by simp[execOp,ho,h1]) (h1▸h1') h2
 .have h1':=h1
  simp only[RepL]at h1
  exact OpOk.pure h (by simp[execOp,ho,h1]) (h1▸h1') h2
theorem ok_pick (h:Rel nt F Wr K N a w s){c x y:Opd}{C X Y:Operand}{e:Eff}(he:evOp call s (.pick c x y)=some e) (ho:o.op = .pick C X Y)
  (hc:(chkOpd c C&&chkOpd x X&&chkOpd y Y)=true):OpOk P F Wr K a w s o e:=by
 simp only[bat]at hc
 simp only[evOp]at he
 obtain⟨lc,hlc,he⟩:=obs he
 obtain⟨t,ht,he⟩:=obs he
 obtain⟨l,hl,he⟩:=obs he
 simp only[pureE,osi]at he
 subst he
 have hb:=bool?_rep ht (h.opd hlc hc.1.1).1
 cases t
 .obtain⟨y1,y2⟩:=h.opd (x:=y) hl hc.2
  exact OpOk.pure h (by simp[execOp,ho,hb,asBool]) y1 y2
 .obtain⟨x1,x2⟩:=h.opd (x:=x) hl hc.1.2
  exact OpOk.pure h (by simp[execOp,ho,hb,asBool]) x1 x2
theorem scBin_one {op:BinOp}{x y v:Value}(h:scBin op x y=some v):v.oneCell'=true:=by
 unfold scBin at h
 split at h
 .split at h
  .cases op<;>simp only[intBin,osi,reduceCtorEq]at h<;>first | (subst h;rfl) | (split at h<;>simp only[osi,reduceCtorEq]at h;subst h;rfl)
  .simp at h
 .cases op<;>simp only[strBin,osi,reduceCtorEq]at h<;>first | (subst h;rfl) | (split at h<;>simp only[osi,reduceCtorEq]at h;subst h;rfl)
 .simp at h
def boolTy (P:Program) (t:TypeId):Bool:=match P.underlying t with | some .bool=>true | _=>false
theorem run_eqGuard_sc {op:BinOp}{x y v:Value}{t:TypeId}(h:scBin op x y=some v) (X Y:Operand):(eqGuard op t X Y x y).run P w = .ok () w:=by
 unfold scBin at h
 split at h
 .unfold eqGuard;split<;>rfl
 .unfold eqGuard;split<;>rfl
 .simp at h
theorem run_scBin {op:BinOp}{x y v:Value}{t:TypeId}(h:scBin op x y=some v):(binOp op t x y).run P w = .ok v w:=by
 unfold scBin at h
 split at h
 .split at h
  .rename_i k a k' b hk
   subst hk
   cases op<;>simp only[intBin,osi,reduceCtorEq]at h <;>
    first
     | (subst h;simp[binOp,Op.intArith,Op.intCmp,Op.intBits];done)
     | (split at h<;>simp only[osi,reduceCtorEq]at h;subst h;rename_i hk;simp[binOp,Op.intDiv,hk];done)
  .simp at h
 .rename_i a b
  cases op<;>simp only[strBin,osi,reduceCtorEq]at h <;>
   first
    | (subst h;simp[binOp,Op.stringOp];done)
    | (split at h<;>simp only[osi,reduceCtorEq]at h;subst h;rename_i hk;unfold bigStr at hk;simp only[binOp];exact run_string_add_sum (P:=P) (w:=w) a b (by omega))
 .simp at h
theorem ok_bin (h:Rel nt F Wr K N a w s){op:BinOp}{x y:Opd}{X Y:Operand}{t t':TypeId}{e:Eff}(he:evOp call s (.bin op x y)=some e) (ho:o.op = .binOp op t X Y t')
  (hc:(chkOpd x X&&chkOpd y Y)=true):OpOk P F Wr K a w s o e:=by
 simp only[bat]at hc
 simp only[evOp]at he
 obtain⟨lx,hlx,he⟩:=obs he
 obtain⟨vx,hvx,he⟩:=obs he
 obtain⟨ly,hly,he⟩:=obs he
 obtain⟨vy,hvy,he⟩:=obs he
 obtain⟨v,hv,he⟩:=obs he
 simp only[pureE,osi]at he
 subst he
 have ex:=sc?_rep hvx (h.opd hlx hc.1).1
 have ey:=sc?_rep hvy (h.opd hly hc.2).1
 refine OpOk.pure h ?_ (RepL.sc (scBin_one hv)) (by simp[LV.toks])
 simp[execOp,ho,ex,ey,run_eqGuard_sc hv,run_scBin hv]
theorem ok_binb (h:Rel nt F Wr K N a w s){ne:Bool}{x y:Opd}{X Y:Operand}{t t':TypeId}{e:Eff}(he:evOp call s (.binb ne x y)=some e)
  (ho:o.op = .binOp (if ne then .neq else .eql) t X Y t') (hc:(chkOpd x X&&chkOpd y Y&&boolTy P t)=true):OpOk P F Wr K a w s o e:=by
 simp only[bat]at hc
 simp only[evOp]at he
 obtain⟨lx,hlx,he⟩:=obs he
 obtain⟨vx,hvx,he⟩:=obs he
 obtain⟨ly,hly,he⟩:=obs he
 obtain⟨vy,hvy,he⟩:=obs he
 simp only[pureE,osi]at he
 subst he
 have ex:=bool?_rep hvx (h.opd hlx hc.1.1).1
 have ey:=bool?_rep hvy (h.opd hly hc.1.2).1
 have hu:P.underlying t=some .bool:=by
  have:=hc.2
  unfold boolTy at this
  split at this<;>first | assumption | simp at this
 have hg:∀op,(eqGuard op t X Y (.bool vx) (.bool vy)).run P w = .ok () w:=by intro op;unfold eqGuard;split<;>rfl
 have hq:(Op.equal t (.bool vx) (.bool vy)).run P w = .ok (vx == vy) w:=by
  unfold Op.equal Op.maxDepth Op.equalIn
  simp[run_underlying hu]
 refine OpOk.pure h (v := .bool (if ne then !(vx == vy) else vx == vy)) ?_ (RepL.sc rfl) (by simp[LV.toks,wantB])
 cases ne<;>simp[execOp,ho,ex,ey,hg,binOp,hq]
theorem ok_un (h:Rel nt F Wr K N a w s){op:UnOp}{x:Opd}{X:Operand}{t:TypeId}{e:Eff}(he:evOp call s (.un op x)=some e) (ho:o.op = .unOp op t X)
  (hc:chkOpd x X=true):OpOk P F Wr K a w s o e:=by
 simp only[evOp]at he
 obtain⟨lx,hlx,he⟩:=obs he
 obtain⟨vx,hvx,he⟩:=obs he
 obtain⟨v,hv,he⟩:=obs he
 simp only[pureE,osi]at he
 subst he
 have ex:=sc?_rep hvx (h.opd hlx hc).1
 unfold scUn at hv
 split at hv<;>simp only[osi,reduceCtorEq]at hv<;>subst hv
 .exact OpOk.pure h (by simp[execOp,ho,ex,Op.unary,Op.intArith]) (RepL.sc rfl) (by simp[LV.toks])
 .exact OpOk.pure h (by simp[execOp,ho,ex,Op.unary]) (RepL.sc rfl) (by simp[LV.toks])
def intTy (P:Program) (t:TypeId) (k:IntKind):Bool:=match P.underlying t with | some (.int k')=>k' == k | _=>false
theorem intTy_eq {t:TypeId}{k:IntKind}(h:intTy P t k=true):P.underlying t=some (.int k):=by
 unfold intTy at h
 split at h
 .rename_i k' hk;have h:=eq_of_beq h;subst h;exact hk
 .cases h
theorem ok_conv (h:Rel nt F Wr K N a w s){k:IntKind}{x:Opd}{X:Operand}{t t':TypeId}{e:Eff}(he:evOp call s (.conv k x)=some e) (ho:o.op = .convert t t' X)
  (hc:(chkOpd x X&&intTy P t' k&&(P.underlying t).isSome)=true):OpOk P F Wr K a w s o e:=by
 simp only[bat]at hc
 simp only[evOp]at he
 obtain⟨lx,hlx,he⟩:=obs he
 obtain⟨vx,hvx,he⟩:=obs he
 simp only[pureE,osi]at he
 subst he
 have ex:=int?_rep hvx (h.opd hlx hc.1.1).1
 obtain⟨d,hd⟩:=Option.isSome_iff_exists.1 hc.2
 refine OpOk.pure h (v := .int k (k.wrap vx.2)) ?_ (RepL.sc rfl) (by simp[LV.toks,wantI])
 simp[execOp,ho,ex,convert,run_underlying hd,run_underlying (intTy_eq hc.1.2),Conv.intToInt]
theorem ok_extract (h:Rel nt F Wr K N a w s){k:Nat}{x:Opd}{X:Operand}{e:Eff}(he:evOp call s (.extract k x)=some e) (ho:o.op = .extract X k)
  (hc:chkOpd x X=true):OpOk P F Wr K a w s o e:=by
 simp only[evOp]at he
 obtain⟨lx,hlx,he⟩:=obs he
 obtain⟨h1,h2⟩:=h.opd hlx hc
 split at he<;>(try simp only[reduceCtorEq]at he)
 rename_i ls
 obtain⟨l,hl,he⟩:=obs he
 simp only[pureE,osi]at he
 subst he
 obtain⟨vs,ev,hr⟩:=h1
 have:∀ (ls:List LV) (vs:List Value) (k:Nat) (l:LV),RepLs K N ls vs->ls[k]?=some l->(∃v,vs[k]?=some v/\RepL K N l v)/\∀g∈l.toks,g∈LV.toksL ls:=by
  intro ls
  induction ls with
  | nil=>intro vs k l _ hk;simp at hk
  | cons y ys ih=>
   rintro vs k l ⟨v,r,rfl,hv,hr⟩ hk
   cases k with
   | zero=>simp at hk;subst hk;exact⟨⟨v,rfl,hv⟩,fun g hg=>by simp[LV.toksL,hg]⟩
   | succ k=>
    obtain⟨⟨u,hu,hru⟩,ht⟩:=ih r k l hr (by simpa using hk)
    exact⟨⟨u,by simpa using hu,hru⟩,fun g hg=>by simp[LV.toksL,ht g hg]⟩
 obtain⟨⟨v,hv,hrv⟩,ht⟩:=this ls vs k l hr hl
 refine OpOk.pure h (v:=v) ?_ hrv fun g hg=>h2 g (by simpa[LV.toks]using ht g hg)
 simp[execOp,ho,ev,Instr.extract,hv]
def sliceTy (P:Program) (t:TypeId):Bool:=match P.underlying t with | some (.slice _)=>true | _=>false
theorem sliceTy_eq {t:TypeId}(h:sliceTy P t=true):∃e,P.underlying t=some (.slice e):=by
 unfold sliceTy at h
 split at h
 .rename_i e he;exact⟨e,he⟩
 .simp at h
def stringTy (P:Program) (t:TypeId):Bool:=match P.underlying t with | some .string=>true | _=>false
theorem stringTy_eq {t:TypeId}(h:stringTy P t=true):P.underlying t=some .string:=by
 unfold stringTy at h
 split at h
 .assumption
 .simp at h
theorem lst?_slice {l:LV}{v:Value}{r:Nat×List (List PV)}(h:l.lst?=some r) (hr:RepL K N l v):∃a cap,v = .slice a r.2.length cap:=by
 obtain⟨a,len,cap,e1,e2,_⟩:=lst?_rep h hr
 exact⟨a,cap,by rw[e1,e2]⟩
theorem ok_lenS (h:Rel nt F Wr K N a w s){x:Opd}{X:Operand}{t:TypeId}{e:Eff}(he:evOp call s (.lenS x)=some e)
  (ho:o.op = .call { callee := .builtin .len,args := #[X],argTypes := #[t] }) (hc:(chkOpd x X&&stringTy P t)=true):OpOk P F Wr K a w s o e:=by
 simp only[bat]at hc
 simp only[evOp]at he
 obtain⟨lx,hlx,he⟩:=obs he
 obtain⟨b,hb,he⟩:=obs he
 simp only[pureE,osi]at he
 subst he
 have ev:=str?_rep hb (h.opd hlx hc.1).1
 refine OpOk.pure h (v := .int .i64 b.size) ?_ (RepL.sc rfl) (by simp[LV.toks,wantI])
 simp[execOp,ho,resolve,invoke,builtin,Builtin.len_,ev,run_underlying (stringTy_eq hc.2),goInt]
theorem ok_len (h:Rel nt F Wr K N a w s){x:Opd}{X:Operand}{t:TypeId}{e:Eff}(he:evOp call s (.len x)=some e)
  (ho:o.op = .call { callee := .builtin .len,args := #[X],argTypes := #[t] }) (hc:(chkOpd x X&&sliceTy P t)=true):OpOk P F Wr K a w s o e:=by
 simp only[bat]at hc
 simp only[evOp]at he
 obtain⟨lx,hlx,he⟩:=obs he
 obtain⟨h1,h2⟩:=h.opd hlx hc.1
 obtain⟨el,ht⟩:=sliceTy_eq hc.2
 split at he
 .rename_i o' n
  simp only[pureE,osi]at he
  subst he
  obtain⟨_,a',cap,h1⟩:=h1
  refine OpOk.pure h (v := .int .i64 n) ?_ (RepL.sc rfl) (by simp[LV.toks,wantI])
  simp[execOp,ho,resolve,invoke,builtin,Builtin.len_,h1,run_underlying ht,goInt]
 .obtain⟨r,hr,he⟩:=obs he
  simp only[pureE,osi]at he
  subst he
  obtain⟨b,cap,ev⟩:=lst?_slice hr h1
  refine OpOk.pure h (v := .int .i64 r.2.length) ?_ (RepL.sc rfl) (by simp[LV.toks,lstLen,wantI])
  simp[execOp,ho,resolve,invoke,builtin,Builtin.len_,ev,run_underlying ht,goInt]
theorem ok_max (h:Rel nt F Wr K N a w s){x y:Opd}{X Y:Operand}{ts:Array TypeId}{e:Eff}(he:evOp call s (.max x y)=some e)
  (ho:o.op = .call { callee := .builtin .max,args := #[X,Y],argTypes:=ts }) (hc:(chkOpd x X&&chkOpd y Y)=true):OpOk P F Wr K a w s o e:=by
 simp only[bat]at hc
 simp only[evOp]at he
 obtain⟨lx,hlx,he⟩:=obs he
 obtain⟨vx,hvx,he⟩:=obs he
 obtain⟨ly,hly,he⟩:=obs he
 obtain⟨vy,hvy,he⟩:=obs he
 split at he<;>simp only[pureE,osi,reduceCtorEq]at he
 subst he
 have ex:=int?_rep hvx (h.opd hlx hc.1).1
 have ey:=int?_rep hvy (h.opd hly hc.2).1
 refine OpOk.pure h (v := .int vx.1 (if vy.2>vx.2 then vy.2 else vx.2)) ?_ (RepL.sc rfl) (by simp[LV.toks,wantI])
 simp[execOp,ho,resolve,invoke,builtin,Builtin.max_,Builtin.max2,ex,ey]
theorem opt_int_rep (h:Rel nt F Wr K N a w s){x:Opd}{X:Operand}{i:Int}(he:s.int x=some i) (hc:chkOpd x X=true):∃k,a.eval X = .int k i:=by
 unfold LSt.int at he
 obtain⟨l,hl,he⟩:=obs he
 obtain⟨r,hr,he⟩:=obs he
 simp only[osi]at he
 subst he
 exact⟨r.1,int?_rep hr (h.opd hl hc).1⟩
theorem ok_index (h:Rel nt F Wr K N a w s){x i:Opd}{X I:Operand}{t:TypeId}{e:Eff}(he:evOp call s (.index x i)=some e)
  (ho:o.op = .index t X I) (hc:(chkOpd x X&&chkOpd i I&&stringTy P t)=true):OpOk P F Wr K a w s o e:=by
 simp only[bat]at hc
 simp only[evOp]at he
 obtain⟨n,hn,he⟩:=obs he
 obtain⟨lx,hlx,he⟩:=obs he
 obtain⟨b,hb,he⟩:=obs he
 split at he
 .rename_i h0
  obtain⟨c,hcc,he⟩:=obs he
  simp only[pureE,osi]at he
  subst he
  have ev:=str?_rep hb (h.opd hlx hc.1.1).1
  obtain⟨k,ei⟩:=opt_int_rep h hn hc.1.2
  refine OpOk.pure h (v := .int .u8 c.toNat) ?_ (RepL.sc rfl) (by simp[LV.toks,wantI])
  have hb':b[n.toNat]?=some c:=by
   have hlt:=(ags hcc).1
   have hlt':n.toNat<b.size:=hlt
   have:=(ags hcc).2
   rw[getElem?_pos b n.toNat hlt']
   simp only[osi]
   exact this
  simp[execOp,ho,Instr.index,ev,ei,asIntOf,run_underlying (stringTy_eq hc.2),h0,hb']
 .simp at he
end
open Go.RowKit
theorem addr_add (b o n:Nat):(⟨b,o,none⟩:Addr).add n=⟨b,o+n,none⟩:=by
 unfold Addr.add;split<;>simp_all
section
variable {call:CallF}{P:Program}{nt:Nat}{F:Fr}{Wr:Nat->Prop}{K:Know}{N:Names}{a:Act}{w:World}{s:LSt}{o:Oper}
theorem takeN_some {β:Type}{n:Nat}:∀ {cs:List PV}{k:List LV->Option β}{e:β},takeN n cs k=some e->∃xs rest,cs=xs++rest/\xs.length=n/\k (xs.map .pv)=some e:=by
 induction n with
 | zero=>intro cs k e h;exact⟨[],cs,rfl,rfl,by simpa[takeN]using h⟩
 | succ n ih=>
  intro cs k e h
  cases cs with
  | nil=>simp[takeN]at h
  | cons c cs=>
   simp only[takeN]at h
   obtain⟨xs,rest,rfl,hl,hk⟩:=ih h
   exact⟨c::xs,rest,rfl,by simp[hl],by simpa using hk⟩
theorem takeL_some {β:Type}{n:Nat}:∀ {cs:List LV}{k:List LV->Option β}{e:β},takeL n cs k=some e->∃xs rest,cs=xs++rest/\xs.length=n/\k xs=some e:=by
 induction n with
 | zero=>intro cs k e h;exact⟨[],cs,rfl,rfl,by simpa[takeL]using h⟩
 | succ n ih=>
  intro cs k e h
  cases cs with
  | nil=>simp[takeL]at h
  | cons c cs=>
   simp only[takeL]at h
   obtain⟨xs,rest,rfl,hl,hk⟩:=ih h
   exact⟨c::xs,rest,rfl,by simp[hl],hk⟩
theorem RepRow.split {cs ds:List PV}{b o:Nat}(h:RepRow K (cs++ds) b o):RepRow K cs b o/\RepRow K ds b (o+cs.length):=by
 induction cs generalizing o with
 | nil=>exact⟨trivial,h⟩
 | cons c cs ih=>
  obtain⟨h1,h2⟩:=h
  obtain⟨a,b'⟩:=ih h2
  exact⟨⟨h1,a⟩,by simpa[Nat.add_assoc,Nat.add_comm 1]using b'⟩
theorem RepRow.vals {cs:List PV}{b o:Nat}(h:RepRow K cs b o):∃vs,RepPs K cs vs/\∀i u,vs[i]?=some u->K b (o+i)=some u:=by
 induction cs generalizing o with
 | nil=>exact⟨[],rfl,by simp⟩
 | cons c cs ih=>
  obtain⟨⟨u,hu,hr⟩,h2⟩:=h
  obtain⟨vs,h3,h4⟩:=ih h2
  refine⟨u::vs,⟨u,vs,rfl,hr,h3⟩,?_⟩
  intro i x hx
  cases i with
  | zero=>simp at hx;subst hx;exact hu
  | succ i=>have:=h4 i x (by simpa using hx);rwa [show o+(i+1)=o+1+i by omega]
theorem RepPs.lv {cs:List PV}{vs:List Value}(h:RepPs K cs vs):RepLs K N (cs.map .pv) vs:=by
 induction cs generalizing vs with
 | nil=>exact h
 | cons c cs ih=>obtain⟨v,r,rfl,hv,hr⟩:=h;exact⟨v,r.toArray.toList,by simp,hv,by simpa using ih hr⟩
theorem map_pv_flat (cs:List PV):(cs.map LV.pv).all LV.flat=true:=by
 induction cs with
 | nil=>rfl
 | cons c cs ih=>simp[LV.flat]
theorem map_pv_toks (cs:List PV):LV.toksL (cs.map LV.pv)=[]:=by
 induction cs with
 | nil=>rfl
 | cons c cs ih=>simp[LV.toksL,LV.toks,ih]
theorem RepLs.split {cs ds:List LV}{vs:List Value}(h:RepLs K N (cs++ds) vs):∃a b,vs=a++b/\RepLs K N cs a/\RepLs K N ds b:=by
 induction cs generalizing vs with
 | nil=>exact⟨[],vs,rfl,rfl,h⟩
 | cons c cs ih=>
  obtain⟨v,r,rfl,hv,hr⟩:=h
  obtain⟨a,b,rfl,ha,hb⟩:=ih hr
  exact⟨v::a,b,rfl,⟨v,a,rfl,hv,ha⟩,hb⟩
theorem RepLs.join {cs ds:List LV}{vs us:List Value}(h:RepLs K N cs vs) (h':RepLs K N ds us):RepLs K N (cs++ds) (vs++us):=by
 induction cs generalizing vs with
 | nil=>cases h;exact h'
 | cons c cs ih=>obtain⟨v,r,rfl,hv,hr⟩:=h;exact⟨v,r++us,rfl,hv,ih hr⟩
theorem toksL_append (a b:List LV):LV.toksL (a++b)=LV.toksL a++LV.toksL b:=by
 induction a with
 | nil=>rfl
 | cons c a ih=>simp[LV.toksL,ih]
theorem namesL_append (a b:List LV):LV.namesL (a++b)=LV.namesL a++LV.namesL b:=by
 induction a with
 | nil=>rfl
 | cons c a ih=>simp[LV.namesL,ih]
theorem RepLs.drop {cs:List LV}{vs:List Value}(h:RepLs K N cs vs) (k:Nat):RepLs K N (cs.drop k) (vs.drop k):=by
 induction cs generalizing vs k with
 | nil=>cases h;simp[RepLs]
 | cons c cs ih=>
  obtain⟨v,r,rfl,hv,hr⟩:=h
  cases k with
  | zero=>exact⟨v,r,rfl,hv,hr⟩
  | succ k=>simpa using ih hr k
theorem flat_drop {cs:List LV}(h:cs.all LV.flat=true) (k:Nat):(cs.drop k).all LV.flat=true:=by
 rw[List.all_eq_true]at *
 exact fun x hx=>h x (List.mem_of_mem_drop hx)
theorem toksL_mem {cs:List LV}{g:Nat}:g∈LV.toksL cs↔∃c∈cs,g∈c.toks:=by
 induction cs with
 | nil=>simp[LV.toksL]
 | cons c cs ih=>simp[LV.toksL,ih]
theorem namesL_mem {cs:List LV}{g:Nat}:g∈LV.namesL cs↔∃c∈cs,g∈c.names:=by
 induction cs with
 | nil=>simp[LV.namesL]
 | cons c cs ih=>simp[LV.namesL,ih]
def chkLoad (P:Program) (t:TypeId) (n:Nat) (ag:Bool):Bool:=
 (match isAggB P t with | some b=>b == ag | none=>false)&&(if ag then (match szOf P t with | some m=>m == n | none=>false) else n == 1)
theorem chkLoad_eq {t:TypeId}{n:Nat}{ag:Bool}(h:chkLoad P t n ag=true):isAggB P t=some ag/\(ag=true->szOf P t=some n)/\(ag=false->n=1):=by
 unfold chkLoad at h
 rw[bat]at h
 obtain⟨h1,h2⟩:=h
 have e1:isAggB P t=some ag:=by
  split at h1
  .rename_i b hb;have:=eq_of_beq h1;subst this;exact hb
  .cases h1
 refine⟨e1,?_,?_⟩
 .intro ha
  rw[if_pos ha]at h2
  split at h2
  .rename_i b hb;have:=eq_of_beq h2;subst this;exact hb
  .cases h2
 .intro ha
  subst ha
  simpa using h2
theorem run_loadAt {t:TypeId}{n:Nat}{ag:Bool}(hc:chkLoad P t n ag=true){b off:Nat}{vs:List Value}(hl:vs.length=n) (hv:∀i u,vs[i]?=some u->hcell w.heap b (off+i)=some u){ls:List LV}{l:LV}
  (ho:ofCells ag ls=some l) (hf:ls.all LV.flat=true) (hr:RepLs K N ls vs):
  ∃v,(Instr.loadAt t (.pointer (some ⟨b,off,none⟩))).run P w = .ok v w/\RepL K N l v/\(∀g,g∈l.toks->g∈LV.toksL ls):=by
 obtain⟨h1,h2,h3⟩:=chkLoad_eq hc
 have hcell:∀j v,vs[j]?=some v->w.cell? ((⟨b,off,none⟩:Addr).add j)=some v:=by
  intro j v hj
  rw[addr_add,cell?_heap]
  exact hv j v hj
 cases ag with
 | true=>
  simp only[ofCells,if_true,osi]at ho
  subst ho
  refine⟨.agg vs.toArray,?_,⟨vs,rfl,hf,hr⟩,fun g hg=>by simpa[LV.toks]using hg⟩
  have:=run_loadCells_list (P:=P) (w:=w) ⟨b,off,none⟩ vs hcell
  simp[Instr.loadAt,Instr.sureAddr,loadVar,run_isAgg h1,run_sizeOf (h2 rfl),<-hl,this]
 | false=>
  have hn:=h3 rfl
  subst hn
  obtain⟨v,rfl⟩:=List.length_eq_one_iff.1 hl
  obtain⟨x,r,e1,hx,hr'⟩:∃x r,ls=x::r/\RepL K N x v/\RepLs K N r []:=by
   cases ls with
   | nil=>simp[RepLs]at hr
   | cons x r=>obtain⟨v',r',e,hv',hr''⟩:=hr;simp at e;obtain⟨rfl,rfl⟩:=e;exact⟨x,r,rfl,hv',hr''⟩
  subst e1
  have hr0:r=[]:=by
   cases r with
   | nil=>rfl
   | cons y r=>obtain⟨v',r',e,_⟩:=hr';simp at e
  subst hr0
  simp only[ofCells,Bool.false_eq_true,if_false,osi]at ho
  subst ho
  refine⟨v,?_,hx,fun g hg=>by simp[LV.toksL,hg]⟩
  have:=hcell 0 v rfl
  rw[addr_add]at this
  simp only[Nat.add_zero]at this
  simp[Instr.loadAt,Instr.sureAddr,loadVar,run_isAgg h1,this]
theorem flat_unbox (ls:List LV) (h:ls.all LV.flat=true):(ls.map LV.unbox).all LV.flat=true:=by
 rw[List.all_map,List.all_eq_true]at *
 intro l hl
 have:=h l hl
 cases l<;>first | exact this | rfl
theorem toks_unbox {g:Nat}{ls:List LV}(h:g∈LV.toksL (ls.map LV.unbox)):g∈LV.toksL ls:=by
 obtain⟨c,hc,hg⟩:=toksL_mem.1 h
 obtain⟨l,hl,rfl⟩:=List.mem_map.1 hc
 refine toksL_mem.2 ⟨l,hl,?_⟩
 cases l<;>first | exact hg | (simp[LV.unbox,LV.toks]at hg)
theorem RepC.unbox {l:LV}{v:Value}{F:List Nat}{hp:Heap}(h:RepC K N hp l v F):RepL K N l.unbox v:=by
 cases l with
 | box sz es sh=>
  cases sz with
  | zero=>obtain⟨_,_,⟨rfl,_⟩ | ⟨_,_,_,rfl,_⟩⟩:=h<;>rfl
  | succ sz=>rcases h with⟨_,_,rfl⟩ | ⟨b,cap,cs,el,G,rfl,_⟩<;>rfl
 | _=>exact h.2
theorem RepCs.vals {hp:Heap}:∀ {xs rest:List LV}{vs:List Value}{F:List Nat},RepCs K N hp (xs++rest) vs F->∃us ws,vs=us++ws/\RepLs K N (xs.map LV.unbox) us
 | [],_,vs,_,_=>⟨[],vs,rfl,rfl⟩
 | x::xs,rest,vs,F,⟨v,r,F1,F2,e1,e2,a,b⟩=>by
  obtain⟨us,ws,h1,h2⟩:=RepCs.vals b
  exact⟨v::us,ws,by rw[e1,h1];rfl,v,us,rfl,a.unbox,h2⟩
theorem RepCs.drop {hp:Heap}:∀ {cs:List LV}{vs:List Value}{F:List Nat}(k:Nat),RepCs K N hp cs vs F->∃F',RepCs K N hp (cs.drop k) (vs.drop k) F'
 | cs,vs,F,0,h=>⟨F,h⟩
 | [],vs,F,k+1,h=>⟨F,by rw[List.drop_nil];exact h⟩
 | c::cs,vs,F,k+1,⟨v,r,F1,F2,e1,e2,a,b⟩=>by
  obtain⟨F',h⟩:=RepCs.drop k b
  exact⟨F',by rw[e1];exact h⟩
theorem RepUR.at {hp:Heap}{sz:Nat}{sh:List Shp}:∀ {es:List (List PV)}{vs:List Value}{F:List Nat}{i:Nat}{e:List PV},RepUR K hp sz sh es vs F->es[i]?=some e->e.length=sz/\∃F',RepUs K hp e (ush sh) (vs.drop (i*sz)) F'
 | [],_,_,_,_,_,h=>by simp at h
 | x::es,vs,F,0,e,⟨e1,F1,F2,e2,a,b⟩,h=>by
  simp at h;subst h
  exact⟨e1,F1,by simpa using a⟩
 | x::es,vs,F,i+1,e,⟨e1,F1,F2,e2,a,b⟩,h=>by
  obtain⟨h1,F',h2⟩:=RepUR.at b (by simpa using h)
  refine⟨h1,F',?_⟩
  rw[List.drop_drop]at h2
  rw[Nat.succ_mul,Nat.add_comm (i*sz) sz];exact h2
theorem RepU.out {hp:Heap}{s:Shp}{p:PV}{v:Value}{F:List Nat}(h:RepU K hp p s v F):RepL K N (outLV s p) v:=by
 cases s with
 | v=>exact (RepU.v.1 h).2
 | self=>cases p<;>exact h.elim
 | u sh=>
  cases p with
  | sc u=>exact h.2
  | lst sz es=>rcases h with⟨_,_,a,rfl⟩ | ⟨b,cap,cs,el,G,rfl,_⟩<;>rfl
  | cp _=>exact h.elim
  | clo _ _=>exact h.elim
  | mth _ _=>exact h.elim
theorem outRow_cons (sh:List Shp) (p:PV) (ps:List PV):outRow sh (p::ps)=outLV (shpAt sh 0) p::outRow sh.tail ps:=by
 cases sh<;>rfl
theorem outRow_len (sh:List Shp) (ps:List PV):(outRow sh ps).length=ps.length:=by
 induction ps generalizing sh with
 | nil=>cases sh<;>rfl
 | cons p ps ih=>rw[outRow_cons];simp[ih]
theorem RepUs.out {hp:Heap}:∀ {e:List PV}{sh:List Shp}{vs:List Value}{F:List Nat},RepUs K hp e sh vs F->∃us ws,vs=us++ws/\RepLs K N (outRow sh e) us
 | [],sh,vs,_,_=>⟨[],vs,rfl,by cases sh<;>rfl⟩
 | p::ps,sh,vs,F,⟨v,r,F1,F2,e1,e2,a,b⟩=>by
  obtain⟨us,ws,h1,h2⟩:=RepUs.out b
  rw[outRow_cons]
  exact⟨v::us,ws,by rw[e1,h1];rfl,v,us,rfl,a.out,h2⟩
theorem RepUs.outHole {hp:Heap}{o n:Nat}(hA:∃a cap,N.A o = .slice a n cap):∀ {e:List PV}{sh:List Shp}{vs:List Value}{F:List Nat}{off:Nat},RepUs K hp (e.set off (.sc (N.A o))) sh vs F->∃us ws,vs=us++ws/\RepLs K N ((outRow sh e).set off (.arr o n)) us
 | [],sh,vs,_,_,_=>⟨[],vs,rfl,by cases sh<;>rfl⟩
 | p::ps,sh,vs,F,0,⟨v,r,F1,F2,e1,e2,a,b⟩=>by
  obtain⟨us,ws,h1,h2⟩:=RepUs.out b
  rw[outRow_cons]
  have hv:v=N.A o:=by
   cases hs:shpAt sh 0 with
   | v=>rw[hs]at a;exact (RepU.v.1 a).2.1
   | u _=>rw[hs]at a;exact a.2.1
   | self=>rw[hs]at a;exact a.elim
  exact⟨v::us,ws,by rw[e1,h1];rfl,v,us,rfl,⟨hv,by rw[hv];exact hA⟩,h2⟩
 | p::ps,sh,vs,F,off+1,⟨v,r,F1,F2,e1,e2,a,b⟩=>by
  obtain⟨us,ws,h1,h2⟩:=RepUs.outHole hA b
  rw[outRow_cons]
  exact⟨v::us,ws,by rw[e1,h1];rfl,v,us,rfl,a.out,h2⟩
theorem row_out {hp:Heap}{sz:Nat}{sh:List Shp}{hole:Option (Nat×Nat×Nat×Nat)}{es:List (List PV)}{vs:List Value}{G:List Nat}{i:Nat}{e:List PV}(h:RepUR K hp sz sh (plug N hole es) vs G) (hk:holeOk N sh es hole) (he:es[i]?=some e):
  e.length=sz/\∃us ws,vs.drop (i*sz)=us++ws/\RepLs K N (rowLV sh hole i e) us:=by
 have plain:∀ (es':List (List PV)),es'[i]?=some e->RepUR K hp sz sh es' vs G->e.length=sz/\∃us ws,vs.drop (i*sz)=us++ws/\RepLs K N (outRow (ush sh) e) us:=fun es' h1 h2=>by
  obtain⟨q1,F',q2⟩:=h2.at h1
  exact⟨q1,q2.out⟩
 cases hole with
 | none=>exact plain es he h
 | some x=>
  obtain⟨j,off,o,n⟩:=x
  obtain⟨⟨e0,c0,k1,k2⟩,_,hA⟩:=hk
  simp only[plug,k1]at h
  have hj:j<es.length:=(lgs k1).1
  by_cases hij:j=i
  .subst hij
   rw[k1]at he;cases he
   obtain⟨q1,F',q2⟩:=h.at (i:=j) (e:=e.set off (.sc (N.A o))) (by simp[hj])
   simp only[rowLV,if_true]
   exact⟨by simpa using q1,q2.outHole hA⟩
  .simp only[rowLV,if_neg hij]
   exact plain _ (by rw[List.getElem?_set_ne hij];exact he) h
theorem outRow_toks (sh:List Shp) (e:List PV):LV.toksL (outRow sh e)=[]:=by
 induction e generalizing sh with
 | nil=>cases sh<;>rfl
 | cons p ps ih=>
  rw[outRow_cons]
  simp only[LV.toksL,ih,List.append_nil]
  cases shpAt sh 0<;>cases p<;>rfl
theorem outRow_flat (sh:List Shp) (e:List PV):(outRow sh e).all LV.flat=true:=by
 induction e generalizing sh with
 | nil=>cases sh<;>rfl
 | cons p ps ih=>
  rw[outRow_cons]
  simp only[List.all_cons,ih,Bool.and_true]
  cases shpAt sh 0<;>cases p<;>rfl
theorem set_toks {ls:List LV}{k:Nat}{l:LV}(h:LV.toksL ls=[]) (hl:l.toks=[]):LV.toksL (ls.set k l)=[]:=by
 refine List.eq_nil_iff_forall_not_mem.2 fun g hg=>?_
 obtain⟨c,hc,hg'⟩:=toksL_mem.1 hg
 rcases List.mem_or_eq_of_mem_set hc with hc | rfl
 .have:=toksL_mem.2 ⟨c,hc,hg'⟩;rw[h]at this;cases this
 .rw[hl]at hg';cases hg'
theorem rowLV_toks (sh:List Shp) (hole:Option (Nat×Nat×Nat×Nat)) (i:Nat) (e:List PV):LV.toksL (rowLV sh hole i e)=[]:=by
 unfold rowLV
 split
 .exact outRow_toks (ush sh) e
 .split
  .exact set_toks (outRow_toks (ush sh) e) rfl
  .exact outRow_toks (ush sh) e
theorem set_flat {ls:List LV}{k:Nat}{l:LV}(h:ls.all LV.flat=true) (hl:l.flat=true):(ls.set k l).all LV.flat=true:=by
 rw[List.all_eq_true]at *
 intro c hc
 rcases List.mem_or_eq_of_mem_set hc with hc | rfl
 .exact h c hc
 .exact hl
theorem rowLV_flat (sh:List Shp) (hole:Option (Nat×Nat×Nat×Nat)) (i:Nat) (e:List PV):(rowLV sh hole i e).all LV.flat=true:=by
 unfold rowLV
 split
 .exact outRow_flat (ush sh) e
 .split
  .exact set_flat (outRow_flat (ush sh) e) rfl
  .exact outRow_flat (ush sh) e
theorem ok_load (h:Rel nt F Wr K N a w s){n:Nat}{ag:Bool}{rd:Option Nat}{x:Opd}{X:Operand}{t:TypeId}{e:Eff}(he:evOp call s (.load n ag rd x)=some e)
  (ho:o.op = .load t X) (hc:(chkOpd x X&&chkLoad P t n ag)=true):OpOk P F Wr K a w s o e:=by
 simp only[bat]at hc
 simp only[evOp]at he
 obtain⟨lx,hlx,he⟩:=obs he
 obtain⟨h1,h2⟩:=h.opd hlx hc.1
 split at he
 .rename_i cs
  obtain⟨xs,rest,rfl,hl,he⟩:=takeN_some he
  obtain⟨l,hof,he⟩:=obs he
  simp only[pureE,osi]at he
  subst he
  obtain⟨b,off,e1,hrow⟩:=h1
  obtain⟨vs,hps,hk⟩:=hrow.split.1.vals
  obtain⟨v,hv,hrv,htk⟩:=run_loadAt (w:=w) (N:=N) hc.2 (vs:=vs) (by rw[hps.len];exact hl) (fun i u hu=>h.inv.sat _ _ _ (hk i u hu)) hof (map_pv_flat _) hps.lv
  exact OpOk.pure h (by simp[execOp,ho,e1,hv]) hrv (fun g hg=>by have:=htk g hg;rw[map_pv_toks]at this;cases this)
 .rename_i o' off
  split at he
  case isFalse=>cases he
  obtain⟨ob,hob,he⟩:=obs he
  cases ob with
  | rows _ _ _ _=>simp at he
  | var cs=>
   simp only at he
   obtain⟨xs,rest,hcs,hl,he⟩:=takeL_some he
   obtain⟨l,hof,he⟩:=obs he
   simp only[pureE,osi]at he
   subst he
   simp only[RepL]at h1
   have hm:=aget_mem hob
   obtain⟨t1,t2⟩:=(h.inv.objs _ hm).1
   rcases t1 with⟨vs,el,G,hh,_,hr,_⟩ | ⟨e,_⟩
   case inr=>exact e.elim
   obtain⟨F',hd⟩:=hr.drop off
   rw[hcs]at hd
   obtain⟨vs1,vs2,e3,hr1⟩:=hd.vals
   have hf1:xs.all LV.flat=true:=by
    have:=flat_drop t2 off
    rw[hcs,List.all_append,bat]at this
    exact this.1
   obtain⟨v,hv,hrv,htk⟩:=run_loadAt (P:=P) (w:=w) (N:=N) (b:=N.M o') (off:=off) hc.2 (vs:=vs1) (by rw[hr1.len];simpa using hl)
    (fun i u hu=>by
     simp only[hcell,hh,List.getElem?_toArray]
     have:vs[off+i]?=(vs.drop off)[i]?:=by simp
     rw[this,e3,List.getElem?_append_left (lgs hu).1];exact hu) hof (flat_unbox _ hf1) hr1
   refine OpOk.pure h (by simp[execOp,ho,h1,hv]) hrv fun g hg => .inr ⟨_,hm,?_⟩
   obtain⟨c,hc1,hc2⟩:=toksL_mem.1 (toks_unbox (htk g hg))
   exact toksL_mem.2 ⟨c,List.mem_of_mem_drop (i:=off) (by show c∈List.drop off cs;rw[hcs];simp[hc1]),hc2⟩
 .rename_i o' i off
  split at he
  case isFalse=>cases he
  obtain⟨ob,hob,he⟩:=obs he
  cases ob with
  | var _=>simp at he
  | rows sz es sh hole=>
   simp only at he
   obtain⟨e0,hrow,he⟩:=obs he
   obtain⟨xs,rest,hcs,hl,he⟩:=takeL_some he
   obtain⟨l,hof,he⟩:=obs he
   simp only[pureE,osi]at he
   subst he
   simp only[RepL]at h1
   have hm:=aget_mem hob
   obtain⟨t1,hS,hk⟩:=(h.inv.objs _ hm).1
   rcases t1 with⟨vs,el,G,hh,_,hr,_⟩ | ⟨⟨e,_⟩,_⟩
   case inr=>rw[e]at hrow;simp at hrow
   simp only at hh hS hk hr
   obtain⟨q1,us,ws,q2,q3⟩:=row_out hr hk hrow
   have hd:=q3.drop off
   rw[hcs]at hd
   obtain⟨vs1,vs2,e3,hr1,_⟩:=hd.split
   have hf1:xs.all LV.flat=true:=by
    have:=flat_drop (rowLV_flat sh hole i e0) off
    rw[hcs,List.all_append,bat]at this
    exact this.1
   have htx:LV.toksL xs=[]:=by
    refine List.eq_nil_iff_forall_not_mem.2 fun g hg=>?_
    obtain⟨c,hc1,hc2⟩:=toksL_mem.1 hg
    have:g∈LV.toksL (rowLV sh hole i e0):=toksL_mem.2 ⟨c,List.mem_of_mem_drop (i:=off) (by rw[hcs];simp[hc1]),hc2⟩
    rw[rowLV_toks]at this;cases this
   obtain⟨v,hv,hrv,htk⟩:=run_loadAt (P:=P) (w:=w) (N:=N) (b:=N.M o') (off:=i*sz+off) hc.2 (vs:=vs1) (by rw[hr1.len];exact hl)
    (fun j u hu=>by
     simp only[hcell,hh,List.getElem?_toArray]
     have h3:vs[i*sz+off+j]?=((vs.drop (i*sz)).drop off)[j]?:=by simp[Nat.add_assoc]
     have hj:j<vs1.length:=(lgs hu).1
     have h4:off+j<us.length:=by
      have:=congrArg List.length e3
      simp at this
      omega
     rw[h3,q2,List.getElem?_drop,List.getElem?_append_left h4]
     have h5:us[off+j]?=(us.drop off)[j]?:=by simp
     rw[h5,e3,List.getElem?_append_left hj];exact hu) hof hf1 hr1
   refine OpOk.pure h (by simp[execOp,ho,h1,hS,hv]) hrv fun g hg=>?_
   have:=htk g hg
   rw[htx]at this;cases this
 .simp at he
def chkField (P:Program) (t:TypeId) (f off:Nat):Bool:=
 match P.underlying t with
 | some (.struct fs)=>match fs[f]? with
  | some fd=>fd.offset == off&&(match szOf P fd.type with | some n=>n != 0 | none=>false)
  | none=>false
 | _=>false
theorem chkField_eq {t:TypeId}{f off:Nat}(h:chkField P t f off=true):∃fs fd n,P.underlying t=some (.struct fs)/\fs[f]?=some fd/\fd.offset=off/\szOf P fd.type=some n/\n≠0:=by
 unfold chkField at h
 split at h
 .rename_i fs hfs
  split at h
  .rename_i fd hfd
   rw[bat]at h
   have h1:=eq_of_beq h.1
   have h2:=h.2
   split at h2
   .rename_i n hn
    exact⟨fs,fd,n,hfs,hfd,h1,hn,by simpa using h2⟩
   .cases h2
  .cases h
 .cases h
theorem run_fieldAt {t:TypeId}{f off:Nat}(hc:chkField P t f off=true) (b k:Nat):
  (Instr.fieldAt t (.pointer (some ⟨b,k,none⟩)) f).run P w = .ok (.pointer (some ⟨b,k+off,none⟩)) w:=by
 obtain⟨fs,fd,n,h1,h2,h3,h4,h5⟩:=chkField_eq hc
 simp[Instr.fieldAt,run_underlying h1,h2,Instr.sureAddr,fieldPlace,run_sizeOf h4,h5,addr_add,h3]
theorem RepRow.drop {cs:List PV}{b o:Nat}(h:RepRow K cs b o) (k:Nat):RepRow K (cs.drop k) b (o+k):=by
 induction cs generalizing o k with
 | nil=>simp[RepRow]
 | cons c cs ih=>
  cases k with
  | zero=>exact h
  | succ k=>have:=ih h.2 k;rw[show o+(k+1)=o+1+k by omega];simpa using this
theorem ok_faddr (h:Rel nt F Wr K N a w s){off:Nat}{x:Opd}{X:Operand}{t:TypeId}{f:Nat}{e:Eff}(he:evOp call s (.faddr off x)=some e)
  (ho:o.op = .fieldAddr t X f) (hc:(chkOpd x X&&chkField P t f off)=true):OpOk P F Wr K a w s o e:=by
 simp only[bat]at hc
 simp only[evOp]at he
 obtain⟨lx,hlx,he⟩:=obs he
 obtain⟨h1,h2⟩:=h.opd hlx hc.1
 split at he<;>simp only[pureE,osi,reduceCtorEq]at he<;>subst he
 .obtain⟨b,k,e1,hr⟩:=h1
  exact OpOk.pure h (by simp[execOp,ho,e1,run_fieldAt hc.2]) ⟨b,k+off,rfl,hr.drop off⟩ (by simp[LV.toks])
 .simp only[RepL]at h1
  exact OpOk.pure h (by simp[execOp,ho,h1,run_fieldAt hc.2]) rfl (by simp[LV.toks])
 .rename_i o' i k
  simp only[RepL]at h1
  exact OpOk.pure h (v := .pointer (some ⟨N.M o',i*N.S o'+k+off,none⟩)) (by simp[execOp,ho,h1,run_fieldAt hc.2]) (by simp[RepL,Nat.add_assoc]) (by simp[LV.toks])
def chkElem (P:Program) (t:TypeId) (sz:Nat):Bool:=
 match P.underlying t with
 | some (.slice e)=>(match szOf P e with | some n=>n == sz | none=>false)
 | _=>false
theorem chkElem_eq {t:TypeId}{sz:Nat}(h:chkElem P t sz=true):∃e,P.underlying t=some (.slice e)/\szOf P e=some sz:=by
 unfold chkElem at h
 split at h
 .rename_i e he
  split at h
  .rename_i n hn;have:=eq_of_beq h;subst this;exact⟨e,he,hn⟩
  .cases h
 .cases h
theorem RepRows.at {sz:Nat}{es:List (List PV)}{b o:Nat}(h:RepRows K sz es b o) (i:Nat):RepRows K sz (es.drop i) b (o+i*sz):=by
 induction es generalizing o i with
 | nil=>simp[RepRows]
 | cons e es ih=>
  cases i with
  | zero=>simpa using h
  | succ i=>have:=ih h.2.2 i;rw[show o+(i+1)*sz=o+sz+i*sz by rw[Nat.succ_mul];omega];simpa using this
theorem RepRows.take {sz:Nat}{es:List (List PV)}{b o:Nat}(h:RepRows K sz es b o) (i:Nat):RepRows K sz (es.take i) b o:=by
 induction es generalizing o i with
 | nil=>simp[RepRows]
 | cons e es ih=>
  cases i with
  | zero=>simp[RepRows]
  | succ i=>exact⟨h.1,h.2.1,ih h.2.2 i⟩
theorem ok_iaddr (h:Rel nt F Wr K N a w s){sz:Nat}{rd:Option Nat}{x i:Opd}{X I:Operand}{t:TypeId}{e:Eff}(he:evOp call s (.iaddr sz rd x i)=some e)
  (ho:o.op = .indexAddr t X I) (hc:(chkOpd x X&&chkOpd i I&&chkElem P t sz)=true):OpOk P F Wr K a w s o e:=by
 simp only[bat]at hc
 simp only[evOp]at he
 obtain⟨n,hn,he⟩:=obs he
 obtain⟨k,ei⟩:=opt_int_rep h hn hc.1.2
 obtain⟨el,t1,t2⟩:=chkElem_eq hc.2
 obtain⟨lx,hlx,he⟩:=obs he
 obtain⟨h1,h2⟩:=h.opd hlx hc.1.1
 split at he
 .rename_i o' m
  split at he
  .rename_i hb0
   have hb:=hb0.2
   obtain⟨ob,hob,he⟩:=obs he
   cases ob with
   | var _=>simp at he
   | rows z es sh hole=>
    simp only at he
    by_cases hz':z=sz/\(n<m\/n<es.length)
    case neg=>rw[if_neg hz']at he;simp at he
    rw[if_pos hz']at he
    obtain⟨hz,hl⟩:=hz'
    simp only[pureE,osi]at he
    subst he
    subst hz
    obtain⟨h1,a',cap',h1'⟩:=h1
    obtain⟨t1,hS,_⟩:=(h.inv.objs _ (aget_mem hob)).1
    simp only at hS t1
    rcases t1 with⟨vs,el',G,hh,_,_,cap,hA,_⟩ | ⟨⟨_,hA⟩,_⟩
    .rw[h1,hA]at h1'
     cases h1'
     have hb:0<=n/\n<es.length:=⟨hb,hl.elim id id⟩
     refine OpOk.pure h (v := .pointer (some ⟨N.M o',n.toNat*z,none⟩)) ?_ (by simp[RepL,hS]) (by simp[LV.toks])
     simp[execOp,ho,ei,h1,hA,Instr.indexAt,asIntOf,run_underlying t1,hb,run_sizeOf t2,addr_add]
    .rename_i hes
     rw[h1,hA]at h1'
     cases h1'
     rw[hes]at hl
     simp at hl
     omega
  .simp at he
 .obtain⟨r,hr,he⟩:=obs he
  split at he
  .rename_i hb
   obtain⟨c,hcc,he⟩:=obs he
   simp only[pureE,osi]at he
   subst he
   obtain⟨rfl,h0⟩:=hb
   obtain⟨ba,len,cap,e1,e2,_,hrows⟩:=lst?_rep hr h1
   obtain⟨hlt,hce⟩:=lgs hcc
   rcases hrows with hnil | ⟨b,off,e3,hrows⟩
   .rw[hnil]at hlt;simp at hlt
   .have hat:=hrows.at n.toNat
    rw[List.drop_eq_getElem_cons hlt,hce]at hat
    refine OpOk.pure h (v := .pointer (some ⟨b,off+n.toNat*r.1,none⟩)) ?_ ⟨b,_,rfl,hat.2.1⟩ (by simp[LV.toks])
    have hlt':n<len:=by rw[e2];omega
    simp[execOp,ho,ei,e1,e3,Instr.indexAt,asIntOf,run_underlying t1,h0,hlt',run_sizeOf t2,addr_add]
  .simp at he
end
open Go.RowKit
section
variable {call:CallF}{P:Program}{nt:Nat}{F:Fr}{Wr:Nat->Prop}{K:Know}{N:Names}{a:Act}{w:World}{s:LSt}{o:Oper}
def chkPart (P:Program) (t:TypeId) (f off n:Nat) (ag:Bool):Bool:=
 match P.underlying t with
 | some (.struct fs)=>match fs[f]? with
  | some fd=>fd.offset == off&&chkLoad P fd.type n ag
  | none=>false
 | _=>false
theorem chkPart_eq {t:TypeId}{f off n:Nat}{ag:Bool}(h:chkPart P t f off n ag=true):∃fs fd,P.underlying t=some (.struct fs)/\fs[f]?=some fd/\fd.offset=off/\chkLoad P fd.type n ag=true:=by
 unfold chkPart at h
 split at h
 .rename_i fs hfs
  split at h
  .rename_i fd hfd
   rw[bat]at h
   exact⟨fs,fd,hfs,hfd,eq_of_beq h.1,h.2⟩
  .cases h
 .cases h
theorem ok_field (h:Rel nt F Wr K N a w s){off n f:Nat}{ag:Bool}{x:Opd}{X:Operand}{t:TypeId}{e:Eff}(he:evOp call s (.field off n ag x)=some e)
  (ho:o.op = .field t X f) (hc:(chkOpd x X&&chkPart P t f off n ag)=true):OpOk P F Wr K a w s o e:=by
 simp only[bat]at hc
 obtain⟨fs,fd,t1,t2,t3,t4⟩:=chkPart_eq hc.2
 obtain⟨l1,l2,l3⟩:=chkLoad_eq t4
 simp only[evOp]at he
 obtain⟨lx,hlx,he⟩:=obs he
 obtain⟨h1,h2⟩:=h.opd hlx hc.1
 split at he<;>(try simp only[reduceCtorEq]at he)
 rename_i ls
 obtain⟨xs,rest,hcs,hl,he⟩:=takeL_some he
 obtain⟨l,hof,he⟩:=obs he
 simp only[pureE,osi]at he
 subst he
 obtain⟨vs,e1,hf,hr⟩:=h1
 have hd:=hr.drop off
 rw[hcs]at hd
 obtain⟨vs1,vs2,e3,hr1,_⟩:=hd.split
 have hf1:xs.all LV.flat=true:=by
  have:=flat_drop hf off
  rw[hcs,List.all_append,bat]at this
  exact this.1
 have htk:∀g∈LV.toksL xs,Occ (pairs a s.env) s.objs g:=fun g hg=>h2 g (by
  obtain⟨c,hc1,hc2⟩:=toksL_mem.1 hg
  simp only[LV.toks]
  exact toksL_mem.2 ⟨c,List.mem_of_mem_drop (i:=off) (by rw[hcs];simp[hc1]),hc2⟩)
 have hvl:vs1.length=n:=by rw[hr1.len];exact hl
 cases ag with
 | true=>
  simp only[ofCells,if_true,osi]at hof
  subst hof
  refine OpOk.pure h (v := .agg vs1.toArray) ?_ ⟨vs1,rfl,hf1,hr1⟩ (by simpa[LV.toks]using htk)
  have hx:List.take n (List.drop off vs)=vs1:=by rw[e3,<-hvl,List.take_left]
  simp[execOp,ho,e1,Instr.field,run_underlying t1,t2,part,asAgg,run_isAgg l1,run_sizeOf (l2 rfl),t3,hx]
 | false=>
  have hn:=l3 rfl
  subst hn
  obtain⟨v,rfl⟩:=List.length_eq_one_iff.1 hvl
  obtain⟨y,rfl⟩:=List.length_eq_one_iff.1 hl
  simp only[ofCells,Bool.false_eq_true,if_false,osi]at hof
  subst hof
  obtain⟨v',r',ev,hy,_⟩:=hr1
  simp at ev
  obtain⟨rfl,rfl⟩:=ev
  refine OpOk.pure h (v:=v) ?_ hy (fun g hg=>htk g (by simp[LV.toksL,hg]))
  have hx:vs[off]?=some v:=by
   have:vs[off]?=(vs.drop off)[0]?:=by simp
   rw[this,e3];rfl
  simp[execOp,ho,e1,Instr.field,run_underlying t1,t2,part,asAgg,run_isAgg l1,t3,hx]
def OptInt:Option Value->Option Int->Prop
 | none,none=>True
 | some v,some i=>∃k,v = .int k i
 | _,_=>False
def chkOptOpd (x:Option Opd) (X:Option Operand):Bool:=match x,X with | none,none=>true | some x,some X=>chkOpd x X | _,_=>false
theorem optMap (h:Rel nt F Wr K N a w s){x:Option Opd}{X:Option Operand}{i:Option Int}(he:s.optInt x=some i) (hc:chkOptOpd x X=true):OptInt (X.map a.eval) i:=by
 cases x with
 | none=>
  cases X with
  | none=>simp[LSt.optInt]at he;subst he;trivial
  | some _=>simp[chkOptOpd]at hc
 | some x=>
  cases X with
  | none=>simp[chkOptOpd]at hc
  | some X=>
   simp only[LSt.optInt]at he
   obtain⟨j,hj,he⟩:=obs he
   simp only[osi]at he
   subst he
   exact opt_int_rep h hj hc
theorem run_bounds {isSlice:Bool}{len cap:Nat}{lo hi:Option Value}{l h:Option Int}(hl:OptInt lo l) (hh:OptInt hi h) (hlc:len<=cap)
  (hb:0<=l.getD 0/\l.getD 0<=h.getD len/\h.getD len<=len):
  (Instr.sliceBounds isSlice len cap lo hi none).run P w = .ok ((l.getD 0).toNat,(h.getD len).toNat,cap) w:=by
 cases h with
 | none=>
  cases hi with
  | some v=>exact hh.elim
  | none=>
   simp only[Option.getD_none]at hb ⊢
   cases l with
   | none=>
    cases lo with
    | some v=>exact hl.elim
    | none=>simp[Instr.sliceBounds]
   | some j=>
    cases lo with
    | none=>exact hl.elim
    | some v=>
     obtain⟨k,rfl⟩:=hl
     simp only[Option.getD_some]at hb ⊢
     have h1:0<=j/\j<=(len:Int):=by omega
     simp[Instr.sliceBounds,Instr.sliceBound,asIntOf,h1]
 | some i=>
  cases hi with
  | none=>exact hh.elim
  | some v=>
   obtain⟨k,rfl⟩:=hh
   simp only[Option.getD_some]at hb ⊢
   have h2:0<=i/\i<=(cap:Int):=by omega
   cases l with
   | none=>
    cases lo with
    | some v=>exact hl.elim
    | none=>simp[Instr.sliceBounds,Instr.sliceBound,asIntOf,h2]
   | some j=>
    cases lo with
    | none=>exact hl.elim
    | some v=>
     obtain⟨k',rfl⟩:=hl
     simp only[Option.getD_some]at hb ⊢
     have h1:0<=j/\j<=max i 0:=by omega
     simp[Instr.sliceBounds,Instr.sliceBound,asIntOf,h2,h1]
theorem ok_slice (h:Rel nt F Wr K N a w s){sz:Nat}{lo hi:Option Opd}{x:Opd}{X:Operand}{LO HI:Option Operand}{t:TypeId}{e:Eff}(he:evOp call s (.slice sz lo hi x)=some e)
  (ho:o.op = .slice t X LO HI none) (hc:(chkOpd x X&&chkOptOpd lo LO&&chkOptOpd hi HI&&chkElem P t sz)=true):OpOk P F Wr K a w s o e:=by
 simp only[bat]at hc
 obtain⟨el,t1,t2⟩:=chkElem_eq hc.2
 simp only[evOp]at he
 obtain⟨l,hl,he⟩:=obs he
 obtain⟨hh,hhi,he⟩:=obs he
 obtain⟨lx,hlx,he⟩:=obs he
 obtain⟨r,hr,he⟩:=obs he
 by_cases hz:r.1=sz
 case neg=>rw[if_neg hz]at he;simp at he
 rw[if_pos hz]at he
 obtain⟨lr,hlr,he⟩:=obs he
 simp only[pureE,osi]at he
 subst he
 unfold sliceL at hlr
 simp only at hlr
 split at hlr<;>simp only[osi,reduceCtorEq]at hlr
 rename_i hb
 subst hlr
 obtain⟨h1,h2⟩:=h.opd hlx hc.1.1.1
 obtain⟨ba,len,cap,e1,e2,e3,hrows⟩:=lst?_rep hr h1
 rw[<-e2]at hb
 have hbd:=run_bounds (P:=P) (w:=w) (isSlice:=true) (len:=len) (cap:=cap) (optMap h hl hc.1.1.2) (optMap h hhi hc.1.2) e3 hb
 refine OpOk.pure h (v := .slice (if cap=(l.getD 0).toNat then ba else ba.map (·.add ((l.getD 0).toNat*sz))) ((hh.getD len).toNat-(l.getD 0).toNat) (cap-(l.getD 0).toNat)) ?_ ?_ (by simp[LV.toks])
 .simp[execOp,ho,e1,Instr.sliceAt,Instr.slice,run_underlying t1,hbd,run_sizeOf t2]
 .rw[<-e2]
  refine⟨_,_,_,rfl,by simp[<-e2];omega,by omega,?_⟩
  rcases hrows with hn | ⟨b,off,eb,hrows⟩
  .exact .inl (by rw[hn];simp)
  .by_cases hcl:cap=(l.getD 0).toNat
   .left
    have:len<=(l.getD 0).toNat:=by omega
    rw[List.drop_of_length_le (by omega)];simp
   .right
    refine⟨b,off+(l.getD 0).toNat*sz,by rw[if_neg hcl,eb];simp[addr_add],?_⟩
    rw[<-hz]
    exact (hrows.at _).take _
theorem ok_sliceS (h:Rel nt F Wr K N a w s){lo hi:Option Opd}{x:Opd}{X:Operand}{LO HI:Option Operand}{t:TypeId}{e:Eff}(he:evOp call s (.sliceS lo hi x)=some e)
  (ho:o.op = .slice t X LO HI none) (hc:(chkOpd x X&&chkOptOpd lo LO&&chkOptOpd hi HI&&stringTy P t)=true):OpOk P F Wr K a w s o e:=by
 simp only[bat]at hc
 have t1:=stringTy_eq hc.2
 simp only[evOp]at he
 obtain⟨l,hl,he⟩:=obs he
 obtain⟨hh,hhi,he⟩:=obs he
 obtain⟨lx,hlx,he⟩:=obs he
 obtain⟨r,hr,he⟩:=obs he
 obtain⟨lr,hlr,he⟩:=obs he
 simp only[pureE,osi]at he
 subst he
 unfold sliceS at hlr
 simp only at hlr
 split at hlr<;>simp only[osi,reduceCtorEq]at hlr
 rename_i hb
 subst hlr
 have ev:=str?_rep hr (h.opd hlx hc.1.1.1).1
 have hbd:=run_bounds (P:=P) (w:=w) (isSlice:=false) (len:=r.size) (cap:=r.size) (optMap h hl hc.1.1.2) (optMap h hhi hc.1.2) (Nat.le_refl _) hb
 exact OpOk.pure h (by simp[execOp,ho,ev,Instr.sliceAt,Instr.slice,run_underlying t1,hbd]) (RepL.sc rfl) (by simp[LV.toks])
theorem toPVs_rep {ls:List LV}:∀ {ps:List PV}{vs:List Value},toPVs ls=some ps->RepLs K N ls vs->RepPs K ps vs:=by
 induction ls with
 | nil=>intro ps vs h hr;simp[toPVs]at h;subst h;exact hr
 | cons l ls ih=>
  rintro ps vs h ⟨v,r,rfl,hv,hr⟩
  simp only[toPVs]at h
  obtain⟨p,hp,h⟩:=obs h
  obtain⟨q,hq,h⟩:=obs h
  simp only[osi]at h
  subst h
  refine⟨v,r,rfl,?_,ih hq hr⟩
  unfold LV.toPV at hp
  split at hp<;>simp only[osi,reduceCtorEq]at hp<;>subst hp
  .exact hv
  .exact⟨none,0,0,hv,rfl,Nat.le_refl _,.inl rfl⟩
  .exact hv.1
  .exact hv.2.2
theorem opds_rep (h:Rel nt F Wr K N a w s):∀ {xs:List Opd}{Xs:List Operand}{ls:List LV},s.opds xs=some ls->chkOpds xs Xs=true ->
  RepLs K N ls (Xs.map a.eval)/\∀g∈LV.toksL ls,Occ (pairs a s.env) s.objs g:=by
 intro xs
 induction xs with
 | nil=>
  intro Xs ls he hc
  cases Xs with
  | nil=>simp[LSt.opds]at he;subst he;exact⟨rfl,by simp[LV.toksL]⟩
  | cons _ _=>simp[chkOpds]at hc
 | cons x xs ih=>
  intro Xs ls he hc
  cases Xs with
  | nil=>simp[chkOpds]at hc
  | cons X Xs=>
   simp only[chkOpds,bat]at hc
   simp only[LSt.opds]at he
   obtain⟨l,hl,he⟩:=obs he
   obtain⟨ls',hls,he⟩:=obs he
   simp only[osi]at he
   subst he
   obtain⟨a1,a2⟩:=h.opd hl hc.1
   obtain⟨b1,b2⟩:=ih hls hc.2
   refine⟨⟨_,_,rfl,a1,b1⟩,fun g hg=>?_⟩
   simp only[LV.toksL,List.mem_append]at hg
   exact hg.elim (a2 g) (b2 g)
theorem ok_mkfn (h:Rel nt F Wr K N a w s){f:Nat}{caps:List Opd}{CS:Array Operand}{e:Eff}(he:evOp call s (.mkfn f caps)=some e)
  (ho:o.op = .makeFunc (.func f) #[] CS) (hc:chkOpds caps CS.toList=true):OpOk P F Wr K a w s o e:=by
 simp only[evOp]at he
 obtain⟨ls,hls,he⟩:=obs he
 obtain⟨ps,hps,he⟩:=obs he
 simp only[pureE,osi]at he
 subst he
 have:=(opds_rep h hls hc).1
 refine OpOk.pure h (v := .func (.func f) #[] (CS.map a.eval)) (by simp[execOp,ho,Instr.makeFunc]) ⟨_,?_,toPVs_rep hps this⟩ (by simp[LV.toks])
 congr 1
 apply Array.toList_inj.1
 simp
theorem ok_mkmth (h:Rel nt F Wr K N a w s){f:Nat}{x:Opd}{X:Operand}{e:Eff}(he:evOp call s (.mkmth f x)=some e)
  (ho:o.op = .makeFunc (.func f) #[X] #[]) (hc:chkOpd x X=true):OpOk P F Wr K a w s o e:=by
 simp only[evOp]at he
 obtain⟨l,hl,he⟩:=obs he
 obtain⟨h1,_⟩:=h.opd hl hc
 split at he
 .rename_i ls
  split at he
  .obtain⟨ps,hps,he⟩:=obs he
   simp only[pureE,osi]at he
   subst he
   obtain⟨vs,e1,_,hr⟩:=h1
   exact OpOk.pure h (v := .func (.func f) #[.agg (List.toArray vs)] #[]) (by simp[execOp,ho,Instr.makeFunc,e1]) ⟨vs,rfl,toPVs_rep hps hr⟩ (by simp[LV.toks])
  .cases he
 .cases he
def bytesTy (P:Program) (t:TypeId):Bool:=match P.underlying t with | some (.slice e)=>intTy P e .u8 | _=>false
theorem bytesOf_rep {es:List (List PV)}:∀ {bs:List UInt8}{b o:Nat},bytesOf es=some bs->RepRows K 1 es b o->∃ns:List Int,ns.length=es.length/\bs=ns.map (fun n=>UInt8.ofNat n.toNat)/\∀i n,ns[i]?=some n->K b (o+i)=some (.int .u8 n):=by
 induction es with
 | nil=>intro bs b o h _;simp[bytesOf]at h;subst h;exact⟨[],rfl,rfl,by simp⟩
 | cons e es ih=>
  intro bs b o h hr
  unfold bytesOf at h
  split at h
  .rename_i heq;simp at heq
  .rename_i n r heq
   simp at heq
   obtain⟨rfl,rfl⟩:=heq
   obtain⟨bs',hbs,h⟩:=obs h
   simp only[osi]at h
   subst h
   obtain⟨_,⟨⟨u,hu,hru⟩,_⟩,hrest⟩:=hr
   obtain⟨ns,e1,e2,e3⟩:=ih hbs hrest
   refine⟨n::ns,by simp[e1],by simp[e2],?_⟩
   intro i m hm
   cases i with
   | zero=>simp at hm;subst hm;rw[Nat.add_zero,hu,hru.1]
   | succ i=>have:=e3 i m (by simpa using hm);rwa [show o+(i+1)=o+1+i by omega]
  .simp at h
theorem ok_toStr (h:Rel nt F Wr K N a w s){x:Opd}{X:Operand}{t t':TypeId}{e:Eff}(he:evOp call s (.toStr x)=some e)
  (ho:o.op = .convert t t' X) (hc:(chkOpd x X&&bytesTy P t&&stringTy P t'&&chkElem P t 1)=true):OpOk P F Wr K a w s o e:=by
 simp only[bat]at hc
 obtain⟨el,t1,t2⟩:=chkElem_eq hc.2
 have t3:=stringTy_eq hc.1.2
 have t4:P.underlying el=some (.int .u8):=by
  have:=hc.1.1.2
  unfold bytesTy at this
  rw[t1]at this
  exact intTy_eq this
 simp only[evOp]at he
 obtain⟨lx,hlx,he⟩:=obs he
 obtain⟨r,hr,he⟩:=obs he
 obtain⟨bs,hbs,he⟩:=obs he
 simp only[pureE,osi]at he
 subst he
 obtain⟨ba,len,cap,e1,e2,e3,hrows⟩:=lst?_rep hr (h.opd hlx hc.1.1.1).1
 have hconv:∀v:Value,(Conv.bytesToString (.slice ba len cap)).run P w = .ok v w->(execOp a.eval o).run P w = .ok (.value v) w:=by
  intro v hv
  simp[execOp,ho,e1,convert,run_underlying t1,run_underlying t3,run_underlying t4,hv]
 have hnil:r.2=[]->OpOk P F Wr K a w s o { dem:=[],upd:=[],val:=some (.pv (.sc (.string ⟨bs.toArray⟩))) }:=by
  intro hn
  rw[hn]at hbs e2
  simp[bytesOf]at hbs
  subst hbs
  refine OpOk.pure h (hconv _ ?_) (RepL.sc rfl) (by simp[LV.toks])
  simp at e2
  subst e2
  cases ba with
  | none=>simp[Conv.bytesToString];rfl
  | some ba=>
   exact run_bytesToString (P:=P) w ba 0 cap [] (by simp[loadCells,loadCellsFrom])
 rcases hrows with hn | ⟨b,off,eb,hrows⟩
 .exact hnil hn
 .by_cases hn:r.2=[]
  .exact hnil hn
  .have hsz:r.1=1:=by
    obtain⟨el',rest,hel⟩:=List.exists_cons_of_ne_nil hn
    rw[hel]at hbs hrows
    unfold bytesOf at hbs
    split at hbs
    .rename_i heq;simp at heq
    .rename_i n r' heq
     simp at heq
     obtain⟨rfl,rfl⟩:=heq
     exact hrows.1.symm
    .simp at hbs
   rw[hsz]at hrows
   obtain⟨ns,n1,n2,n3⟩:=bytesOf_rep hbs hrows
   subst eb
   refine OpOk.pure h (hconv (.string ⟨bs.toArray⟩) ?_) (RepL.sc rfl) (by simp[LV.toks])
   have hlen:len=ns.length:=by rw[e2,n1]
   have hl:=run_loadCells_list (P:=P) (w:=w) ⟨b,off,none⟩ (ns.map (Value.int .u8)) (by
    intro j v hj
    rw[addr_add,cell?_heap]
    rw[List.getElem?_map]at hj
    obtain⟨m,hm,rfl⟩:=Option.map_eq_some_iff.1 hj
    exact h.inv.sat _ _ _ (n3 j m hm))
   rw[List.length_map,<-hlen]at hl
   rw[run_bytesToString w ⟨b,off,none⟩ len cap ns hl]
   congr 2
   have hfold:∀ (ns:List Int) (acc:ByteArray),ns.foldl (fun r n=>r.push (UInt8.ofNat n.toNat)) acc=⟨(acc.data.toList++ns.map (fun n=>UInt8.ofNat n.toNat)).toArray⟩:=by
    intro ns
    induction ns with
    | nil=>intro acc;simp
    | cons n ns ih=>intro acc;rw[List.foldl_cons,ih];simp[ByteArray.push]
   rw[hfold,n2]
   rfl
end
open Go.RowKit
section
variable {call:CallF}{P:Program}{nt:Nat}{F:Fr}{Wr:Nat->Prop}{K:Know}{N:Names}{a:Act}{w:World}{s:LSt}{o:Oper}
theorem HExt.push (h:Heap) (x:Go.Obj):HExt h (h.push x):=by
 intro b y hb
 have:=(ags hb).1
 rw[Array.getElem?_push]
 have:b≠h.size:=by omega
 simp[this,hb]
theorem push_new (h:Heap) (x:Go.Obj):(h.push x)[h.size]?=some x:=by simp
theorem Keep.alloc (w:World) (x:Go.Obj):Keep Wr w (w.alloc x):=
 ⟨rfl,rfl,rfl,by simp,fun b hb _=>Go.heap_alloc_old w x hb⟩
theorem Keep.drew (w:World):Keep Wr w w.drew:=⟨rfl,rfl,rfl,Nat.le_refl _,fun _ _ _=>rfl⟩
theorem Keep.setRow (w:World) (g:Nat) (cs:Array Value) (hg:Wr g):Keep Wr w (w.setRow g cs):=
 ⟨rfl,rfl,rfl,by simp,fun b _ hb=>setRow_other w g b cs (fun e=>hb (e▸hg))⟩
def zeroLV:LV->Value->Bool
 | .pv (.sc u),v=>scEq u v
 | .nils _,.slice none 0 0=>true
 | _,_=>false
def zerosLV:List LV->List Value->Bool
 | [],[]=>true
 | l::ls,v::vs=>zeroLV l v&&zerosLV ls vs
 | _,_=>false
theorem zeroLV_rep {l:LV}{v:Value}(h:zeroLV l v=true):RepL K N l v/\l.flat=true/\l.toks=[]/\l.names=[]:=by
 unfold zeroLV at h
 split at h
 .obtain⟨rfl,h1⟩:=scEq_eq h;exact⟨⟨rfl,h1⟩,rfl,rfl,rfl⟩
 .exact⟨rfl,rfl,rfl,rfl⟩
 .cases h
theorem zerosLV_rep {ls:List LV}:∀ {vs:List Value},zerosLV ls vs=true->RepLs K N ls vs/\ls.all LV.flat=true/\LV.toksL ls=[]/\LV.namesL ls=[]:=by
 induction ls with
 | nil=>
  intro vs h
  cases vs with
  | nil=>exact⟨rfl,rfl,rfl,rfl⟩
  | cons _ _=>simp[zerosLV]at h
 | cons l ls ih=>
  intro vs h
  cases vs with
  | nil=>simp[zerosLV]at h
  | cons v vs=>
   simp only[zerosLV,bat]at h
   obtain⟨a1,a2,a3,a4⟩:=zeroLV_rep (K:=K) (N:=N) h.1
   obtain⟨b1,b2,b3,b4⟩:=ih h.2
   exact⟨⟨v,vs,rfl,a1,b1⟩,by simp[a2];exact List.all_eq_true.1 b2,by simp[LV.toksL,a3,b3],by simp[LV.namesL,a4,b4]⟩
def zeroCs:List LV->List Value->Bool
 | [],[]=>true
 | .box 0 es _::ls,.slice none 0 0::vs=>es.isEmpty&&zeroCs ls vs
 | l::ls,v::vs=>zeroLV l v&&zeroCs ls vs
 | _,_=>false
theorem zeroCs_rep {hp:Heap}:∀ {ls:List LV}{vs:List Value},zeroCs ls vs=true->RepCs K N hp ls vs []/\vs.length=ls.length/\ls.all LV.flat=true/\LV.toksL ls=[]/\LV.namesL ls=[]
 | [],[],_=>⟨rfl,rfl,rfl,rfl,rfl⟩
 | [],_::_,h=>by simp[zeroCs]at h
 | _::_,[],h=>by unfold zeroCs at h;split at h<;>simp_all
 | l::ls,v::vs,h=>by
  have key:∀ {l:LV}{v:Value},RepC K N hp l v []->l.flat=true->l.toks=[]->l.names=[]->zeroCs ls vs=true ->
    RepCs K N hp (l::ls) (v::vs) []/\(v::vs).length=(l::ls).length/\(l::ls).all LV.flat=true/\LV.toksL (l::ls)=[]/\LV.namesL (l::ls)=[]:=by
   intro l v a1 a2 a3 a4 h
   obtain⟨b1,b2,b3,b4,b5⟩:=zeroCs_rep h
   exact⟨⟨v,vs,[],[],rfl,rfl,a1,b1⟩,by simp[b2],by simp[a2];exact List.all_eq_true.1 b3,by simp[LV.toksL,a3,b4],by simp[LV.namesL,a4,b5]⟩
  unfold zeroCs at h
  split at h
  .rename_i hh _;cases hh
  .rename_i es sh ls' vs' e1 e2
   cases e1
   cases e2
   simp only[bat,List.isEmpty_iff]at h
   obtain⟨rfl,h⟩:=h
   exact key ⟨[],rfl,.inl ⟨rfl,rfl,rfl⟩⟩ rfl rfl rfl h
  .rename_i e1 e2
   cases e1
   cases e2
   simp only[bat]at h
   obtain⟨a1,a2,a3,a4⟩:=zeroLV_rep (K:=K) (N:=N) h.1
   exact key (RepC.of a1) a2 a3 a4 h.2
  .cases h
def chkZeroA (P:Program) (t:TypeId) (zs:List LV):Bool:=
 match P.info? t with
 | some i=>match i.zero with
  | some z=>zeroCs zs z.cells.toList
  | none=>false
 | none=>false
def chkZero (P:Program) (t:TypeId) (zs:List LV):Bool:=
 match P.info? t with
 | some i=>match i.zero with
  | some z=>zerosLV zs z.cells.toList
  | none=>false
 | none=>false
theorem chkZero_eq {t:TypeId}{zs:List LV}(h:chkZero P t zs=true):∃i z,P.info? t=some i/\i.zero=some z/\zerosLV zs z.cells.toList=true:=by
 unfold chkZero at h
 split at h
 .rename_i i hi
  split at h
  .rename_i z hz;exact⟨i,z,hi,hz,h⟩
  .cases h
 .cases h
theorem chkZeroA_eq {t:TypeId}{zs:List LV}(h:chkZeroA P t zs=true):∃i z,P.info? t=some i/\i.zero=some z/\zeroCs zs z.cells.toList=true:=by
 unfold chkZeroA at h
 split at h
 .rename_i i hi
  split at h
  .rename_i z hz;exact⟨i,z,hi,hz,h⟩
  .cases h
 .cases h
theorem noName_spec {o':Nat}(h:noName s o'=true):(∀x∈s.env,o'∉x.2.names)/\(∀x∈s.objs,o'∉LV.namesL x.2.cells)/\(∀x∈s.objs,x.1≠o')/\o'∉s.fix:=by
 simp only[noName,bat,List.all_eq_true]at h
 exact⟨fun x hx=>by simpa using h.1.2 x hx,fun x hx=>by simpa using (h.2 x hx).2,fun x hx=>by simpa using (h.2 x hx).1,by simpa using h.1.1⟩
theorem opd_names {o':Nat}(h:noName s o'=true){x:Opd}{l:LV}(he:s.opd x=some l):o'∉l.names:=by
 cases x with
 | t n=>exact (noName_spec h).1 _ (aget_mem he)
 | c v=>simp only[LSt.opd,osi]at he;subst he;simp[LV.names]
 | nil sz=>simp only[LSt.opd,osi]at he;subst he;simp[LV.names]
 | f n=>simp only[LSt.opd,osi]at he;subst he;simp[LV.names]
theorem OpOk.obj (h:Rel nt F Wr K N a w s) {o' b z:Nat}{A:Value}{Fs:List Nat}{x:Go.Proofs.YtpgmljkhleidjaaGreatDoor.LM.Obj}{v:Value}{l:LV}{w':World}(hn:noName s o'=true) (hr:(execOp a.eval o).run P w = .ok (.value v) w')
  (hw:HExt w.heap w'.heap) (hk:Keep Wr w w') (hat:ObjAt K (N.setO o' b z A Fs) w'.heap o' x) (hnd:Fs.Nodup) (hF:∀b∈Fs,w.heap.size<=b)
  (ht:∀g∈LV.toksL x.cells,Occ (pairs a s.env) s.objs g)
  (hv:RepL K (N.setO o' b z A Fs) l v) (hl:l.toks=[]):OpOk P F Wr K a w s o { dem:=[],upd:=[(o',some x)],val:=some l }:=by
 obtain⟨n1,n2,n3,n4⟩:=noName_spec hn
 refine⟨v,w',K,N.setO o' b z A Fs,.inl hr,KExt.refl,hk,?_,fun x hx=>by
  have:x≠o':=fun e=>n4 (by rw[h.fx];exact e▸hx)
  simp only[Names.at,Names.setO,this,if_false];exact h.pin x hx⟩
 simp only[demPairs_nil,demMap_nil,updObjs,Option.toList_some,List.map_cons,List.map_nil,List.cons_append,List.nil_append]
 have h2:=h.inv.newObj (o:=o') (b:=b) (z:=z) (v:=A) (F:=Fs) (h':=w'.heap) hw
  (fun p hp=>by obtain⟨y,hy,rfl⟩:=List.mem_map.1 hp;exact n1 y hy) n2 n3 hat hnd (fun b hb=>⟨hF b hb,h.new _ (hF b hb)⟩) ht
 have h3:=h2.add (l:=l) hv (by simp[hl])
 exact h3.sub (fun _ hp=>hp) fun y hy=>by
  rcases aset_mem hy with rfl | ⟨hy,_⟩
  .simp
  .simp[hy]
theorem OpOk.var (h:Rel nt F Wr K N a w s) {o':Nat}{cs:List LV}{vs:List Value}{el:TypeId}{w':World}(hn:noName s o'=true) (hr:(execOp a.eval o).run P w = .ok (.value (.pointer (some ⟨w.heap.size,0,none⟩))) w')
  (hw:w'.heap=w.heap.push (.cells (List.toArray vs) el (0,0))) (hk:Keep Wr w w') (hx:RepCs K N w'.heap cs vs []) (hl:vs.length=cs.length) (hf:cs.all LV.flat=true) (hel:el=o'/1024)
  (ht:∀g∈LV.toksL cs,Occ (pairs a s.env) s.objs g) (hnm:o'∉LV.namesL cs):OpOk P F Wr K a w s o { dem:=[],upd:=[(o',some (.var cs))],val:=some (.ref o' 0) }:=by
 refine OpOk.obj h (b:=w.heap.size) (z:=0) (A := .bool false) (Fs:=[w.heap.size]) hn hr (by rw[hw];exact HExt.push _ _) hk ⟨.inl ⟨vs,el,[],?_,by simp[Names.setO],?_,hl,fun _ _=>hel⟩,hf⟩ (by simp) (by simp) ht (by simp[RepL,Names.setO]) rfl
 .rw[hw];simp only[Names.setO,if_true];exact push_new _ _
 .exact hx.named (Names.setO_agrees hnm)
theorem ok_alloc (h:Rel nt F Wr K N a w s) {o':Nat}{zs:List LV}{t:TypeId}{e:Eff}(he:evOp call s (.alloc o' zs)=some e)
  (ho:o.op = .alloc t) (hc:(chkZeroA P t zs&&t == o'/1024)=true):OpOk P F Wr K a w s o e:=by
 rw[bat]at hc
 obtain⟨i,z,hi,hz,hzs⟩:=chkZeroA_eq hc.1
 simp only[evOp]at he
 split at he<;>simp only[osi,reduceCtorEq]at he
 rename_i hn
 subst he
 obtain⟨r1,rl,r2,r3,r4⟩:=zeroCs_rep (K:=K) (N:=N) (hp:=(w.alloc (.cells z.cells t)).heap) hzs
 refine OpOk.var h hn (vs:=z.cells.toList) (el:=t) (w':=w.alloc (.cells z.cells t)) ?_ rfl (Keep.alloc _ _) r1 rl r2 (eq_of_beq hc.2)
  (by simp[r3]) (by simp[r4])
 simp[execOp,ho,Instr.alloc,zeroValue,typeInfo,hi,hz,newVar,newRow]
theorem repP_one {p:PV}{v:Value}(h:RepP K p v):v.oneCell'=true:=by
 cases p with
 | sc u=>exact h.1▸h.2
 | lst sz es=>obtain⟨a,len,cap,e,_⟩:=h;rw[e];rfl
 | cp cs=>obtain⟨b,o,e,_⟩:=h;rw[e];rfl
 | clo f cs=>obtain⟨vs,e,_⟩:=h;rw[e];rfl
 | mth f cs=>obtain⟨vs,e,_⟩:=h;rw[e];rfl
theorem repL_one {l:LV}{v:Value}(h:RepL K N l v) (hf:l.flat=true):v.oneCell'=true:=by
 cases l with
 | pv p=>exact repP_one h
 | nils sz=>simp only[RepL]at h;rw[h];rfl
 | nk b sz es=>exact repP_one h.1
 | own g sz es=>exact repP_one h.2.2
 | ref o k=>simp only[RepL]at h;rw[h];rfl
 | eref o i k=>simp only[RepL]at h;rw[h];rfl
 | arr o n=>obtain⟨_,a,c,e⟩:=h;rw[e];rfl
 | box _ _ _=>exact h.elim
 | dead=>exact h
 | agg ls=>cases hf
 | tup ls=>cases hf
 | clo f ls=>obtain⟨vs,e,_⟩:=h;rw[e];rfl
theorem repLs_one {ls:List LV}:∀ {vs:List Value},RepLs K N ls vs->ls.all LV.flat=true->∀v∈vs,v.oneCell'=true:=by
 induction ls with
 | nil=>intro vs h _ v hv;cases h;simp at hv
 | cons l ls ih=>
  rintro vs ⟨v,r,rfl,hv,hr⟩ hf u hu
  simp only[List.all_cons,bat]at hf
  cases hu with
  | head=>exact repL_one hv hf.1
  | tail _ hu=>exact ih hr hf.2 u hu
theorem repPs_one {ls:List PV}:∀ {vs:List Value},RepPs K ls vs->∀v∈vs,v.oneCell'=true:=by
 induction ls with
 | nil=>intro vs h v hv;cases h;simp at hv
 | cons l ls ih=>
  rintro vs ⟨v,r,rfl,hv,hr⟩ u hu
  cases hu with
  | head=>exact repP_one hv
  | tail _ hu=>exact ih hr u hu
theorem cells_one {v:Value}(h:v.oneCell'=true):v.cells = #[v]:=by
 cases v<;>first | rfl | cases h
theorem cellsN_rep {n:Nat}{l:LV}{ls:List LV}{v:Value}(he:l.cellsN n=some ls) (hr:RepL K N l v):
  RepLs K N ls v.cells.toList/\ls.all LV.flat=true/\ls.length=n/\(∀g,g∈LV.toksL ls->g∈l.toks)/\(∀g,g∈LV.namesL ls->g∈l.names):=by
 unfold LV.cellsN at he
 split at he<;>simp only[osi,reduceCtorEq]at he
 rename_i hc
 subst he
 obtain⟨h1,h2⟩:=hc
 refine⟨?_,h2,h1,?_,?_⟩
 .cases l with
  | agg ls=>obtain⟨vs,e,_,hr⟩:=hr;rw[e];simpa[Value.cells,LV.cells]using hr
  | tup ls=>simp[LV.cells,LV.flat]at h2
  | _=>
   rw[cells_one (repL_one hr rfl)]
   exact⟨v,[],rfl,hr,rfl⟩
 .cases l<;>simp[LV.cells,LV.toks,LV.toksL]
 .cases l<;>simp[LV.cells,LV.names,LV.namesL]
theorem ok_box (h:Rel nt F Wr K N a w s) {o' n:Nat}{x:Opd}{X:Operand}{t:TypeId}{e:Eff}(he:evOp call s (.box o' n x)=some e)
  (ho:o.op = .box t X) (hc:(chkOpd x X&&t == o'/1024)=true):OpOk P F Wr K a w s o e:=by
 rw[bat]at hc
 simp only[evOp]at he
 obtain⟨l,hl,he⟩:=obs he
 obtain⟨ls,hls,he⟩:=obs he
 split at he<;>simp only[osi,reduceCtorEq]at he
 rename_i hn
 subst he
 obtain⟨h1,h2⟩:=h.opd hl hc.1
 obtain⟨r1,r2,r3,r4,r5⟩:=cellsN_rep hls h1
 refine OpOk.var h hn (vs:=(a.eval X).cells.toList) (el:=t) (w':=w.alloc (.cells (a.eval X).cells t)) ?_ rfl (Keep.alloc _ _) (RepCs.of r1) r1.len r2 (eq_of_beq hc.2)
  (fun g hg=>h2 g (r4 g hg)) (fun hh=>opd_names hn hl (r5 _ hh))
 simp[execOp,ho,Instr.box,newVar,newRow]
theorem putCells_rep {hp:Heap}{cs:List LV}:∀ {off:Nat}{ls cs':List LV}{vs us:List Value}{Fs:List Nat},putCells cs off ls=some cs'->RepCs K N hp cs vs Fs->RepLs K N ls us ->
  (∃F',F'.Sublist Fs/\RepCs K N hp cs' (vs.take off++us++vs.drop (off+us.length)) F'/\off+us.length<=vs.length)\/(ls=[]/\cs'=cs):=by
 induction cs with
 | nil=>
  intro off ls cs' vs us Fs h hr hu
  cases ls with
  | nil=>simp only[putCells,osi]at h;exact .inr ⟨rfl,h.symm⟩
  | cons l ls=>simp[putCells]at h
 | cons c cs ih=>
  intro off ls cs' vs us Fs h hr hu
  cases ls with
  | nil=>simp only[putCells,osi]at h;exact .inr ⟨rfl,h.symm⟩
  | cons l ls=>
   obtain⟨v,r,F1,F2,rfl,rfl,hv,hr⟩:=hr
   cases off with
   | succ n=>
    simp only[putCells]at h
    obtain⟨r',hr',h⟩:=obs h
    simp only[osi]at h
    subst h
    left
    rcases ih hr' hr hu with⟨F',h0,h1,h2⟩ | ⟨h1,_⟩
    .refine⟨F1++F',List.Sublist.append_left h0 _,?_,by simp;omega⟩
     refine⟨v,_,F1,F',?_,rfl,hv,h1⟩
     simp[Nat.add_right_comm n 1]
    .cases h1
   | zero=>
    simp only[putCells]at h
    obtain⟨r',hr',h⟩:=obs h
    simp only[osi]at h
    subst h
    obtain⟨u,us',rfl,hu1,hu2⟩:=hu
    left
    rcases ih hr' hr hu2 with⟨F',h0,h1,h2⟩ | ⟨h1,h3⟩
    .refine⟨F',h0.trans (List.sublist_append_right _ _),⟨u,_,[],F',?_,rfl,RepC.of hu1,h1⟩,by simp;omega⟩
     simp[Nat.add_comm]
    .subst h1;subst h3
     cases hu2
     exact⟨F2,List.sublist_append_right _ _,⟨u,r,[],F2,by simp,rfl,RepC.of hu1,hr⟩,by simp⟩
theorem putCells_mem {cs:List LV}:∀ {off:Nat}{ls cs':List LV},putCells cs off ls=some cs'->cs'.length=cs.length/\∀c∈cs',c∈cs\/c∈ls:=by
 induction cs with
 | nil=>
  intro off ls cs' h
  cases ls with
  | nil=>simp[putCells]at h;subst h;exact⟨rfl,fun _ h => .inl h⟩
  | cons l ls=>simp[putCells]at h
 | cons c cs ih=>
  intro off ls cs' h
  cases ls with
  | nil=>simp[putCells]at h;subst h;exact⟨rfl,fun _ h => .inl h⟩
  | cons l ls=>
   cases off with
   | succ n=>
    simp only[putCells]at h
    obtain⟨r',hr',h⟩:=obs h
    simp only[osi]at h
    subst h
    obtain⟨a,b⟩:=ih hr'
    refine⟨by simp[a],fun x hx=>?_⟩
    cases hx with
    | head=>simp
    | tail _ hx=>exact (b x hx).imp (lmc _) id
   | zero=>
    simp only[putCells]at h
    obtain⟨r',hr',h⟩:=obs h
    simp only[osi]at h
    subst h
    obtain⟨a,b⟩:=ih hr'
    refine⟨by simp[a],fun x hx=>?_⟩
    cases hx with
    | head=>simp
    | tail _ hx=>exact (b x hx).imp (lmc _) (lmc _)
def Names.setF (N:Names) (o:Nat) (F:List Nat):Names:={ N with F:=fun x=>if x=o then F else N.F x }
theorem Names.setF_agrees {N:Names}{o:Nat}{F l gs:List Nat}:N.agrees (N.setF o F) l gs:=⟨fun _ _=>⟨rfl,rfl,rfl⟩,fun _ _=>rfl⟩
theorem Inv.turn {ps:List (Value×LV)}{os os':List (Nat×Obj)}{h h':Heap}(hi:Inv Wr K N h ps os) {o':Nat}{x x':Obj}{F' U:List Nat}(hx:(o',x)∈os)
  (he:∀ (b:Nat),b≠N.M o'->h'[b]?=h[b]?)
  (hM:N.M o'∈N.F o') (hos:∀y∈os',y=(o',x')\/(y∈os/\y.1≠o'/\y.1∉U)) (hU:∀u∈U,∃z,(u,z)∈os)
  (hat:ObjAt K (N.setF o' F') h' o' x') (hnd:F'.Nodup) (hsub:∀b∈F',b∈N.F o'\/∃u∈U,b∈N.F u)
  (ht:∀g∈LV.toksL x'.cells,Occ ps os g):Inv Wr K (N.setF o' F') h' ps os':=by
 have hocc:∀g,Occ ps os' g->Occ ps os g:=by
  rintro g (hh | ⟨y,hy,hg⟩)
  .exact .inl hh
  .rcases hos y hy with rfl | ⟨hy,_⟩
   .exact ht g hg
   .exact .inr ⟨y,hy,hg⟩
 have hFo:(N.setF o' F').F o'=F':=by simp[Names.setF]
 have hFn:∀y,y≠o'->(N.setF o' F').F y=N.F y:=fun y hy=>by simp[Names.setF,hy]
 have hne:∀y∈os,y.1≠o'->N.M o'∉N.F y.1:=fun y hy hn hb=>hn (by rw[hi.inj y hy _ hx _ hb hM])
 have hown:∀b∈F',Wr b/\∀o,K b o=none:=fun b hb=>by
  rcases hsub b hb with h1 | ⟨u,hu,h1⟩
  .exact (hi.objs _ hx).2.2 b h1
  .obtain⟨z,hz⟩:=hU u hu
   exact (hi.objs _ hz).2.2 b h1
 have hoth:∀y∈os,y.1≠o'->y.1∉U->∀b∈F',b∉N.F y.1:=fun y hy h1 h2 b hb hby=>by
  rcases hsub b hb with h3 | ⟨u,hu,h3⟩
  .exact h1 (by rw[hi.inj y hy _ hx b hby h3])
  .obtain⟨z,hz⟩:=hU u hu
   exact h2 (by rw[hi.inj y hy _ hz b hby h3];exact hu)
 refine⟨?_,fun p hp=>(hi.vals p hp).named Names.setF_agrees,?_,?_,?_,fun g g' b h1 h2=>hi.tinj g g' b (hocc g h1) (hocc g' h2),?_⟩
 .intro b o v hkb
  have:=hi.sat b o v hkb
  by_cases hbm:b=N.M o'
  .rw[hbm,((hi.objs _ hx).2.2 _ hM).2]at hkb;cases hkb
  .unfold hcell at *;rw[he b hbm];exact this
 .intro y hy
  rcases hos y hy with rfl | ⟨hy,hn,_⟩
  .exact⟨hat,by rw[hFo];exact hnd,by rw[hFo];exact hown⟩
  .obtain⟨t,r⟩:=hi.objs y hy
   refine⟨(t.heap fun b hb=>he b fun e=>hne y hy hn (e▸hb)).named (N:=N) (N':=N.setF o' F') ⟨rfl,rfl,rfl,hFn _ hn⟩ Names.setF_agrees,by rw[hFn _ hn];exact r⟩
 .intro y hy y' hy' b h1 h2
  rcases hos y hy with rfl | ⟨hy,hn,hu⟩
  .rcases hos y' hy' with rfl | ⟨hy',hn',hu'⟩
   .rfl
   .rw[hFo]at h1;rw[hFn _ hn']at h2
    exact absurd h2 (hoth y' hy' hn' hu' b h1)
  .rcases hos y' hy' with rfl | ⟨hy',hn',hu'⟩
   .rw[hFo]at h2;rw[hFn _ hn]at h1
    exact absurd h1 (hoth y hy hn hu b h2)
   .rw[hFn _ hn]at h1;rw[hFn _ hn']at h2
    exact hi.inj y hy y' hy' b h1 h2
 .intro g hg
  refine (hi.toks g (hocc g hg)).turn fun b hs hw hlt=>⟨he b ?_,hw,fun _ h=>h⟩
  rintro rfl
  exact hi.tobj g _ (hocc g hg) hx _ hs hM
 .intro g y hg hy b hsp
  rcases hos y hy with rfl | ⟨hy,hn,hu⟩
  .rw[hFo]
   intro hb
   rcases hsub b hb with h3 | ⟨u,hu,h3⟩
   .exact hi.tobj g _ (hocc g hg) hx b hsp h3
   .obtain⟨z,hz⟩:=hU u hu
    exact hi.tobj g _ (hocc g hg) hz b hsp h3
  .rw[hFn _ hn];exact hi.tobj g y (hocc g hg) hy b hsp
theorem into_rep (h:Rel nt F Wr K N a w s){sh:Shp}{l:LV}{v:Value}{p:PV}{U:List Nat}(he:l.into s.objs sh=some (p,U)) (hr:RepL K N l v):RepU K w.heap p sh v (U.flatMap N.F)/\∀u∈U,∃z es sh',(u,Obj.rows z es sh' none)∈s.objs:=by
 cases sh with
 | v=>
  simp only[LV.into]at he
  obtain⟨q,hq,he⟩:=obs he
  simp only[osi,Prod.mk.injEq]at he
  obtain⟨rfl,rfl⟩:=he
  refine⟨RepU.v.2 ⟨rfl,?_⟩,by simp⟩
  have:=toPVs_rep (ls:=[l]) (ps:=[q]) (vs:=[v]) (by simp[toPVs,hq]) ⟨v,[],rfl,hr,rfl⟩
  obtain⟨v',r,e,h1,_⟩:=this
  simp only[List.cons.injEq]at e
  rw[e.1];exact h1
 | self=>cases l<;>cases he
 | u sh=>
  cases l with
  | nils z=>
   simp only[LV.into,osi,Prod.mk.injEq]at he
   obtain⟨rfl,rfl⟩:=he
   exact⟨.inl ⟨rfl,rfl,hr⟩,by simp⟩
  | arr o n=>
   simp only[LV.into]at he
   obtain⟨r,hq,he⟩:=obs he
   split at he<;>simp only[osi,reduceCtorEq,Prod.mk.injEq]at he
   rename_i hs
   obtain⟨rfl,rfl⟩:=he
   unfold rowsOfO at hq
   obtain⟨ob,hob,hq⟩:=obs hq
   split at hq<;>simp only[osi,reduceCtorEq]at hq
   rename_i z es sh'
   subst hq
   have hm:=aget_mem hob
   have:=Shp.eqL_of hs
   simp only at this
   subst this
   obtain⟨t1,_⟩:=(h.inv.objs _ hm).1
   obtain⟨e1,_⟩:=hr
   refine⟨?_,by simpa using ⟨_,_,_,hm⟩⟩
   simp only[List.flatMap_cons,List.flatMap_nil,List.append_nil]
   rcases t1 with⟨vs,el,G,hh,hF,hrr,cap,hA,hc1,hc2⟩ | ⟨⟨e,hA⟩,hF⟩
   .exact .inr ⟨N.M o,cap,vs,el,G,by rw[e1];exact hA,hc1,hh,hc2,hF,hrr⟩
   .exact .inl ⟨e,hF,by rw[e1];exact hA⟩
  | _=>simp[LV.into]at he
theorem intoL_cons {os:List (Nat×Obj)}(sh:List Shp) (l:LV) (ls:List LV):LV.intoL os sh (l::ls)=(l.into os (shpAt sh 0)).bind fun p=>(LV.intoL os sh.tail ls).bind fun q=>some (p.1::q.1,p.2++q.2):=by
 cases sh<;>rfl
theorem intoL_rep (h:Rel nt F Wr K N a w s):∀ {ls:List LV}{sh:List Shp}{vs:List Value}{ps:List PV}{U:List Nat},LV.intoL s.objs sh ls=some (ps,U)->RepLs K N ls vs->RepUs K w.heap ps sh vs (U.flatMap N.F)/\vs.length=ps.length/\∀u∈U,∃z es sh',(u,Obj.rows z es sh' none)∈s.objs
 | [],sh,vs,ps,U,he,hr=>by
  have:(ps,U)=([],[]):=by cases sh<;>(simp only[LV.intoL,osi]at he;exact he.symm)
  simp only[Prod.mk.injEq]at this
  obtain⟨rfl,rfl⟩:=this
  cases hr
  exact⟨rfl,rfl,by simp⟩
 | l::ls,sh,vs,ps,U,he,⟨v,r,e,h1,h2⟩=>by
  rw[intoL_cons]at he
  obtain⟨⟨p,U1⟩,hp,he⟩:=obs he
  obtain⟨⟨q,U2⟩,hq,he⟩:=obs he
  simp only[osi,Prod.mk.injEq]at he
  obtain⟨rfl,rfl⟩:=he
  subst e
  obtain⟨a1,a2⟩:=into_rep h hp h1
  obtain⟨b1,b2,b3⟩:=intoL_rep h hq h2
  refine⟨⟨v,r,_,_,rfl,by rw[List.flatMap_append],a1,b1⟩,by simp[b2],fun u hu=>?_⟩
  rcases lma hu with hu | hu
  .exact a2 u hu
  .exact b3 u hu
theorem shpAt_drop (sh:List Shp) (k:Nat):shpAt (sh.drop k) 0=shpAt sh k:=by
 induction k generalizing sh with
 | zero=>rfl
 | succ k ih=>cases sh with
  | nil=>rfl
  | cons x sh=>simpa[shpAt]using ih sh
theorem shpAt_tail (sh:List Shp) (k:Nat):shpAt sh.tail k=shpAt sh (k+1):=by cases sh<;>rfl
theorem putPV_rep {hp:Heap}:∀ {e:List PV}{off:Nat}{ps e':List PV}{sh:List Shp}{vs us:List Value}{Fs Fn:List Nat},putPV e off ps=some e'->ps≠[]->RepUs K hp e sh vs Fs->RepUs K hp ps (sh.drop off) us Fn->us.length=ps.length ->
  e'.length=e.length/\off+us.length<=e.length/\∃F' X,X.Sublist Fs/\F'.Perm (X++Fn)/\RepUs K hp e' sh (vs.take off++us++vs.drop (off+us.length)) F'
 | [],off,[],e',sh,vs,us,Fs,Fn,h,hne,_,_,_=>absurd rfl hne
 | [],off,p::ps,e',sh,vs,us,Fs,Fn,h,hne,_,_,_=>by simp[putPV]at h
 | c::cs,off,[],e',sh,vs,us,Fs,Fn,h,hne,_,_,_=>absurd rfl hne
 | c::cs,off+1,p::ps,e',sh,vs,us,Fs,Fn,h,hne,⟨v,r,F1,F2,e1,e2,a,b⟩,hu,hl=>by
  simp only[putPV]at h
  obtain⟨r',hr',h⟩:=obs h
  simp only[osi]at h
  subst h;subst e1;subst e2
  obtain⟨q1,q2,F',X,q3,q4,q5⟩:=putPV_rep hr' hne b (by rw[<-List.drop_one,List.drop_drop,Nat.add_comm 1 off];exact hu) hl
  refine⟨by simp[q1],by simp;omega,F1++F',F1++X,List.Sublist.append_left q3 _,by rw[List.append_assoc];exact q4.append_left F1,v,_,F1,F',?_,rfl,a,q5⟩
  simp[Nat.add_right_comm off 1]
 | c::cs,0,p::ps,e',sh,vs,us,Fs,Fn,h,hne,⟨v,r,F1,F2,e1,e2,a,b⟩,hu,hl=>by
  simp only[putPV]at h
  obtain⟨r',hr',h⟩:=obs h
  simp only[osi]at h
  subst h;subst e1;subst e2
  obtain⟨u,us',G1,G2,rfl,rfl,hu1,hu2⟩:=hu
  cases ps with
  | nil=>
   have:us'=[]:=by simpa using hl
   subst this
   have:r'=cs:=by cases cs<;>simpa[putPV]using hr'.symm
   subst this
   have hG:G2=[]:=hu2
   subst hG
   exact⟨by simp,by simp,G1++F2,F2,List.sublist_append_right _ _,by simpa using List.perm_append_comm,u,r,G1,F2,by simp,rfl,hu1,b⟩
  | cons p' ps'=>
   obtain⟨q1,q2,F',X,q3,q4,q5⟩:=putPV_rep (off:=0) hr' (by simp) b (by simpa using hu2) (by simpa using hl)
   refine⟨by simp[q1],by simp;omega,G1++F',X,q3.trans (List.sublist_append_right _ _),?_,u,_,G1,F',?_,rfl,hu1,q5⟩
   .refine (q4.append_left G1).trans (List.perm_append_comm.trans ?_)
    rw[List.append_assoc]
    exact List.perm_append_comm.append_left X
   .simp[Nat.add_comm]
theorem putPV_len:∀ {e:List PV}{off:Nat}{ps e':List PV},putPV e off ps=some e'->e'.length=e.length
 | e,off,[],e',h=>by cases e<;>(simp only[putPV,osi]at h;rw[<-h])
 | [],_,_::_,_,h=>by simp[putPV]at h
 | c::cs,off+1,p::ps,e',h=>by
  simp only[putPV]at h
  obtain⟨r',hr',h⟩:=obs h
  simp only[osi]at h
  subst h;simp[putPV_len hr']
 | c::cs,0,p::ps,e',h=>by
  simp only[putPV]at h
  obtain⟨r',hr',h⟩:=obs h
  simp only[osi]at h
  subst h;simp[putPV_len hr']
theorem putPV_set {x:PV}:∀ {e:List PV}{off k:Nat}{ps e':List PV},putPV e off ps=some e'->putPV (e.set k x) off ps=some (if off<=k/\k<off+ps.length then e' else e'.set k x)
 | e,off,k,[],e',h=>by
  have he:e'=e:=by cases e<;>(simp only[putPV,osi]at h;exact h.symm)
  subst he
  rw[if_neg (by simp)]
  unfold putPV;rfl
 | [],_,_,_::_,_,h=>by simp[putPV]at h
 | c::cs,off+1,0,p::ps,e',h=>by
  simp only[putPV]at h
  obtain⟨r',hr',h⟩:=obs h
  simp only[osi]at h
  subst h
  rw[if_neg (by omega)]
  simp only[List.set_cons_zero,putPV,hr',obb]
 | c::cs,off+1,k+1,p::ps,e',h=>by
  simp only[putPV]at h
  obtain⟨r',hr',h⟩:=obs h
  simp only[osi]at h
  subst h
  simp only[List.set_cons_succ,putPV,putPV_set (k:=k) hr',obb]
  by_cases hc:off<=k/\k<off+(p::ps).length
  .rw[if_pos hc,if_pos (by omega)]
  .rw[if_neg hc,if_neg (by omega)]
 | c::cs,0,0,p::ps,e',h=>by
  rw[if_pos (by simp)]
  simpa[putPV]using h
 | c::cs,0,k+1,p::ps,e',h=>by
  simp only[putPV]at h
  obtain⟨r',hr',h⟩:=obs h
  simp only[osi]at h
  subst h
  simp only[List.set_cons_succ,putPV,putPV_set (k:=k) hr',obb]
  by_cases hc:0<=k/\k<0+ps.length
  .rw[if_pos hc,if_pos (by simp;omega)]
  .rw[if_neg hc,if_neg (by simp at hc ⊢;omega)]
theorem RepUR.put {hp:Heap}{sz:Nat}{sh:List Shp}:∀ {es:List (List PV)}{i off:Nat}{e ps e':List PV}{vs us:List Value}{Fs Fn:List Nat},es[i]?=some e->putPV e off ps=some e'->ps≠[]->RepUR K hp sz sh es vs Fs->RepUs K hp ps ((ush sh).drop off) us Fn->us.length=ps.length->es.length*sz<=vs.length ->
  i*sz+off+us.length<=vs.length/\∃F' X,X.Sublist Fs/\F'.Perm (X++Fn)/\RepUR K hp sz sh (es.set i e') (vs.take (i*sz+off)++us++vs.drop (i*sz+off+us.length)) F'
 | [],_,_,_,_,_,_,_,_,_,h,_,_,_,_,_,_=>by simp at h
 | x::es,0,off,e,ps,e',vs,us,Fs,Fn,h,hp',hne,⟨e1,F1,F2,e2,a,b⟩,hu,hl,hlen=>by
  simp at h;subst h;subst e2
  obtain⟨q1,q2,F',X,q3,q4,q5⟩:=putPV_rep hp' hne a hu hl
  have hle:off+us.length<=sz:=by omega
  have hsz:sz<=vs.length:=by
   simp only[List.length_cons,Nat.succ_mul]at hlen;omega
  refine⟨by omega,F'++F2,X++F2,List.Sublist.append_right q3 _,?_,by rw[q1,e1],F',F2,rfl,by simpa using q5,?_⟩
  .refine (q4.append_right F2).trans ?_
   rw[List.append_assoc,List.append_assoc]
   exact List.perm_append_comm.append_left X
  .have:(List.take (0*sz+off) vs++us++List.drop (0*sz+off+us.length) vs).drop sz=vs.drop sz:=by
    apply List.ext_getElem?
    intro k
    simp only[Nat.zero_mul,Nat.zero_add,List.getElem?_drop]
    rw[List.getElem?_append_right (by simp;omega),List.getElem?_drop]
    congr 1
    simp;omega
   rw[this];exact b
 | x::es,i+1,off,e,ps,e',vs,us,Fs,Fn,h,hp',hne,⟨e1,F1,F2,e2,a,b⟩,hu,hl,hlen=>by
  subst e2
  have hsz:es.length*sz<=(vs.drop sz).length:=by
   simp only[List.length_cons,Nat.succ_mul]at hlen;simp;omega
  obtain⟨q2,F',X,q3,q4,q5⟩:=RepUR.put (by simpa using h) hp' hne b hu hl hsz
  have hi:i<es.length:=by have:=(lgs h).1;simpa using this
  have hszv:sz<=vs.length:=by simp only[List.length_cons,Nat.succ_mul]at hlen;omega
  refine⟨by simp at q2;rw[Nat.succ_mul];omega,F1++F',F1++X,List.Sublist.append_left q3 _,by rw[List.append_assoc];exact q4.append_left F1,e1,F1,F',rfl,?_,?_⟩
  .have hpre:∀ (l l':List Value){e:List PV}{sh:List Shp}{F:List Nat},(∀k,k<e.length->l'[k]?=l[k]?)->RepUs K hp e sh l F->RepUs K hp e sh l' F:=by
    intro l l' e
    induction e generalizing l l' with
    | nil=>intro sh F _ h;exact h
    | cons c cs ih=>
     rintro sh F hk ⟨v,r,G1,G2,f1,f2,fa,fb⟩
     subst f1
     cases l' with
     | nil=>have:=hk 0 (by simp);simp at this
     | cons v' r'=>
      have h0:=hk 0 (by simp)
      simp at h0
      subst h0
      exact⟨v',r',G1,G2,rfl,f2,fa,ih _ _ (fun k hk'=>by have:=hk (k+1) (by simpa using hk');simpa using this) fb⟩
   refine hpre vs _ (fun k hk=>?_) a
   rw[e1]at hk
   rw[Nat.succ_mul,List.append_assoc,List.getElem?_append_left (by simp;omega),List.getElem?_take_of_lt (by omega)]
  .have:(List.take ((i+1)*sz+off) vs++us++List.drop ((i+1)*sz+off+us.length) vs).drop sz=List.take (i*sz+off) (vs.drop sz)++us++List.drop (i*sz+off+us.length) (vs.drop sz):=by
    rw[Nat.succ_mul,List.append_assoc,List.append_assoc,List.drop_append_of_le_length (by simp;omega),List.drop_take,List.drop_drop]
    have h1:i*sz+sz+off-sz=i*sz+off:=by omega
    have h2:sz+(i*sz+off+us.length)=i*sz+sz+off+us.length:=by omega
    rw[h1,h2]
   rw[this];exact q5
theorem gone_updObjs:∀ {us:List Nat}{os:List (Nat×Obj)}{u:List (Nat×Option Obj)}{y:Nat×Obj},y∈updObjs os (gone us++u)->∃os',y∈updObjs os' u/\∀z∈os',z∈os/\z.1∉us
 | [],os,u,y,h=>⟨os,h,fun z hz=>⟨hz,by simp⟩⟩
 | o::us,os,u,y,h=>by
  simp only[gone,List.map_cons,List.cons_append,updObjs]at h
  obtain⟨os',h1,h2⟩:=gone_updObjs (us:=us) h
  refine⟨os',h1,fun z hz=>?_⟩
  obtain⟨a,b⟩:=h2 z hz
  obtain⟨c,d⟩:=adel_mem a
  exact⟨c,by simp only[List.mem_cons,not_or];exact⟨d,b⟩⟩
theorem ok_store (h:Rel nt F Wr K N a w s){n rd:Nat}{us:List Nat}{x v:Opd}{X V:Operand}{t:TypeId}{e:Eff}(he:evOp call s (.store n rd us x v)=some e)
  (ho:o.op = .store t X V) (hc:(chkOpd x X&&chkOpd v V&&(match szOf P t with | some m=>m == n | none=>false)&&n != 0)=true):OpOk P F Wr K a w s o e:=by
 simp only[bat]at hc
 have hn0:n≠0:=by simpa using hc.2
 have hsz:szOf P t=some n:=by
  have:=hc.1.2
  split at this
  .rename_i m hm;have:=eq_of_beq this;subst this;exact hm
  .cases this
 simp only[evOp]at he
 obtain⟨lx,hlx,he⟩:=obs he
 obtain⟨lv,hlv,he⟩:=obs he
 obtain⟨ls,hls,he⟩:=obs he
 obtain⟨h1,h2⟩:=h.opd hlx hc.1.1.1
 obtain⟨h3,h4⟩:=h.opd hlv hc.1.1.2
 obtain⟨r1,r2,r3,r4,r5⟩:=cellsN_rep hls h3
 have hne:ls≠[]:=by rintro rfl;simp at r3;exact hn0 r3.symm
 have hvl:(a.eval V).cells.size=n:=by rw[<-Array.length_toList,r1.len,r3]
 have key:∀ (o':Nat) (ob ob':Obj) (k:Nat) (U:List Nat) (vs:List Value) (el:TypeId) (G F':List Nat),(o',ob)∈s.objs->a.eval X = .pointer (some ⟨N.M o',k,none⟩)->w.heap[N.M o']?=some (.cells (List.toArray vs) el (0,0))->N.F o'=N.M o'::G ->
   k+(a.eval V).cells.toList.length<=vs.length->F'.Nodup->(∀b∈F',b∈G\/∃u∈U,b∈N.F u)->N.M o'∉F'->(∀u∈U,u≠o'/\∃z es sh',(u,Obj.rows z es sh' none)∈s.objs) ->
   (ob'.inMem K (N.setF o' (N.M o'::F')) w.heap o' (vs.take k++(a.eval V).cells.toList++vs.drop (k+(a.eval V).cells.toList.length)) el F')->(ob'.shaped N o')->(∀g∈LV.toksL ob'.cells,Occ (pairs a s.env) s.objs g) ->
   OpOk P F Wr K a w s o { dem:=[],upd:=gone U++[(o',some ob')],val:=none }:=by
  intro o' ob ob' k U vs el G F' hm hX hh hF q2 hnd hsub hMF hU hin hs ht
  have hin':N.M o'∈N.F o':=by simp[hF]
  have hW:=((h.inv.objs _ hm).2.2 _ hin').1
  have hst:=run_storeCells_at P (N.M o') k el (a.eval V).cells.toList 0 (List.toArray vs) w hh (by simpa using q2) (repLs_one r1 r2)
  simp only[Nat.add_zero,List.toList_toArray]at hst
  have hoth:=fun b hb=>setRow_other w (N.M o') b (List.toArray (vs.take k++(a.eval V).cells.toList++vs.drop (k+(a.eval V).cells.toList.length))) hb
  refine⟨undef,w.setRow (N.M o') (List.toArray (vs.take k++(a.eval V).cells.toList++vs.drop (k+(a.eval V).cells.toList.length))),K,N.setF o' (N.M o'::F'),.inr ⟨rfl,?_⟩,KExt.refl,Keep.setRow w (N.M o') _ hW,?_,h.pin⟩
  .simp[execOp,ho,hX,Instr.storeAt,Instr.sureAddr,storeVar,run_sizeOf hsz,hvl]
   rw[hst]
   simp[hvl]
  .simp only[demPairs_nil,demMap_nil,Option.toList_none,List.map_nil,List.nil_append]
   refine h.inv.turn (U:=U) (x':=ob') hm hoth hin' (fun y hy=>?_) (fun u hu=>⟨_,(hU u hu).2.choose_spec.choose_spec.choose_spec⟩) ?_ (List.nodup_cons.2 ⟨hMF,hnd⟩) (fun b hb=>?_) ht
   .obtain⟨os',y1,y2⟩:=gone_updObjs hy
    simp only[updObjs]at y1
    rcases aset_mem y1 with rfl | ⟨y1,y3⟩
    .exact .inl rfl
    .exact .inr ⟨(y2 y y1).1,y3,(y2 y y1).2⟩
   .refine⟨.inl ⟨_,el,F',setRow_heap w _ _ _ el (0,0) hh,by simp[Names.setF],?_⟩,?_⟩
    .have hblk:∀b∈F',(w.setRow (N.M o') (List.toArray (vs.take k++(a.eval V).cells.toList++vs.drop (k+(a.eval V).cells.toList.length)))).heap[b]?=w.heap[b]?:=fun b hb=>hoth b fun e=>hMF (e▸hb)
     cases ob' with
     | var cs=>exact⟨hin.1.heap hblk,hin.2⟩
     | rows _ _ _ _=>exact⟨hin.1.heap hblk,hin.2⟩
    .cases ob' with
     | var cs=>exact hs
     | rows _ _ _ hole=>exact⟨hs.1,by cases hole<;>exact hs.2⟩
   .rcases lm1 hb with rfl | hb
    .exact .inl hin'
    .exact (hsub b hb).imp (fun h=>by simp[hF,h]) id
 have hlen:(a.eval V).cells.toList.length=ls.length:=r1.len
 cases lx with
 | ref o' off=>
  simp only at he
  split at he
  case isFalse=>cases he
  obtain⟨ob,hob,he⟩:=obs he
  cases ob with
  | rows _ _ _ _=>simp at he
  | var cs=>
   simp only at he
   obtain⟨cs',hp,he⟩:=obs he
   simp only[osi]at he
   subst he
   have hm:=aget_mem hob
   obtain⟨⟨t1,hf⟩,hnd,_⟩:=h.inv.objs _ hm
   rcases t1 with⟨vs,el,G,hh,hF,hr,hl,hel⟩ | ⟨e,_⟩
   case inr=>exact e.elim
   simp only at hh hF hr hl hf hnd
   rcases putCells_rep hp hr r1 with⟨F',q0,q1,q2⟩ | ⟨q1,_⟩
   case inr=>exact absurd q1 hne
   obtain⟨q3,q4⟩:=putCells_mem hp
   rw[hF]at hnd
   obtain⟨n1,n2⟩:=List.nodup_cons.1 hnd
   have:=key o' (.var cs) (.var cs') off [] vs el G F' hm h1 hh hF q2 (q0.nodup n2) (fun b hb => .inl (q0.mem hb)) (fun hb=>n1 (q0.mem hb)) (by simp) ?_ ?_ ?_
   .simpa[gone]using this
   .exact⟨q1.named Names.setF_agrees,by simp[q3,<-hl];omega,hel⟩
   .show cs'.all LV.flat=true
    rw[List.all_eq_true]at *
    exact fun c hcc=>(q4 c hcc).elim (fun hcs=>List.all_eq_true.1 hf c hcs) (r2 c)
   .intro g hg
    obtain⟨c,hc1,hc2⟩:=toksL_mem.1 hg
    rcases q4 c hc1 with hc1 | hc1
    .exact .inr ⟨_,hm,toksL_mem.2 ⟨c,hc1,hc2⟩⟩
    .exact h4 g (r4 g (toksL_mem.2 ⟨c,hc1,hc2⟩))
 | eref o' i off=>
  simp only at he
  split at he
  case isFalse=>cases he
  obtain⟨ob,hob,he⟩:=obs he
  cases ob with
  | var _=>simp at he
  | rows sz es sh hole=>
   simp only at he
   obtain⟨e0,hrow,he⟩:=obs he
   obtain⟨⟨ps,U⟩,hin,he⟩:=obs he
   simp only at he
   split at he
   case isFalse=>cases he
   rename_i hU
   obtain⟨rfl,hUn,hUo⟩:=hU
   obtain⟨e',hp,he⟩:=obs he
   simp only[osi]at he
   subst he
   have hm:=aget_mem hob
   obtain⟨⟨t1,hS,hk⟩,hnd,_⟩:=h.inv.objs _ hm
   rcases t1 with⟨vs,el,G,hh,hF,hr,cap,hA,hc1,hc2⟩ | ⟨⟨e,_⟩,_⟩
   case inr=>rw[e]at hrow;simp at hrow
   simp only at hh hF hr hA hc1 hc2 hS hk hnd
   obtain⟨i1,i2,i3⟩:=intoL_rep h hin r1
   have hpl:ps.length=n:=by rw[<-i2,hlen,r3]
   have hpn:ps≠[]:=by rintro rfl;simp at hpl;exact hn0 hpl.symm
   have hil:i<es.length:=(lgs hrow).1
   obtain⟨e1,e1',hrow',hp',hplug⟩:∃e1 e1',(plug N hole es)[i]?=some e1/\putPV e1 off ps=some e1'/\plug N (holeOff hole i off n) (es.set i e')=(plug N hole es).set i e1':=by
    cases hole with
    | none=>exact⟨e0,e',hrow,hp,rfl⟩
    | some y=>
     obtain⟨j,k,u,m⟩:=y
     obtain⟨⟨f0,c0,f1,f2⟩,_,_⟩:=hk
     have hj:j<es.length:=(lgs f1).1
     by_cases hji:j=i
     .subst hji
      rw[hrow]at f1;cases f1
      have hs:=putPV_set (x := .sc (N.A u)) (k:=k) hp
      rw[hpl]at hs
      refine⟨e0.set k (.sc (N.A u)),_,by simp only[plug,hrow];exact List.getElem?_set_self hj,hs,?_⟩
      by_cases hcv:off<=k/\k<off+n
      .simp[holeOff,plug,hrow,hcv]
      .simp only[holeOff,hcv,and_false,if_false,plug]
       rw[List.getElem?_set_self hil]
       simp[hrow,List.set_set]
     .refine⟨e0,e',?_,hp,?_⟩
      .simp[plug,f1,List.getElem?_set_ne hji,hrow]
      .simp only[holeOff,hji,false_and,if_false,plug,f1]
       rw[List.getElem?_set_ne (fun e=>hji e.symm),f1]
       simp only
       exact List.set_comm _ _ (fun e=>hji e.symm)
   have hplen:(plug N hole es).length=es.length:=by
    unfold plug
    split
    .rfl
    .split<;>simp
   obtain⟨q2,F',Xs,q3,q4,q5⟩:=hr.put hrow' hp' hpn i1 i2 (by rw[hplen];exact Nat.le_trans (Nat.mul_le_mul_right _ hc1) hc2)
   rw[hF]at hnd
   obtain⟨n1,n2⟩:=List.nodup_cons.1 hnd
   have hUo':∀u∈U,u≠o':=fun u hu e=>by
    subst e
    have:U.contains u=true:=by simpa using hu
    rw[this]at hUo;cases hUo
   have hUF:∀u∈U,∀b∈N.F u,b∉N.F o':=fun u hu b hb hbo=>by
    obtain⟨z,es',sh',hz⟩:=i3 u hu
    have:=h.inv.inj _ hz _ hm b hb hbo
    exact hUo' u hu (congrArg Prod.fst this)
   have hXn:(Xs++U.flatMap N.F).Nodup:=by
    rw[List.nodup_append]
    refine⟨q3.nodup n2,?_,fun b hb c hc e=>?_⟩
    . 
     have:∀ (U:List Nat),U.Nodup->(∀u∈U,∃z es sh',(u,Obj.rows z es sh' none)∈s.objs)->(U.flatMap N.F).Nodup:=by
      intro U
      induction U with
      | nil=>intro _ _;simp
      | cons u U ih=>
       intro hn hz
       rw[List.flatMap_cons,List.nodup_append]
       obtain⟨z,es',sh',hzu⟩:=hz u (by simp)
       refine⟨(h.inv.objs _ hzu).2.1,ih (List.nodup_cons.1 hn).2 fun u hu=>hz u (by simp[hu]),fun b hb c hc e=>?_⟩
       subst e
       obtain⟨u',hu',hbu⟩:=List.mem_flatMap.1 hc
       obtain⟨z',es'',sh'',hzu'⟩:=hz u' (by simp[hu'])
       have:=h.inv.inj _ hzu _ hzu' b hb hbu
       have:=congrArg Prod.fst this
       simp only at this
       exact (List.nodup_cons.1 hn).1 (this▸hu')
     exact this U hUn i3
    .subst e
     obtain⟨u,hu,hbu⟩:=List.mem_flatMap.1 hc
     exact hUF u hu b hbu (by rw[hF];exact lmc _ (q3.mem hb))
   have hF'n:F'.Nodup:=q4.symm.nodup hXn
   have hF'm:∀b∈F',b∈G\/∃u∈U,b∈N.F u:=fun b hb=>by
    rcases lma (q4.mem_iff.1 hb) with hb | hb
    .exact .inl (q3.mem hb)
    .exact .inr (by simpa using List.mem_flatMap.1 hb)
   refine key o' (.rows sz es sh hole) _ (i*sz+off) U vs el G F' hm (by simp only[RepL]at h1;rw[h1,hS]) hh hF (by rw[hlen,r3,<-hpl,<-i2,hlen,r3]at *;omega) hF'n hF'm (fun hb=>?_) (fun u hu=>⟨hUo' u hu,i3 u hu⟩) ?_ ⟨hS,?_⟩ ?_
   .rcases hF'm _ hb with hb | ⟨u,hu,hb⟩
    .exact n1 hb
    .exact hUF u hu _ hb (by simp[hF])
   .have hA':(N.setF o' (N.M o'::F')).A=N.A:=rfl
    have hpl':plug (N.setF o' (N.M o'::F')) (holeOff hole i off n) (es.set i e')=plug N (holeOff hole i off n) (es.set i e'):=by
     unfold plug;rw[hA']
    refine⟨by rw[hpl',hplug];exact q5,cap,by simpa[Names.setF]using hA,by simpa using hc1,?_⟩
    have:=i2
    simp only[List.length_append,List.length_take,List.length_drop]
    omega
   .cases hole with
    | none=>trivial
    | some y=>
     obtain⟨j,k,u,m⟩:=y
     obtain⟨⟨f0,c0,f1,f2⟩,g1,g2⟩:=hk
     by_cases hcv:j=i/\off<=k/\k<off+n
     .simp[holeOff,hcv,holeOk]
     .simp only[holeOff,if_neg hcv]
      refine⟨?_,g1,g2⟩
      by_cases hji:j=i
      .subst hji
       rw[hrow]at f1;cases f1
       have hk':k<e'.length:=by rw[putPV_len hp];exact (lgs f2).1
       exact⟨e',e'[k],by simp[hil],by simp[hk']⟩
      .exact⟨f0,c0,by rw[List.getElem?_set_ne (fun e=>hji e.symm)];exact f1,f2⟩
   .intro g hg
    have:LV.toksL (Obj.rows sz (es.set i e') sh (holeOff hole i off n)).cells=[]:=by
     cases holeOff hole i off n with
     | none=>rfl
     | some y=>rfl
    rw[this]at hg;cases hg
 | _=>simp at he
def zeroPV:PV->Value->Bool
 | .sc u,v=>scEq u v
 | .lst _ es,.slice none 0 0=>es.isEmpty
 | _,_=>false
def zerosPV:List PV->List Value->Bool
 | [],[]=>true
 | l::ls,v::vs=>zeroPV l v&&zerosPV ls vs
 | _,_=>false
theorem zeroPV_rep {hp:Heap}{p:PV}{v:Value}(h:zeroPV p v=true) (sh:Shp) (hs:sh ≠ .self):RepU K hp p sh v []:=by
 unfold zeroPV at h
 split at h
 .obtain⟨rfl,h1⟩:=scEq_eq h
  cases sh<;>first | exact⟨rfl,rfl,h1⟩ | exact absurd rfl hs
 .rename_i sz es
  have:es=[]:=by simpa using h
  subst this
  cases sh with
  | v=>exact⟨rfl,none,0,0,rfl,rfl,Nat.le_refl _,.inl rfl⟩
  | self=>exact absurd rfl hs
  | u _=>exact .inl ⟨rfl,rfl,rfl⟩
 .cases h
theorem zerosPV_rep {hp:Heap}:∀ {ps:List PV}{vs:List Value},zerosPV ps vs=true->∀ (sh:List Shp) (ws:List Value),(∀x∈sh,x ≠ .self)->RepUs K hp ps sh (vs++ws) []/\vs.length=ps.length
 | [],[],_,_,_,_=>⟨rfl,rfl⟩
 | [],_::_,h,_,_,_=>by cases h
 | _::_,[],h,_,_,_=>by cases h
 | p::ps,v::vs,h,sh,ws,hs=>by
  simp only[zerosPV,bat]at h
  obtain⟨a,b⟩:=zerosPV_rep (hp:=hp) h.2 sh.tail ws fun x hx=>hs x (List.mem_of_mem_tail hx)
  exact⟨⟨v,_,[],[],rfl,rfl,zeroPV_rep h.1 _ (by cases sh with | nil=>simp[shpAt] | cons x _=>exact hs x (by simp)),a⟩,by simp[b]⟩
def chkMake (P:Program) (t:TypeId) (sz:Nat) (zs:List PV):Bool:=
 match P.underlying t with
 | some (.slice e)=>match P.info? e with
  | some i=>match i.zero with
   | some z=>zerosPV zs z.cells.toList&&i.size == sz&&decide (i.bytes<=256)&&sz != 0
   | none=>false
  | none=>false
 | _=>false
theorem chkMake_eq {t:TypeId}{sz:Nat}{zs:List PV}(h:chkMake P t sz zs=true):∃e i z,P.underlying t=some (.slice e)/\P.info? e=some i/\i.zero=some z/\zerosPV zs z.cells.toList=true/\i.size=sz/\i.bytes<=256/\sz≠0:=by
 unfold chkMake at h
 split at h
 .rename_i e he
  split at h
  .rename_i i hi
   split at h
   .rename_i z hz
    simp only[bat]at h
    exact⟨e,i,z,he,hi,hz,h.1.1.1,eq_of_beq h.1.1.2,of_decide_eq_true h.1.2,by simpa using h.2⟩
   .cases h
  .cases h
 .cases h
theorem ok_mkslice (h:Rel nt F Wr K N a w s) {o' sz:Nat}{sh:List Shp}{zs:List PV}{n:Opd}{L C:Operand}{t:TypeId}{e:Eff}(he:evOp call s (.mkslice o' sz sh zs n)=some e)
  (ho:o.op = .makeSlice t L C) (hc:(chkOpd n L&&chkOpd n C&&chkMake P t sz zs)=true):OpOk P F Wr K a w s o e:=by
 simp only[bat]at hc
 obtain⟨el,i,z,t1,t2,t3,t4,t5,t6,t7⟩:=chkMake_eq hc.2
 simp only[evOp]at he
 obtain⟨m,hm,he⟩:=obs he
 split at he<;>simp only[osi,reduceCtorEq]at he
 rename_i hb
 subst he
 obtain⟨hn,h0,hbig,hzl⟩:=hb
 obtain⟨kl,el1⟩:=opt_int_rep h hm hc.1.1
 obtain⟨kc,el2⟩:=opt_int_rep h hm hc.1.2
 have hbytes:(i.bytes:Int)*m<=281474976710656:=by
  have h1:(i.bytes:Int)*m<=256*m:=Int.mul_le_mul_of_nonneg_right (by omega) h0
  unfold bigLen at hbig
  omega
 have hrun:=run_make (P:=P) w t el i z t1 t2 t3 kl kc m m h0 (Int.le_refl _) hbytes (by unfold bigLen at hbig;omega)
 have hzsz:z.cells.toList.length=sz:=by rw[<-hzl];exact (zerosPV_rep (K:=K) (hp:=w.heap) t4 [] [] (by simp)).2
 have hzsz':z.cells.size=i.size:=by rw[<-Array.length_toList,hzsz,t5]
 have hcells:madeCells z.cells (m.toNat*i.size)=(List.toArray (List.replicate m.toNat z.cells.toList).flatten):=by
  have hzsz:=hzsz'
  apply Array.ext
  .simp[madeCells,hzsz]
  .intro j h1 h2
   simp only[madeCells,Array.size_map,Array.size_range]at h1
   have hpos:0<i.size:=by omega
   have:∀ (k:Nat) (zs:List Value) (j:Nat),0<zs.length->j<k*zs.length->(List.replicate k zs).flatten[j]?=zs[j%zs.length]?:=by
    intro k zs
    induction k with
    | zero=>intro j _ hj;simp at hj
    | succ k ih=>
     intro j hp hj
     rw[List.replicate_succ,List.flatten_cons]
     by_cases hlt:j<zs.length
     .rw[List.getElem?_append_left hlt,Nat.mod_eq_of_lt hlt]
     .rw[List.getElem?_append_right (by omega),ih (j-zs.length) hp (by rw[Nat.succ_mul]at hj;omega)]
      congr 1
      conv=>rhs;rw[show j=(j-zs.length)+zs.length by omega,Nat.add_mod_right]
   have hjj:=this m.toNat z.cells.toList j (by simp[hzsz,hpos]) (by simp[hzsz];omega)
   have hlt:j%i.size<z.cells.size:=by rw[hzsz];exact Nat.mod_lt _ hpos
   simp only[Array.length_toList,hzsz]at hjj
   have e1:(madeCells z.cells (m.toNat*i.size))[j]=z.cells[j%i.size]:=by
    simp only[madeCells,Array.getElem_map,Array.getElem_range,hzsz]
    exact getElem!_pos z.cells _ hlt
   rw[e1]
   have e2:(List.replicate m.toNat z.cells.toList).flatten[j]?=some z.cells[j%i.size]:=by
    rw[hjj];simp[hlt]
   have:=lgs e2
   simpa using this.2.symm
 have hrows:∀ (hp:Heap) k,RepUR K hp sz sh (List.replicate k zs) (List.replicate k z.cells.toList).flatten []:=by
  intro hp k
  induction k with
  | zero=>rfl
  | succ k ih=>
   rw[List.replicate_succ,List.replicate_succ,List.flatten_cons]
   refine⟨hzl,[],[],rfl,(zerosPV_rep t4 (ush sh) _ ush_ne).1,?_⟩
   rw[<-hzsz,List.drop_left];rw[hzsz];exact ih
 have hheap:(w.alloc (.cells (madeCells z.cells (m.toNat*i.size)) el)).heap=w.heap.push (.cells (List.toArray (List.replicate m.toNat z.cells.toList).flatten) el (0,0)):=by rw[hcells];rfl
 refine OpOk.obj h (b:=w.heap.size) (z:=sz) (A := .slice (some ⟨w.heap.size,0,none⟩) m.toNat m.toNat) (Fs:=[w.heap.size]) hn (v := .slice (some ⟨w.heap.size,0,none⟩) m.toNat m.toNat)
  (w':=w.alloc (.cells (madeCells z.cells (m.toNat*i.size)) el)) ?_ (by rw[hheap];exact HExt.push _ _) (Keep.alloc _ _)
  ⟨.inl ⟨(List.replicate m.toNat z.cells.toList).flatten,el,[],by simp only[Names.setO,if_true];rw[hheap];exact push_new _ _,by simp[Names.setO],hrows _ _,m.toNat,by simp[Names.setO],by simp,?_⟩,by simp[Names.setO],trivial⟩
  (by simp) (by simp) (by simp[Obj.cells,LV.toksL]) ⟨by simp[Names.setO],_,_,rfl⟩ rfl
 .simp[execOp,ho,el1,el2,hrun]
 .simp[hzsz'];rw[t5];exact Nat.le_refl _
end
open Go.RowKit
section
variable {call:CallF}{P:Program}{nt:Nat}{F:Fr}{Wr:Nat->Prop}{K:Know}{N:Names}{a:Act}{w:World}{s:LSt}{o:Oper}
theorem dem_inv (h:Rel nt F Wr K N a w s) (ds:List Nat):
  Inv Wr K N w.heap (demPairs ds (pairs a s.env)) (s.objs.map fun x=>(x.1,x.2.dem ds)) /\
   (∀g∈ds,¬Occ (demPairs ds (pairs a s.env)) (s.objs.map fun x=>(x.1,x.2.dem ds)) g) /\
   (∀g,Occ (demPairs ds (pairs a s.env)) (s.objs.map fun x=>(x.1,x.2.dem ds)) g->Occ (pairs a s.env) s.objs g/\g∉ds) /\
   (∀x∈s.objs.map (fun x=>(x.1,x.2.dem ds)),∃y∈s.objs,x.1=y.1):=by
 obtain⟨i1,i2⟩:=h.inv.dem ds
 refine⟨i1,i2,?_,fun x hx=>by obtain⟨y,hy,rfl⟩:=List.mem_map.1 hx;exact⟨y,hy,rfl⟩⟩
 intro g hg
 refine⟨?_,fun hd=>i2 g hd hg⟩
 rcases hg with⟨p,a,b⟩ | ⟨x,a,b⟩
 .obtain⟨q,hq,rfl⟩:=List.mem_map.1 a
  exact .inl ⟨q,hq,((LV.toks_dem ds q.2 g).1 b).1⟩
 .obtain⟨q,hq,rfl⟩:=List.mem_map.1 a
  simp only[Obj.cells_dem]at b
  exact .inr ⟨q,hq,((LV.toksL_dem ds _ g).1 b).1⟩
theorem OpOk.newList (h:Rel nt F Wr K N a w s){g sz n cap:Nat}{es:List (List PV)}{us:List Value}{cs:Array Value}{el:TypeId}{w':World}{ds:List Nat}(hg:g∈ds)
  (hr:(execOp a.eval o).run P w = .ok (.value (.slice (some ⟨w.heap.size,0,none⟩) n cap)) w') (hw:w'.heap=w.heap.push (.cells cs el (0,0))) (hk:Keep Wr w w')
  (hn:n=es.length) (hc:n<=cap) (hcap:cap*sz<=cs.size) (hu:RepPs K es.flatten us) (hcs:cs.toList.take (n*sz)=us) (he:∀e∈es,e.length=sz):
  OpOk P F Wr K a w s o { dem:=ds,upd:=[],val:=some (.own g sz es) }:=by
 obtain⟨i1,i2,i3,i4⟩:=dem_inv h ds
 let f:Nat->Option Value:=fun k=>if k<n*sz then cs[k]? else none
 have hM:∀x∈s.objs.map (fun x=>(x.1,x.2.dem ds)),w.heap.size∉N.F x.1:=fun x hx hb=>by
  have:=(i1.objs x hx).1.lt _ hb;omega
 have hS:∀g',Occ (demPairs ds (pairs a s.env)) (s.objs.map fun x=>(x.1,x.2.dem ds)) g'->spare (N.G g').1≠some w.heap.size:=fun g' hg' e=>by
  have:=(i1.toks g' hg').spare_lt e;omega
 have hnew:w'.heap[w.heap.size]?=some (.cells cs el (0,0)):=by rw[hw];exact push_new _ _
 have hle:=Know.le_put (K:=K) (b:=w.heap.size) (f:=f) (fun k v hkv=>by rw[i1.fresh (Nat.le_refl _)]at hkv;cases hkv)
 have j1:=i1.know (h':=w'.heap) (b:=w.heap.size) (f:=f) (fun b x _ hb=>by rw[hw];exact HExt.push _ _ b x hb)
  (fun k v hkv=>by rw[i1.fresh (Nat.le_refl _)]at hkv;cases hkv)
  (fun k v hkv=>by
   simp only[f]at hkv
   split at hkv
   .simp only[hcell,hnew];exact hkv
   .cases hkv) hM hS
 have hKb:∀i u,us[i]?=some u->(K.put w.heap.size f) w.heap.size (0+i)=some u:=by
  intro i u hi
  rw[<-hcs,List.getElem?_take]at hi
  simp only[Know.put,if_true,f,Nat.zero_add]
  split at hi
  .rename_i hlt;simpa[hlt]using hi
  .cases hi
 have hrep:RepP (K.put w.heap.size f) (.lst sz es) (.slice (some ⟨w.heap.size,0,none⟩) n cap):=
  ⟨_,_,_,rfl,hn,hc,.inr ⟨_,_,rfl,repRows_of he (RepPs.mono hle hu) hKb⟩⟩
 have j2:=j1.addTok (g:=g) (sz:=sz) (v := .slice (some ⟨w.heap.size,0,none⟩) n cap) (es:=es) (i2 g hg)
  (.inr ⟨_,_,_,cs,el,rfl,hnew,h.new _ (Nat.le_refl _),hcap,fun k hk'=>by
   have:¬k<n*sz:=by simp only at hk';omega
   simp[Know.put,f,this]⟩)
  (fun b hb=>by
   simp only[spare,osi]at hb
   subst hb;exact⟨hS,hM⟩) hrep
 exact⟨_,w',K.put w.heap.size f,N.setG g (.slice (some ⟨w.heap.size,0,none⟩) n cap,sz),.inl hr,KExt.put hle (h.new _ (Nat.le_refl _)),hk,by simpa[updObjs]using j2,h.pin⟩
theorem rowsOf_rep (h:Rel nt F Wr K N a w s){sz:Nat}:∀ {xs:List Opd}{Xs:List Operand}{es:List (List PV)},rowsOf s sz xs=some es->chkOpds xs Xs=true ->
  (∀e∈es,e.length=sz)/\es.length=xs.length/\(∀X∈Xs,(a.eval X).cells.size=sz)/\RepPs K es.flatten (Xs.flatMap fun X=>(a.eval X).cells.toList):=by
 intro xs
 induction xs with
 | nil=>
  intro Xs es he hc
  cases Xs with
  | nil=>simp[rowsOf]at he;subst he;exact⟨by simp,rfl,by simp,rfl⟩
  | cons _ _=>simp[chkOpds]at hc
 | cons x xs ih=>
  intro Xs es he hc
  cases Xs with
  | nil=>simp[chkOpds]at hc
  | cons X Xs=>
   simp only[chkOpds,bat]at hc
   simp only[rowsOf]at he
   obtain⟨l,hl,he⟩:=obs he
   obtain⟨ps,hps,he⟩:=obs he
   split at he<;>(try simp only[reduceCtorEq]at he)
   rename_i hlen
   obtain⟨r,hr,he⟩:=obs he
   simp only[osi]at he
   subst he
   obtain⟨a1,a2⟩:=h.opd hl hc.1
   obtain⟨b1,b2,b3,b4⟩:=ih hr hc.2
   have hcells:RepLs K N l.cells (a.eval X).cells.toList:=by
    have hfl:∀ {l:LV}{p:PV},l.toPV=some p->l.flat=true:=by
     intro l p hp;cases l<;>first | rfl | (simp[LV.toPV]at hp)
    cases l with
    | agg ls=>obtain⟨vs,e,_,hr⟩:=a1;rw[e];simpa[Value.cells,LV.cells]using hr
    | tup ls=>simp[LV.cells,toPVs,LV.toPV]at hps
    | _=>rw[cells_one (repL_one a1 rfl)];exact⟨_,[],rfl,a1,rfl⟩
   have hrep:=toPVs_rep hps hcells
   refine⟨?_,by simp[b2],?_,?_⟩
   .intro e he
    cases he with
    | head=>exact hlen
    | tail _ he=>exact b1 e he
   .intro Y hY
    cases hY with
    | head=>rw[<-Array.length_toList,hrep.len,hlen]
    | tail _ hY=>exact b3 Y hY
   .simp only[List.flatten_cons,List.flatMap_cons]
    exact hrep.join b4
theorem foldl_put (us:List Value):∀ (off k:Nat) (cells:Array Value),off+k+us.length<=cells.size ->
  ((us.zipIdx k).foldl (fun cs (c,j)=>cs.setIfInBounds (off+j) c) cells).toList=cells.toList.take (off+k)++us++cells.toList.drop (off+k+us.length):=by
 induction us with
 | nil=>intro off k cells _;simp
 | cons u us ih=>
  intro off k cells hle
  simp only[List.length_cons]at hle
  rw[List.zipIdx_cons,List.foldl_cons,ih off (k+1) _ (by simp;omega)]
  simp only[Array.toList_setIfInBounds,List.length_cons]
  have e1:off+(k+1)=off+k+1:=by omega
  rw[e1]
  have hlt:off+k<cells.toList.length:=by simp;omega
  rw[List.take_add_one,List.take_set_of_le (Nat.le_refl _),List.getElem?_set_self hlt,List.drop_set_of_lt (by omega)]
  simp[Nat.add_assoc,Nat.add_comm 1]
theorem fill_rows {sz:Nat}:∀ (vs:List Value) (k:Nat) (cells:Array Value),(∀v∈vs,v.cells.size=sz)->(k+vs.length)*sz<=cells.size ->
  ∃cs,Instr.fill (fun i=>some (i*sz,sz)) cells ((List.range' k vs.length).zip vs)=some cs /\
   cs.toList=cells.toList.take (k*sz)++vs.flatMap (fun v=>v.cells.toList)++cells.toList.drop ((k+vs.length)*sz)/\cs.size=cells.size:=by
 intro vs
 induction vs with
 | nil=>intro k cells _ _;exact⟨cells,rfl,by simp,rfl⟩
 | cons v vs ih=>
  intro k cells hv hle
  simp only[List.length_cons]at hle
  have hvs:=hv v (by simp)
  have hle1:k*sz+sz<=cells.size:=by
   have:(k+1)*sz<=(k+(vs.length+1))*sz:=Nat.mul_le_mul_right _ (by omega)
   rw[Nat.succ_mul]at this
   omega
  obtain⟨cs,h1,h2,h3⟩:=ih (k+1) (v.cells.zipIdx.foldl (fun cs (c,j)=>cs.setIfInBounds (k*sz+j) c) cells) (fun x hx=>hv x (by simp[hx])) (by
   have hsz:(v.cells.zipIdx.foldl (fun cs (c,j)=>cs.setIfInBounds (k*sz+j) c) cells).size=cells.size:=by
    rw[<-Array.foldl_toList]
    generalize v.cells.zipIdx.toList=l
    induction l generalizing cells with
    | nil=>rfl
    | cons x l ihl=>rw[List.foldl_cons,ihl]<;>simp<;>omega
   rw[hsz,show k+1+vs.length=k+(vs.length+1) by omega];exact hle)
  have hput:(v.cells.zipIdx.foldl (fun cs (c,j)=>cs.setIfInBounds (k*sz+j) c) cells).toList=cells.toList.take (k*sz)++v.cells.toList++cells.toList.drop (k*sz+sz):=by
   have:=foldl_put v.cells.toList (k*sz) 0 cells (by simp[hvs];omega)
   simp only[Nat.add_zero,Array.length_toList,hvs]at this
   rw[<-this,<-Array.foldl_toList]
   congr 1
   rw[Array.toList_zipIdx]
  refine⟨cs,?_,?_,?_⟩
  .simp only[List.length_cons,List.range'_succ,List.zip_cons_cons,Instr.fill,hvs]
   have:¬(cells.size<k*sz+sz):=by omega
   simp only[ne_eq,not_true,decide_false,gt_iff_lt,this,Bool.or_self,Bool.false_eq_true,if_false]
   exact h1
  .rw[h2,hput]
   have hl:(cells.toList.take (k*sz)).length=k*sz:=by simp;omega
   have hl2:(cells.toList.take (k*sz)++v.cells.toList).length=(k+1)*sz:=by rw[List.length_append,hl,Array.length_toList,hvs,Nat.succ_mul]
   have e:(k+1+vs.length)*sz=(k+1)*sz+vs.length*sz:=Nat.add_mul _ _ _
   rw[List.take_left' hl2,e,<-List.drop_drop,List.drop_left' hl2,List.drop_drop]
   simp only[List.flatMap_cons,List.append_assoc,List.length_cons]
   congr 4
   have:(k+(vs.length+1))*sz=k*sz+(vs.length+1)*sz:=Nat.add_mul _ _ _
   rw[this,Nat.succ_mul]
   omega
  .rw[h3,<-Array.length_toList,hput]
   simp[hvs]
   omega
def chkSeq:Nat->List (Nat×Operand)->Bool
 | _,[]=>true
 | k,(i,_)::r=>i == k&&chkSeq (k+1) r
theorem chkSeq_eq:∀ {parts:List (Nat×Operand)}{k:Nat},chkSeq k parts=true->parts.map (·.1)=List.range' k parts.length:=by
 intro parts
 induction parts with
 | nil=>intro k _;rfl
 | cons p parts ih=>
  intro k h
  simp only[chkSeq,bat]at h
  simp only[List.map_cons,List.length_cons,List.range'_succ,ih h.2,eq_of_beq h.1]
def chkZeroSz (P:Program) (t:TypeId) (sz:Nat):Bool:=
 match P.underlying t with
 | some (.slice e)=>match P.info? e with
  | some i=>match i.zero with
   | some z=>z.cells.size == sz&&i.size == sz&&decide (i.bytes<=256)&&sz != 0
   | none=>false
  | none=>false
 | _=>false
theorem chkZeroSz_eq {t:TypeId}{sz:Nat}(h:chkZeroSz P t sz=true):∃e i z,P.underlying t=some (.slice e)/\P.info? e=some i/\i.zero=some z/\z.cells.size=sz/\i.size=sz/\i.bytes<=256/\sz≠0:=by
 unfold chkZeroSz at h
 split at h
 .rename_i e he
  split at h
  .rename_i i hi
   split at h
   .rename_i z hz
    simp only[bat]at h
    exact⟨e,i,z,he,hi,hz,eq_of_beq h.1.1.1,eq_of_beq h.1.1.2,of_decide_eq_true h.1.2,by simpa using h.2⟩
   .cases h
  .cases h
 .cases h
theorem run_buildSlice {t el:TypeId}{i:TypeInfo}{z:Value}{n sz:Nat}{parts:Array (Nat×Value)}{cs:Array Value}(t1:P.underlying t=some (.slice el)) (t2:P.info? el=some i) (t3:i.zero=some z) (t4:z.cells.size=sz) (t5:i.size=sz) (h0:sz≠0) (hn:n*sz<=16777216)
  (hf:Instr.fill (fun i=>some (i*sz,sz)) ((Array.range (n*sz)).map fun k=>z.cells[k%z.cells.size]!) parts.toList=some cs):
  (Instr.buildSlice t n parts).run P w = .ok (.slice (some ⟨w.heap.size,0,none⟩) n n) (w.alloc (.cells cs el)):=by
 have hnlt:¬(16777216<n*sz):=by omega
 subst t5
 by_cases hz:n*i.size=0
 .have hn0:n=0:=(Nat.mul_eq_zero.1 hz).resolve_right h0
  subst hn0
  simp only[Nat.zero_mul]at hf
  simp[Instr.buildSlice,run_underlying t1,sizeOf,typeInfo,t2,newRow]
  have:(Array.map (fun k=>z.cells[k%z.cells.size]!) (Array.range 0))=(#[]:Array Value):=by simp
  rw[this]at hf
  have e:Array.map (fun _:Nat=>(default:Value)) (Array.range 0) = #[]:=by simp
  rw[e,hf]
  simp
 .have hnn:¬(n=0\/i.size=0):=by rintro (h | h)<;>simp[h]at hz
  simp only[Instr.buildSlice,Sem.run_bind,run_underlying t1,Result.andThen_ok,sizeOf,typeInfo,run_program,t2,Sem.run_pure,gt_iff_lt,hnlt,if_false,hz,zeroValue,t3,hf,newRow,run_newObj,World.alloc_eq]
theorem ok_bslice (h:Rel nt F Wr K N a w s){g sz n:Nat}{xs:List Opd}{parts:Array (Nat×Operand)}{t:TypeId}{e:Eff}(he:evOp call s (.bslice g sz xs)=some e)
  (ho:o.op = .buildSlice t n parts) (hc:(chkOpds xs (parts.toList.map (·.2))&&chkSeq 0 parts.toList&&(n == parts.size)&&chkZeroSz P t sz&&decide (n*sz<=16777216))=true):
  OpOk P F Wr K a w s o e:=by
 simp only[bat]at hc
 obtain⟨⟨⟨⟨c1,c2⟩,c3⟩,c4⟩,c5⟩:=hc
 have c5:=of_decide_eq_true c5
 have c3:n=parts.size:=eq_of_beq c3
 obtain⟨el,i,z,t1,t2,t3,t4,t5,t6,t7⟩:=chkZeroSz_eq c4
 simp only[evOp]at he
 obtain⟨es,hes,he⟩:=obs he
 simp only[osi]at he
 subst he
 obtain⟨r1,r2,r3,r4⟩:=rowsOf_rep h hes c1
 have hxl:xs.length=n:=by
  have:∀ (xs:List Opd) (Xs:List Operand),chkOpds xs Xs=true->xs.length=Xs.length:=by
   intro xs
   induction xs with
   | nil=>intro Xs h;cases Xs with | nil=>rfl | cons _ _=>simp[chkOpds]at h
   | cons x xs ih=>intro Xs h;cases Xs with | nil=>simp[chkOpds]at h | cons X Xs=>simp only[chkOpds,bat]at h;simp[ih Xs h.2]
  rw[this _ _ c1,c3];simp
 have hparts:(parts.map fun (i,x)=>(i,a.eval x)).toList=(List.range' 0 n).zip (parts.toList.map fun p=>a.eval p.2):=by
  have h1:=chkSeq_eq c2
  rw[Array.length_toList,<-c3]at h1
  rw[<-h1]
  simp only[Array.toList_map]
  generalize parts.toList=l
  induction l with
  | nil=>rfl
  | cons p l ih=>simp[ih]
 let zero:Array Value:=(Array.range (n*sz)).map fun k=>z.cells[k%z.cells.size]!
 obtain⟨cs,f1,f2,f3⟩:=fill_rows (sz:=sz) (parts.toList.map fun p=>a.eval p.2) 0 zero (by
   intro v hv
   obtain⟨p,hp,rfl⟩:=List.mem_map.1 hv
   exact r3 p.2 (List.mem_map.2 ⟨p,hp,rfl⟩)) (by simp[zero,c3])
 simp only[List.length_map,Array.length_toList,<-c3]at f1 f2
 have hzs:zero.size=n*sz:=by simp[zero]
 have hcs:cs.toList=(parts.toList.map fun p=>a.eval p.2).flatMap fun v=>v.cells.toList:=by
  rw[f2]
  simp[hzs]
 refine OpOk.newList h (n:=n) (cap:=n) (es:=es) (cs:=cs) (el:=el) (w':=w.alloc (.cells cs el)) (List.mem_singleton.2 rfl) ?_ rfl (Keep.alloc _ _) (by rw[r2,hxl]) (Nat.le_refl _) (by rw[f3,hzs];exact Nat.le_refl _) r4 ?_ r1
 .have hrun:=run_buildSlice (w:=w) (n:=n) (parts:=parts.map fun (i,x)=>(i,a.eval x)) (cs:=cs) t1 t2 t3 t4 t5 t7 c5 (by rw[hparts];exact f1)
  simp[execOp,ho]
  rw[hrun]
  rfl
 .rw[hcs,List.take_of_length_le]
  .simp[List.flatMap_map]
  .rw[<-hcs,Array.length_toList,f3,hzs];exact Nat.le_refl _
theorem ok_slice0 (h:Rel nt F Wr K N a w s){g sz:Nat}{x:Opd}{X:Operand}{t:TypeId}{H M:Operand}{e:Eff}(he:evOp call s (.slice0 g sz x)=some e)
  (ho:o.op = .slice t X none (some H) (some M)) (hc:(chkOpd x X&&sliceTy P t&&chkOpd (.c (.int .i64 0)) H&&chkOpd (.c (.int .i64 0)) M&&chkElem P t sz)=true):OpOk P F Wr K a w s o e:=by
 simp[evOp]at he
theorem run_append_empty {t ty e:TypeId}{sz:Nat}(ht:P.underlying t=some (.slice e)) (hs:szOf P e=some sz){ba yb:Option Addr}{len cap yc:Nat}(hlc:len<=cap):
  (Builtin.append_ #[t,t] ty #[.slice ba len cap,.slice yb 0 yc]).run P w = .ok (.slice ba len cap) w:=by
 have h0:(Builtin.firstCells sz 0 (.slice yb 0 yc)).run P w = .ok #[] w:=by
  cases yb with
  | none=>rfl
  | some b=>simp[Builtin.firstCells,loadCells,loadCellsFrom]
 cases ba<;>simp[Builtin.append_,run_underlying ht,run_sizeOf hs,Builtin.lenOf,hlc,h0,storeCells]
theorem rowvals {K:Know}{sz:Nat}:∀ {es:List (List PV)}{b o:Nat},RepRows K sz es b o->(∀e∈es,e.length=sz)/\∃us,RepPs K es.flatten us/\us.length=es.length*sz/\∀j u,us[j]?=some u->K b (o+j)=some u:=by
 intro es
 induction es with
 | nil=>intro b o _;exact⟨by simp,[],rfl,by simp,by simp⟩
 | cons e es ih=>
  rintro b o ⟨q1,q2,q3⟩
  obtain⟨p1,us,p2,p3,p4⟩:=ih q3
  obtain⟨vs,v1,v2⟩:=q2.vals
  have hvl:vs.length=sz:=by rw[v1.len,q1]
  refine⟨fun x hx=>by cases hx with | head=>exact q1 | tail _ hx=>exact p1 x hx,vs++us,by simpa using v1.join p2,by simp[hvl,p3,Nat.succ_mul,Nat.add_comm],fun j u hj=>?_⟩
  by_cases hlt:j<vs.length
  .rw[List.getElem?_append_left hlt]at hj;exact v2 j u hj
  .rw[List.getElem?_append_right (by omega)]at hj
   have:=p4 _ u hj
   rwa [show o+sz+(j-vs.length)=o+j by omega]at this
structure AppY (P:Program) (w:World) (t tY ty el:TypeId) (i:TypeInfo) (z:Value) (sz m:Nat) (yv:Value) (news:List Value):Prop where
 r0:m=0->∀ba len cap,len<=cap->(Builtin.append_ #[t,tY] ty #[.slice ba len cap,yv]).run P w = .ok (.slice ba len cap) w
 r1:∀b len cap el' cs,w.heap[b]?=some (.cells cs el' (0,0))->len+m<=cap->len*i.size+news.length<=cs.size->(∀u∈news,u.oneCell'=true)->0<m ->
  (Builtin.append_ #[t,tY] ty #[.slice (some ⟨b,0,none⟩) len cap,yv]).run P w = .ok (.slice (some ⟨b,0,none⟩) (len+m) cap) (w.setRow b (cs.toList.take (len*i.size)++news++cs.toList.drop (len*i.size+news.length)).toArray)
 r2:0<m->(m:Int)<=9223372036854775807->m*i.bytes<=281474976710656->(Builtin.append_ #[t,tY] ty #[.slice none 0 0,yv]).run P w =
   .ok (.slice (some ⟨w.heap.size,0,none⟩) m (grownCap w m 0 el)) (w.drew.alloc (.cells (news.toArray++Builtin.zeroCells z.cells (grownCap w m 0 el-m)) el))
 r3:∀ (b:Addr) (sLen sCap:Nat) (olds:List Value),olds.length=sLen*i.size->(∀j v,olds[j]?=some v->w.cell? (b.add j)=some v)->sCap<sLen+m->((sLen+m:Nat):Int)<=9223372036854775807 ->
  Builtin.nextslicecap (sLen+m) sCap*i.bytes<=281474976710656->(Builtin.append_ #[t,tY] ty #[.slice (some b) sLen sCap,yv]).run P w =
   .ok (.slice (some ⟨w.heap.size,0,none⟩) (sLen+m) (grownCap w (sLen+m) sCap el))
    (w.drew.alloc (.cells (olds.toArray++news.toArray++Builtin.zeroCells z.cells (grownCap w (sLen+m) sCap el-(sLen+m))) el))
def isIntTy:TypeDesc->Bool
 | .string=>false
 | .slice _=>false
 | _=>true
theorem appY_of {t tY ty el:TypeId}{u:TypeDesc}{i:TypeInfo}{z yv:Value}{sz m:Nat}{news:List Value}(t1:P.underlying t=some (.slice el)) (t2:P.info? el=some i) (t3:i.zero=some z) (hu:P.underlying tY=some u) (hu':isIntTy u=false)
  (hlen:∀w,(Builtin.lenOf yv).run P w = .ok m w) (hn:news.length=m*i.size) (hf:(Builtin.firstCells i.size m yv).run P w = .ok news.toArray w) (hf':(Builtin.firstCells i.size m yv).run P w.drew = .ok news.toArray w.drew):AppY P w t tY ty el i z sz m yv news:=by
 have hm:u = .string\/∃e,u = .slice e:=by cases u<;>first | exact .inl rfl | exact .inr ⟨_,rfl⟩ | cases hu'
 rcases hm with rfl | ⟨e0,rfl⟩
 all_goals
  refine⟨fun h0 ba len cap hlc=>?_,fun b len cap el' cs e2 hroom hfit h1 hmpos=>?_,fun h0 h63 h48=>?_,fun b sLen sCap olds hlo holds hg h63 hfit=>?_⟩
  .subst h0
   have hne:news=[]:=by rw[<-List.length_eq_zero_iff,hn,Nat.zero_mul]
   subst hne
   cases ba<;>simp[Builtin.append_,run_underlying t1,run_underlying hu,sizeOf,typeInfo,t2,hlen,hlc,hf,storeCells]
  .have hst:=run_storeCells_at P b (len*i.size) el' news 0 cs w e2 (by simpa using hfit) h1
   simp only[Nat.add_zero]at hst
   simp[Builtin.append_,run_underlying t1,run_underlying hu,sizeOf,typeInfo,t2,hlen,hroom,hf,addr_add,hst]
  .have hn0:m≠0:=by omega
   have h63':¬(9223372036854775807<(m:Int)):=by omega
   have h48':¬(281474976710656<Builtin.nextslicecap m 0*i.bytes):=by rw[nextslicecap_zero h0];omega
   simp[Builtin.append_,run_underlying t1,run_underlying hu,sizeOf,typeInfo,zeroValue,t2,t3,hlen,hn0,h63',h48',Question.forced,run_firstCells_none,hf',newRow,grownCap]
  .have hn0:¬(sLen+m<=sCap):=by omega
   have h63':¬(9223372036854775807<((sLen:Int)+(m:Int))):=by omega
   have h48':¬(281474976710656<Builtin.nextslicecap (sLen+m) sCap*i.bytes):=by omega
   have hfo:=run_firstCells_some (P:=P) w.drew i.size sLen b sLen sCap olds hlo (by simpa using holds)
   (simp[Builtin.append_,run_underlying t1,run_underlying hu,sizeOf,typeInfo,zeroValue,t2,t3,hlen,hn0,h63',h48',Question.forced,hf',hfo,newRow,grownCap];congr 2;apply Array.ext';simp[List.append_assoc])
theorem append_key (h:Rel nt F Wr K N a w s){g sz m:Nat}{ys:List (List PV)}{X:Operand}{t tY el:TypeId}{i:TypeInfo}{z yv:Value}{news:List Value}(t4:z.cells.size=sz) (t5:i.size=sz) (t6:i.bytes<=256)
  (hex:∀ba len cap v w',a.eval X = .slice ba len cap->(Builtin.append_ #[t,tY] o.type #[.slice ba len cap,yv]).run P w = .ok v w'->(execOp a.eval o).run P w = .ok (.value v) w')
  (ym:m=ys.length) (yl:∀e∈ys,e.length=sz) (n1:RepPs K ys.flatten news) (n2:news.length=m*sz) (hY:AppY P w t tY o.type el i z sz m yv news)
  (es:List (List PV)) (ds:List Nat) (ba:Option Addr) (len cap:Nat) (hgd:g∈ds) (hX:a.eval X = .slice ba len cap) (hl:len=es.length) (hlc:len<=cap) (hbig:es.length+ys.length<=bigLen)
  (hrows:es=[]\/∃b o,ba=some ⟨b,o,none⟩/\RepRows K sz es b o)
  (htip:(ba=none/\len=0/\cap=0)\/∃b cs el,ba=some ⟨b,0,none⟩/\w.heap[b]?=some (.cells cs el (0,0))/\Wr b/\cap*sz<=cs.size/\(∀k,len*sz<=k->K b k=none) /\
    (∀g',Occ (pairs a s.env) s.objs g'->g'∉ds->spare (N.G g').1≠some b)/\∀x∈s.objs,b∉N.F x.1):
  OpOk P F Wr K a w s o { dem:=ds,upd:=[],val:=some (.own g sz (es++ys)) }:=by
 obtain⟨i1,i2,i3,i4⟩:=dem_inv h ds
 have hexec:=fun v w' hv=>hex ba len cap v w' hX hv
 by_cases hm:ys=[]
 . 
  have hm0:m=0:=by rw[ym,hm];rfl
  subst hm0
  have hrun:=hexec _ _ (hY.r0 rfl ba len cap hlc)
  have j:=i1.addTok (g:=g) (sz:=sz) (v := .slice ba len cap) (es:=es++ys) (i2 g hgd)
   (htip.imp (fun⟨e1,e2,e3⟩=>by subst e1;subst e2;subst e3;rfl) fun⟨b,cs,el',e1,e2,e3,e4,e5,_⟩=>⟨b,len,cap,cs,el',by rw[e1],e2,e3,e4,e5⟩)
   (fun b hb=>by
    rcases htip with⟨e1,_⟩ | ⟨b',cs,el',e1,e2,e3,e4,e5,e6,e7⟩
    .rw[e1]at hb;cases hb
    .rw[e1]at hb
     cases hb
     refine⟨fun g' hg'=>e6 g' (i3 g' hg').1 (i3 g' hg').2,fun x hx=>?_⟩
     obtain⟨y,hy,e⟩:=i4 x hx
     rw[e];exact e7 y hy)
   (by rw[hm,List.append_nil];exact⟨_,_,_,rfl,hl,hlc,hrows⟩)
  exact⟨_,w,K,N.setG g (.slice ba len cap,sz),.inl hrun,KExt.refl,Keep.refl _ _,by simpa[updObjs]using j,h.pin⟩
 . 
  have hmpos:0<m:=by rw[ym];exact List.length_pos_iff.2 hm
  have hneed:len+m<=bigLen:=by rw[hl,ym];exact hbig
  have h63:((len+m:Nat):Int)<=9223372036854775807:=by unfold bigLen at hneed;omega
  have hb48:(len+m)*i.bytes<=140737488355328:=by
   have:(len+m)*i.bytes<=(len+m)*256:=Nat.mul_le_mul_left _ t6
   unfold bigLen at hneed
   omega
  obtain⟨oldsl,olds,d1,d2,d3⟩:(∀e∈es,e.length=sz)/\∃olds,RepPs K es.flatten olds/\olds.length=len*sz/\∀b o,ba=some ⟨b,o,none⟩->∀j u,olds[j]?=some u->K b (o+j)=some u:=by
   rcases hrows with hn | ⟨b,o',hb,hrows⟩
   .subst hn;exact⟨by simp,[],rfl,by simp[hl],by simp⟩
   .obtain⟨q1,us,q2,q3,q4⟩:=rowvals hrows
    refine⟨q1,us,q2,by rw[q3,hl],fun b' o'' hb'=>?_⟩
    rw[hb]at hb';cases hb';exact q4
  have hall:∀e∈es++ys,e.length=sz:=fun e he=>by
   rcases lma he with he | he
   .exact oldsl e he
   .exact yl e he
  have hflat:RepPs K (es++ys).flatten (olds++news):=by rw[List.flatten_append];exact d1.join n1
  have hlen:len+m=(es++ys).length:=by rw[List.length_append,hl,ym]
  have holdnew:(olds++news).length=(len+m)*sz:=by rw[List.length_append,d2,n2,Nat.add_mul]
  by_cases hroom:len+m<=cap
  . 
   obtain⟨b,cs,el',e1,e2,e3,e4,e5,e6,e7⟩:=htip.resolve_left (by omega)
   subst e1
   have hfit:len*i.size+news.length<=cs.size:=by
    rw[t5,n2,<-Nat.add_mul]
    exact Nat.le_trans (Nat.mul_le_mul_right _ hroom) e4
   have hel:el'=el\/True := .inr trivial
   have h1:∀u∈news,u.oneCell'=true:=repPs_one n1
   have hrun0:=hY.r1 b len cap el' cs e2 hroom hfit h1 hmpos
   have hrun:=hexec _ _ hrun0
   rw[t5]at hrun
   let cs':Array Value:=(cs.toList.take (len*sz)++news++cs.toList.drop (len*sz+news.length)).toArray
   let f:Nat->Option Value:=fun k=>if len*sz<=k/\k<(len+m)*sz then cs'[k]? else K b k
   have hlk:(cs.toList.take (len*sz)).length=len*sz:=by
    rw[List.length_take,Array.length_toList]
    have:len*sz<=cs.size:=Nat.le_trans (Nat.mul_le_mul_right _ hlc) e4
    omega
   have hnewcell:∀j u,news[j]?=some u->cs'[len*sz+j]?=some u:=by
    intro j u hj
    simp only[cs',List.getElem?_toArray,List.append_assoc]
    rw[List.getElem?_append_right (by omega),hlk,Nat.add_sub_cancel_left,List.getElem?_append_left (lgs hj).1]
    exact hj
   have hoff:∀k v,K b k=some v->k<len*sz:=by
    intro k v hk
    by_cases hlt:k<len*sz
    .exact hlt
    .rw[e5 k (by omega)]at hk;cases hk
   have hheap:(w.setRow b cs').heap[b]?=some (.cells cs' el' (0,0)):=setRow_heap w b cs cs' el' (0,0) e2
   have hle:=Know.le_put (K:=K) (b:=b) (f:=f) (fun k v hk=>by
    have:=hoff k v hk
    have hn:¬(len*sz<=k/\k<(len+m)*sz):=by omega
    simp only[f,if_neg hn];exact hk)
   have hS:∀g',Occ (demPairs ds (pairs a s.env)) (s.objs.map fun x=>(x.1,x.2.dem ds)) g'->spare (N.G g').1≠some b:=fun g' hg'=>e6 g' (i3 g' hg').1 (i3 g' hg').2
   have hM:∀x∈s.objs.map (fun x=>(x.1,x.2.dem ds)),b∉N.F x.1:=fun x hx=>by
    obtain⟨y,hy,e⟩:=i4 x hx
    rw[e];exact e7 y hy
   have j1:=i1.know (h':=(w.setRow b cs').heap) (b:=b) (f:=f) (fun b' x hne hb=>by rw[setRow_other w b b' cs' hne];exact hb)
    (fun k v hk=>by
     have:=hoff k v hk
     have hn:¬(len*sz<=k/\k<(len+m)*sz):=by omega
     simp only[f,if_neg hn];exact hk)
    (fun k v hk=>by
     simp only[f]at hk
     simp only[hcell,hheap]
     split at hk
     .exact hk
     .have hlt:=hoff k v hk
      have hold:=h.inv.sat b k v hk
      simp only[hcell,e2]at hold
      simp only[cs',List.getElem?_toArray,List.append_assoc]
      rw[List.getElem?_append_left (by omega),List.getElem?_take,if_pos hlt]
      simpa using hold) hM hS
   have hrep:RepP (K.put b f) (.lst sz (es++ys)) (.slice (some ⟨b,0,none⟩) (len+m) cap):=by
    refine⟨_,_,_,rfl,hlen,hroom,.inr ⟨b,0,rfl,repRows_of hall (RepPs.mono hle hflat) ?_⟩⟩
    intro k u hk
    rw[Nat.zero_add]
    by_cases hlt:k<olds.length
    .rw[List.getElem?_append_left hlt]at hk
     have:=d3 b 0 rfl k u hk
     rw[Nat.zero_add]at this
     exact hle b k u this
    .rw[List.getElem?_append_right (by omega)]at hk
     have hkl:=(lgs hk).1
     have hin:len*sz<=k/\k<(len+m)*sz:=by rw[Nat.add_mul];omega
     simp only[Know.put,if_true,f,if_pos hin]
     have:=hnewcell _ u hk
     rwa [show len*sz+(k-olds.length)=k by omega]at this
   have j2:=j1.addTok (g:=g) (sz:=sz) (v := .slice (some ⟨b,0,none⟩) (len+m) cap) (es:=es++ys) (i2 g hgd)
    (.inr ⟨b,_,_,cs',el',rfl,hheap,e3,by
     have:cs'.size=cs.size:=by
      simp only[cs',List.size_toArray,List.length_append,hlk,List.length_drop,Array.length_toList]
      rw[t5]at hfit
      omega
     rw[this];exact e4,fun k hk=>by
      have hn:¬(len*sz<=k/\k<(len+m)*sz):=by simp only at hk;omega
      simp only[Know.put,if_true,f,if_neg hn]
      exact e5 k (by simp only at hk;rw[Nat.add_mul]at hk;omega)⟩)
    (fun b' hb'=>by cases hb';exact⟨hS,hM⟩) hrep
   exact⟨_,w.setRow b cs',K.put b f,N.setG g (.slice (some ⟨b,0,none⟩) (len+m) cap,sz),.inl hrun,KExt.put hle e3,Keep.setRow w b cs' e3,by simpa[updObjs]using j2,h.pin⟩
  . 
   have hcut:len+m<=grownCap w (len+m) cap el:=by simp[grownCap,Question.cut]
   have hzs:∀n,(Builtin.zeroCells z.cells n).size=n*sz:=fun n=>by simp[Builtin.zeroCells,t4]
   have hfin:∀cs:Array Value,cs=olds.toArray++news.toArray++Builtin.zeroCells z.cells (grownCap w (len+m) cap el-(len+m)) ->
     (Builtin.append_ #[t,tY] o.type #[.slice ba len cap,yv]).run P w = .ok (.slice (some ⟨w.heap.size,0,none⟩) (len+m) (grownCap w (len+m) cap el)) (w.drew.alloc (.cells cs el)) ->
     OpOk P F Wr K a w s o { dem:=ds,upd:=[],val:=some (.own g sz (es++ys)) }:=by
    intro cs hcs hrun0
    have hsz':cs.size=grownCap w (len+m) cap el*sz:=by
     rw[hcs]
     simp only[Array.size_append,List.size_toArray,hzs]
     have e1:olds.length+news.length=(len+m)*sz:=by rw[<-holdnew,List.length_append]
     rw[e1,<-Nat.add_mul]
     congr 1
     omega
    refine OpOk.newList h (n:=len+m) (cap:=grownCap w (len+m) cap el) (us:=olds++news) (cs:=cs) (el:=el) (w':=w.drew.alloc (.cells cs el)) hgd (hexec _ _ hrun0) rfl ((Keep.drew w).trans (Keep.alloc _ _)) hlen hcut
     (by rw[hsz'];exact Nat.le_refl _) hflat ?_ hall
    rw[hcs]
    simp only[Array.toList_append,List.toList_toArray]
    rw[<-holdnew,List.take_left]
   cases ba with
   | none=>
    have hes:es=[]:=by
     rcases hrows with h | ⟨b,o',hb,_⟩
     .exact h
     .cases hb
    have hl0:len=0:=by rw[hl,hes];rfl
    have hc0:cap=0:=by
     rcases htip with h | ⟨b,cs,el',e1,_⟩
     .exact h.2.2
     .cases e1
    have ho0:olds=[]:=by rw[<-List.length_eq_zero_iff,d2,hl0,Nat.zero_mul]
    subst hl0;subst hc0;subst ho0
    refine hfin _ rfl ?_
    have:=hY.r2 hmpos (by omega) (by rw[Nat.zero_add]at hb48;omega)
    simp only[Nat.zero_add]
    rw[this]
    simp
   | some ad=>
    rcases hrows with hn | ⟨b,o',hb,hrows⟩
    . 
     have hl0:len=0:=by rw[hl,hn];rfl
     have ho0:olds=[]:=by rw[<-List.length_eq_zero_iff,d2,hl0,Nat.zero_mul]
     subst ho0
     refine hfin _ rfl ?_
     exact hY.r3 ad len cap [] (by rw[hl0];simp) (by simp) (by omega) h63 (growslice_fits (by omega) hb48)
    .cases hb
     refine hfin _ rfl ?_
     exact hY.r3 ⟨b,o',none⟩ len cap olds (by rw[d2,t5]) (fun j v hj=>by rw[addr_add,cell?_heap];exact h.inv.sat _ _ _ (d3 b o' rfl j v hj)) (by omega) h63 (growslice_fits (by omega) hb48)
theorem cat_rep {K:Know}{N:Names}{l:LV}{v:Value}{r:Nat×List (List PV)}(h:l.cat?=some r) (hr:RepL K N l v):(∃b,v = .string b/\r=(1,bytesR b))\/RepP K (.lst r.1 r.2) v:=by
 unfold LV.cat? at h
 split at h
 .cases h;exact .inl ⟨_,hr.1,rfl⟩
 .exact .inr (lst?_rep h hr)
theorem ok_append (h:Rel nt F Wr K N a w s){g sz:Nat}{gx:Option Nat}{x y:Opd}{X Y:Operand}{t tY:TypeId}{u:TypeDesc}{e:Eff}(he:evOp call s (.append g sz gx x y)=some e)
  (ho:o.op = .call { callee := .builtin .append,args := #[X,Y],argTypes := #[t,tY] }) (hu:P.underlying tY=some u) (hu':isIntTy u=false) (hc:(chkOpd x X&&chkOpd y Y&&chkZeroSz P t sz)=true):OpOk P F Wr K a w s o e:=by
 simp only[bat]at hc
 obtain⟨⟨c1,c2⟩,c3⟩:=hc
 obtain⟨el,i,z,t1,t2,t3,t4,t5,t6,t7⟩:=chkZeroSz_eq c3
 simp only[evOp]at he
 obtain⟨ly,hly,he⟩:=obs he
 obtain⟨r,hr,he⟩:=obs he
 by_cases hz:r.1=sz
 case neg=>rw[if_neg hz]at he;simp at he
 rw[if_pos hz]at he
 obtain⟨lx,hlx,he⟩:=obs he
 obtain⟨x1,x2⟩:=h.opd hlx c1
 obtain⟨yv,m,news,ye,ym,yl,n1,n2,hY⟩:∃yv m news,a.eval Y=yv/\m=r.2.length/\(∀e∈r.2,e.length=sz)/\RepPs K r.2.flatten news/\news.length=m*sz/\AppY P w t tY o.type el i z sz m yv news:=by
  rcases cat_rep hr (h.opd hly c2).1 with⟨b,hb,rfl⟩ | hl
  .refine⟨_,b.size,Lib.strCells b,hb,by simp[bytesR],fun e he=>?_,?_,?_,?_⟩
   .obtain⟨c,_,rfl⟩:=List.mem_map.1 he;exact hz
   .show RepPs K (bytesR b).flatten (Lib.strCells b)
    unfold bytesR Lib.strCells
    induction b.data.toList with
    | nil=>rfl
    | cons c l ih=>exact⟨_,_,rfl,⟨rfl,rfl⟩,ih⟩
   .rw[Lib.strCells_length,<-hz];simp
   .refine appY_of t1 t2 t3 hu hu' (fun w=>rfl) (by rw[Lib.strCells_length,t5,<-hz];simp) (Lib.run_firstCells_string _ _ _) (Lib.run_firstCells_string _ _ _)
  .obtain⟨yb,m,yc,ye,ym,ymc,yrows⟩:=hl
   rw[hz]at yrows
   rcases yrows with hy | ⟨b2,o2,hyb,yrows⟩
   .have hm0:m=0:=by rw[ym,hy];rfl
    subst hm0
    have hf:∀w,(Builtin.firstCells i.size 0 (.slice yb 0 yc)).run P w = .ok #[] w:=fun w=>by
     cases yb with
     | none=>rfl
     | some b=>simp[Builtin.firstCells,loadCells,loadCellsFrom]
    exact⟨_,0,[],ye,ym,by simp[hy],by rw[hy];rfl,by simp,appY_of t1 t2 t3 hu hu' (fun w=>rfl) (by simp) (hf _) (hf _)⟩
   .obtain⟨yl,news,n1,n2,n3⟩:=rowvals yrows
    rw[<-ym]at n2
    have hnews:∀j u,news[j]?=some u->w.cell? ((⟨b2,o2,none⟩:Addr).add j)=some u:=fun j u hj=>by rw[addr_add,cell?_heap];exact h.inv.sat _ _ _ (n3 j u hj)
    have hnews':news.length=m*i.size:=by rw[n2,t5]
    subst hyb
    exact⟨_,m,news,ye,ym,yl,n1,n2,appY_of t1 t2 t3 hu hu' (fun w=>rfl) hnews' (run_firstCells_some (P:=P) w i.size m ⟨b2,o2,none⟩ m yc news hnews' hnews) (run_firstCells_some (P:=P) w.drew i.size m ⟨b2,o2,none⟩ m yc news hnews' hnews)⟩
 have key:∀ (es:List (List PV)) (ds:List Nat) (ba:Option Addr) (len cap:Nat),g∈ds->a.eval X = .slice ba len cap->len=es.length->len<=cap->es.length+r.2.length<=bigLen ->
   (es=[]\/∃b o,ba=some ⟨b,o,none⟩/\RepRows K sz es b o) ->
   ((ba=none/\len=0/\cap=0)\/∃b cs el,ba=some ⟨b,0,none⟩/\w.heap[b]?=some (.cells cs el (0,0))/\Wr b/\cap*sz<=cs.size/\(∀k,len*sz<=k->K b k=none) /\
    (∀g',Occ (pairs a s.env) s.objs g'->g'∉ds->spare (N.G g').1≠some b)/\∀x∈s.objs,b∉N.F x.1) ->
   OpOk P F Wr K a w s o { dem:=ds,upd:=[],val:=some (.own g sz (es++r.2)) }:=by
  have hex:∀ba len cap v w',a.eval X = .slice ba len cap->(Builtin.append_ #[t,tY] o.type #[.slice ba len cap,yv]).run P w = .ok v w'->(execOp a.eval o).run P w = .ok (.value v) w':=by
   intro ba len cap v w' hX hv
   simp[execOp,ho,resolve,invoke,builtin,hX,ye,hv]
  exact fun es ds ba len cap=>append_key h t4 t5 t6 hex ym yl n1 n2 hY es ds ba len cap
 cases lx with
 | nils z'=>
  simp only at he
  split at he<;>simp only[osi,reduceCtorEq]at he
  rename_i hb
  subst he
  have:=key [] [g] none 0 0 (List.mem_singleton.2 rfl) x1 rfl (Nat.le_refl _) (by simpa using hb) (.inl rfl) (.inl ⟨rfl,rfl,rfl⟩)
  simpa using this
 | own g' z' es=>
  simp only at he
  split at he<;>simp only[osi,reduceCtorEq]at he
  rename_i hb
  subst he
  obtain⟨_,rfl,hb⟩:=hb
  obtain⟨q1,q2,q3⟩:=x1
  obtain⟨ba,len,cap,e1,e2,e3,e4⟩:=q3
  have hocc:Occ (pairs a s.env) s.objs g':=x2 g' (by simp[LV.toks])
  refine key es [g,g'] ba len cap (by simp) e1 e2 e3 hb (e4.imp id fun⟨b,o',h1,h2⟩=>⟨b,o',h1,h2⟩) ?_
  rcases h.inv.toks g' hocc with f1 | ⟨b,len',cap',cs,el',f1,k2,k3,k4,k5⟩
  .rw[<-q1,e1]at f1;cases f1;exact .inl ⟨rfl,rfl,rfl⟩
  rw[<-q1,e1]at f1
  cases f1
  have hsp:spare (N.G g').1=some b:=by rw[<-q1,e1];rfl
  refine .inr ⟨b,cs,el',rfl,k2,k3,by rw[q2];exact k4,by rw[q2];exact k5,fun g2 hg2 hn hs=>?_,fun x hx=>h.inv.tobj g' x hocc hx b hsp⟩
  have:=h.inv.tinj g2 g' b hg2 hocc hs hsp
  exact hn (by simp[this])
 | _=>simp at he
end
open Go.RowKit
section
variable {Wr:Nat->Prop}{K:Know}{N:Names}{h h':Heap}{ps:List (Value×LV)}{os os':List (Nat×Obj)}
theorem RepUs.pre {l l':List Value}:∀ {e:List PV}{sh:List Shp}{F:List Nat},(∀k,k<e.length->l'[k]?=l[k]?)->RepUs K h e sh l F->RepUs K h e sh l' F:=by
 intro e
 induction e generalizing l l' with
 | nil=>intro sh F _ h;exact h
 | cons c cs ih=>
  rintro sh F hk ⟨v,r,G1,G2,f1,f2,fa,fb⟩
  subst f1
  cases l' with
  | nil=>have:=hk 0 (by simp);simp at this
  | cons v' r'=>
   have h0:=hk 0 (by simp)
   simp at h0
   subst h0
   exact⟨v',r',G1,G2,rfl,f2,fa,ih (fun k hk'=>by have:=hk (k+1) (by simpa using hk');simpa using this) fb⟩
theorem RepUR.pre {sz:Nat}{sh:List Shp}:∀ {es:List (List PV)}{l l':List Value}{F:List Nat},(∀k,k<es.length*sz->l'[k]?=l[k]?)->RepUR K h sz sh es l F->RepUR K h sz sh es l' F
 | [],_,_,_,_,h=>h
 | e::es,l,l',F,hk,⟨e1,F1,F2,e2,a,b⟩=>by
  have hs:(e::es).length*sz=sz+es.length*sz:=by simp[Nat.succ_mul,Nat.add_comm]
  refine⟨e1,F1,F2,e2,a.pre fun k hk'=>hk k (by rw[hs];omega),RepUR.pre (fun k hk'=>?_) b⟩
  simp only[List.getElem?_drop]
  exact hk _ (by rw[hs];omega)
theorem RepUR.append {sz:Nat}{sh:List Shp}:∀ {es ys:List (List PV)}{l m:List Value}{F G:List Nat},l.length=es.length*sz->RepUR K h sz sh es l F->RepUR K h sz sh ys m G->RepUR K h sz sh (es++ys) (l++m) (F++G)
 | [],ys,l,m,F,G,hl,hF,hy=>by
  have:l=[]:=by simpa using hl
  subst this
  rw[show F=[] from hF];exact hy
 | e::es,ys,l,m,F,G,hl,⟨e1,F1,F2,e2,a,b⟩,hy=>by
  have hs:(e::es).length*sz=sz+es.length*sz:=by simp[Nat.succ_mul,Nat.add_comm]
  subst e2
  refine⟨e1,F1,F2++G,by rw[List.append_assoc],a.pre fun k hk=>?_,?_⟩
  .rw[List.getElem?_append_left (by omega)]
  .rw[List.drop_append_of_le_length (by omega)]
   exact RepUR.append (by simp;omega) b hy
theorem RepU.one {p:PV}{s:Shp}{v:Value}{F:List Nat}(h':RepU K h p s v F):v.oneCell'=true:=by
 cases s with
 | v=>exact repP_one (RepU.v.1 h').2
 | self=>cases p<;>exact h'.elim
 | u sh=>
  cases p with
  | sc u=>exact repP_one h'.2
  | lst sz es=>rcases h' with⟨_,_,a,rfl⟩ | ⟨b,cap,cs,el,G,rfl,_⟩<;>rfl
  | cp _=>exact h'.elim
  | clo _ _=>exact h'.elim
  | mth _ _=>exact h'.elim
theorem RepUs.one:∀ {e:List PV}{sh:List Shp}{vs:List Value}{F:List Nat},RepUs K h e sh vs F->e.length<=vs.length/\∀u∈vs.take e.length,u.oneCell'=true
 | [],_,_,_,_=>by simp
 | c::cs,sh,vs,F,⟨v,r,F1,F2,e1,e2,a,b⟩=>by
  subst e1
  obtain⟨h1,h2⟩:=RepUs.one b
  refine⟨by simpa using h1,fun u hu=>?_⟩
  simp only[List.length_cons,List.take_succ_cons,List.mem_cons]at hu
  rcases hu with rfl | hu
  .exact a.one
  .exact h2 u hu
theorem RepUR.one {sz:Nat}{sh:List Shp}:∀ {es:List (List PV)}{vs:List Value}{F:List Nat},RepUR K h sz sh es vs F->(es≠[]->es.length*sz<=vs.length)/\∀u∈vs.take (es.length*sz),u.oneCell'=true
 | [],_,_,_=>by simp
 | e::es,vs,F,⟨e1,F1,F2,e2,a,b⟩=>by
  have hs:(e::es).length*sz=sz+es.length*sz:=by simp[Nat.succ_mul,Nat.add_comm]
  obtain⟨h1,h2⟩:=a.one
  obtain⟨h3,h4⟩:=RepUR.one b
  rw[e1]at h1 h2
  refine⟨fun _=>?_,fun u hu=>?_⟩
  .rw[hs]
   by_cases hne:es=[]
   .subst hne;simpa using h1
   .have:=h3 hne;simp at this;omega
  .rw[hs,List.take_add]at hu
   rcases lma hu with hu | hu
   .exact h2 u hu
   .exact h4 u hu
theorem RepUs.known:∀ {e:List PV}{vs:List Value},RepPs K e vs->∀ws,RepUs K h e [] (vs++ws) []
 | [],_,_,_=>rfl
 | _::_,_,⟨v,r,e1,a,b⟩,ws=>⟨v,r++ws,[],[],by rw[e1];rfl,rfl,RepU.v.2 ⟨rfl,a⟩,RepUs.known b ws⟩
theorem RepUR.known {sz:Nat}:∀ {es:List (List PV)}{vs:List Value},(∀e∈es,e.length=sz)->RepPs K es.flatten vs->RepUR K h sz [] es vs []
 | [],_,_,_=>rfl
 | e::es,vs,hl,hr=>by
  rw[List.flatten_cons]at hr
  obtain⟨a,b,rfl,ha,hb⟩:=hr.split
  refine⟨hl e (by simp),[],[],rfl,RepUs.known ha b,?_⟩
  have:a.length=sz:=by rw[ha.len];exact hl e (by simp)
  rw[<-this,List.drop_left]
  rw[this];exact RepUR.known (fun e he=>hl e (by simp[he])) hb
theorem Inv.make (hi:Inv Wr K N h ps os){o b z:Nat}{v:Value}{F U:List Nat}{x:Obj}(hsz:h.size<=h'.size) (he:∀b,b<h.size->(∀u∈U,b∉N.F u)->h'[b]?=h[b]?)
  (hp:∀p∈ps,o∉p.2.names) (hx:∀y∈os,o∉LV.namesL y.2.cells) (hk:∀y∈os,y.1≠o) (hos:∀y∈os',y=(o,x)\/(y∈os/\y.1∉U)) (hU:∀u∈U,∃z,(u,z)∈os)
  (hat:ObjAt K (N.setO o b z v F) h' o x) (hnd:F.Nodup) (hF:∀b∈F,(h.size<=b/\Wr b)\/∃u∈U,b∈N.F u) (ht:∀g∈LV.toksL x.cells,Occ ps os g):
  Inv Wr K (N.setO o b z v F) h' ps os':=by
 have hO:∀y∈os,(N.setO o b z v F).F y.1=N.F y.1:=fun y hy=>(Names.setO_other (hk y hy)).2.2.2
 have hFo:(N.setO o b z v F).F o=F:=by simp[Names.setO]
 have hUF:∀u∈U,∀c∈N.F u,c<h.size/\Wr c/\∀o,K c o=none:=fun u hu c hc=>by
  obtain⟨z,hz⟩:=hU u hu
  obtain⟨t,_,r⟩:=hi.objs _ hz
  exact⟨t.lt c hc,r c hc⟩
 have hapart:∀y∈os,y.1∉U->∀c∈N.F y.1,c∉F/\∀u∈U,c∉N.F u:=fun y hy hu c hc=>by
  have h2:∀u∈U,c∉N.F u:=fun u hu' hcu=>by
   obtain⟨z,hz⟩:=hU u hu'
   have:=congrArg Prod.fst (hi.inj y hy _ hz c hc hcu)
   simp only at this
   exact hu (this▸hu')
  refine⟨fun hf=>?_,h2⟩
  rcases hF c hf with⟨h3,_⟩ | ⟨u,hu',h3⟩
  .have:=(hi.objs y hy).1.lt c hc;omega
  .exact h2 u hu' h3
 have hKnone:∀c,(∃o v,K c o=some v)->∀u∈U,c∉N.F u:=fun c ⟨o,v,hk⟩ u hu hc=>by rw[(hUF u hu c hc).2.2]at hk;cases hk
 have hocc:∀g,Occ ps os' g->Occ ps os g:=by
  rintro g (hh | ⟨y,hy,hg⟩)
  .exact .inl hh
  .rcases hos y hy with rfl | ⟨hy,_⟩
   .exact ht g hg
   .exact .inr ⟨y,hy,hg⟩
 have hspu:∀g,Occ ps os g->∀c,spare (N.G g).1=some c->∀u∈U,c∉N.F u:=fun g hg c hs u hu=>by
  obtain⟨z,hz⟩:=hU u hu
  exact hi.tobj g _ hg hz c hs
 refine⟨fun b o v hk=>?_,fun p a=>(hi.vals p a).named (Names.setO_agrees (hp p a)),?_,?_,?_,fun g g' b' hg hg'=>hi.tinj g g' b' (hocc g hg) (hocc g' hg'),?_⟩
 .have h1:=hi.sat b o v hk
  have h2:=hcell_lt h1
  unfold hcell at h1 ⊢
  rw[he b h2 (hKnone b ⟨o,v,hk⟩)];exact h1
 .intro y hy
  rcases hos y hy with rfl | ⟨hy,hu⟩
  .refine⟨hat,by rw[hFo];exact hnd,?_⟩
   rw[hFo]
   intro c hc
   rcases hF c hc with⟨h1,h2⟩ | ⟨u,hu,h1⟩
   .exact⟨h2,hi.fresh h1⟩
   .exact (hUF u hu c h1).2
  .obtain⟨t,r⟩:=hi.objs y hy
   refine⟨(t.heap fun c hc=>he c (t.lt c hc) (hapart y hy hu c hc).2).named (N:=N) (Names.setO_other (hk y hy)) (Names.setO_agrees (hx y hy)),by rw[hO y hy];exact r⟩
 .intro y hy y' hy' c h1 h2
  rcases hos y hy with rfl | ⟨hy,hu⟩
  .rcases hos y' hy' with rfl | ⟨hy',hu'⟩
   .rfl
   .rw[hFo]at h1;rw[hO _ hy']at h2;exact absurd h1 (hapart y' hy' hu' c h2).1
  .rcases hos y' hy' with rfl | ⟨hy',hu'⟩
   .rw[hFo]at h2;rw[hO _ hy]at h1;exact absurd h2 (hapart y hy hu c h1).1
   .rw[hO _ hy]at h1;rw[hO _ hy']at h2;exact hi.inj y hy y' hy' c h1 h2
 .intro g hg
  have hg:=hocc g hg
  exact (hi.toks g hg).turn fun b' hs hw hlt=>⟨he b' hlt (hspu g hg b' hs),hw,fun _ h=>h⟩
 .intro g y hg hy c hs
  have hg:=hocc g hg
  rcases hos y hy with rfl | ⟨hy,hu⟩
  .rw[hFo]
   intro hc
   rcases hF c hc with⟨h1,_⟩ | ⟨u,hu,h1⟩
   .have:=(hi.toks g hg).spare_lt hs;omega
   .exact hspu g hg c hs u hu h1
  .rw[hO y hy];exact hi.tobj g y hg hy c hs
end
section
variable {call:CallF}{P:Program}{nt:Nat}{F:Fr}{Wr:Nat->Prop}{K:Know}{N:Names}{a:Act}{w:World}{s:LSt}{o:Oper}
theorem OpOk.make (h:Rel nt F Wr K N a w s) {o' b z n:Nat}{A:Value}{Fs U:List Nat}{x:Go.Proofs.YtpgmljkhleidjaaGreatDoor.LM.Obj}{w':World}(hn:noName s o'=true) (hr:(execOp a.eval o).run P w = .ok (.value A) w')
  (hk:Keep Wr w w') (he:∀b,b<w.heap.size->(∀u∈U,b∉N.F u)->w'.heap[b]?=w.heap[b]?) (hU:∀u∈U,∃z,(u,z)∈s.objs) (hat:ObjAt K (N.setO o' b z A Fs) w'.heap o' x) (hnd:Fs.Nodup) (hF:∀b∈Fs,w.heap.size<=b\/∃u∈U,b∈N.F u)
  (ht:LV.toksL x.cells=[]) (hA:∃a cap,A = .slice a n cap):OpOk P F Wr K a w s o { dem:=[],upd:=gone U++[(o',some x)],val:=some (.arr o' n) }:=by
 obtain⟨n1,n2,n3,n4⟩:=noName_spec hn
 refine⟨A,w',K,N.setO o' b z A Fs,.inl hr,KExt.refl,hk,?_,fun x hx=>by
  have:x≠o':=fun e=>n4 (by rw[h.fx];exact e▸hx)
  simp only[Names.at,Names.setO,this,if_false];exact h.pin x hx⟩
 simp only[demPairs_nil,demMap_nil,Option.toList_some,List.map_cons,List.map_nil,List.cons_append,List.nil_append]
 have h2:=h.inv.make (o:=o') (b:=b) (z:=z) (v:=A) (F:=Fs) (U:=U) (x:=x) (os':=updObjs s.objs (gone U++[(o',some x)])) hk.size he
  (fun p hp=>by obtain⟨y,hy,rfl⟩:=List.mem_map.1 hp;exact n1 y hy) n2 n3 (fun y hy=>?_) hU hat hnd (fun b hb=>(hF b hb).imp (fun h'=>⟨h',h.new _ h'⟩) id) (by rw[ht];simp)
 .exact h2.add (l := .arr o' n) ⟨by simp[Names.setO],hA⟩ (by simp[LV.toks])
 .obtain⟨os',y1,y2⟩:=gone_updObjs hy
  simp only[updObjs]at y1
  rcases aset_mem y1 with rfl | ⟨y1,y3⟩
  .exact .inl rfl
  .exact .inr (y2 y y1)
theorem rowsIn_rep (h:Rel nt F Wr K N a w s){sz:Nat}{sh:List Shp}:∀ {xs:List Opd}{Xs:List Operand}{es:List (List PV)}{U:List Nat},rowsIn s sh sz xs=some (es,U)->chkOpds xs Xs=true ->
  es.length=xs.length/\(∀X∈Xs,(a.eval X).cells.size=sz)/\RepUR K w.heap sz sh es (Xs.flatMap fun X=>(a.eval X).cells.toList) (U.flatMap N.F)/\∀u∈U,∃z es sh',(u,Obj.rows z es sh' none)∈s.objs:=by
 intro xs
 induction xs with
 | nil=>
  intro Xs es U he hc
  cases Xs with
  | nil=>simp only[rowsIn,osi,Prod.mk.injEq]at he;obtain⟨rfl,rfl⟩:=he;exact⟨rfl,by simp,rfl,by simp⟩
  | cons _ _=>simp[chkOpds]at hc
 | cons x xs ih=>
  intro Xs es U he hc
  cases Xs with
  | nil=>simp[chkOpds]at hc
  | cons X Xs=>
   simp only[chkOpds,bat]at hc
   simp only[rowsIn]at he
   obtain⟨l,hl,he⟩:=obs he
   obtain⟨⟨p,U1⟩,hps,he⟩:=obs he
   split at he<;>(try simp only[reduceCtorEq]at he)
   rename_i hlen
   obtain⟨⟨r,U2⟩,hr,he⟩:=obs he
   simp only[osi,Prod.mk.injEq]at he
   obtain⟨rfl,rfl⟩:=he
   obtain⟨a1,a2⟩:=h.opd hl hc.1
   obtain⟨b2,b3,b4,b5⟩:=ih hr hc.2
   have hcells:RepLs K N l.cells (a.eval X).cells.toList:=by
    cases l with
    | agg ls=>obtain⟨vs,e,_,hr⟩:=a1;rw[e];simpa[Value.cells,LV.cells]using hr
    | tup ls=>
     simp only[LV.cells]at hps
     rw[intoL_cons]at hps
     cases hs:shpAt (ush sh) 0<;>simp[hs,LV.into,LV.toPV]at hps
    | _=>rw[cells_one (repL_one a1 rfl)];exact⟨_,[],rfl,a1,rfl⟩
   obtain⟨i1,i2,i3⟩:=intoL_rep h hps hcells
   simp only at hlen
   refine⟨by simp[b2],?_,⟨hlen,_,_,by rw[List.flatMap_append],?_,?_⟩,fun u hu=>?_⟩
   .intro Y hY
    cases hY with
    | head=>rw[<-Array.length_toList,i2,hlen]
    | tail _ hY=>exact b3 Y hY
   .rw[List.flatMap_cons]
    refine i1.pre fun k hk=>?_
    rw[List.getElem?_append_left (by rw[i2];exact hk)]
   .rw[List.flatMap_cons,<-hlen,<-i2,List.drop_left]
    rw[i2,hlen];exact b4
   .rcases lma hu with hu | hu
    .exact i3 u hu
    .exact b5 u hu
theorem foot_nodup (h:Rel nt F Wr K N a w s):∀ {U:List Nat},U.Nodup->(∀u∈U,∃z,(u,z)∈s.objs)->(U.flatMap N.F).Nodup
 | [],_,_=>by simp
 | u::U,hn,hz=>by
  rw[List.flatMap_cons,List.nodup_append]
  obtain⟨z,hzu⟩:=hz u (by simp)
  refine⟨(h.inv.objs _ hzu).2.1,foot_nodup h (List.nodup_cons.1 hn).2 fun u hu=>hz u (by simp[hu]),fun b hb c hc e=>?_⟩
  subst e
  obtain⟨u',hu',hbu⟩:=List.mem_flatMap.1 hc
  obtain⟨z',hzu'⟩:=hz u' (by simp[hu'])
  have:=congrArg Prod.fst (h.inv.inj _ hzu _ hzu' b hb hbu)
  simp only at this
  exact (List.nodup_cons.1 hn).1 (this▸hu')
theorem foot_lt (h:Rel nt F Wr K N a w s){U:List Nat}(hz:∀u∈U,∃z,(u,z)∈s.objs):∀b∈U.flatMap N.F,b<w.heap.size:=fun b hb=>by
 obtain⟨u,hu,hbu⟩:=List.mem_flatMap.1 hb
 obtain⟨z,hz⟩:=hz u hu
 exact (h.inv.objs _ hz).1.lt b hbu
theorem ok_bsu (h:Rel nt F Wr K N a w s) {o' sz n:Nat}{sh:List Shp}{us:List Nat}{xs:List Opd}{parts:Array (Nat×Operand)}{t:TypeId}{e:Eff}(he:evOp call s (.bsu o' sz sh us xs)=some e)
  (ho:o.op = .buildSlice t n parts) (hc:(chkOpds xs (parts.toList.map (·.2))&&chkSeq 0 parts.toList&&(n == parts.size)&&chkZeroSz P t sz&&decide (n*sz<=16777216))=true):
  OpOk P F Wr K a w s o e:=by
 simp only[bat]at hc
 obtain⟨⟨⟨⟨c1,c2⟩,c3⟩,c4⟩,c5⟩:=hc
 have c5:=of_decide_eq_true c5
 have c3:n=parts.size:=eq_of_beq c3
 obtain⟨el,i,z,t1,t2,t3,t4,t5,t6,t7⟩:=chkZeroSz_eq c4
 simp only[evOp]at he
 obtain⟨⟨es,U⟩,hes,he⟩:=obs he
 split at he<;>simp only[osi,reduceCtorEq]at he
 rename_i hb
 obtain⟨hn,hUe,hUn⟩:=hb
 simp only at hUe
 subst hUe
 subst he
 obtain⟨r2,r3,r4,r5⟩:=rowsIn_rep h hes c1
 have hxl:xs.length=n:=by
  have:∀ (xs:List Opd) (Xs:List Operand),chkOpds xs Xs=true->xs.length=Xs.length:=by
   intro xs
   induction xs with
   | nil=>intro Xs h;cases Xs with | nil=>rfl | cons _ _=>simp[chkOpds]at h
   | cons x xs ih=>intro Xs h;cases Xs with | nil=>simp[chkOpds]at h | cons X Xs=>simp only[chkOpds,bat]at h;simp[ih Xs h.2]
  rw[this _ _ c1,c3];simp
 have hparts:(parts.map fun (i,x)=>(i,a.eval x)).toList=(List.range' 0 n).zip (parts.toList.map fun p=>a.eval p.2):=by
  have h1:=chkSeq_eq c2
  rw[Array.length_toList,<-c3]at h1
  rw[<-h1]
  simp only[Array.toList_map]
  generalize parts.toList=l
  induction l with
  | nil=>rfl
  | cons p l ih=>simp[ih]
 let zero:Array Value:=(Array.range (n*sz)).map fun k=>z.cells[k%z.cells.size]!
 obtain⟨cs,f1,f2,f3⟩:=fill_rows (sz:=sz) (parts.toList.map fun p=>a.eval p.2) 0 zero (by
   intro v hv
   obtain⟨p,hp,rfl⟩:=List.mem_map.1 hv
   exact r3 p.2 (List.mem_map.2 ⟨p,hp,rfl⟩)) (by simp[zero,c3])
 simp only[List.length_map,Array.length_toList,<-c3]at f1 f2
 have hzs:zero.size=n*sz:=by simp[zero]
 have hcs:cs.toList=(parts.toList.map fun p=>a.eval p.2).flatMap fun v=>v.cells.toList:=by
  rw[f2]
  simp[hzs]
 have hUo:∀u∈U,∃z,(u,z)∈s.objs:=fun u hu=>by obtain⟨z,es,sh',hz⟩:=r5 u hu;exact⟨_,hz⟩
 have hold:∀b,b<w.heap.size->(w.alloc (.cells cs el)).heap[b]?=w.heap[b]?:=fun b hb=>heap_alloc_old w _ hb
 have hel:es.length=n:=by rw[r2,hxl]
 refine OpOk.make h (b:=w.heap.size) (z:=sz) (n:=es.length) (A := .slice (some ⟨w.heap.size,0,none⟩) n n) (Fs:=w.heap.size::U.flatMap N.F) (w':=w.alloc (.cells cs el)) hn ?_ (Keep.alloc _ _) (fun b hb _=>hold b hb) hUo
  ⟨.inl ⟨cs.toList,el,U.flatMap N.F,?_,by simp[Names.setO],?_,n,by simp[Names.setO,hel],by simp[hel],by rw[Array.length_toList,f3,hzs];exact Nat.le_refl _⟩,by simp[Names.setO],trivial⟩
  (List.nodup_cons.2 ⟨fun hb=>by have:=foot_lt h hUo _ hb;omega,foot_nodup h hUn hUo⟩) (fun b hb=>?_) rfl ⟨_,n,by rw[hel]⟩
 .have hrun:=run_buildSlice (w:=w) (n:=n) (parts:=parts.map fun (i,x)=>(i,a.eval x)) (cs:=cs) t1 t2 t3 t4 t5 t7 c5 (by rw[hparts];exact f1)
  simp[execOp,ho]
  rw[hrun]
  rfl
 .simp only[Names.setO,if_true]
  exact push_new _ _
 .show RepUR K (w.alloc (.cells cs el)).heap sz sh es cs.toList (U.flatMap N.F)
  rw[hcs]
  refine RepUR.heap (fun b hb=>hold b (foot_lt h hUo b hb)) ?_
  simpa[List.flatMap_map]using r4
 .rcases lm1 hb with rfl | hb
  .exact .inl (Nat.le_refl _)
  .exact .inr (by simpa using List.mem_flatMap.1 hb)
theorem apu_key (h:Rel nt F Wr K N a w s) {o' sz m:Nat}{sh:List Shp}{es ys:List (List PV)}{X:Operand}{t tY el:TypeId}{i:TypeInfo}{z yv:Value}{news:List Value}{Gy Ux Uy:List Nat}(hn:noName s o'=true) (t4:z.cells.size=sz) (t5:i.size=sz) (t6:i.bytes<=256)
  (hex:∀ba len cap v w',a.eval X = .slice ba len cap->(Builtin.append_ #[t,tY] o.type #[.slice ba len cap,yv]).run P w = .ok v w'->(execOp a.eval o).run P w = .ok (.value v) w')
  (ym:m=ys.length) (n2:news.length=m*sz) (hYr:RepUR K w.heap sz sh ys news Gy) (hY:AppY P w t tY o.type el i z sz m yv news) (hbig:es.length+ys.length<=bigLen)
  (hU:∀u∈Ux++Uy,∃z,(u,z)∈s.objs) (hUn:(Ux++Uy).Nodup) (hGy:Gy.Nodup/\∀b∈Gy,∃u∈Uy,b∈N.F u)
  (hx:(es=[]/\a.eval X = .slice none 0 0)\/∃u b cap vs el' G,Ux=[u]/\N.F u=b::G/\a.eval X = .slice (some ⟨b,0,none⟩) es.length cap/\es.length<=cap/\w.heap[b]?=some (.cells (List.toArray vs) el' (0,0))/\cap*sz<=vs.length/\RepUR K w.heap sz sh es vs G):
  OpOk P F Wr K a w s o { dem:=[],upd:=gone (Ux++Uy)++[(o',some (.rows sz (es++ys) sh none))],val:=some (.arr o' (es.length+ys.length)) }:=by
 have hlt:∀b∈Gy,b<w.heap.size:=fun b hb=>by
  obtain⟨u,hu,hbu⟩:=hGy.2 b hb
  obtain⟨z,hz⟩:=hU u (by simp[hu])
  exact (h.inv.objs _ hz).1.lt b hbu
 have hGyU:∀b∈Gy,∃u∈Ux++Uy,b∈N.F u:=fun b hb=>by obtain⟨u,hu,hbu⟩:=hGy.2 b hb;exact⟨u,by simp[hu],hbu⟩
 have hone:∀u∈news,u.oneCell'=true:=fun u hu=>hYr.one.2 u (by rw[<-ym,<-n2,List.take_length];exact hu)
 have hbytes:∀n,n<=bigLen->n*i.bytes<=140737488355328:=fun n hn'=>by
  have:n*i.bytes<=n*256:=Nat.mul_le_mul_left _ t6
  unfold bigLen at hn'
  omega
 have hlist:∃ba cap olds G,a.eval X = .slice ba es.length cap/\es.length<=cap/\olds.length=es.length*sz/\RepUR K w.heap sz sh es olds G/\G.Nodup/\(∀b∈G,∃u∈Ux,b∈N.F u) /\
   (∀b,ba=some b->∀j v,olds[j]?=some v->w.cell? (b.add j)=some v)/\(ba=none->es.length=0/\cap=0) /\
   (es.length<cap->∃b vs el',ba=some ⟨b,0,none⟩/\w.heap[b]?=some (.cells (List.toArray vs) el' (0,0))/\cap*sz<=vs.length/\vs.take (es.length*sz)=olds/\b∉G/\∃u∈Ux,b∈N.F u):=by
  rcases hx with⟨e1,e2⟩ | ⟨u0,b,cap,vs,el',G,u1,u2,u3,u4,u5,u6,u7⟩
  .subst e1
   exact⟨none,0,[],[],e2,Nat.le_refl _,by simp,rfl,by simp,by simp,by simp,fun _=>⟨rfl,rfl⟩,fun hh=>absurd hh (Nat.lt_irrefl _)⟩
  .have hm:u0∈Ux:=by rw[u1];simp
   have hmU:u0∈Ux++Uy:=by simp[hm]
   obtain⟨z0,hz0⟩:=hU _ hmU
   have hnd:=(h.inv.objs _ hz0).2.1
   simp only[u2]at hnd
   have hle:es.length*sz<=vs.length:=Nat.le_trans (Nat.mul_le_mul_right _ u4) u6
   refine⟨_,cap,vs.take (es.length*sz),G,u3,u4,by rw[List.length_take];omega,u7.pre (fun k hk=>by rw[List.getElem?_take_of_lt hk]),(List.nodup_cons.1 hnd).2,fun b' hb'=>⟨_,hm,by rw[u2];simp[hb']⟩,fun b' hb' j v hj=>?_,(fun hh=>by cases hh),fun _=>⟨b,vs,el',rfl,u5,u6,rfl,(List.nodup_cons.1 hnd).1,_,hm,by rw[u2];simp⟩⟩
   cases hb'
   rw[addr_add,cell?_heap,hcell,u5]
   simp only[List.getElem?_toArray,Nat.zero_add]
   rw[List.getElem?_take]at hj
   split at hj
   .exact hj
   .cases hj
 obtain⟨ba,cap,olds,G,x1,x2,x3,x4,x5,x6,x7,x8,x9⟩:=hlist
 have hGU:∀b∈G,∃u∈Ux++Uy,b∈N.F u:=fun b hb=>by obtain⟨u,hu,hbu⟩:=x6 b hb;exact⟨u,by simp[hu],hbu⟩
 have hGlt:∀b∈G,b<w.heap.size:=fun b hb=>by
  obtain⟨u,hu,hbu⟩:=hGU b hb
  obtain⟨z,hz⟩:=hU u hu
  exact (h.inv.objs _ hz).1.lt b hbu
 have hapart:∀b,(∃u∈Ux,b∈N.F u)->b∉Gy:=fun b ⟨u,hu,hbu⟩ hb=>by
  obtain⟨u',hu',hbu'⟩:=hGy.2 b hb
  obtain⟨z,hz⟩:=hU u (by simp[hu])
  obtain⟨z',hz'⟩:=hU u' (by simp[hu'])
  have:=congrArg Prod.fst (h.inv.inj _ hz _ hz' b hbu hbu')
  simp only at this
  exact (List.nodup_append.1 hUn).2.2 u hu u' hu' this
 have hGG:(G++Gy).Nodup:=List.nodup_append.2 ⟨x5,hGy.1,fun b hb c hc e=>hapart b (x6 b hb) (e▸hc)⟩
 have happ:RepUR K w.heap sz sh (es++ys) (olds++news) (G++Gy):=RepUR.append x3 x4 hYr
 have hlen:(es++ys).length=es.length+m:=by rw[List.length_append,ym]
 have h63:((es.length+m:Nat):Int)<=9223372036854775807:=by rw[ym];unfold bigLen at hbig;omega
 have hnm:es.length+ys.length=es.length+m:=by rw[ym]
 rw[hnm]
 by_cases hm:m=0
 . 
  have hys:ys=[]:=by rw[<-List.length_eq_zero_iff,<-ym,hm]
  have hnews:news=[]:=by rw[<-List.length_eq_zero_iff,n2,hm,Nat.zero_mul]
  have hGy0:Gy=[]:=by subst hys;exact hYr
  subst hys;subst hnews;subst hGy0;subst hm
  have hrun:=hex _ _ _ _ _ x1 (hY.r0 rfl ba es.length cap x2)
  rcases hx with⟨e1,e2⟩ | ⟨u0,b,cap',vs,el',G',u1,u2,u3,u4,u5,u6,u7⟩
  .subst e1
   rw[e2]at x1
   cases x1
   refine OpOk.make h (b:=0) (z:=sz) (Fs:=[]) hn hrun (Keep.refl _ _) (fun _ _ _=>rfl) hU ⟨.inr ⟨⟨rfl,by simp only[Names.setO,if_true];rfl⟩,by simp[Names.setO]⟩,by simp[Names.setO],trivial⟩ (by simp) (by simp) rfl ⟨_,_,rfl⟩
  .have hmu:u0∈Ux:=by rw[u1];simp
   obtain⟨z0,hz0⟩:=hU _ (show u0∈Ux++Uy by simp[hmu])
   have hnd:=(h.inv.objs _ hz0).2.1
   simp only[u2]at hnd
   rw[u3]at x1
   cases x1
   refine OpOk.make h (b:=b) (z:=sz) (Fs:=b::G') hn hrun (Keep.refl _ _) (fun _ _ _=>rfl) hU ⟨.inl ⟨vs,el',G',by simpa[Names.setO]using u5,by simp[Names.setO],by simpa[plug]using u7,cap,by simp[Names.setO],by simpa using u4,u6⟩,by simp[Names.setO],trivial⟩ hnd
    (fun c hc => .inr ⟨u0,by simp[hmu],by rw[u2];exact hc⟩) rfl ⟨_,_,rfl⟩
 .have hmpos:0<m:=by omega
  by_cases hroom:es.length+m<=cap
  . 
   obtain⟨b,vs,el',e1,e2,e3,e4,e5,e6⟩:=x9 (by omega)
   subst e1
   have hsz:es.length*sz+news.length<=vs.length:=by
    rw[n2,<-Nat.add_mul]
    exact Nat.le_trans (Nat.mul_le_mul_right _ hroom) e3
   have hrun:=hex _ _ _ _ _ x1 (hY.r1 b es.length cap el' (List.toArray vs) e2 hroom (by rw[t5];simpa using hsz) hone hmpos)
   rw[t5]at hrun
   simp only[List.toList_toArray]at hrun
   rw[e4]at hrun
   obtain⟨u,hu,hbu⟩:=e6
   obtain⟨z0,hz0⟩:=hU u (by simp[hu])
   have hWb:=((h.inv.objs _ hz0).2.2 b hbu).1
   have hoth:=fun c hc=>setRow_other w b c (List.toArray (olds++news++vs.drop (es.length*sz+news.length))) hc
   have hbG:∀c∈G++Gy,c≠b:=fun c hc e=>by
    subst e
    rcases lma hc with hc | hc
    .exact e5 hc
    .exact hapart c ⟨u,hu,hbu⟩ hc
   refine OpOk.make h (b:=b) (z:=sz) (Fs:=b::(G++Gy)) hn hrun (Keep.setRow w b _ hWb) (fun c _ hc=>hoth c fun e=>hc u (by simp[hu]) (e▸hbu)) hU
    ⟨.inl ⟨olds++news++vs.drop (es.length*sz+news.length),el',G++Gy,by simp only[Names.setO,if_true];exact setRow_heap w _ _ _ el' (0,0) e2,by simp[Names.setO],?_,cap,by simp[Names.setO,ym],by rw[hlen];exact hroom,?_⟩,by simp[Names.setO],trivial⟩
    (List.nodup_cons.2 ⟨fun hb=>hbG b hb rfl,hGG⟩) (fun c hc => .inr ?_) rfl ⟨_,_,rfl⟩
   .show RepUR K _ sz sh (es++ys) _ (G++Gy)
    refine RepUR.heap (fun c hc=>hoth c (hbG c hc)) (happ.pre fun k hk=>?_)
    rw[List.getElem?_append_left (by simp only[List.length_append,x3,n2,<-Nat.add_mul];rw[hlen]at hk;exact hk)]
   .simp only[List.length_append,x3,List.length_drop]
    omega
   .rcases lm1 hc with rfl | hc
    .exact⟨u,by simp[hu],hbu⟩
    .rcases lma hc with hc | hc
     .exact hGU c hc
     .exact hGyU c hc
  . 
   have fin:∀ (w':World) (cap':Nat) (cs:List Value),(execOp a.eval o).run P w = .ok (.value (.slice (some ⟨w.heap.size,0,none⟩) (es.length+m) cap')) w'->Keep Wr w w'->w'.heap=w.heap.push (.cells (List.toArray (olds++news++cs)) el (0,0))->es.length+m<=cap'->cap'*sz<=(olds++news++cs).length ->
     OpOk P F Wr K a w s o { dem:=[],upd:=gone (Ux++Uy)++[(o',some (.rows sz (es++ys) sh none))],val:=some (.arr o' (es.length+m)) }:=by
    intro w' cap' cs hrun hk hheap hc1 hc2
    have hold:∀c,c<w.heap.size->w'.heap[c]?=w.heap[c]?:=fun c hc=>by
     rw[hheap,Array.getElem?_push]
     simp[show c≠w.heap.size by omega]
    have hGlt':∀c∈G++Gy,c<w.heap.size:=fun c hc=>(lma hc).elim (hGlt c) (hlt c)
    refine OpOk.make h (b:=w.heap.size) (z:=sz) (Fs:=w.heap.size::(G++Gy)) hn hrun hk (fun c hc _=>hold c hc) hU
     ⟨.inl ⟨olds++news++cs,el,G++Gy,by simp only[Names.setO,if_true];rw[hheap];exact push_new _ _,by simp[Names.setO],?_,cap',by simp[Names.setO,ym],by rw[hlen];exact hc1,hc2⟩,by simp[Names.setO],trivial⟩
     (List.nodup_cons.2 ⟨fun hb=>by have:=hGlt' _ hb;omega,hGG⟩) (fun c hc=>?_) rfl ⟨_,_,rfl⟩
    .show RepUR K _ sz sh (es++ys) _ (G++Gy)
     refine RepUR.heap (fun c hc=>hold c (hGlt' c hc)) (happ.pre fun k hk=>?_)
     rw[List.getElem?_append_left (by simp only[List.length_append,x3,n2,<-Nat.add_mul];rw[hlen]at hk;exact hk)]
    .rcases lm1 hc with rfl | hc
     .exact .inl (Nat.le_refl _)
     .refine .inr ?_
      rcases lma hc with hc | hc
      .exact hGU c hc
      .exact hGyU c hc
   have hb48:Builtin.nextslicecap (es.length+m) cap*i.bytes<=281474976710656:=by
    have h1:Builtin.nextslicecap (es.length+m) cap<=2*(es.length+m):=nextslicecap_le (by omega)
    have h2:Builtin.nextslicecap (es.length+m) cap*i.bytes<=(2*(es.length+m))*256:=Nat.mul_le_mul h1 t6
    rw[ym]at h2 ⊢
    unfold bigLen at hbig
    omega
   have hzsz:∀k,(Builtin.zeroCells z.cells k).size=k*sz:=fun k=>by rw[size_zeroCells,t4]
   have hge:=grownCap_ge w (es.length+m) cap el
   cases ba with
   | none=>
    obtain⟨e1,e2⟩:=x8 rfl
    have he:es=[]:=List.length_eq_zero_iff.1 e1
    subst he;subst e2
    have ho:olds=[]:=by simpa using x3
    subst ho
    have hrun:=hex _ _ _ _ _ x1 (hY.r2 hmpos (by simpa using h63) (Nat.le_trans (by have:=hbytes m (by rw[ym];simpa using hbig);exact this) (by omega)))
    refine fin (w.drew.alloc (.cells (news.toArray++Builtin.zeroCells z.cells (grownCap w m 0 el-m)) el)) (grownCap w m 0 el) (Builtin.zeroCells z.cells (grownCap w m 0 el-m)).toList ?_ ((Keep.drew w).trans (Keep.alloc _ _)) ?_ (by simpa using hge) ?_
    .simpa using hrun
    .show w.heap.push _=_
     congr 2
     apply Array.ext'
     simp
    .simp only[List.nil_append,List.length_append,n2,Array.length_toList,hzsz,<-Nat.add_mul]
     refine Nat.mul_le_mul_right _ ?_
     omega
   | some b=>
    have hrun:=hex _ _ _ _ _ x1 (hY.r3 b es.length cap olds (by rw[t5];exact x3) (x7 b rfl) (by omega) h63 hb48)
    refine fin _ (grownCap w (es.length+m) cap el) (Builtin.zeroCells z.cells (grownCap w (es.length+m) cap el-(es.length+m))).toList hrun ((Keep.drew w).trans (Keep.alloc _ _)) ?_ hge ?_
    .show w.heap.push _=_
     congr 2
     apply Array.ext'
     simp
    .simp only[List.length_append,x3,n2,Array.length_toList,hzsz,<-Nat.add_mul]
     refine Nat.mul_le_mul_right _ ?_
     omega
theorem rowsOfO_rep (h:Rel nt F Wr K N a w s){o1:Nat}{r:Nat×List (List PV)×List Shp}(he:rowsOfO s.objs o1=some r):(o1,Obj.rows r.1 r.2.1 r.2.2 none)∈s.objs/\N.S o1=r.1 /\
  ((∃vs el G cap,w.heap[N.M o1]?=some (.cells (List.toArray vs) el (0,0))/\N.F o1=N.M o1::G/\RepUR K w.heap r.1 r.2.2 r.2.1 vs G/\N.A o1 = .slice (some ⟨N.M o1,0,none⟩) r.2.1.length cap/\r.2.1.length<=cap/\cap*r.1<=vs.length) \/
   (r.2.1=[]/\N.A o1 = .slice none 0 0)/\N.F o1=[]):=by
 unfold rowsOfO at he
 obtain⟨ob,hob,he⟩:=obs he
 split at he<;>simp only[osi,reduceCtorEq]at he
 subst he
 have hm:=aget_mem hob
 obtain⟨t1,hS,_⟩:=(h.inv.objs _ hm).1
 exact⟨hm,hS,t1.imp (fun⟨vs,el,G,e1,e2,e3,cap,e4,e5,e6⟩=>⟨vs,el,G,cap,e1,e2,e3,e4,e5,e6⟩) id⟩
theorem ok_apu (h:Rel nt F Wr K N a w s) {o' sz:Nat}{sh:List Shp}{gx gy:Option Nat}{x y:Opd}{X Y:Operand}{t tY:TypeId}{u:TypeDesc}{e:Eff}(he:evOp call s (.apu o' sz sh gx gy x y)=some e)
  (ho:o.op = .call { callee := .builtin .append,args := #[X,Y],argTypes := #[t,tY] }) (hu:P.underlying tY=some u) (hu':isIntTy u=false) (hc:(chkOpd x X&&chkOpd y Y&&chkZeroSz P t sz)=true):OpOk P F Wr K a w s o e:=by
 simp only[bat]at hc
 obtain⟨⟨c1,c2⟩,c3⟩:=hc
 obtain⟨el,i,z,t1,t2,t3,t4,t5,t6,t7⟩:=chkZeroSz_eq c3
 simp only[evOp]at he
 obtain⟨lx,hlx,he⟩:=obs he
 obtain⟨ly,hly,he⟩:=obs he
 obtain⟨es,hes,he⟩:=obs he
 obtain⟨ys,hys,he⟩:=obs he
 split at he<;>simp only[osi,reduceCtorEq]at he
 rename_i hb
 obtain⟨hn,hbig⟩:=hb
 subst he
 obtain⟨x1,x2⟩:=h.opd hlx c1
 obtain⟨y1,y2⟩:=h.opd hly c2
 have hx:(∀u∈gx.toList,∃z,(u,z)∈s.objs)/\((es=[]/\a.eval X = .slice none 0 0)\/∃u b cap vs el' G,gx.toList=[u]/\N.F u=b::G/\a.eval X = .slice (some ⟨b,0,none⟩) es.length cap/\es.length<=cap/\w.heap[b]?=some (.cells (List.toArray vs) el' (0,0))/\cap*sz<=vs.length/\RepUR K w.heap sz sh es vs G):=by
  unfold apX at hes
  split at hes
  .split at hes<;>simp only[osi,reduceCtorEq]at hes
   rename_i hg
   subst hg;subst hes
   exact⟨by simp,.inl ⟨rfl,x1⟩⟩
  .split at hes
   case isFalse=>cases hes
   rename_i hg
   subst hg
   obtain⟨r,hr,hes⟩:=obs hes
   split at hes<;>simp only[osi,reduceCtorEq]at hes
   rename_i hs
   obtain⟨hs1,hs2⟩:=hs
   have hs2:=Shp.eqL_of hs2
   subst hes
   obtain⟨m1,_,m3⟩:=rowsOfO_rep h hr
   refine⟨by simpa using ⟨_,m1⟩,?_⟩
   rw[hs1,hs2]at m3
   obtain⟨x1,_⟩:=x1
   rcases m3 with⟨vs,el',G,cap,e1,e2,e3,e4,e5,e6⟩ | ⟨⟨e1,e2⟩,_⟩
   .exact .inr ⟨_,_,cap,vs,el',G,rfl,e2,by rw[x1];exact e4,e5,e1,e6,e3⟩
   .exact .inl ⟨e1,by rw[x1];exact e2⟩
  .cases hes
 obtain⟨yv,m,news,Gy,ye,ym,n2,hYr,hY,hGy,hyo,hgn⟩:∃yv m news Gy,a.eval Y=yv/\m=ys.length/\news.length=m*sz/\RepUR K w.heap sz sh ys news Gy/\AppY P w t tY o.type el i z sz m yv news/\(Gy.Nodup/\∀b∈Gy,∃u∈gy.toList,b∈N.F u)/\(∀u∈gy.toList,∃z,(u,z)∈s.objs)/\(gx.toList++gy.toList).Nodup:=by
  have hcase:(∃o2 n2 r,ly = .arr o2 n2/\gy=some o2/\gx≠gy/\rowsOfO s.objs o2=some r/\r.1=sz/\r.2.2=sh/\ys=r.2.1)\/∃r,ly.cat?=some r/\r.1=sz/\ys=r.2/\sh=[]/\gy=none:=by
   unfold apY at hys
   split at hys
   .split at hys
    case isFalse=>cases hys
    rename_i hg
    obtain⟨r,hr,hys⟩:=obs hys
    split at hys<;>simp only[osi,reduceCtorEq]at hys
    rename_i hs
    exact .inl ⟨_,_,r,rfl,hg.1,hg.2,hr,hs.1,Shp.eqL_of hs.2,hys.symm⟩
   .split at hys
    case isFalse=>cases hys
    rename_i hg
    obtain⟨r,hr,hys⟩:=obs hys
    split at hys<;>simp only[osi,reduceCtorEq]at hys
    exact .inr ⟨r,hr,‹_›,hys.symm,Shp.eqL_of hg.2,hg.1⟩
  clear hys
  rcases hcase with⟨o2,n2,r,rfl,hg,hne,hr,hs1,hs2,hyr⟩ | ⟨r,hr,hz,hy,hs,hg⟩
  .subst hg;subst hyr
   obtain⟨m1,_,m3⟩:=rowsOfO_rep h hr
   have hnd:=(h.inv.objs _ m1).2.1
   rw[hs1,hs2]at m3
   obtain⟨y1,a',cap',y1'⟩:=y1
   have hgn:(gx.toList++(some o2).toList).Nodup:=by
    cases gx with
    | none=>simp
    | some o1=>simp;exact fun e=>hne (by rw[e])
   rcases m3 with⟨vs,el',G,cap,e1,e2,e3,e4,e5,e6⟩ | ⟨⟨e1,e2⟩,e3⟩
   .simp only[e2]at hnd
    have hnl:(vs.take (r.2.1.length*sz)).length=r.2.1.length*sz:=by
     rw[List.length_take,Nat.min_eq_left (Nat.le_trans (Nat.mul_le_mul_right _ e5) e6)]
    have hnews:∀ (w':World),w'.heap=w.heap->∀j u,(vs.take (r.2.1.length*sz))[j]?=some u->w'.cell? ((⟨N.M o2,0,none⟩:Addr).add j)=some u:=fun w' hw j u hj=>by
     rw[addr_add,cell?_heap,hw,hcell,e1]
     simp only[List.getElem?_toArray,Nat.zero_add]
     rw[List.getElem?_take]at hj
     split at hj
     .exact hj
     .cases hj
    refine⟨_,r.2.1.length,vs.take (r.2.1.length*sz),G,by rw[y1,e4],rfl,hnl,e3.pre fun k hk=>by rw[List.getElem?_take_of_lt hk],?_,⟨(List.nodup_cons.1 hnd).2,fun b hb=>⟨o2,by simp,by rw[e2];simp[hb]⟩⟩,by simpa using ⟨_,m1⟩,hgn⟩
    exact appY_of t1 t2 t3 hu hu' (fun w=>rfl) (by rw[hnl,t5]) (run_firstCells_some (P:=P) w i.size _ _ _ _ _ (by rw[hnl,t5]) (hnews w rfl)) (run_firstCells_some (P:=P) w.drew i.size _ _ _ _ _ (by rw[hnl,t5]) (hnews w.drew rfl))
   .have hf:∀w,(Builtin.firstCells i.size 0 (.slice none 0 0)).run P w = .ok #[] w:=fun w=>rfl
    refine⟨_,0,[],[],by rw[y1,e2],by rw[e1];rfl,by simp,by rw[e1];rfl,appY_of t1 t2 t3 hu hu' (fun w=>rfl) (by simp) (hf _) (hf _),by simp,by simpa using ⟨_,m1⟩,hgn⟩
  subst hy;subst hs;subst hg
  have hgn:(gx.toList++(none:Option Nat).toList).Nodup:=by cases gx<;>simp
  rcases cat_rep hr y1 with⟨b,hb,rfl⟩ | hl
  .have hrep:RepPs K (bytesR b).flatten (Lib.strCells b):=by
    unfold bytesR Lib.strCells
    induction b.data.toList with
    | nil=>rfl
    | cons c l ih=>exact⟨_,_,rfl,⟨rfl,rfl⟩,ih⟩
   refine⟨_,b.size,Lib.strCells b,[],hb,by simp[bytesR],by rw[Lib.strCells_length,<-hz];simp,RepUR.known (fun e he=>?_) hrep,
    appY_of t1 t2 t3 hu hu' (fun w=>rfl) (by rw[Lib.strCells_length,t5,<-hz];simp) (Lib.run_firstCells_string _ _ _) (Lib.run_firstCells_string _ _ _),by simp,by simp,hgn⟩
   obtain⟨c,_,rfl⟩:=List.mem_map.1 he;exact hz
  .obtain⟨yb,m,yc,ye,ym,ymc,yrows⟩:=hl
   rw[hz]at yrows
   rcases yrows with hy | ⟨b2,o2,hyb,yrows⟩
   .have hm0:m=0:=by rw[ym,hy];rfl
    subst hm0
    have hf:∀w,(Builtin.firstCells i.size 0 (.slice yb 0 yc)).run P w = .ok #[] w:=fun w=>by
     cases yb with
     | none=>rfl
     | some b=>simp[Builtin.firstCells,loadCells,loadCellsFrom]
    exact⟨_,0,[],[],ye,ym,by simp,by rw[hy];rfl,appY_of t1 t2 t3 hu hu' (fun w=>rfl) (by simp) (hf _) (hf _),by simp,by simp,hgn⟩
   .obtain⟨yl,news,n1,n2,n3⟩:=rowvals yrows
    rw[<-ym]at n2
    have hnews:∀j u,news[j]?=some u->w.cell? ((⟨b2,o2,none⟩:Addr).add j)=some u:=fun j u hj=>by rw[addr_add,cell?_heap];exact h.inv.sat _ _ _ (n3 j u hj)
    have hnews':news.length=m*i.size:=by rw[n2,t5]
    subst hyb
    exact⟨_,m,news,[],ye,ym,n2,RepUR.known yl n1,appY_of t1 t2 t3 hu hu' (fun w=>rfl) hnews' (run_firstCells_some (P:=P) w i.size m ⟨b2,o2,none⟩ m yc news hnews' hnews) (run_firstCells_some (P:=P) w.drew i.size m ⟨b2,o2,none⟩ m yc news hnews' hnews),by simp,by simp,hgn⟩
 have hex:∀ba len cap v w',a.eval X = .slice ba len cap->(Builtin.append_ #[t,tY] o.type #[.slice ba len cap,yv]).run P w = .ok v w'->(execOp a.eval o).run P w = .ok (.value v) w':=by
  intro ba len cap v w' hX hv
  simp[execOp,ho,resolve,invoke,builtin,hX,ye,hv]
 refine apu_key h hn t4 t5 t6 hex ym n2 hYr hY hbig (fun u hu=>?_) hgn hGy hx.2
 rcases lma hu with hu | hu
 .exact hx.1 u hu
 .exact hyo u hu
end
end Go.Proofs.YtpgmljkhleidjaaGreatDoor.LM
