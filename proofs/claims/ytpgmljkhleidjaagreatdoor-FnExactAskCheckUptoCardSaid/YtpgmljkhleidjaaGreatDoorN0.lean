/- laws.FnExactAskCheck returns true for every input whose arguments and package variables hold together at most 1048576 values and letters; the input reads as it did. -/
import Derived.Test.YtpgmljkhleidjaaGreatDoorL2
import Derived.Laws.Strings
import Derived.IntWalk
import Derived.Test.YtpgmljkhleidjaaGreatDoorU0
set_option linter.unusedVariables false
set_option linter.unusedSimpArgs false
namespace Go.Proofs.YtpgmljkhleidjaaGreatDoor.LM
set_option maxRecDepth 100000
theorem wrap_in {n:Int}(h0 : -9223372036854775808<=n) (h1:n<=9223372036854775807):IntKind.i64.wrap n=n:=IntWalk.i64_in n ⟨h0,h1⟩
theorem wrap_succ {i n:Nat}(hi:i<n) (hn:n<=bigLen):IntKind.i64.wrap ((i:Int)+1)=((i+1:Nat):Int):=by
  unfold bigLen at hn
  rw[wrap_in (by omega) (by omega)];omega
theorem get_some {α:Type}{xs:List α}{i:Nat}(h:i<xs.length):xs[((i:Nat):Int).toNat]?=some xs[i]:=by simp[h]
theorem range_ind {n:Nat}{C:Int->Prop}(hend:C n) (hstep:∀i:Nat,i<n->C ((i+1:Nat):Int)->C (i:Int)):C 0:=by
  have key:∀k i:Nat,i+k=n->C (i:Int):=by
    intro k
    induction k with
    | zero=>
      intro i h;have:i=n:=by omega
      subst this;exact hend
    | succ k ih=>intro i h;exact hstep i (by omega) (ih (i+1) (by omega))
  exact key n 0 (by omega)
theorem range_inv {A:Type}{n:Nat}{C:A->Int->Prop}(I:Nat->A->Prop){a0:A}(h0:I 0 a0) (hend:∀a,I n a->C a n) (hstep:∀ (i:Nat) a,i<n->I i a->C a i\/∃a',I (i+1) a'/\(C a' ((i+1:Nat):Int)->C a i)):C a0 0:=by
  have key:∀k (i:Nat) a,i+k=n->I i a->C a (i:Int):=by
    intro k
    induction k with
    | zero=>
      intro i a h hi;have:i=n:=by omega
      subst this;exact hend a hi
    | succ k ih=>
      intro i a h hi
      rcases hstep i a (by omega) hi with h1 | ⟨a',h1,h2⟩
      .exact h1
      .exact h2 (ih (i+1) a' (by omega) h1)
  exact key n 0 a0 (by omega) h0
theorem sEq_iff (a b:Str):sEq a b=decide (a=b):=by
  unfold sEq
  rw[ByteArray.toList_eq,ByteArray.toList_eq]
  by_cases h:a=b
  .subst h;simp
  . simp only[h,decide_false,beq_eq_false_iff_ne,ne_eq]
    intro e
    exact h (ByteArray.ext (Array.toList_inj.1 e))
@[simp] theorem sEq_self (a:Str):sEq a a=true:=by simp[sEq]
theorem ball_of {α:Type}{xs:List α}{P:α->Prop}(h:∀i,(hi:i<xs.length)->P xs[i]):∀x∈xs,P x:=by
  intro x hx;obtain⟨i,hi,e⟩:=List.mem_iff_getElem.1 hx;exact e▸h i hi
theorem to_loop {α:Type}{xs:List α}{C:Int->List α->Nat->Prop}(hend:C xs.length xs 0)
    (hstep:∀ (i:Nat) (hi:i<xs.length),C ((i+1:Nat):Int) (xs.take i++[xs[i]]) (xs.length-i-1)->C (i:Int) (xs.take i) (xs.length-i)):C 0 [] xs.length:=by
  have key:∀k i:Nat,i+k=xs.length->C (i:Int) (xs.take i) (xs.length-i):=by
    intro k
    induction k with
    | zero=>
      intro i h;have e:i=xs.length:=by omega
      subst e;rw[List.take_length,Nat.sub_self];exact hend
    | succ k ih=>
      intro i h
      refine hstep i (by omega) ?_
      have h1:=ih (i+1) (by omega)
      rw[List.take_add_one,List.getElem?_eq_getElem (by omega:i<xs.length)]at h1
      rw[show xs.length-i-1=xs.length-(i+1) by omega]
      exact h1
  have:=key xs.length 0 (by omega)
  simpa using this
theorem to_list {α:Type}{S:α->α->Prop}{xs:List α}{C:Int->List α->Nat->List α->Prop}(hS:∀x∈xs,S x x)
    (hC:∀i ys k r,(xs.length<=bigLen->(if (decide (i<(xs.length:Int)))=true then (∃x:α,(0<=i/\xs[i.toNat]?=some x)/\(∃y:α,S x y/\((0<=i/\i<(xs.length:Int))/\(∃k':Nat,(k=k'+1/\i.toNat=ys.length)/\C (IntKind.i64.wrap (i+1)) (ys++[y]) k' r)))) else ((k=0/\xs.length=ys.length)/\r=ys)))->C i ys k r):
    xs.length<=bigLen->(xs.length<=bigLen/\C 0 [] xs.length xs):=fun hn=>⟨hn,by
  refine to_loop (C:=fun i ys k=>C i ys k xs) ?_ ?_
  .exact hC _ _ _ xs fun _=>by simp
  . intro i hi h
    refine hC _ _ _ xs fun _=>?_
    simp only[Int.ofNat_lt,hi,decide_true,if_true]
    refine⟨xs[i],⟨by omega,get_some hi⟩,xs[i],hS _ (List.getElem_mem hi),⟨by omega,trivial⟩,xs.length-i-1,⟨by omega,by simp only[List.length_take];omega⟩,?_⟩
    rw[wrap_succ hi hn];exact h⟩
theorem to_list0 {α:Type}{xs:List α}{C:Int->List α->Nat->List α->Prop}
    (hC:∀i ys k r,(xs.length<=bigLen->(if (decide (i<(xs.length:Int)))=true then (∃x:α,(0<=i/\xs[i.toNat]?=some x)/\((0<=i/\i<(xs.length:Int))/\(∃k':Nat,(k=k'+1/\i.toNat=ys.length)/\C (IntKind.i64.wrap (i+1)) (ys++[x]) k' r))) else ((k=0/\xs.length=ys.length)/\r=ys)))->C i ys k r):
    xs.length<=bigLen->(xs.length<=bigLen/\C 0 [] xs.length xs):=
  to_list (S:=fun x y=>x=y) (fun _ _=>rfl) fun i ys k r h=>hC i ys k r fun hn=>by
    have h:=h hn
    split at h
    .rw[if_pos (by assumption)];obtain⟨x,h1,_,rfl,h2⟩:=h;exact⟨x,h1,h2⟩
    .rw[if_neg (by assumption)];exact h
theorem eq_list {α:Type}{S:α->α->Bool->Prop}{xs:List α}{C:Int->Bool->Prop}(hS:∀x∈xs,S x x true)
    (hC:∀i r,(xs.length<=bigLen->(if (decide (i<(xs.length:Int)))=true then (∃x:α,(0<=i/\xs[i.toNat]?=some x)/\(∃y:α,(0<=i/\xs[i.toNat]?=some y)/\(∃b:Bool,S x y b/\(if (!b)=true then (r=false) else C (IntKind.i64.wrap (i+1)) r)))) else (r=true)))->C i r):
    xs.length<=bigLen->xs.length<=bigLen->(if ((xs.length:Int) != (xs.length:Int))=true then (true=false) else C 0 true):=fun hn _=>by
  simp only[bne_self_eq_false,Bool.false_eq_true,if_false]
  refine range_ind (n:=xs.length) (C:=fun i=>C i true) ?_ ?_
  .exact hC _ true fun _=>by simp
  . intro i hi h
    refine hC _ true fun _=>?_
    simp only[Int.ofNat_lt,hi,decide_true,if_true]
    refine⟨xs[i],⟨by omega,get_some hi⟩,xs[i],⟨by omega,get_some hi⟩,true,hS _ (List.getElem_mem hi),?_⟩
    simp only[Bool.not_true,Bool.false_eq_true,if_false,wrap_succ hi hn]
    exact h
theorem eq_list0 {α:Type}{q:α->α->Bool}(hq:∀x,q x x=true){xs:List α}{C:Int->Bool->Prop}
    (hC:∀i r,(xs.length<=bigLen->(if (decide (i<(xs.length:Int)))=true then (∃x:α,(0<=i/\xs[i.toNat]?=some x)/\(∃y:α,(0<=i/\xs[i.toNat]?=some y)/\(if (!(q x y))=true then (r=false) else C (IntKind.i64.wrap (i+1)) r))) else (r=true)))->C i r):
    xs.length<=bigLen->xs.length<=bigLen->(if ((xs.length:Int) != (xs.length:Int))=true then (true=false) else C 0 true):=
  eq_list (S:=fun x y b=>q x y=b) (fun x _=>hq x) fun i r h=>hC i r fun hn=>by
    have h:=h hn
    split at h
    .rw[if_pos (by assumption)];obtain⟨x,h1,y,h2,b,rfl,h3⟩:=h;exact⟨x,h1,y,h2,h3⟩
    .rw[if_neg (by assumption)];exact h
def mB:Int:=1048576
def Sz (S:Int->Int->Prop) (m:Nat):Prop:=∀v,0<=v->v<=mB->∃r,S v r/\(r<0\/r+m<=v)
theorem sz_end:Sz (fun v r=>r=v) 0:=fun v _ _=>⟨v,rfl,.inr (by omega)⟩
theorem sz_take {n b m:Nat}(hb:b<=68719476736){K:Int->Int->Prop}(hK:Sz K m):Sz (fun v r=>n<=b->(if (decide (IntKind.i64.wrap (v-(n:Int))<0))=true then (r=(-1)) else K (IntKind.i64.wrap (v-(n:Int))) r)) (n+m):=fun v h0 hm=>by
  unfold mB at hm
  by_cases hn:v-(n:Int)<0
  . refine⟨-1,fun hl=>?_,.inl (by omega)⟩
    rw[wrap_in (by omega) (by omega)];simp[hn]
  . obtain⟨r,h1,h2⟩:=hK (v-n) (by omega) (by unfold mB;omega)
    refine⟨r,fun hl=>?_,by omega⟩
    rw[wrap_in (by omega) (by omega),if_neg (by simpa using hn)];exact h1
theorem sz_str {n m:Nat}{K:Int->Int->Prop}(hK:Sz K m):Sz (fun v r=>n<=bigStr->(if (decide (IntKind.i64.wrap (v-(n:Int))<0))=true then (r=(-1)) else K (IntKind.i64.wrap (v-(n:Int))) r)) (n+m):=sz_take (Nat.le_refl _) hK
theorem sz_sub {m m':Nat}{S K:Int->Int->Prop}(hS:Sz S m) (hK:Sz K m'):Sz (fun v r=>∃y:Int,S v y/\(if (decide (y<0))=true then (r=(-1)) else K y r)) (m+m'):=fun v h0 hm=>by
  obtain⟨y,h1,h2⟩:=hS v h0 hm
  by_cases hn:y<0
  .exact⟨-1,⟨y,h1,by simp[hn]⟩,.inl (by omega)⟩
  . obtain⟨r,h3,h4⟩:=hK y (by omega) (by omega)
    exact⟨r,⟨y,h1,by rw[if_neg (by simpa using hn)];exact h3⟩,by omega⟩
theorem Sz.le {S:Int->Int->Prop}{m m':Nat}(h:Sz S m) (hm:m'<=m):Sz S m':=fun v a b=>let ⟨r,h1,h2⟩:=h v a b;⟨r,h1,h2.imp id fun h=>by omega⟩
def sumN {α:Type}(m:α->Nat):List α->Nat
  | []=>0
  | x::r=>m x+sumN m r
theorem sumN_drop {α:Type}(m:α->Nat){xs:List α}{i:Nat}(h:i<xs.length):sumN m (xs.drop i)=m xs[i]+sumN m (xs.drop (i+1)):=by
  rw[List.drop_eq_getElem_cons h];rfl
theorem le_sumN {α:Type}(m:α->Nat){x:α}:∀ {xs:List α},x∈xs->m x<=sumN m xs
  | y::r,h=>by
    simp only[sumN]
    rcases lm1 h with rfl | h
    .omega
    .have:=le_sumN m h;omega
theorem sz_list {α:Type}{S:α->Int->Int->Prop}{m:α->Nat}{xs:List α}{C:Int->Int->Int->Prop}(hS:∀x∈xs,Sz (S x) (m x))
    (hC:∀v i r,(xs.length<=bigLen->(if (decide (i<(xs.length:Int)))=true then (∃x:α,(0<=i/\xs[i.toNat]?=some x)/\(∃y:Int,S x v y/\(if (decide (y<0))=true then (r=(-1)) else C y (IntKind.i64.wrap (i+1)) r))) else (r=v)))->C v i r):
    Sz (fun v r=>xs.length<=bigLen->(if (decide (IntKind.i64.wrap (v-(xs.length:Int))<0))=true then (r=(-1)) else C (IntKind.i64.wrap (v-(xs.length:Int))) 0 r)) (xs.length+sumN m xs):=by
  by_cases hl:xs.length<=bigLen
  rotate_left
  .exact fun v _ _=>⟨-1,fun h=>absurd h hl,.inl (by omega)⟩
  refine sz_take (K:=fun v r=>C v 0 r) (Nat.le_refl _) fun v h0 hm=>?_
  have key:∀k i:Nat,i+k=xs.length->∀v,0<=v->v<=mB->∃r,C v i r/\(r<0\/r+(sumN m (xs.drop i):Nat)<=v):=by
    intro k
    induction k with
    | zero=>
      intro i h v h0 hm
      have e:i=xs.length:=by omega
      subst e
      exact⟨v,hC _ _ _ fun _=>by simp,.inr (by simp[sumN])⟩
    | succ k ih=>
      intro i h v h0 hm
      have hi:i<xs.length:=by omega
      obtain⟨y,h1,h2⟩:=hS xs[i] (List.getElem_mem hi) v h0 hm
      by_cases hn:y<0
      . refine⟨-1,hC _ _ _ fun _=>?_,.inl (by omega)⟩
        simp only[Int.ofNat_lt,hi,decide_true,if_true]
        exact⟨xs[i],⟨by omega,get_some hi⟩,y,h1,by simp[hn]⟩
      . obtain⟨r,h3,h4⟩:=ih (i+1) (by omega) y (by omega) (by omega)
        refine⟨r,hC _ _ _ fun _=>?_,?_⟩
        . simp only[Int.ofNat_lt,hi,decide_true,if_true]
          refine⟨xs[i],⟨by omega,get_some hi⟩,y,h1,?_⟩
          rw[if_neg (by simpa using hn),wrap_succ hi hl];exact h3
        .rw[sumN_drop m hi];omega
  exact key xs.length 0 (by omega) v h0 hm
theorem sz_list0 {α:Type}{m:α->Nat}{xs:List α}{C:Int->Int->Int->Prop}
    (hC:∀v i r,(xs.length<=bigLen->(if (decide (i<(xs.length:Int)))=true then (∃x:α,(0<=i/\xs[i.toNat]?=some x)/\(m x<=bigStr->(if (decide (IntKind.i64.wrap (v-(m x:Int))<0))=true then (r=(-1)) else C (IntKind.i64.wrap (v-(m x:Int))) (IntKind.i64.wrap (i+1)) r))) else (r=v)))->C v i r):
    Sz (fun v r=>xs.length<=bigLen->(if (decide (IntKind.i64.wrap (v-(xs.length:Int))<0))=true then (r=(-1)) else C (IntKind.i64.wrap (v-(xs.length:Int))) 0 r)) (xs.length+sumN m xs):=by
  by_cases hl:xs.length<=bigLen
  rotate_left
  .exact fun v _ _=>⟨-1,fun h=>absurd h hl,.inl (by omega)⟩
  refine sz_take (K:=fun v r=>C v 0 r) (Nat.le_refl _) fun v h0 hm=>?_
  have key:∀k i:Nat,i+k=xs.length->∀v,0<=v->v<=mB->∃r,C v i r/\(r<0\/r+(sumN m (xs.drop i):Nat)<=v):=by
    intro k
    induction k with
    | zero=>
      intro i h v h0 hm
      have e:i=xs.length:=by omega
      subst e
      exact⟨v,hC _ _ _ fun _=>by simp,.inr (by simp[sumN])⟩
    | succ k ih=>
      intro i h v h0 hm
      have hi:i<xs.length:=by omega
      obtain⟨r,h1,h2⟩:=sz_take (n:=m xs[i]) (b:=bigStr) (Nat.le_refl _) (K:=fun v r=>C v ((i+1:Nat):Int) r) (m:=sumN m (xs.drop (i+1))) (fun v a b=>ih (i+1) (by omega) v a b) v h0 hm
      refine⟨r,hC _ _ _ fun _=>?_,?_⟩
      . simp only[Int.ofNat_lt,hi,decide_true,if_true]
        refine⟨xs[i],⟨by omega,get_some hi⟩,fun hb=>?_⟩
        rw[wrap_succ hi hl];exact h1 hb
      .rw[sumN_drop m hi];omega
  exact key xs.length 0 (by omega) v h0 hm
def mkL {α:Type}(mk:α->Int->α) (ct:α->Nat):List α->Int->List α
  | [],_=>[]
  | x::r,k=>mk x k::mkL mk ct r (k+ct x)
theorem mkL_length {α:Type}{mk:α->Int->α}{ct:α->Nat}:∀ {xs:List α}{k:Int},(mkL mk ct xs k).length=xs.length
  | [],_=>rfl
  | _::_,_=>by simp only[mkL,List.length_cons,mkL_length]
theorem mkL_get {α:Type}{mk:α->Int->α}{ct:α->Nat}:∀ {xs:List α}{k:Int}{i:Nat}(hi:i<xs.length),(mkL mk ct xs k)[i]?=some (mk xs[i] (k+sumN ct (xs.take i)))
  | x::r,k,0,_=>by simp[mkL,sumN]
  | x::r,k,i+1,hi=>by
    simp only[mkL,List.getElem?_cons_succ,List.getElem_cons_succ,List.take_succ_cons,sumN]
    rw[mkL_get (by simpa using hi)]
    congr 2;omega
def kTop:Int:=1073741824
theorem sumN_len {α:Type}{ct:α->Nat}(h:∀x,1<=ct x):∀xs:List α,xs.length<=sumN ct xs
  | []=>Nat.le_refl _
  | x::r=>by have:=h x;have:=sumN_len h r;simp only[List.length_cons,sumN];omega
theorem len_of {α:Type}{ct:α->Nat}{xs:List α}{k:Int}(h:∀x,1<=ct x) (h0:0<=k) (hk:k+(sumN ct xs:Nat)<=kTop):xs.length<=68719476736:=by
  have:=sumN_len h xs;unfold kTop at hk;omega
theorem wrap_k {k:Int}(h0:0<=k) (h1:k<kTop):IntKind.i64.wrap (k+1)=k+1:=by
  unfold kTop at h1
  exact wrap_in (by omega) (by omega)
theorem mark_list {α:Type}{mk:α->Int->α}{ct:α->Nat}{xs:List α}{C:Int->Int->List α->Int×List α->Prop}(k:Int) (h0:0<=k) (hk:k+(sumN ct xs:Nat)<=kTop) (h1:∀x,1<=ct x)
    (hend:∀k ys,C k xs.length ys (k,ys))
    (hstep:∀ (i:Nat) (hi:i<xs.length) k ys,0<=k->k+(ct xs[i]:Nat)<=kTop->ys[((i:Nat):Int).toNat]?=some xs[i]->∀r,C (k+(ct xs[i]:Nat)) (IntKind.i64.wrap ((i:Int)+1)) (ys.set ((i:Nat):Int).toNat (mk xs[i] k)) r->C k i ys r):
    C k 0 xs (k+(sumN ct xs:Nat),mkL mk ct xs k):=by
  have hn:=len_of h1 h0 hk
  have key:∀m i:Nat,i+m=xs.length->∀k,0<=k->k+(sumN ct (xs.drop i):Nat)<=kTop->∀ys,C k i (ys++xs.drop i) (k+(sumN ct (xs.drop i):Nat),ys++mkL mk ct (xs.drop i) k)\/ys.length≠i:=by
    intro m
    induction m with
    | zero=>
      intro i h k h0 hk ys
      have e:i=xs.length:=by omega
      subst e
      left
      rw[List.drop_length]
      simpa[mkL,sumN]using hend k ys
    | succ m ih=>
      intro i h k h0 hk ys
      by_cases hy:ys.length=i
      rotate_left
      .exact .inr hy
      left
      have hi:i<xs.length:=by omega
      rw[sumN_drop ct hi]at hk ⊢
      have hs:=hstep i hi k (ys++xs.drop i) h0 (by omega) (by rw[Int.toNat_natCast,List.getElem?_append_right (by omega),hy,Nat.sub_self,List.drop_eq_getElem_cons hi];rfl)
      refine hs _ ?_
      rcases ih (i+1) (by omega) (k+(ct xs[i]:Nat)) (by omega) (by omega) (ys++[mk xs[i] k]) with h1 | h1
      . have e1:(ys++List.drop i xs).set ((i:Nat):Int).toNat (mk xs[i] k)=(ys++[mk xs[i] k])++xs.drop (i+1):=by
          rw[Int.toNat_natCast,List.set_append_right _ _ (by omega),hy,Nat.sub_self,List.drop_eq_getElem_cons hi];simp only[List.set_cons_zero,List.append_assoc,List.cons_append,List.nil_append]
        have e2:ys++mkL mk ct (xs.drop i) k=(ys++[mk xs[i] k])++mkL mk ct (xs.drop (i+1)) (k+(ct xs[i]:Nat)):=by
          rw[List.drop_eq_getElem_cons hi];simp[mkL]
        rw[e1,e2,wrap_succ hi hn,show k+((ct xs[i]+sumN ct (List.drop (i+1) xs):Nat):Int)=k+(ct xs[i]:Nat)+(sumN ct (List.drop (i+1) xs):Nat) by omega]
        exact h1
      .exact absurd (by simp[hy]) h1
  rcases key xs.length 0 (by omega) k h0 (by simpa using hk) []with h | h
  .simpa using h
  .exact absurd rfl h
theorem held_of {α:Type}{mk:α->Int->α}{ct:α->Nat}{xs:List α}{C:Int->Int->Int->Prop}(k:Int) (h0:0<=k) (hk:k+(sumN ct xs:Nat)<=kTop) (h1:∀x,1<=ct x)
    (hend:∀k,C k xs.length k)
    (hstep:∀ (i:Nat) (hi:i<xs.length) k',0<=k'->k'+(ct xs[i]:Nat)<=kTop->(mkL mk ct xs k)[((i:Nat):Int).toNat]?=some (mk xs[i] k')->∀r,C (k'+(ct xs[i]:Nat)) (IntKind.i64.wrap ((i:Int)+1)) r->C k' i r):
    C k 0 (k+(sumN ct xs:Nat)):=by
  have hn:=len_of h1 h0 hk
  have key:∀m i:Nat,i+m=xs.length->∀k',k'=k+(sumN ct (xs.take i):Nat)->k'+(sumN ct (xs.drop i):Nat)<=kTop->C k' i (k'+(sumN ct (xs.drop i):Nat)):=by
    intro m
    induction m with
    | zero=>
      intro i h k' _ _
      have e:i=xs.length:=by omega
      subst e
      rw[List.drop_length]
      simpa[sumN]using hend k'
    | succ m ih=>
      intro i h k' hk' hle
      have hi:i<xs.length:=by omega
      rw[sumN_drop ct hi]at hle ⊢
      refine hstep i hi k' (by omega) (by omega) ?_ _ ?_
      .rw[Int.toNat_natCast,mkL_get hi,hk']
      . rw[wrap_succ hi hn,show k'+((ct xs[i]+sumN ct (List.drop (i+1) xs):Nat):Int)=k'+(ct xs[i]:Nat)+(sumN ct (List.drop (i+1) xs):Nat) by omega]
        refine ih (i+1) (by omega) _ ?_ (by omega)
        have:sumN ct (xs.take (i+1))=sumN ct (xs.take i)+ct xs[i]:=by
          have hs:∀ (a b:List α),sumN ct (a++b)=sumN ct a+sumN ct b:=fun a b=>by
            induction a with
            | nil=>simp[sumN]
            | cons x a ih=>simp only[List.cons_append,sumN,ih];omega
          rw[List.take_add_one,List.getElem?_eq_getElem hi,hs];simp[sumN]
        omega
  have:=key xs.length 0 (by omega) k (by simp[sumN]) (by simpa using hk)
  simpa using this
set_option linter.unusedVariables false
theorem mtx_loop:∀ (m:Nat) (v:Int) (a:Str),v<10^m->v<=kTop->a.size+m+1<=bigStr->∃y,C_w_markText_L1 v a y:=by
  intro m
  induction m with
  | zero=>
    intro v a h _ hb
    have h:v<1:=h
    refine⟨(⟨#[109]⟩:Str)++a,w_markText_L1_unf v a _ ?_⟩
    unfold B_w_markText_L1
    rw[if_neg (by simp only[decide_eq_true_eq];omega)]
    exact⟨by rw[show (⟨#[109]⟩:Str).size=1 from rfl];omega,rfl⟩
  | succ m ih=>
    intro v a h ht hb
    by_cases hv:0<v
    . have e:v.tdiv 10=v/10:=Int.tdiv_eq_ediv_of_nonneg (by omega)
      have h10:(10:Int)^(m+1)=10^m*10:=rfl
      have h1:∀u:UInt8,(⟨([u]:List UInt8).toArray⟩:Str).size=1:=fun _=>rfl
      obtain⟨y,hy⟩:=ih (v.tdiv 10) ((⟨([(u8of (IntKind.i64.wrap (48+(v.tmod 10))))]:List UInt8).toArray⟩:Str)++a) (by rw[e];omega) (by rw[e];omega) (by rw[ByteArray.size_append,h1];omega)
      refine⟨y,w_markText_L1_unf v a y ?_⟩
      unfold B_w_markText_L1
      rw[if_pos (by simpa using hv)]
      unfold kTop at ht
      exact⟨by rw[h1];omega,by rw[wrap_in (n:=v.tdiv 10) (by rw[e];omega) (by rw[e];omega)];exact hy⟩
    . refine⟨(⟨#[109]⟩:Str)++a,w_markText_L1_unf v a _ ?_⟩
      unfold B_w_markText_L1
      rw[if_neg (by simpa using hv)]
      exact⟨by rw[show (⟨#[109]⟩:Str).size=1 from rfl];omega,rfl⟩
theorem mtx_ex (k:Int) (h:k<=kTop):∃y,S_w_markText k y:=by
  by_cases h0:k<=0
  .exact⟨_,w_markText_unf k _ (by unfold B_w_markText;rw[if_pos (by simpa using h0)])⟩
  . obtain⟨y,hy⟩:=mtx_loop 19 k sE (by unfold kTop at h;omega) h (by show 0+19+1<=bigStr;unfold bigStr;omega)
    exact⟨y,w_markText_unf k y (by unfold B_w_markText;rw[if_neg (by simpa using h0)];exact hy)⟩
open Classical in
noncomputable def mtx (k:Int):Str:=if h:∃y,S_w_markText k y then Classical.choose h else sE
theorem mtx_ok {k:Int}(h:k<=kTop):S_w_markText k (mtx k):=by
  unfold mtx;rw[dif_pos (mtx_ex k h)];exact Classical.choose_spec (mtx_ex k h)
def mz_AskFault (x:AskFault):Nat:=(x.fWay.length+sumN (fun x=>x.size) x.fWay)+0
def ct_AskFault (x:AskFault):Nat:=sumN (fun _=>1) x.fWay+1
noncomputable def mk_AskFault (x:AskFault) (k:Int):AskFault:=⟨(mkL (fun _ k=>mtx k) (fun _=>1) x.fWay k),(k+(sumN (fun _=>1) x.fWay:Nat))⟩
theorem ct_AskFault_pos (x:AskFault):1<=ct_AskFault x:=by unfold ct_AskFault;omega
def mz_Field (x:Field):Nat:=x.fName.size+(x.fOf.size+((x.fNeeds.length+sumN (fun x=>x.size) x.fNeeds)+0))
def ct_Field (x:Field):Nat:=1+1+1+1+1+1+1+sumN (fun _=>1) x.fNeeds
noncomputable def mk_Field (x:Field) (k:Int):Field:=⟨(mtx k),(mtx (k+1)),((((k+1)+1)).tmod 3 == 0),(((((k+1)+1)+1)).tmod 3 == 0),((((((k+1)+1)+1)+1)).tmod 3 == 0),(((((((k+1)+1)+1)+1)+1)).tmod 3 == 0),((((((((k+1)+1)+1)+1)+1)+1)).tmod 3 == 0),(mkL (fun _ k=>mtx k) (fun _=>1) x.fNeeds (((((((k+1)+1)+1)+1)+1)+1)+1))⟩
theorem ct_Field_pos (x:Field):1<=ct_Field x:=by unfold ct_Field;omega
def mz_Ty (x:Ty):Nat:=x.fName.size+(x.fKey.size+((x.fFields.length+sumN mz_Field x.fFields)+0))
def ct_Ty (x:Ty):Nat:=1+1+sumN ct_Field x.fFields
noncomputable def mk_Ty (x:Ty) (k:Int):Ty:=⟨(mtx k),(mtx (k+1)),(mkL mk_Field ct_Field x.fFields ((k+1)+1))⟩
theorem ct_Ty_pos (x:Ty):1<=ct_Ty x:=by unfold ct_Ty;omega
def mz_Part (x:Part):Nat:=x.fName.size+((x.fTypes.length+sumN mz_Ty x.fTypes)+0)
def ct_Part (x:Part):Nat:=1+sumN ct_Ty x.fTypes
noncomputable def mk_Part (x:Part) (k:Int):Part:=⟨(mtx k),(mkL mk_Ty ct_Ty x.fTypes (k+1))⟩
theorem ct_Part_pos (x:Part):1<=ct_Part x:=by unfold ct_Part;omega
mutual
def mz_Sel:Sel->Nat
  | ⟨a0,a1,a2,a3,a4⟩=>a0.size+(a1.size+(mz_SelL a4+0))
def mz_SelL:List Sel->Nat
  | []=>0
  | x::r=>1+(mz_Sel x+mz_SelL r)
end
theorem mz_SelL_eq:∀xs,mz_SelL xs=xs.length+sumN mz_Sel xs
  | []=>rfl
  | x::r=>by simp only[mz_SelL,mz_SelL_eq r,List.length_cons,sumN];omega
theorem mz_Sel_eq (x:Sel):mz_Sel x=x.fAs.size+(x.fName.size+(mz_SelL x.fKids+0)):=by cases x;simp only[mz_Sel]
mutual
def ct_Sel:Sel->Nat
  | ⟨a0,a1,a2,a3,a4⟩=>1+1+1+1+ct_SelL a4
def ct_SelL:List Sel->Nat
  | []=>0
  | x::r=>ct_Sel x+ct_SelL r
end
mutual
noncomputable def mk_Sel:Sel->Int->Sel
  | ⟨a0,a1,a2,a3,a4⟩,k=>⟨(mtx k),(mtx (k+1)),((((k+1)+1)).tmod 3 == 0),(((k+1)+1)+1),(mk_SelL a4 ((((k+1)+1)+1)+1))⟩
noncomputable def mk_SelL:List Sel->Int->List Sel
  | [],_=>[]
  | x::r,k=>mk_Sel x k::mk_SelL r (k+ct_Sel x)
end
theorem ct_SelL_eq:∀xs,ct_SelL xs=sumN ct_Sel xs
  | []=>rfl
  | x::r=>by simp only[ct_SelL,ct_SelL_eq r,sumN]
theorem mk_SelL_eq:∀xs k,mk_SelL xs k=mkL mk_Sel ct_Sel xs k
  | [],_=>rfl
  | x::r,k=>by simp only[mk_SelL,mk_SelL_eq r,mkL]
theorem ct_Sel_eq (x:Sel):ct_Sel x=1+1+1+1+ct_SelL x.fKids:=by cases x;simp only[ct_Sel]
theorem mk_Sel_eq (x:Sel) (k:Int):mk_Sel x k=⟨(mtx k),(mtx (k+1)),((((k+1)+1)).tmod 3 == 0),(((k+1)+1)+1),(mk_SelL x.fKids ((((k+1)+1)+1)+1))⟩:=by cases x;simp only[mk_Sel]
theorem ct_Sel_pos (x:Sel):1<=ct_Sel x:=by rw[ct_Sel_eq];omega
mutual
theorem ind_Sel {P:Sel->Prop}(h:∀s:Sel,(∀k∈s.fKids,P k)->P s):∀s:Sel,P s
  | ⟨a0,a1,a2,a3,a4⟩=>h ⟨a0,a1,a2,a3,a4⟩ (ind_SelL h a4)
theorem ind_SelL {P:Sel->Prop}(h:∀s:Sel,(∀k∈s.fKids,P k)->P s):∀ks:List Sel,∀k∈ks,P k
  | [],k,hk=>by cases hk
  | x::r,k,hk=>by
    rcases lm1 hk with e | hk
    .exact e▸ind_Sel h x
    .exact ind_SelL h r k hk
end
theorem w_toStringS_ok (xs:(List Str)):S_w_toStringS xs xs:=w_toStringS_unf xs xs (to_list0 fun i ys k r h=>w_toStringS_L1_unf xs i ys k r h)
theorem w_toField_ok (x:Field):S_w_toField x x:=w_toField_unf x x ⟨_,(w_toStringS_ok x.fNeeds),by cases x;rfl⟩
theorem w_toFieldS_ok (xs:(List Field)):S_w_toFieldS xs xs:=w_toFieldS_unf xs xs (to_list (fun x _=>w_toField_ok x) fun i ys k r h=>w_toFieldS_L1_unf xs i ys k r h)
theorem w_toType_ok (x:Ty):S_w_toType x x:=w_toType_unf x x ⟨_,(w_toFieldS_ok x.fFields),by cases x;rfl⟩
theorem w_toTypeS_ok (xs:(List Ty)):S_w_toTypeS xs xs:=w_toTypeS_unf xs xs (to_list (fun x _=>w_toType_ok x) fun i ys k r h=>w_toTypeS_L1_unf xs i ys k r h)
theorem w_toPart_ok (x:Part):S_w_toPart x x:=w_toPart_unf x x ⟨_,(w_toTypeS_ok x.fTypes),by cases x;rfl⟩
theorem w_toSelS_of (xs:(List Sel)) (hx:∀x∈xs,S_w_toSel x x):S_w_toSelS xs xs:=w_toSelS_unf xs xs (to_list (hx) fun i ys k r h=>w_toSelS_L1_unf xs i ys k r h)
theorem w_toSel_ok:∀x:Sel,S_w_toSel x x:=ind_Sel fun x ih=>w_toSel_unf x x ⟨_,(w_toSelS_of x.fKids ih),by cases x;rfl⟩
theorem w_toSelS_ok (xs:(List Sel)):S_w_toSelS xs xs:=w_toSelS_of xs fun x _=>w_toSel_ok x
theorem w_toStringS_u_ok (xs:(List Str)):S_w_toStringS_u xs xs:=w_toStringS_u_unf xs xs (to_list0 fun i ys k r h=>w_toStringS_u_L1_unf xs i ys k r h)
theorem w_toField_u_ok (x:Field):S_w_toField_u x x:=w_toField_u_unf x x ⟨_,(w_toStringS_u_ok x.fNeeds),by cases x;rfl⟩
theorem w_toFieldS_u_ok (xs:(List Field)):S_w_toFieldS_u xs xs:=w_toFieldS_u_unf xs xs (to_list (fun x _=>w_toField_u_ok x) fun i ys k r h=>w_toFieldS_u_L1_unf xs i ys k r h)
theorem w_toType_u_ok (x:Ty):S_w_toType_u x x:=w_toType_u_unf x x ⟨_,(w_toFieldS_u_ok x.fFields),by cases x;rfl⟩
theorem w_toTypeS_u_ok (xs:(List Ty)):S_w_toTypeS_u xs xs:=w_toTypeS_u_unf xs xs (to_list (fun x _=>w_toType_u_ok x) fun i ys k r h=>w_toTypeS_u_L1_unf xs i ys k r h)
theorem w_toPart_u_ok (x:Part):S_w_toPart_u x x:=w_toPart_u_unf x x ⟨_,(w_toTypeS_u_ok x.fTypes),by cases x;rfl⟩
theorem w_toSelS_u_of (xs:(List Sel)) (hx:∀x∈xs,S_w_toSel_u x x):S_w_toSelS_u xs xs:=w_toSelS_u_unf xs xs (to_list (hx) fun i ys k r h=>w_toSelS_u_L1_unf xs i ys k r h)
theorem w_toSel_u_ok:∀x:Sel,S_w_toSel_u x x:=ind_Sel fun x ih=>w_toSel_u_unf x x ⟨_,(w_toSelS_u_of x.fKids ih),by cases x;rfl⟩
theorem w_toSelS_u_ok (xs:(List Sel)):S_w_toSelS_u xs xs:=w_toSelS_u_of xs fun x _=>w_toSel_u_ok x
theorem w_eqStringS_ok (xs:(List Str)):S_w_eqStringS xs xs true:=w_eqStringS_unf xs xs true (eq_list0 (q:=sEq) sEq_self fun i r h=>w_eqStringS_L1_unf xs xs i r h)
theorem w_eqAskFault_ok (x:AskFault):S_w_eqAskFault x x true:=w_eqAskFault_unf x x true (by
  unfold B_w_eqAskFault
  simp only[sEq_self,Bool.not_true,Bool.false_eq_true,if_false,beq_self_eq_true,bne_self_eq_false]
  exact⟨true,(w_eqStringS_ok x.fWay),by simp⟩)
theorem w_eqField_ok (x:Field):S_w_eqField x x true:=w_eqField_unf x x true (by
  unfold B_w_eqField
  simp only[sEq_self,Bool.not_true,Bool.false_eq_true,if_false,beq_self_eq_true,bne_self_eq_false]
  exact⟨true,(w_eqStringS_ok x.fNeeds),by simp⟩)
theorem w_eqFieldS_ok (xs:(List Field)):S_w_eqFieldS xs xs true:=w_eqFieldS_unf xs xs true (eq_list (fun x _=>w_eqField_ok x) fun i r h=>w_eqFieldS_L1_unf xs xs i r h)
theorem w_eqType_ok (x:Ty):S_w_eqType x x true:=w_eqType_unf x x true (by
  unfold B_w_eqType
  simp only[sEq_self,Bool.not_true,Bool.false_eq_true,if_false,beq_self_eq_true,bne_self_eq_false]
  exact⟨true,(w_eqFieldS_ok x.fFields),by simp⟩)
theorem w_eqTypeS_ok (xs:(List Ty)):S_w_eqTypeS xs xs true:=w_eqTypeS_unf xs xs true (eq_list (fun x _=>w_eqType_ok x) fun i r h=>w_eqTypeS_L1_unf xs xs i r h)
theorem w_eqPart_ok (x:Part):S_w_eqPart x x true:=w_eqPart_unf x x true (by
  unfold B_w_eqPart
  simp only[sEq_self,Bool.not_true,Bool.false_eq_true,if_false,beq_self_eq_true,bne_self_eq_false]
  exact⟨true,(w_eqTypeS_ok x.fTypes),by simp⟩)
theorem w_eqSelS_of (xs:(List Sel)) (hx:∀x∈xs,S_w_eqSel x x true):S_w_eqSelS xs xs true:=w_eqSelS_unf xs xs true (eq_list (hx) fun i r h=>w_eqSelS_L1_unf xs xs i r h)
theorem w_eqSel_ok:∀x:Sel,S_w_eqSel x x true:=ind_Sel fun x ih=>w_eqSel_unf x x true (by
  unfold B_w_eqSel
  simp only[sEq_self,Bool.not_true,Bool.false_eq_true,if_false,beq_self_eq_true,bne_self_eq_false]
  exact⟨true,(w_eqSelS_of x.fKids ih),by simp⟩)
theorem w_eqSelS_ok (xs:(List Sel)):S_w_eqSelS xs xs true:=w_eqSelS_of xs fun x _=>w_eqSel_ok x
theorem w_szStringS_ok (xs:(List Str)):Sz (S_w_szStringS xs) (xs.length+sumN (fun x=>x.size) xs):=fun v a b=>let ⟨r,h1,h2⟩:=sz_list0 (C:=fun v i r=>C_w_szStringS_L1 xs v i r) (fun v i r h=>w_szStringS_L1_unf xs v i r h) v a b;⟨r,w_szStringS_unf xs v r h1,h2⟩
theorem w_szField_ok (x:Field):Sz (S_w_szField x) (mz_Field x):=fun v a b=>let ⟨r,h1,h2⟩:=(sz_str (n:=x.fName.size) (sz_str (n:=x.fOf.size) (sz_sub (w_szStringS_ok x.fNeeds) sz_end))) v a b;⟨r,w_szField_unf x v r h1,h2⟩
theorem w_szFieldS_ok (xs:(List Field)):Sz (S_w_szFieldS xs) (xs.length+sumN mz_Field xs):=fun v a b=>let ⟨r,h1,h2⟩:=sz_list (S:=S_w_szField) (m:=mz_Field) (fun x _=>w_szField_ok x) (C:=fun v i r=>C_w_szFieldS_L1 xs v i r) (fun v i r h=>w_szFieldS_L1_unf xs v i r h) v a b;⟨r,w_szFieldS_unf xs v r h1,h2⟩
theorem w_szType_ok (x:Ty):Sz (S_w_szType x) (mz_Ty x):=fun v a b=>let ⟨r,h1,h2⟩:=(sz_str (n:=x.fName.size) (sz_str (n:=x.fKey.size) (sz_sub (w_szFieldS_ok x.fFields) sz_end))) v a b;⟨r,w_szType_unf x v r h1,h2⟩
theorem w_szTypeS_ok (xs:(List Ty)):Sz (S_w_szTypeS xs) (xs.length+sumN mz_Ty xs):=fun v a b=>let ⟨r,h1,h2⟩:=sz_list (S:=S_w_szType) (m:=mz_Ty) (fun x _=>w_szType_ok x) (C:=fun v i r=>C_w_szTypeS_L1 xs v i r) (fun v i r h=>w_szTypeS_L1_unf xs v i r h) v a b;⟨r,w_szTypeS_unf xs v r h1,h2⟩
theorem w_szPart_ok (x:Part):Sz (S_w_szPart x) (mz_Part x):=fun v a b=>let ⟨r,h1,h2⟩:=(sz_str (n:=x.fName.size) (sz_sub (w_szTypeS_ok x.fTypes) sz_end)) v a b;⟨r,w_szPart_unf x v r h1,h2⟩
theorem w_szSelS_of (xs:(List Sel)) (hx:∀x∈xs,Sz (S_w_szSel x) (mz_Sel x)):Sz (S_w_szSelS xs) (xs.length+sumN mz_Sel xs):=fun v a b=>let ⟨r,h1,h2⟩:=sz_list (S:=S_w_szSel) (m:=mz_Sel) (hx) (C:=fun v i r=>C_w_szSelS_L1 xs v i r) (fun v i r h=>w_szSelS_L1_unf xs v i r h) v a b;⟨r,w_szSelS_unf xs v r h1,h2⟩
theorem w_szSel_ok:∀x:Sel,Sz (S_w_szSel x) (mz_Sel x):=ind_Sel fun x ih=>fun v a b=>by
  rw[mz_Sel_eq]
  exact let ⟨r,h1,h2⟩:=(sz_str (n:=x.fAs.size) (sz_str (n:=x.fName.size) (sz_sub (by rw[mz_SelL_eq];exact w_szSelS_of x.fKids ih:Sz (S_w_szSelS x.fKids) (mz_SelL x.fKids)) sz_end))) v a b;⟨r,w_szSel_unf x v r h1,h2⟩
theorem w_szSelS_ok (xs:(List Sel)):Sz (S_w_szSelS xs) (xs.length+sumN mz_Sel xs):=w_szSelS_of xs fun x _=>w_szSel_ok x
theorem w_markStringS_ok (xs:(List Str)) (k:Int) (h0:0<=k) (hk:k+(sumN (fun _=>1) xs:Nat)<=kTop):S_w_markStringS xs k (k+(sumN (fun _=>1) xs:Nat),mkL (fun _ k=>mtx k) (fun _=>1) xs k):=by
  refine w_markStringS_unf xs k _ (mark_list (C:=fun k i ys r=>C_w_markStringS_L1 xs k i ys r) (mk:=(fun _ k=>mtx k)) (ct:=(fun _=>1)) k h0 hk (fun _=>Nat.le_refl 1) (fun k ys=>?_) fun i hi k ys h0 hk hy r h=>?_)
  . refine w_markStringS_L1_unf xs _ _ _ _ ?_
    unfold B_w_markStringS_L1
    rw[if_neg (by simp)]
  . refine w_markStringS_L1_unf xs _ _ _ _ ?_
    unfold B_w_markStringS_L1
    rw[if_pos (by simpa using hi)]
    have hmx:xs[i]∈xs:=List.getElem_mem hi
    generalize xs[i]=x at *
    simp only[show IntKind.i64.wrap (k+1)=k+1 from wrap_k (by omega) (by omega)]
    have h:C_w_markStringS_L1 xs (k+1) (IntKind.i64.wrap ((i:Int)+1)) _ r:=h
    exact⟨_,mtx_ok (k:=k) (by omega),x,⟨by omega,hy⟩,h⟩
theorem w_markFieldS_ok (xs:(List Field)) (k:Int) (h0:0<=k) (hk:k+(sumN ct_Field xs:Nat)<=kTop):S_w_markFieldS xs k (k+(sumN ct_Field xs:Nat),mkL mk_Field ct_Field xs k):=by
  refine w_markFieldS_unf xs k _ (mark_list (C:=fun k i ys r=>C_w_markFieldS_L1 xs k i ys r) (mk:=mk_Field) (ct:=ct_Field) k h0 hk ct_Field_pos (fun k ys=>?_) fun i hi k ys h0 hk hy r h=>?_)
  . refine w_markFieldS_L1_unf xs _ _ _ _ ?_
    unfold B_w_markFieldS_L1
    rw[if_neg (by simp)]
  . refine w_markFieldS_L1_unf xs _ _ _ _ ?_
    unfold B_w_markFieldS_L1
    rw[if_pos (by simpa using hi)]
    have hmx:xs[i]∈xs:=List.getElem_mem hi
    generalize xs[i]=x at *
    have hc:ct_Field x=1+1+1+1+1+1+1+sumN (fun _=>1) x.fNeeds:=rfl
    rw[hc]at hk
    have hm:mk_Field x k=⟨(mtx k),(mtx (k+1)),((((k+1)+1)).tmod 3 == 0),(((((k+1)+1)+1)).tmod 3 == 0),((((((k+1)+1)+1)+1)).tmod 3 == 0),(((((((k+1)+1)+1)+1)+1)).tmod 3 == 0),((((((((k+1)+1)+1)+1)+1)+1)).tmod 3 == 0),(mkL (fun _ k=>mtx k) (fun _=>1) x.fNeeds (((((((k+1)+1)+1)+1)+1)+1)+1))⟩:=rfl
    simp only[show IntKind.i64.wrap (k+1)=k+1 from wrap_k (by omega) (by omega),show IntKind.i64.wrap ((k+1)+1)=(k+1)+1 from wrap_k (by omega) (by omega),show IntKind.i64.wrap (((k+1)+1)+1)=((k+1)+1)+1 from wrap_k (by omega) (by omega),show IntKind.i64.wrap ((((k+1)+1)+1)+1)=(((k+1)+1)+1)+1 from wrap_k (by omega) (by omega),show IntKind.i64.wrap (((((k+1)+1)+1)+1)+1)=((((k+1)+1)+1)+1)+1 from wrap_k (by omega) (by omega),show IntKind.i64.wrap ((((((k+1)+1)+1)+1)+1)+1)=(((((k+1)+1)+1)+1)+1)+1 from wrap_k (by omega) (by omega),show IntKind.i64.wrap (((((((k+1)+1)+1)+1)+1)+1)+1)=((((((k+1)+1)+1)+1)+1)+1)+1 from wrap_k (by omega) (by omega)]
    rw[hm,show k+((ct_Field x:Nat):Int)=((((((((k+1)+1)+1)+1)+1)+1)+1)+(sumN (fun _=>1) x.fNeeds:Nat)) from by rw[hc];omega]at h
    exact⟨_,mtx_ok (k:=k) (by omega),x,⟨by omega,hy⟩,_,mtx_ok (k:=(k+1)) (by omega),_,(w_markStringS_ok x.fNeeds (((((((k+1)+1)+1)+1)+1)+1)+1) (by omega) (by omega)),h⟩
theorem w_markTypeS_ok (xs:(List Ty)) (k:Int) (h0:0<=k) (hk:k+(sumN ct_Ty xs:Nat)<=kTop):S_w_markTypeS xs k (k+(sumN ct_Ty xs:Nat),mkL mk_Ty ct_Ty xs k):=by
  refine w_markTypeS_unf xs k _ (mark_list (C:=fun k i ys r=>C_w_markTypeS_L1 xs k i ys r) (mk:=mk_Ty) (ct:=ct_Ty) k h0 hk ct_Ty_pos (fun k ys=>?_) fun i hi k ys h0 hk hy r h=>?_)
  . refine w_markTypeS_L1_unf xs _ _ _ _ ?_
    unfold B_w_markTypeS_L1
    rw[if_neg (by simp)]
  . refine w_markTypeS_L1_unf xs _ _ _ _ ?_
    unfold B_w_markTypeS_L1
    rw[if_pos (by simpa using hi)]
    have hmx:xs[i]∈xs:=List.getElem_mem hi
    generalize xs[i]=x at *
    have hc:ct_Ty x=1+1+sumN ct_Field x.fFields:=rfl
    rw[hc]at hk
    have hm:mk_Ty x k=⟨(mtx k),(mtx (k+1)),(mkL mk_Field ct_Field x.fFields ((k+1)+1))⟩:=rfl
    simp only[show IntKind.i64.wrap (k+1)=k+1 from wrap_k (by omega) (by omega),show IntKind.i64.wrap ((k+1)+1)=(k+1)+1 from wrap_k (by omega) (by omega)]
    rw[hm,show k+((ct_Ty x:Nat):Int)=(((k+1)+1)+(sumN ct_Field x.fFields:Nat)) from by rw[hc];omega]at h
    exact⟨_,mtx_ok (k:=k) (by omega),x,⟨by omega,hy⟩,_,mtx_ok (k:=(k+1)) (by omega),_,(w_markFieldS_ok x.fFields ((k+1)+1) (by omega) (by omega)),h⟩
theorem w_markSelS_of (xs:(List Sel)) (hx:∀x∈xs,∀k:Int,0<=k->k+(ct_SelL x.fKids:Nat)<=kTop->S_w_markSelS x.fKids k (k+(ct_SelL x.fKids:Nat),mk_SelL x.fKids k)) (k:Int) (h0:0<=k) (hk:k+(sumN ct_Sel xs:Nat)<=kTop):S_w_markSelS xs k (k+(sumN ct_Sel xs:Nat),mkL mk_Sel ct_Sel xs k):=by
  refine w_markSelS_unf xs k _ (mark_list (C:=fun k i ys r=>C_w_markSelS_L1 xs k i ys r) (mk:=mk_Sel) (ct:=ct_Sel) k h0 hk ct_Sel_pos (fun k ys=>?_) fun i hi k ys h0 hk hy r h=>?_)
  . refine w_markSelS_L1_unf xs _ _ _ _ ?_
    unfold B_w_markSelS_L1
    rw[if_neg (by simp)]
  . refine w_markSelS_L1_unf xs _ _ _ _ ?_
    unfold B_w_markSelS_L1
    rw[if_pos (by simpa using hi)]
    have hmx:xs[i]∈xs:=List.getElem_mem hi
    generalize xs[i]=x at *
    have hc:ct_Sel x=1+1+1+1+ct_SelL x.fKids:=ct_Sel_eq x
    rw[hc]at hk
    have hm:mk_Sel x k=⟨(mtx k),(mtx (k+1)),((((k+1)+1)).tmod 3 == 0),(((k+1)+1)+1),(mk_SelL x.fKids ((((k+1)+1)+1)+1))⟩:=mk_Sel_eq x k
    simp only[show IntKind.i64.wrap (k+1)=k+1 from wrap_k (by omega) (by omega),show IntKind.i64.wrap ((k+1)+1)=(k+1)+1 from wrap_k (by omega) (by omega),show IntKind.i64.wrap (((k+1)+1)+1)=((k+1)+1)+1 from wrap_k (by omega) (by omega),show IntKind.i64.wrap ((((k+1)+1)+1)+1)=(((k+1)+1)+1)+1 from wrap_k (by omega) (by omega)]
    rw[hm,show k+((ct_Sel x:Nat):Int)=(((((k+1)+1)+1)+1)+(ct_SelL x.fKids:Nat)) from by rw[hc];omega]at h
    exact⟨_,mtx_ok (k:=k) (by omega),x,⟨by omega,hy⟩,_,mtx_ok (k:=(k+1)) (by omega),_,(hx x hmx ((((k+1)+1)+1)+1) (by omega) (by omega)),h⟩
theorem w_markSelS_kids:∀ (x:Sel) (k:Int),0<=k->k+(ct_SelL x.fKids:Nat)<=kTop->S_w_markSelS x.fKids k (k+(ct_SelL x.fKids:Nat),mk_SelL x.fKids k):=ind_Sel fun x ih k h0 hk=>by
  rw[ct_SelL_eq]at hk ⊢
  rw[mk_SelL_eq]
  exact w_markSelS_of x.fKids ih k h0 hk
theorem w_markSelS_ok (xs:(List Sel)) (k:Int) (h0:0<=k) (hk:k+(sumN ct_Sel xs:Nat)<=kTop):S_w_markSelS xs k (k+(sumN ct_Sel xs:Nat),mkL mk_Sel ct_Sel xs k):=w_markSelS_of xs (fun x _=>w_markSelS_kids x) k h0 hk
theorem w_heldStringS_ok (xs:(List Str)) (k:Int) (h0:0<=k) (hk:k+(sumN (fun _=>1) xs:Nat)<=kTop):S_w_heldStringS (mkL (fun _ k=>mtx k) (fun _=>1) xs k) k (k+(sumN (fun _=>1) xs:Nat)):=by
  refine w_heldStringS_unf _ k _ (held_of (C:=fun j i r=>C_w_heldStringS_L1 (mkL (fun _ k=>mtx k) (fun _=>1) xs k) j i r) (mk:=(fun _ k=>mtx k)) (ct:=(fun _=>1)) k h0 hk (fun _=>Nat.le_refl 1) (fun j=>?_) fun i hi k h0 hk hy r h=>?_)
  . refine w_heldStringS_L1_unf _ _ _ _ fun _=>?_
    rw[if_neg (by simp[mkL_length])]
  . refine w_heldStringS_L1_unf _ _ _ _ fun _=>?_
    rw[if_pos (by simpa[mkL_length]using hi)]
    have hmx:xs[i]∈xs:=List.getElem_mem hi
    generalize xs[i]=x at *
    simp only[show IntKind.i64.wrap (k+1)=k+1 from wrap_k (by omega) (by omega)]
    have h:C_w_heldStringS_L1 _ (k+1) (IntKind.i64.wrap ((i:Int)+1)) r:=h
    exact⟨mtx k,⟨by omega,hy⟩,_,mtx_ok (k:=k) (by omega),by rw[if_neg (by simp)];exact h⟩
deriving instance Inhabited for Field,Ty,Part,Sel,PartFault,AskFault
theorem sel_ind' {P:Sel->Prop}(h:∀s:Sel,(∀k∈s.fKids,P k)->P s) (s:Sel):P s:=ind_Sel h s
def bF (f:Field):Prop:=f.fNeeds.length<=1048576
def bT (t:Ty):Prop:=t.fFields.length<=1048576/\∀f∈t.fFields,bF f
def bP (p:Part):Prop:=p.fTypes.length<=1048576/\∀t∈p.fTypes,bT t
theorem bF_of {f:Field}{n:Nat}(h:mz_Field f<=n) (hn:n<=1048576):bF f:=by unfold mz_Field at h;unfold bF;omega
theorem bT_of {t:Ty}{n:Nat}(h:mz_Ty t<=n) (hn:n<=1048576):bT t:=by
  unfold mz_Ty at h
  exact⟨by omega,fun f hf=>bF_of (Nat.le_trans (le_sumN mz_Field hf) (by omega:_<=n)) hn⟩
theorem bP_of {p:Part}{n:Nat}(h:mz_Part p<=n) (hn:n<=1048576):bP p:=by
  unfold mz_Part at h
  exact⟨by omega,fun t ht=>bT_of (Nat.le_trans (le_sumN mz_Ty ht) (by omega:_<=n)) hn⟩
theorem range_br {n:Nat}(bad:Nat->Prop){C:Int->Prop}(hbad:∀i:Nat,i<n->bad i->C (i:Int))
    (hgood:∀i:Nat,i<n->¬bad i->C ((i+1:Nat):Int)->C (i:Int)) (hend:(∀i,i<n->¬bad i)->C n):C 0:=by
  have key:∀k i:Nat,i+k=n->(∀j,j<i->¬bad j)->C (i:Int):=by
    intro k
    induction k with
    | zero=>
      intro i h hj;have e:i=n:=by omega
      subst e;exact hend hj
    | succ k ih=>
      intro i h hj
      by_cases hb:bad i
      .exact hbad i (by omega) hb
      . refine hgood i (by omega) hb (ih (i+1) (by omega) fun j hji=>?_)
        by_cases e:j=i
        .subst e;exact hb
        .exact hj j (by omega)
  exact key n 0 (by omega) fun j h=>by omega
noncomputable def ask (P:Prop):Bool:=@decide P (Classical.propDecidable _)
theorem ask_iff {P:Prop}:ask P=true↔P:=by unfold ask;exact @decide_eq_true_iff P (Classical.propDecidable _)
theorem ask_no {P:Prop}:ask P=false↔¬P:=by unfold ask;exact @decide_eq_false_iff_not P (Classical.propDecidable _)
theorem ask_yes {P:Prop}(h:P):ask P=true:=ask_iff.2 h
theorem ask_not {P:Prop}(h:¬P):ask P=false:=ask_no.2 h
theorem i_in_ok (a b c:Int):S_i_in a b c (decide (a>=b)&&decide (a<=c)):=i_in_unf a b c _ rfl
theorem s_l1In_ok (a b c:Int):S_s_l1In a b c (decide (a>=b)&&decide (a<=c)):=s_l1In_unf a b c _ rfl
def okB (i:Nat) (b:UInt8):Prop:=(97<=b.toNat/\b.toNat<=122)\/b.toNat=95\/(0<i/\48<=b.toNat/\b.toNat<=57)
def PWord (s:Str):Prop:=(1<=s.size/\s.size<=9)/\∀i,(hi:i<s.data.toList.length)->okB i s.data.toList[i]
noncomputable def nWord (s:Str):Bool:=ask (PWord s)
theorem size_len (s:Str):s.data.toList.length=s.size:=by cases s;rfl
theorem wrap_u8 (b:UInt8):IntKind.i64.wrap (b.toNat:Int)=b.toNat:=by
  have:=b.toNat_lt
  exact wrap_in (by omega) (by omega)
theorem i_isWord_ok (s:Str):S_i_isWord s (nWord s):=by
  refine i_isWord_unf s _ fun hs hl=>?_
  refine range_br (n:=s.data.toList.length) (fun i=>∃hi:i<s.data.toList.length,¬okB i s.data.toList[i]) (C:=fun i=>C_i_isWord_L1 s i (nWord s)) ?_ ?_ ?_
  . rintro i hi ⟨_,hb⟩
    refine i_isWord_L1_unf s _ _ ?_
    unfold B_i_isWord_L1
    simp only[Int.ofNat_lt,hi,decide_true,if_true]
    refine⟨s.data.toList[i],⟨by omega,get_some hi⟩,_,i_in_ok _ _ _,_,fun _ _=>i_in_ok _ _ _,?_⟩
    rw[if_pos (by unfold okB at hb;rw[wrap_u8];simp[-Array.getElem_toList];omega)]
    exact ask_not fun h=>hb (h.2 i hi)
  . intro i hi hb h
    have hb:okB i s.data.toList[i]:=Classical.byContradiction fun h=>hb ⟨hi,h⟩
    refine i_isWord_L1_unf s _ _ ?_
    unfold B_i_isWord_L1
    simp only[Int.ofNat_lt,hi,decide_true,if_true]
    refine⟨s.data.toList[i],⟨by omega,get_some hi⟩,_,i_in_ok _ _ _,_,fun _ _=>i_in_ok _ _ _,?_⟩
    rw[if_neg (by unfold okB at hb;rw[wrap_u8];simp[-Array.getElem_toList];omega),wrap_succ hi hl]
    exact h
  . intro hb
    refine i_isWord_L1_unf s _ _ ?_
    unfold B_i_isWord_L1
    simp only[Int.lt_irrefl,decide_false,Bool.false_eq_true,if_false]
    intro hb2
    refine⟨_,i_in_ok _ _ _,?_⟩
    have hall:∀i,(hi:i<s.data.toList.length)->okB i s.data.toList[i]:=fun i hi=>Classical.byContradiction fun h=>hb i hi ⟨hi,h⟩
    by_cases h:1<=s.size/\s.size<=9
    .rw[show nWord s=true from ask_yes ⟨h,hall⟩];symm;simp;omega
    .rw[show nWord s=false from ask_not fun k=>h k.1];symm;simp;omega
theorem arr_get {s:Str}{i:Nat}(hi:i<s.data.toList.length):s.data[((i:Nat):Int).toNat]?=some s.data.toList[i]:=by
  have:i<s.data.size:=by simpa using hi
  simp[this]
theorem s_l1Name_ok (s:Str):S_s_l1Name s (nWord s):=by
  refine s_l1Name_unf s _ fun hs=>⟨_,s_l1In_ok _ _ _,?_⟩
  by_cases hsz:1<=s.size/\s.size<=9
  . rw[if_neg (by simp;omega)]
    have el:=size_len s
    have hl:s.data.toList.length<=bigLen:=by unfold bigLen;omega
    refine range_br (n:=s.data.toList.length) (fun i=>∃hi:i<s.data.toList.length,¬okB i s.data.toList[i]) (C:=fun i=>C_s_l1Name_L1 s i (nWord s)) ?_ ?_ ?_
    . rintro i hi ⟨_,hb⟩
      refine s_l1Name_L1_unf s _ _ fun _=>?_
      rw[<-el]
      simp only[Int.ofNat_lt,hi,decide_true,if_true]
      refine⟨_,⟨by omega,arr_get hi⟩,_,fun _=>⟨by omega,arr_get hi⟩,_,fun _=>⟨by omega,arr_get hi⟩,_,fun _ _=>⟨by omega,arr_get hi⟩,_,fun _ _=>⟨by omega,arr_get hi⟩,?_⟩
      rw[if_pos (by unfold okB at hb;simp[-Array.getElem_toList];omega)]
      exact ask_not fun h=>hb (h.2 i hi)
    . intro i hi hb h
      have hb:okB i s.data.toList[i]:=Classical.byContradiction fun h=>hb ⟨hi,h⟩
      refine s_l1Name_L1_unf s _ _ fun _=>?_
      rw[<-el]
      simp only[Int.ofNat_lt,hi,decide_true,if_true]
      refine⟨_,⟨by omega,arr_get hi⟩,_,fun _=>⟨by omega,arr_get hi⟩,_,fun _=>⟨by omega,arr_get hi⟩,_,fun _ _=>⟨by omega,arr_get hi⟩,_,fun _ _=>⟨by omega,arr_get hi⟩,?_⟩
      rw[if_neg (by unfold okB at hb;simp[-Array.getElem_toList];omega),wrap_succ hi hl]
      exact h
    . intro hb
      refine s_l1Name_L1_unf s _ _ fun _=>?_
      rw[<-el]
      simp only[Int.lt_irrefl,decide_false,Bool.false_eq_true,if_false]
      exact ask_yes ⟨hsz,fun i hi=>Classical.byContradiction fun h=>hb i hi ⟨hi,h⟩⟩
  . rw[if_pos (by simp;omega)]
    exact ask_not fun k=>hsz k.1
def nIdx {α:Type}(xs:List α) (p:α->Bool):Int:=match xs.findIdx? p with | some i=>i | none => -1
theorem nIdx_cases {α:Type}(xs:List α) (p:α->Bool):
    (∃i,∃hi:i<xs.length,nIdx xs p=i/\p xs[i]=true/\(∀j,(hj:j<i)->p xs[j]=false)/\xs.find? p=some xs[i]/\xs.any p=true)
    \/ (nIdx xs p = -1/\(∀x∈xs,p x=false)/\xs.find? p=none/\xs.any p=false):=by
  cases h:xs.findIdx? p with
  | none=>
    rw[List.findIdx?_eq_none_iff]at h
    refine .inr ⟨by unfold nIdx;rw[List.findIdx?_eq_none_iff.2 h],h,?_,?_⟩
    .rw[List.find?_eq_none];intro x hx;rw[h x hx];simp
    .rw[List.any_eq_false];intro x hx;rw[h x hx];simp
  | some i=>
    have h':=h
    rw[List.findIdx?_eq_some_iff_getElem]at h
    obtain⟨hi,hp,hj⟩:=h
    refine .inl ⟨i,hi,by unfold nIdx;rw[h'],hp,fun j hji=>?_,?_,?_⟩
    .have:=hj j hji;revert this;cases p xs[j]<;>simp
    . rw[List.find?_eq_some_iff_getElem]
      exact⟨hp,i,hi,rfl,fun j hji=>by have:=hj j hji;revert this;cases p xs[j]<;>simp⟩
    .rw[List.any_eq_true];exact⟨_,List.getElem_mem hi,hp⟩
theorem find_loop {α:Type}{xs:List α}{p:α->Bool}{C:Int->Prop}(hbad:∀i:Nat,(hi:i<xs.length)->p xs[i]=true->nIdx xs p=i->C (i:Int))
    (hgood:∀i:Nat,(hi:i<xs.length)->p xs[i]=false->C ((i+1:Nat):Int)->C (i:Int)) (hend:nIdx xs p = -1->C xs.length):C 0:=by
  rcases nIdx_cases xs p with⟨i,hi,e,hp,hj,_⟩ | ⟨e,hall,_⟩
  . have key:∀k j:Nat,j+k=i->C (j:Int):=by
      intro k
      induction k with
      | zero=>
        intro j h;have e2:j=i:=by omega
        subst e2;exact hbad j hi hp e
      | succ k ih=>intro j h;exact hgood j (by omega) (hj j (by omega)) (ih (j+1) (by omega))
    exact key i 0 (by omega)
  .exact range_ind (n:=xs.length) (hend e) fun i hi h=>hgood i hi (hall _ (List.getElem_mem hi)) h
theorem slices_IndexFunc_Type_ok (xs:List Ty) (c:PV) (p:Ty->Bool) (h:∀x∈xs,AB gE c [A x] (B (p x),[])):S_slices_IndexFunc_Type xs c (nIdx xs p):=by
  refine slices_IndexFunc_Type_unf xs c _ fun hl=>?_
  refine find_loop (xs:=xs) (p:=p) (C:=fun i=>C_slices_IndexFunc_Type_L1 xs c i (nIdx xs p)) ?_ ?_ ?_
  . intro i hi hp e
    refine slices_IndexFunc_Type_L1_unf xs c _ _ ?_
    unfold B_slices_IndexFunc_Type_L1
    simp only[Int.ofNat_lt,hi,decide_true,if_true]
    exact⟨xs[i],⟨by omega,get_some hi⟩,_,h _ (List.getElem_mem hi),by simp[hp,e]⟩
  . intro i hi hp k
    refine slices_IndexFunc_Type_L1_unf xs c _ _ ?_
    unfold B_slices_IndexFunc_Type_L1
    simp only[Int.ofNat_lt,hi,decide_true,if_true]
    exact⟨xs[i],⟨by omega,get_some hi⟩,_,h _ (List.getElem_mem hi),by rw[hp,wrap_succ hi hl];simpa using k⟩
  . intro e
    refine slices_IndexFunc_Type_L1_unf xs c _ _ ?_
    unfold B_slices_IndexFunc_Type_L1
    simp[e]
theorem slices_IndexFunc_Field_ok (xs:List Field) (c:PV) (p:Field->Bool) (h:∀x∈xs,AB gE c [A x] (B (p x),[])):S_slices_IndexFunc_Field xs c (nIdx xs p):=by
  refine slices_IndexFunc_Field_unf xs c _ fun hl=>?_
  refine find_loop (xs:=xs) (p:=p) (C:=fun i=>C_slices_IndexFunc_Field_L1 xs c i (nIdx xs p)) ?_ ?_ ?_
  . intro i hi hp e
    refine slices_IndexFunc_Field_L1_unf xs c _ _ ?_
    unfold B_slices_IndexFunc_Field_L1
    simp only[Int.ofNat_lt,hi,decide_true,if_true]
    exact⟨xs[i],⟨by omega,get_some hi⟩,_,h _ (List.getElem_mem hi),by simp[hp,e]⟩
  . intro i hi hp k
    refine slices_IndexFunc_Field_L1_unf xs c _ _ ?_
    unfold B_slices_IndexFunc_Field_L1
    simp only[Int.ofNat_lt,hi,decide_true,if_true]
    exact⟨xs[i],⟨by omega,get_some hi⟩,_,h _ (List.getElem_mem hi),by rw[hp,wrap_succ hi hl];simpa using k⟩
  . intro e
    refine slices_IndexFunc_Field_L1_unf xs c _ _ ?_
    unfold B_slices_IndexFunc_Field_L1
    simp[e]
theorem slices_IndexFunc_Sel_ok (xs:List Sel) (c:PV) (p:Sel->Bool) (h:∀x∈xs,AB gE c [A x] (B (p x),[])):S_slices_IndexFunc_Sel xs c (nIdx xs p):=by
  refine slices_IndexFunc_Sel_unf xs c _ fun hl=>?_
  refine find_loop (xs:=xs) (p:=p) (C:=fun i=>C_slices_IndexFunc_Sel_L1 xs c i (nIdx xs p)) ?_ ?_ ?_
  . intro i hi hp e
    refine slices_IndexFunc_Sel_L1_unf xs c _ _ ?_
    unfold B_slices_IndexFunc_Sel_L1
    simp only[Int.ofNat_lt,hi,decide_true,if_true]
    exact⟨xs[i],⟨by omega,get_some hi⟩,_,h _ (List.getElem_mem hi),by simp[hp,e]⟩
  . intro i hi hp k
    refine slices_IndexFunc_Sel_L1_unf xs c _ _ ?_
    unfold B_slices_IndexFunc_Sel_L1
    simp only[Int.ofNat_lt,hi,decide_true,if_true]
    exact⟨xs[i],⟨by omega,get_some hi⟩,_,h _ (List.getElem_mem hi),by rw[hp,wrap_succ hi hl];simpa using k⟩
  . intro e
    refine slices_IndexFunc_Sel_L1_unf xs c _ _ ?_
    unfold B_slices_IndexFunc_Sel_L1
    simp[e]
theorem slices_IndexFunc_string_ok (xs:List Str) (c:PV) (p:Str->Bool) (h:∀x∈xs,AB gE c [S x] (B (p x),[])):S_slices_IndexFunc_string xs c (nIdx xs p):=by
  refine slices_IndexFunc_string_unf xs c _ fun hl=>?_
  refine find_loop (xs:=xs) (p:=p) (C:=fun i=>C_slices_IndexFunc_string_L1 xs c i (nIdx xs p)) ?_ ?_ ?_
  . intro i hi hp e
    refine slices_IndexFunc_string_L1_unf xs c _ _ ?_
    unfold B_slices_IndexFunc_string_L1
    simp only[Int.ofNat_lt,hi,decide_true,if_true]
    exact⟨xs[i],⟨by omega,get_some hi⟩,_,h _ (List.getElem_mem hi),by simp[hp,e]⟩
  . intro i hi hp k
    refine slices_IndexFunc_string_L1_unf xs c _ _ ?_
    unfold B_slices_IndexFunc_string_L1
    simp only[Int.ofNat_lt,hi,decide_true,if_true]
    exact⟨xs[i],⟨by omega,get_some hi⟩,_,h _ (List.getElem_mem hi),by rw[hp,wrap_succ hi hl];simpa using k⟩
  . intro e
    refine slices_IndexFunc_string_L1_unf xs c _ _ ?_
    unfold B_slices_IndexFunc_string_L1
    simp[e]
theorem slices_Index_string_ok (xs:List Str) (s:Str):S_slices_Index_string xs s (nIdx xs (fun x=>sEq s x)):=by
  refine slices_Index_string_unf xs s _ fun hl=>?_
  refine find_loop (xs:=xs) (p:=fun x=>sEq s x) (C:=fun i=>C_slices_Index_string_L1 xs s i (nIdx xs (fun x=>sEq s x))) ?_ ?_ ?_
  . intro i hi hp e
    refine slices_Index_string_L1_unf xs s _ _ ?_
    unfold B_slices_Index_string_L1
    simp only[Int.ofNat_lt,hi,decide_true,if_true]
    exact⟨xs[i],⟨by omega,get_some hi⟩,by simp[hp,e]⟩
  . intro i hi hp k
    refine slices_Index_string_L1_unf xs s _ _ ?_
    unfold B_slices_Index_string_L1
    simp only[Int.ofNat_lt,hi,decide_true,if_true]
    exact⟨xs[i],⟨by omega,get_some hi⟩,by rw[hp,wrap_succ hi hl];simpa using k⟩
  . intro e
    refine slices_Index_string_L1_unf xs s _ _ ?_
    unfold B_slices_Index_string_L1
    simp[e]
theorem nIdx_any {α:Type}(xs:List α) (p:α->Bool):decide (nIdx xs p>=0)=xs.any p:=by
  rcases nIdx_cases xs p with⟨i,hi,e,_,_,_,h⟩ | ⟨e,_,_,h⟩
  .rw[h,e];simp
  .rw[h,e];simp
theorem slices_Contains_string_ok (xs:List Str) (s:Str):S_slices_Contains_string xs s (xs.any fun x=>sEq s x):=
  slices_Contains_string_unf xs s _ ⟨_,slices_Index_string_ok xs s,(nIdx_any _ _).symm⟩
theorem slices_ContainsFunc_Field_ok (xs:List Field) (c:PV) (p:Field->Bool) (h:∀x∈xs,AB gE c [A x] (B (p x),[])):S_slices_ContainsFunc_Field xs c (xs.any p):=
  slices_ContainsFunc_Field_unf xs c _ ⟨_,slices_IndexFunc_Field_ok xs c p h,(nIdx_any _ _).symm⟩
theorem slices_ContainsFunc_Sel_ok (xs:List Sel) (c:PV) (p:Sel->Bool) (h:∀x∈xs,AB gE c [A x] (B (p x),[])):S_slices_ContainsFunc_Sel xs c (xs.any p):=
  slices_ContainsFunc_Sel_unf xs c _ ⟨_,slices_IndexFunc_Sel_ok xs c p h,(nIdx_any _ _).symm⟩
theorem slices_ContainsFunc_string_ok (xs:List Str) (c:PV) (p:Str->Bool) (h:∀x∈xs,AB gE c [S x] (B (p x),[])):S_slices_ContainsFunc_string xs c (xs.any p):=
  slices_ContainsFunc_string_unf xs c _ ⟨_,slices_IndexFunc_string_ok xs c p h,(nIdx_any _ _).symm⟩
def wInt:Str:=⟨#[105,110,116]⟩
def wText:Str:=⟨#[116,101,120,116]⟩
def wBool:Str:=⟨#[98,111,111,108]⟩
def nScalar (s:Str):Bool:=(sEq s wInt || sEq s wText) || sEq s wBool
theorem s_l2Scalar_ok (s:Str):S_s_l2Scalar s (nScalar s):=s_l2Scalar_unf s _ rfl
theorem i_Field_ofWord_ok (f:Field):S_i_Field_ofWord f (nScalar f.fOf):=i_Field_ofWord_unf f _ rfl
noncomputable def nName (s:Str):Bool:=((nWord s&&decide ((s.size:Int)<=8))&&(match s.data.toList with | b::_=>(b.toNat:Int) != 95 | []=>false)) &&
  !([(⟨#[105,110,116]⟩:Str),(⟨#[116,101,120,116]⟩:Str),(⟨#[98,111,111,108]⟩:Str),(⟨#[112,97,114,116]⟩:Str),(⟨#[116,121,112,101]⟩:Str),(⟨#[107,101,121]⟩:Str),(⟨#[102,97,114]⟩:Str),(⟨#[104,105,100,100,101,110]⟩:Str),(⟨#[115,104,97,114,101,100]⟩:Str),(⟨#[110,101,101,100,115]⟩:Str)].any fun x=>sEq s x)
theorem word_pos {s:Str}(h:nWord s=true):1<=s.size/\s.size<=9:=(ask_iff.1 h).1
theorem first_b {s:Str}(h:nWord s=true):∃b,s.data[(0:Int).toNat]?=some b/\∃r,s.data.toList=b::r:=by
  have h1:=word_pos h
  have h2:=size_len s
  cases e:s.data.toList with
  | nil=>rw[e]at h2;simp at h2;omega
  | cons b r=>exact⟨b,by have:=arr_get (s:=s) (i:=0) (by rw[e];simp);simp only[e]at this;simpa using this,r,rfl⟩
theorem i_isName_ok (s:Str):S_i_isName s (nName s):=by
  refine i_isName_unf s _ ⟨_,i_isWord_ok s,?_⟩
  by_cases hw:nWord s=true
  . obtain⟨b,hb,r,hr⟩:=first_b hw
    refine⟨b,fun _=>⟨by omega,hb⟩,_,fun _=>slices_Contains_string_ok _ _,?_⟩
    unfold nName;rw[hr]
  . refine⟨0,fun h=>?_,true,fun h=>?_,?_⟩
    .simp[hw]at h
    .simp[hw]at h
    .simp[nName,hw]
theorem s_l2Name_ok (s:Str):S_s_l2Name s (nName s):=by
  refine s_l2Name_unf s _ ⟨_,s_l1Name_ok s,?_⟩
  by_cases hw:nWord s=true
  . obtain⟨b,hb,r,hr⟩:=first_b hw
    refine⟨b,fun _=>⟨by omega,hb⟩,_,fun _=>s_l2Scalar_ok _,?_⟩
    unfold nName nScalar wInt wText wBool;rw[hr]
    simp only[List.any_cons,List.any_nil,Bool.or_false,Bool.not_or,Bool.and_assoc]
  . refine⟨0,fun h=>?_,true,fun h=>?_,?_⟩
    .simp[hw]at h
    .simp[hw]at h
    .simp[nName,hw]
theorem name_size {s:Str}(h:nName s=true):1<=s.size/\s.size<=8:=by
  unfold nName at h
  simp only[bat,decide_eq_true_eq]at h
  have:=word_pos h.1.1.1
  omega
theorem bytesLess_tot:∀x y:List UInt8,(!(Op.bytesLess x y))=(Op.bytesLess y x || y == x)
  | [],[]=>by simp[Op.bytesLess]
  | [],_::_=>by simp[Op.bytesLess]
  | _::_,[]=>by simp[Op.bytesLess]
  | a::x,b::y=>by
    have ih:=bytesLess_tot x y
    simp only[Op.bytesLess]
    by_cases h:a=b
    . subst h
      have hlt:¬(a<a):=by rw[UInt8.lt_iff_toNat_lt];omega
      simp only[hlt,decide_false,beq_self_eq_true,Bool.true_and,Bool.false_or,ih,List.cons_beq_cons]
    . have h2:¬b=a:=fun e=>h e.symm
      have h3:(a<b)↔¬(b<a):=by
        have:a.toNat≠b.toNat:=fun e=>h (UInt8.toNat_inj.1 e)
        rw[UInt8.lt_iff_toNat_lt,UInt8.lt_iff_toNat_lt];omega
      have e1:(a == b)=false:=by simpa using h
      have e2:(b == a)=false:=by simpa using h2
      simp only[e1,e2,Bool.false_and,Bool.or_false,List.cons_beq_cons]
      by_cases hb:b<a<;>simp[h3,hb]
theorem sLt_tot (a b:Str):(!(sLt a b))=(sLt b a || sEq b a):=bytesLess_tot _ _
theorem sEq_comm (a b:Str):sEq a b=sEq b a:=by rw[sEq_iff,sEq_iff];by_cases h:a=b<;>simp[h,eq_comm]
def zT:Ty:=Ty.mk sE sE []
def zF:Field:=Field.mk sE sE false false false false false []
def tIx (p:Part) (n:Str):Int:=nIdx p.fTypes fun t=>sEq t.fName n
def fIx (t:Ty) (n:Str):Int:=nIdx t.fFields fun f=>sEq f.fName n
def tFind (p:Part) (n:Str):Ty×Bool:=match p.fTypes.find? fun t=>sEq t.fName n with | some t=>(t,true) | none=>(zT,false)
def fFind (t:Ty) (n:Str):Field×Bool:=match t.fFields.find? fun f=>sEq f.fName n with | some f=>(f,true) | none=>(zF,false)
def pField (p:Part) (o n:Str):Field×Bool:=fFind (tFind p o).1 n
theorem s_l2Type_ok (p:Part) (n:Str):S_s_l2Type p n (tIx p n):=by
  refine s_l2Type_unf p n _ ?_
  refine find_loop (xs:=p.fTypes) (p:=fun t=>sEq t.fName n) (C:=fun i=>C_s_l2Type_L1 n i p (tIx p n)) ?_ ?_ ?_
  . intro i hi hp e
    refine s_l2Type_L1_unf n _ p _ fun _=>?_
    simp only[Int.ofNat_lt,hi,decide_true,if_true]
    exact⟨_,⟨by omega,get_some hi⟩,by rw[if_pos hp];exact e⟩
  . intro i hi hp k
    refine s_l2Type_L1_unf n _ p _ fun hl=>?_
    simp only[Int.ofNat_lt,hi,decide_true,if_true]
    exact⟨_,⟨by omega,get_some hi⟩,by rw[if_neg (by rw[hp];simp),wrap_succ hi hl];exact k⟩
  . intro e
    refine s_l2Type_L1_unf n _ p _ fun _=>?_
    simp only[Int.lt_irrefl,decide_false,Bool.false_eq_true,if_false]
    exact e
theorem s_l2Field_ok (t:Ty) (n:Str):S_s_l2Field t n (fIx t n):=by
  refine s_l2Field_unf t n _ ?_
  refine find_loop (xs:=t.fFields) (p:=fun f=>sEq f.fName n) (C:=fun i=>C_s_l2Field_L1 n i t (fIx t n)) ?_ ?_ ?_
  . intro i hi hp e
    refine s_l2Field_L1_unf n _ t _ fun _=>?_
    simp only[Int.ofNat_lt,hi,decide_true,if_true]
    exact⟨_,⟨by omega,get_some hi⟩,by rw[if_pos hp];exact e⟩
  . intro i hi hp k
    refine s_l2Field_L1_unf n _ t _ fun hl=>?_
    simp only[Int.ofNat_lt,hi,decide_true,if_true]
    exact⟨_,⟨by omega,get_some hi⟩,by rw[if_neg (by rw[hp];simp),wrap_succ hi hl];exact k⟩
  . intro e
    refine s_l2Field_L1_unf n _ t _ fun _=>?_
    simp only[Int.lt_irrefl,decide_false,Bool.false_eq_true,if_false]
    exact e
theorem i_Part_find_ok (p:Part) (n:Str):S_i_Part_find p n (tFind p n):=by
  refine i_Part_find_unf p n _ ⟨_,slices_IndexFunc_Type_ok p.fTypes _ (fun t=>sEq t.fName n) (fun x _=>AB.clo (i_Part_find_1_unf x n _ rfl)),?_⟩
  rcases nIdx_cases p.fTypes (fun t=>sEq t.fName n) with⟨i,hi,e,hp,_,hf,_⟩ | ⟨e,_,hf,_⟩
  . rw[e,if_neg (by simp)]
    exact⟨_,⟨by omega,get_some hi⟩,by unfold tFind;rw[hf]⟩
  . rw[e,if_pos (by simp)]
    unfold tFind;rw[hf];rfl
theorem i_Type_find_ok (t:Ty) (n:Str):S_i_Type_find t n (fFind t n):=by
  refine i_Type_find_unf t n _ ⟨_,slices_IndexFunc_Field_ok t.fFields _ (fun f=>sEq f.fName n) (fun x _=>AB.clo (i_Type_find_1_unf x n _ rfl)),?_⟩
  rcases nIdx_cases t.fFields (fun f=>sEq f.fName n) with⟨i,hi,e,hp,_,hf,_⟩ | ⟨e,_,hf,_⟩
  . rw[e,if_neg (by simp)]
    exact⟨_,⟨by omega,get_some hi⟩,by unfold fFind;rw[hf]⟩
  . rw[e,if_pos (by simp)]
    unfold fFind;rw[hf];rfl
theorem i_Part_field_ok (p:Part) (o n:Str):S_i_Part_field p o n (pField p o n):=
  i_Part_field_unf p o n _ ⟨_,i_Part_find_ok p o,_,i_Type_find_ok _ n,rfl⟩
theorem fIx_cases (t:Ty) (n:Str):(∃i,∃hi:i<t.fFields.length,fIx t n=i/\fFind t n=(t.fFields[i],true))\/(fIx t n = -1/\fFind t n=(zF,false)):=by
  rcases nIdx_cases t.fFields (fun f=>sEq f.fName n) with⟨i,hi,e,hp,_,hf,_⟩ | ⟨e,_,hf,_⟩
  .exact .inl ⟨i,hi,e,by unfold fFind;rw[hf]⟩
  .exact .inr ⟨e,by unfold fFind;rw[hf]⟩
theorem tIx_cases (p:Part) (n:Str):(∃i,∃hi:i<p.fTypes.length,tIx p n=i/\tFind p n=(p.fTypes[i],true))\/(tIx p n = -1/\tFind p n=(zT,false)):=by
  rcases nIdx_cases p.fTypes (fun f=>sEq f.fName n) with⟨i,hi,e,hp,_,hf,_⟩ | ⟨e,_,hf,_⟩
  .exact .inl ⟨i,hi,e,by unfold tFind;rw[hf]⟩
  .exact .inr ⟨e,by unfold tFind;rw[hf]⟩
theorem s_l2Get_ok (p:Part) (o n:Str):S_s_l2Get p o n (pField p o n):=by
  refine s_l2Get_unf p o n _ ⟨_,s_l2Type_ok p o,?_⟩
  unfold pField
  rcases tIx_cases p o with⟨i,hi,e,hf⟩ | ⟨e,hf⟩
  . rw[e,hf,if_neg (by simp)]
    refine⟨_,⟨by omega,get_some hi⟩,_,s_l2Field_ok _ n,?_⟩
    rcases fIx_cases p.fTypes[i] n with⟨j,hj,e2,hf2⟩ | ⟨e2,hf2⟩
    . rw[e2,hf2,if_neg (by simp)]
      exact⟨_,⟨by omega,get_some hi⟩,_,⟨by omega,get_some hj⟩,rfl⟩
    .rw[e2,hf2,if_pos (by simp)];rfl
  .rw[e,hf,if_pos (by simp)];rfl
noncomputable def b1F (f:Field):Bool:=((!(nName f.fName)) || ((!(nName f.fOf))&&(!(nScalar f.fOf)))) || f.fNeeds.any fun s => !(nName s)
noncomputable def b1T (t:Ty):Bool:=(((!(nName t.fName)) || ((!(sEq t.fKey sE))&&(!(nName t.fKey)))) || (!((decide ((t.fFields.length:Int)>=1))&&(decide ((t.fFields.length:Int)<=8))))) || t.fFields.any b1F
theorem i_Type_badLine_ok (t:Ty):S_i_Type_badLine t (b1T t):=by
  refine i_Type_badLine_unf t _ ⟨_,i_isName_ok _,_,fun _ _=>i_isName_ok _,_,fun _=>i_in_ok _ _ _,_,fun _=>slices_ContainsFunc_Field_ok t.fFields _ b1F fun x _=>?_,rfl⟩
  refine AB.clo (i_Type_badLine_2_unf x _ _ ⟨_,i_isName_ok _,_,fun _=>i_isName_ok _,_,fun _ _=>i_Field_ofWord_ok _,_,fun _=>slices_ContainsFunc_string_ok x.fNeeds _ (fun s => !(nName s)) fun s _=>?_,rfl⟩)
  exact AB.clo (i_Type_badLine_1_unf s _ ⟨_,i_isName_ok s,rfl⟩)
def twiceS (xs:List Str):Prop:=∃i,∃hi:i<xs.length,(xs.take i).any (fun x=>sEq xs[i] x)=true
theorem i_twice_ok (xs:List Str):S_i_twice xs (ask (twiceS xs)):=by
  refine i_twice_unf xs _ fun hl=>?_
  refine range_br (n:=xs.length) (fun i=>∃hi:i<xs.length,(xs.take i).any (fun x=>sEq xs[i] x)=true) (C:=fun i=>C_i_twice_L1 xs i (ask (twiceS xs))) ?_ ?_ ?_
  . rintro i hi ⟨_,hb⟩
    refine i_twice_L1_unf xs _ _ ?_
    unfold B_i_twice_L1
    simp only[Int.ofNat_lt,hi,decide_true,if_true]
    refine⟨_,⟨by omega,get_some hi⟩,⟨by simp,by simp,by simp;omega⟩,_,slices_Contains_string_ok _ _,?_⟩
    rw[if_pos (by simpa using hb)]
    exact ask_yes ⟨i,hi,hb⟩
  . intro i hi hb h
    refine i_twice_L1_unf xs _ _ ?_
    unfold B_i_twice_L1
    simp only[Int.ofNat_lt,hi,decide_true,if_true]
    refine⟨_,⟨by omega,get_some hi⟩,⟨by simp,by simp,by simp;omega⟩,_,slices_Contains_string_ok _ _,?_⟩
    rw[if_neg (fun h=>hb ⟨hi,by simpa using h⟩),wrap_succ hi hl]
    exact h
  . intro hb
    refine i_twice_L1_unf xs _ _ ?_
    unfold B_i_twice_L1
    simp only[Int.lt_irrefl,decide_false,Bool.false_eq_true,if_false]
    exact ask_not fun⟨i,hi,h⟩=>hb i hi ⟨hi,h⟩
theorem nIdx_own {α:Type}{xs:List α}{g:α->Str}{i:Nat}(hi:i<xs.length):nIdx xs (fun x=>sEq (g x) (g xs[i]))≠i↔(xs.take i).any (fun x=>sEq (g x) (g xs[i]))=true:=by
  rcases nIdx_cases xs (fun x=>sEq (g x) (g xs[i])) with⟨k,hk,e,hp,hj,_⟩ | ⟨e,hall,_⟩
  . rw[e]
    constructor
    . intro hne
      have hki:k<i:=by
        rcases Nat.lt_or_ge i k with h | h
        .have:=hj i h;simp at this
        .omega
      rw[List.any_eq_true]
      refine⟨xs[k],?_,hp⟩
      rw[List.mem_take_iff_getElem]
      exact⟨k,by omega,rfl⟩
    . intro h he
      have he:k=i:=by omega
      subst he
      rw[List.any_eq_true]at h
      obtain⟨x,hx,h⟩:=h
      rw[List.mem_take_iff_getElem]at hx
      obtain⟨j,hjlt,ex⟩:=hx
      rw[<-ex]at h
      have:=hj j (by omega)
      rw[this]at h;cases h
  . have:=hall xs[i] (List.getElem_mem hi)
    simp at this
theorem i_Type_names_ok (t:Ty):S_i_Type_names t (t.fFields.map (·.fName)):=by
  refine i_Type_names_unf t _ fun hl=>?_
  refine range_inv (n:=t.fFields.length) (a0:=[]) (C:=fun a i=>C_i_Type_names_L1 a t i (t.fFields.map (·.fName))) (fun i a=>a=(t.fFields.take i).map (·.fName)) (by simp) ?_ ?_
  . rintro a rfl
    refine i_Type_names_L1_unf _ t _ _ ?_
    unfold B_i_Type_names_L1
    simp
  . rintro i a hi rfl
    refine .inr ⟨(t.fFields.take i).map (·.fName)++[t.fFields[i].fName],?_,fun h=>?_⟩
    .rw[List.take_add_one,List.getElem?_eq_getElem hi,List.map_append];rfl
    . refine i_Type_names_L1_unf _ t _ _ ?_
      unfold B_i_Type_names_L1
      simp only[Int.ofNat_lt,hi,decide_true,if_true]
      refine⟨_,⟨by omega,get_some hi⟩,by simp;omega,?_⟩
      rw[wrap_succ hi hl];exact h
def wQuery:Str:=⟨#[113,117,101,114,121]⟩
def plain (f:Field):Bool:=((sEq f.fOf wInt)&&(!f.fList))&&(!(decide ((f.fNeeds.length:Int)>0)))
theorem i_Field_needy_ok (f:Field):S_i_Field_needy f (decide ((f.fNeeds.length:Int)>0)):=i_Field_needy_unf f _ fun _=>rfl
theorem i_Field_plainInt_ok (f:Field):S_i_Field_plainInt f (plain f):=i_Field_plainInt_unf f _ ⟨_,fun _=>i_Field_needy_ok f,rfl⟩
def b4 (t:Ty):Bool:=if sEq t.fKey sE=true then false else (((((!(fFind t t.fKey).2) || (!(plain (fFind t t.fKey).1))) || (!(fFind t t.fKey).1.fMust)) || (fFind t t.fKey).1.fFar) || (fFind t t.fKey).1.fHidden)
theorem i_Type_badKey_ok (t:Ty):S_i_Type_badKey t (b4 t):=by
  refine i_Type_badKey_unf t _ ?_
  unfold B_i_Type_badKey b4
  by_cases h:sEq t.fKey sE=true
  .rw[if_pos h,if_pos h]
  . rw[if_neg h,if_neg h]
    exact⟨_,i_Type_find_ok t t.fKey,_,fun _=>i_Field_plainInt_ok _,rfl⟩
theorem s_l2Key_ok (t:Ty):S_s_l2Key t (!(b4 t)):=by
  refine s_l2Key_unf t _ ?_
  unfold B_s_l2Key b4
  by_cases h:sEq t.fKey sE=true
  .rw[if_pos h,if_pos h];rfl
  . rw[if_neg h,if_neg h]
    refine⟨_,s_l2Field_ok t t.fKey,?_⟩
    rcases fIx_cases t t.fKey with⟨j,hj,e2,hf2⟩ | ⟨e2,hf2⟩
    . rw[e2,hf2,if_neg (by simp)]
      refine⟨_,⟨by omega,get_some hj⟩,?_⟩
      unfold plain wInt
      have e0:((t.fFields[j].fNeeds.length:Int) == 0) = !(decide ((t.fFields[j].fNeeds.length:Int)>0)):=by
        rcases Nat.eq_zero_or_pos t.fFields[j].fNeeds.length with h | h
        .rw[h];rfl
        . have:(t.fFields[j].fNeeds.length:Int)≠0:=by omega
          rw[beq_eq_false_iff_ne.2 this,decide_eq_true (by omega:(t.fFields[j].fNeeds.length:Int)>0)];rfl
      rw[e0]
      cases sEq t.fFields[j].fOf (⟨#[105,110,116]⟩:Str)<;>cases t.fFields[j].fList<;>cases t.fFields[j].fMust<;>cases t.fFields[j].fFar<;>cases t.fFields[j].fHidden<;>cases decide ((t.fFields[j].fNeeds.length:Int)>0)<;>rfl
    .rw[e2,hf2,if_pos (by simp)];rfl
def bkN (t:Ty) (_:Field) (k:Nat) (x:Str) (x':Str):Bool:=((!(fFind t x).2) || (!(plain (fFind t x).1))) || ((decide ((k:Int)>0))&&(sLt x x' || sEq x x'))
def bkP (t:Ty) (f:Field):Prop:=∃k,∃hk:k<f.fNeeds.length,bkN t f k f.fNeeds[k] (f.fNeeds[k-1]'(by omega))=true
def bCond (t:Ty) (f:Field):Bool:=((((!(sEq f.fOf wInt)) || f.fList) || f.fFar) || f.fMust) || (sEq f.fName t.fKey) || (sEq t.fKey sE)
noncomputable def bNeed (t:Ty) (f:Field):Bool:=decide ((f.fNeeds.length:Int)>0)&&(bCond t f || ask (bkP t f))
theorem prev_get {xs:List Str}{i:Nat}(hi:i<xs.length) (h0:0<i) (hn:xs.length<=bigLen):0<=IntKind.i64.wrap ((i:Int)-1)/\xs[(IntKind.i64.wrap ((i:Int)-1)).toNat]?=some (xs[i-1]'(by omega)):=by
  unfold bigLen at hn
  rw[wrap_in (by omega) (by omega)]
  refine⟨by omega,?_⟩
  have:((i:Int)-1).toNat=i-1:=by omega
  rw[this];simp[show i-1<xs.length by omega]
theorem i_Type_badNeed_ok (t:Ty) (f:Field):S_i_Type_badNeed t f ((f.fFar&&f.fShared) || bNeed t f):=by
  refine i_Type_badNeed_unf t f _ ?_
  unfold B_i_Type_badNeed
  by_cases h:(f.fFar&&f.fShared)=true
  .rw[if_pos h,h];rfl
  rw[if_neg h]
  rw[Bool.not_eq_true]at h
  rw[h,Bool.false_or]
  refine⟨_,i_Field_needy_ok f,?_⟩
  by_cases h2:decide ((f.fNeeds.length:Int)>0)=true
  . rw[if_neg (by rw[h2];simp)]
    unfold bNeed
    rw[h2,Bool.true_and]
    by_cases h3:bCond t f=true
    .rw[if_pos (by unfold bCond wInt at h3;exact h3),h3];rfl
    . rw[if_neg (by unfold bCond wInt at h3;exact h3)]
      rw[Bool.not_eq_true]at h3
      rw[h3,Bool.false_or]
      intro hl
      refine range_br (n:=f.fNeeds.length) (fun k=>∃hk:k<f.fNeeds.length,bkN t f k f.fNeeds[k] (f.fNeeds[k-1]'(by omega))=true) (C:=fun i=>C_i_Type_badNeed_L1 f i t (ask (bkP t f))) ?_ ?_ ?_
      . rintro i hi ⟨_,hb⟩
        refine i_Type_badNeed_L1_unf f _ t _ ?_
        unfold B_i_Type_badNeed_L1
        simp only[Int.ofNat_lt,hi,decide_true,if_true]
        refine⟨_,⟨by omega,get_some hi⟩,_,i_Type_find_ok t _,_,fun _=>i_Field_plainInt_ok _,f.fNeeds[i-1]'(by omega),fun _ h0=>prev_get hi (by simpa using h0) hl,?_⟩
        rw[if_pos (by unfold bkN at hb;exact hb)]
        exact ask_yes ⟨i,hi,hb⟩
      . intro i hi hb h
        refine i_Type_badNeed_L1_unf f _ t _ ?_
        unfold B_i_Type_badNeed_L1
        simp only[Int.ofNat_lt,hi,decide_true,if_true]
        refine⟨_,⟨by omega,get_some hi⟩,_,i_Type_find_ok t _,_,fun _=>i_Field_plainInt_ok _,f.fNeeds[i-1]'(by omega),fun _ h0=>prev_get hi (by simpa using h0) hl,?_⟩
        rw[if_neg (fun h=>hb ⟨hi,by unfold bkN;exact h⟩),wrap_succ hi hl]
        exact h
      . intro hb
        refine i_Type_badNeed_L1_unf f _ t _ ?_
        unfold B_i_Type_badNeed_L1
        simp only[Int.lt_irrefl,decide_false,Bool.false_eq_true,if_false]
        exact ask_not fun⟨i,hi,h⟩=>hb i hi ⟨hi,h⟩
  . rw[if_pos (by rw[Bool.not_eq_true]at h2;rw[h2];rfl)]
    unfold bNeed
    rw[Bool.not_eq_true]at h2
    rw[h2];rfl
theorem s_l2Needs_ok (t:Ty) (f:Field):S_s_l2Needs t f (!(bNeed t f)):=by
  refine s_l2Needs_unf t f _ fun hl=>?_
  by_cases h3:(decide ((f.fNeeds.length:Int)>0)&&bCond t f)=true
  . rw[if_pos (by unfold bCond wInt at h3;rw[<-h3];congr 1;cases sEq f.fName t.fKey<;>cases sEq t.fKey sE<;>simp)]
    unfold bNeed
    rw[bat]at h3
    rw[h3.1,h3.2];rfl
  . rw[if_neg (by
      intro h;refine h3 ?_;unfold bCond wInt;rw[<-h];congr 1;cases sEq f.fName t.fKey<;>cases sEq t.fKey sE<;>simp)]
    have step:∀i (hi:i<f.fNeeds.length) (r:Bool),(bkN t f i f.fNeeds[i] (f.fNeeds[i-1]'(by omega))=true->r=false)->(bkN t f i f.fNeeds[i] (f.fNeeds[i-1]'(by omega))=false->C_s_l2Needs_L1 (IntKind.i64.wrap ((i:Int)+1)) t f r)->C_s_l2Needs_L1 i t f r:=by
      intro i hi r h1 h2
      refine s_l2Needs_L1_unf _ t f _ fun _=>?_
      simp only[Int.ofNat_lt,hi,decide_true,if_true]
      refine⟨_,⟨by omega,get_some hi⟩,_,s_l2Field_ok t _,?_⟩
      rcases fIx_cases t f.fNeeds[i]with⟨j,hj,e2,hf2⟩ | ⟨e2,hf2⟩
      . rw[e2]
        refine⟨_,fun _=>⟨by omega,get_some hj⟩,_,fun _=>⟨by omega,get_some hj⟩,_,fun _=>⟨by omega,get_some hj⟩,f.fNeeds[i-1]'(by omega),fun _ h0=>prev_get hi (by simpa using h0) hl,_,fun _ _=>⟨by omega,get_some hi⟩,?_⟩
        rw[sLt_tot]
        have e:bkN t f i f.fNeeds[i] (f.fNeeds[i-1]'(by omega))=(((((decide ((j:Int)<0)) || (decide ((t.fFields[j].fNeeds.length:Int)>0))) || (!(sEq t.fFields[j].fOf (⟨#[105,110,116]⟩:Str)))) || t.fFields[j].fList) || ((decide ((i:Int)>0))&&(sLt f.fNeeds[i] (f.fNeeds[i-1]'(by omega)) || sEq f.fNeeds[i] (f.fNeeds[i-1]'(by omega))))):=by
          unfold bkN plain wInt
          rw[hf2]
          simp only[show ¬((j:Int)<0) by omega,decide_false,Bool.not_true,Bool.false_or]
          congr 1
          cases sEq t.fFields[j].fOf (⟨#[105,110,116]⟩:Str)<;>cases t.fFields[j].fList<;>cases decide ((t.fFields[j].fNeeds.length:Int)>0)<;>rfl
        rw[<-e]
        by_cases hb:bkN t f i f.fNeeds[i] (f.fNeeds[i-1]'(by omega))=true
        .rw[if_pos hb];exact h1 hb
        .rw[if_neg hb];exact h2 (by simpa using hb)
      . rw[e2]
        refine⟨zF,fun h=>by simp at h,zF,fun h=>by simp at h,zF,fun h=>by simp at h,sE,fun h=>by simp at h,sE,fun h=>by simp at h,?_⟩
        rw[if_pos (by simp)]
        exact h1 (by unfold bkN;rw[hf2];simp)
    refine range_br (n:=f.fNeeds.length) (fun k=>∃hk:k<f.fNeeds.length,bkN t f k f.fNeeds[k] (f.fNeeds[k-1]'(by omega))=true) (C:=fun i=>C_s_l2Needs_L1 i t f (!(bNeed t f))) ?_ ?_ ?_
    . rintro i hi ⟨_,hb⟩
      refine step i hi _ (fun _=>?_) (fun h=>by rw[h]at hb;cases hb)
      unfold bNeed
      rw[ask_yes ⟨i,hi,hb⟩]
      rw[decide_eq_true (by omega:(f.fNeeds.length:Int)>0)];simp
    . intro i hi hb h
      refine step i hi _ (fun h=>absurd ⟨hi,h⟩ hb) (fun _=>?_)
      rw[wrap_succ hi hl];exact h
    . intro hb
      refine s_l2Needs_L1_unf _ t f _ fun _=>?_
      simp only[Int.lt_irrefl,decide_false,Bool.false_eq_true,if_false]
      unfold bNeed
      rw[ask_not fun⟨i,hi,h⟩=>hb i hi ⟨hi,h⟩,Bool.or_false]
      rw[Bool.not_eq_true]at h3;rw[h3];rfl
noncomputable def b2 (p:Part) (i:Nat) (t:Ty):Bool:=(tFind ⟨sE,p.fTypes.take i⟩ t.fName).2 || ask (twiceS (t.fFields.map (·.fName)))
def b3F (p:Part) (f:Field):Bool:=(!(nScalar f.fOf))&&(!(tFind p f.fOf).2)
noncomputable def b5F (t:Ty) (f:Field):Bool:=(f.fFar&&f.fShared) || bNeed t f
noncomputable def nF5 (p:Part) (i:Nat) (t:Ty):Int:=
  if b1T t=true then 1 else if b2 p i t=true then 2 else if t.fFields.any (b3F p)=true then 3 else if b4 t=true then 4 else if t.fFields.any (b5F t)=true then 5 else 0
noncomputable def nFault (p:Part) (i:Nat) (t:Ty):Int:=if nF5 p i t≠0 then nF5 p i t else if t.fFields.any (fun f=>sEq f.fOf wQuery)=true then 7 else 0
theorem i_Part_typeFault_ok (p:Part) (i:Nat) (hi:i<p.fTypes.length):S_i_Part_typeFault p i (nFault p i p.fTypes[i]):=by
  refine i_Part_typeFault_unf p i _ ⟨_,⟨by omega,get_some hi⟩,⟨by simp,by simp,by simp;omega⟩,_,i_Part_find_ok _ _,_,i_Type_badLine_ok _,?_⟩
  simp only[Option.getD_none,Option.getD_some,Int.toNat_zero,List.drop_zero,Nat.sub_zero,Int.toNat_natCast]
  unfold nFault nF5
  by_cases h1:b1T p.fTypes[i]=true
  .rw[if_pos h1,if_pos h1];simp
  rw[if_neg h1,if_neg h1]
  refine⟨_,fun _=>i_Type_names_ok _,_,fun _=>i_twice_ok _,?_⟩
  by_cases h2:b2 p i p.fTypes[i]=true
  .rw[if_pos h2,if_pos (by unfold b2 at h2;exact h2)];simp
  rw[if_neg h2,if_neg (by unfold b2 at h2;exact h2)]
  refine⟨_,slices_ContainsFunc_Field_ok _ _ (b3F p) fun f _=>AB.clo (i_Part_typeFault_1_unf f p _ ⟨_,i_Part_find_ok p _,_,i_Field_ofWord_ok f,rfl⟩),?_⟩
  by_cases h3:p.fTypes[i].fFields.any (b3F p)=true
  .rw[if_pos h3,if_pos h3];simp
  rw[if_neg h3,if_neg h3]
  refine⟨_,i_Type_badKey_ok _,?_⟩
  by_cases h4:b4 p.fTypes[i]=true
  .rw[if_pos h4,if_pos h4];simp
  rw[if_neg h4,if_neg h4]
  refine⟨_,slices_ContainsFunc_Field_ok _ _ (b5F p.fTypes[i]) fun f _=>AB.mth (i_Type_badNeed_ok _ f),?_⟩
  by_cases h5:p.fTypes[i].fFields.any (b5F p.fTypes[i])=true
  .rw[if_pos h5,if_pos h5];simp
  rw[if_neg h5,if_neg h5]
  refine⟨_,slices_ContainsFunc_Field_ok _ _ (fun f=>sEq f.fOf wQuery) fun f _=>AB.clo (i_Part_typeFault_2_unf f _ rfl),?_⟩
  by_cases h6:p.fTypes[i].fFields.any (fun f=>sEq f.fOf wQuery)=true
  .rw[if_pos h6,if_pos h6];simp
  .rw[if_neg h6,if_neg h6];simp
theorem any_iff {α:Type}{xs:List α}{p:α->Bool}:xs.any p=true↔∃i,∃hi:i<xs.length,p xs[i]=true:=by
  rw[List.any_eq_true]
  constructor
  .rintro ⟨x,hx,h⟩;obtain⟨i,hi,e⟩:=List.mem_iff_getElem.1 hx;exact⟨i,hi,e▸h⟩
  .rintro ⟨i,hi,h⟩;exact⟨_,List.getElem_mem hi,h⟩
theorem range_any {α:Type}{xs:List α}(p:α->Bool){C:Int->Prop}(hbad:∀i:Nat,(hi:i<xs.length)->p xs[i]=true->xs.any p=true->C (i:Int))
    (hgood:∀i:Nat,(hi:i<xs.length)->p xs[i]=false->C ((i+1:Nat):Int)->C (i:Int)) (hend:xs.any p=false->C xs.length):C 0:=by
  refine range_br (n:=xs.length) (fun i=>∃hi:i<xs.length,p xs[i]=true) ?_ ?_ ?_
  .rintro i hi ⟨_,h⟩;exact hbad i hi h (any_iff.2 ⟨i,hi,h⟩)
  .intro i hi h;exact hgood i hi (by rw[<-Bool.not_eq_true];exact fun k=>h ⟨hi,k⟩)
  .intro h;exact hend (by rw[<-Bool.not_eq_true];intro k;obtain⟨i,hi,e⟩:=any_iff.1 k;exact h i hi ⟨hi,e⟩)
theorem s_l2Fault_L5_ok (t:Ty) (r:Int) (hr:r=if t.fFields.any (b5F t)=true then 5 else 0):C_s_l2Fault_L5 0 t r:=by
  refine range_any (xs:=t.fFields) (b5F t) (C:=fun i=>C_s_l2Fault_L5 i t r) ?_ ?_ ?_
  . intro i hi h ha
    refine s_l2Fault_L5_unf _ t r fun _=>?_
    simp only[Int.ofNat_lt,hi,decide_true,if_true]
    refine⟨_,⟨by omega,get_some hi⟩,_,s_l2Needs_ok t _,_,fun _=>⟨by omega,get_some hi⟩,_,fun _ _=>⟨by omega,get_some hi⟩,?_⟩
    rw[if_pos (by unfold b5F at h;rw[Bool.not_not,Bool.or_comm];exact h),hr,if_pos ha]
  . intro i hi h k
    refine s_l2Fault_L5_unf _ t r fun hl=>?_
    simp only[Int.ofNat_lt,hi,decide_true,if_true]
    refine⟨_,⟨by omega,get_some hi⟩,_,s_l2Needs_ok t _,_,fun _=>⟨by omega,get_some hi⟩,_,fun _ _=>⟨by omega,get_some hi⟩,?_⟩
    rw[if_neg (by unfold b5F at h;rw[Bool.not_not,Bool.or_comm,h];simp),wrap_succ hi hl];exact k
  . intro ha
    refine s_l2Fault_L5_unf _ t r fun hl=>?_
    simp only[Int.lt_irrefl,decide_false,Bool.false_eq_true,if_false]
    rw[hr,ha];simp
theorem tIx_neg (p:Part) (n:Str):decide (tIx p n<0) = !(tFind p n).2:=by
  rcases tIx_cases p n with⟨i,hi,e,hf⟩ | ⟨e,hf⟩
  .rw[e,hf];simp
  .rw[e,hf];simp
theorem s_l2Fault_L4_ok (p:Part) (t:Ty) (r:Int) (hr:r=if t.fFields.any (b3F p)=true then 3 else if b4 t=true then 4 else if t.fFields.any (b5F t)=true then 5 else 0):C_s_l2Fault_L4 0 p t r:=by
  refine range_any (xs:=t.fFields) (b3F p) (C:=fun i=>C_s_l2Fault_L4 i p t r) ?_ ?_ ?_
  . intro i hi h ha
    refine s_l2Fault_L4_unf _ p t r fun _=>?_
    simp only[Int.ofNat_lt,hi,decide_true,if_true]
    refine⟨_,⟨by omega,get_some hi⟩,_,s_l2Scalar_ok _,_,fun _=>⟨by omega,get_some hi⟩,_,fun _=>s_l2Type_ok p _,?_⟩
    rw[tIx_neg,if_pos (by unfold b3F at h;exact h),hr,if_pos ha]
  . intro i hi h k
    refine s_l2Fault_L4_unf _ p t r fun hl=>?_
    simp only[Int.ofNat_lt,hi,decide_true,if_true]
    refine⟨_,⟨by omega,get_some hi⟩,_,s_l2Scalar_ok _,_,fun _=>⟨by omega,get_some hi⟩,_,fun _=>s_l2Type_ok p _,?_⟩
    rw[tIx_neg,if_neg (by unfold b3F at h;rw[h];simp),wrap_succ hi hl];exact k
  . intro ha
    refine s_l2Fault_L4_unf _ p t r fun hl=>?_
    simp only[Int.lt_irrefl,decide_false,Bool.false_eq_true,if_false]
    refine⟨_,s_l2Key_ok t,?_⟩
    rw[Bool.not_not]
    rw[ha]at hr
    simp only[Bool.false_eq_true,if_false]at hr
    by_cases h4:b4 t=true
    .rw[if_pos h4,hr,if_pos h4]
    . rw[if_neg h4]
      rw[if_neg h4]at hr
      exact s_l2Fault_L5_ok t r hr
theorem twice_own (t:Ty):twiceS (t.fFields.map (·.fName))↔∃i,∃hi:i<t.fFields.length,fIx t t.fFields[i].fName≠i:=by
  unfold twiceS fIx
  constructor
  . rintro ⟨i,hi,h⟩
    rw[List.length_map]at hi
    refine⟨i,hi,(nIdx_own (g:=Field.fName) hi).2 ?_⟩
    rw[<-List.map_take,List.any_map]at h
    simp only[List.getElem_map]at h
    simpa[Function.comp_def,sEq_comm]using h
  . rintro ⟨i,hi,h⟩
    have h:=(nIdx_own (g:=Field.fName) hi).1 h
    refine⟨i,by simpa using hi,?_⟩
    rw[<-List.map_take,List.any_map]
    simp only[List.getElem_map]
    simpa[Function.comp_def,sEq_comm]using h
theorem s_l2Fault_L3_ok (p:Part) (t:Ty) (r:Int) (hr:r=if ask (twiceS (t.fFields.map (·.fName)))=true then 2 else if t.fFields.any (b3F p)=true then 3 else if b4 t=true then 4 else if t.fFields.any (b5F t)=true then 5 else 0):C_s_l2Fault_L3 0 p t r:=by
  refine range_br (n:=t.fFields.length) (fun i=>∃hi:i<t.fFields.length,fIx t t.fFields[i].fName≠i) (C:=fun i=>C_s_l2Fault_L3 i p t r) ?_ ?_ ?_
  . rintro i hi ⟨_,h⟩
    refine s_l2Fault_L3_unf _ p t r fun _=>?_
    simp only[Int.ofNat_lt,hi,decide_true,if_true]
    refine⟨_,⟨by omega,get_some hi⟩,_,s_l2Field_ok t _,?_⟩
    rw[if_pos (by simpa using h),hr,if_pos (ask_yes ((twice_own t).2 ⟨i,hi,h⟩))]
  . intro i hi h k
    refine s_l2Fault_L3_unf _ p t r fun hl=>?_
    simp only[Int.ofNat_lt,hi,decide_true,if_true]
    refine⟨_,⟨by omega,get_some hi⟩,_,s_l2Field_ok t _,?_⟩
    rw[if_neg (fun k=>h ⟨hi,by simpa using k⟩),wrap_succ hi hl];exact k
  . intro h
    refine s_l2Fault_L3_unf _ p t r fun hl=>?_
    simp only[Int.lt_irrefl,decide_false,Bool.false_eq_true,if_false]
    rw[if_neg (by rw[ask_iff,twice_own];exact fun⟨i,hi,k⟩=>h i hi ⟨hi,k⟩)]at hr
    exact s_l2Fault_L4_ok p t r hr
theorem s_l2Fault_L2_ok (j:Int) (i:Nat) (p:Part) (t:Ty) (f:Field) (r:Int) (h1:f.fNeeds.any (fun s => !(nName s))=true->r=1) (h2:f.fNeeds.any (fun s => !(nName s))=false->C_s_l2Fault_L1 j (IntKind.i64.wrap ((i:Int)+1)) p t r):C_s_l2Fault_L2 j i 0 p t f r:=by
  refine range_any (xs:=f.fNeeds) (fun s => !(nName s)) (C:=fun k=>C_s_l2Fault_L2 j i k p t f r) ?_ ?_ ?_
  . intro k hk h ha
    refine s_l2Fault_L2_unf _ _ _ p t f r fun _=>?_
    simp only[Int.ofNat_lt,hk,decide_true,if_true]
    refine⟨_,⟨by omega,get_some hk⟩,_,s_l2Name_ok _,?_⟩
    rw[if_pos h];exact h1 ha
  . intro k hk h hc
    refine s_l2Fault_L2_unf _ _ _ p t f r fun hl=>?_
    simp only[Int.ofNat_lt,hk,decide_true,if_true]
    refine⟨_,⟨by omega,get_some hk⟩,_,s_l2Name_ok _,?_⟩
    rw[if_neg (by rw[h];simp),wrap_succ hk hl];exact hc
  . intro ha
    refine s_l2Fault_L2_unf _ _ _ p t f r fun _=>?_
    simp only[Int.lt_irrefl,decide_false,Bool.false_eq_true,if_false]
    exact h2 ha
theorem own_find {p:Part}{i:Nat}(hi:i<p.fTypes.length):(tIx p p.fTypes[i].fName != i)=(tFind ⟨sE,p.fTypes.take i⟩ p.fTypes[i].fName).2:=by
  have h:=nIdx_own (g:=Ty.fName) hi
  have e:(tFind ⟨sE,p.fTypes.take i⟩ p.fTypes[i].fName).2=(p.fTypes.take i).any fun x=>sEq x.fName p.fTypes[i].fName:=by
    rcases nIdx_cases (p.fTypes.take i) (fun t=>sEq t.fName p.fTypes[i].fName) with⟨j,hj,_,_,_,hf,ha⟩ | ⟨_,_,hf,ha⟩
    .rw[ha];unfold tFind;simp only[];rw[hf]
    .rw[ha];unfold tFind;simp only[];rw[hf]
  rw[e,Bool.eq_iff_iff,bne_iff_ne]
  exact h
theorem s_l2Fault_ok (p:Part) (i:Nat) (hi:i<p.fTypes.length):S_s_l2Fault p i (nF5 p i p.fTypes[i]):=by
  refine s_l2Fault_unf p i _ ⟨_,⟨by omega,get_some hi⟩,_,s_l2Name_ok _,_,fun _ _=>s_l2Name_ok _,?_⟩
  have e8:((((p.fTypes[i].fFields.length:Int) == 0)) || (decide ((p.fTypes[i].fFields.length:Int)>8))) = !((decide ((p.fTypes[i].fFields.length:Int)>=1))&&(decide ((p.fTypes[i].fFields.length:Int)<=8))):=by
    rw[Bool.eq_iff_iff]
    simp only[Bool.or_eq_true,beq_iff_eq,decide_eq_true_eq,Bool.not_eq_true',Bool.and_eq_false_iff,decide_eq_false_iff_not]
    omega
  rw[Bool.or_assoc,e8]
  by_cases h:(((!(nName p.fTypes[i].fName)) || ((!(sEq p.fTypes[i].fKey sE))&&(!(nName p.fTypes[i].fKey)))) || (!((decide ((p.fTypes[i].fFields.length:Int)>=1))&&(decide ((p.fTypes[i].fFields.length:Int)<=8)))))=true
  . rw[if_pos h]
    unfold nF5 b1T
    rw[h,Bool.true_or,if_pos rfl]
  rw[if_neg h]
  have e1:b1T p.fTypes[i]=p.fTypes[i].fFields.any b1F:=by
    unfold b1T;rw[Bool.not_eq_true]at h;rw[h,Bool.false_or]
  refine range_any (xs:=p.fTypes[i].fFields) b1F (C:=fun k=>C_s_l2Fault_L1 i k p p.fTypes[i] (nF5 p i p.fTypes[i])) ?_ ?_ ?_
  . intro k hk hb ha
    refine s_l2Fault_L1_unf _ _ p _ _ fun _=>?_
    simp only[Int.ofNat_lt,hk,decide_true,if_true]
    refine⟨_,⟨by omega,get_some hk⟩,_,s_l2Name_ok _,_,fun _=>s_l2Scalar_ok _,_,fun _ _=>s_l2Name_ok _,?_⟩
    have er:nF5 p i p.fTypes[i]=1:=by unfold nF5;rw[e1,ha,if_pos rfl]
    by_cases hc:((!(nName p.fTypes[i].fFields[k].fName)) || ((!(nScalar p.fTypes[i].fFields[k].fOf))&&(!(nName p.fTypes[i].fFields[k].fOf))))=true
    .rw[if_pos hc];exact er
    . rw[if_neg hc]
      refine s_l2Fault_L2_ok _ k p _ _ _ (fun _=>er) fun hn=>?_
      exfalso
      unfold b1F at hb
      rw[Bool.not_eq_true]at hc
      rw[hn,Bool.or_false]at hb
      revert hb hc
      cases nName p.fTypes[i].fFields[k].fName<;>cases nScalar p.fTypes[i].fFields[k].fOf<;>cases nName p.fTypes[i].fFields[k].fOf<;>simp
  . intro k hk hb hcont
    refine s_l2Fault_L1_unf _ _ p _ _ fun hl=>?_
    simp only[Int.ofNat_lt,hk,decide_true,if_true]
    refine⟨_,⟨by omega,get_some hk⟩,_,s_l2Name_ok _,_,fun _=>s_l2Scalar_ok _,_,fun _ _=>s_l2Name_ok _,?_⟩
    unfold b1F at hb
    rw[Bool.or_eq_false_iff]at hb
    rw[if_neg (by revert hb;cases nName p.fTypes[i].fFields[k].fName<;>cases nScalar p.fTypes[i].fFields[k].fOf<;>cases nName p.fTypes[i].fFields[k].fOf<;>simp)]
    refine s_l2Fault_L2_ok _ k p _ _ _ (fun h=>by rw[h]at hb;exact absurd hb.2 (by simp)) fun _=>?_
    rw[wrap_succ hk hl];exact hcont
  . intro ha
    refine s_l2Fault_L1_unf _ _ p _ _ fun hl=>?_
    simp only[Int.lt_irrefl,decide_false,Bool.false_eq_true,if_false]
    refine⟨_,s_l2Type_ok p _,?_⟩
    rw[own_find hi]
    unfold nF5 b2
    rw[e1,ha]
    simp only[Bool.false_eq_true,if_false]
    by_cases h2:(tFind ⟨sE,p.fTypes.take i⟩ p.fTypes[i].fName).2=true
    .rw[if_pos h2,h2,Bool.true_or,if_pos rfl]
    . rw[if_neg h2]
      refine s_l2Fault_L3_ok p _ _ ?_
      rw[Bool.not_eq_true]at h2
      rw[h2,Bool.false_or]
set_option linter.unusedSimpArgs false
theorem app_data (a b:Str):(a++b).data.toList=a.data.toList++b.data.toList:=ByteArray.toList_data_append
theorem str_ext {a b:Str}(h:a.data.toList=b.data.toList):a=b:=ByteArray.ext (Array.toList_inj.1 h)
theorem app_assoc (a b c:Str):(a++b)++c=a++(b++c):=ByteArray.append_assoc
theorem app_size (a b:Str):(a++b).size=a.size+b.size:=ByteArray.size_append
theorem sz_mk (a:Array UInt8):ByteArray.size ⟨a⟩=a.size:=rfl
theorem joinS_one (x sep:Str):joinS [x] sep=x:=by apply str_ext;simp[joinS,Lib.join_one]
theorem joinS_cons (x y:Str) (r:List Str) (sep:Str):joinS (x::y::r) sep=(x++sep)++joinS (y::r) sep:=by
  apply str_ext
  rw[app_data,app_data]
  simp[joinS,Lib.join,List.intercalate]
theorem joinS_nil (sep:Str):joinS [] sep=sE:=by apply str_ext;simp[joinS,Lib.join_nil,sE]
theorem fold_join (sep:Str):∀ (x:Str) (r:List Str) (a:Str),(x::r).foldl (fun a y=>(a++sep)++y) a=(a++sep)++joinS (x::r) sep
  | x,[],a=>by simp[joinS_one]
  | x,y::r,a=>by
    rw[List.foldl_cons,fold_join sep y r,joinS_cons]
    simp only[app_assoc]
def tot (xs:List Str):Nat:=(xs.map fun x=>x.size+1).sum
theorem tot_take {xs:List Str}{i:Nat}(hi:i<xs.length):tot (xs.take (i+1))=tot (xs.take i)+(xs[i].size+1):=by
  unfold tot
  rw[List.take_add_one,List.getElem?_eq_getElem hi,List.map_append,List.sum_append];simp
theorem tot_le (xs:List Str) (i:Nat):tot (xs.take i)<=tot xs:=by
  have:tot xs=tot (xs.take i)+tot (xs.drop i):=by
    unfold tot
    rw[<-List.sum_append,<-List.map_append,List.take_append_drop]
  omega
theorem join_size (sep:Str) (hs:sep.size=1):∀xs:List Str,(joinS xs sep).size<=tot xs
  | []=>by rw[joinS_nil];exact Nat.zero_le _
  | [x]=>by rw[joinS_one];simp[tot]
  | x::y::r=>by
    have:=join_size sep hs (y::r)
    rw[joinS_cons,app_size,app_size,hs]
    simp only[tot,List.map_cons,List.sum_cons]at this ⊢
    omega
open Classical in
theorem strings_Join_ok (xs:List Str) (sep:Str) (hl:xs.length<=bigLen) (hs:(joinS xs sep).size<=bigStr):S_strings_Join xs sep (joinS xs sep):=by
  have e:(Enc.E xs).map strP=xs:=by
    rw[Enc.E_eq,List.map_map]
    conv=>rhs;rw[<-List.map_id xs]
    rfl
  refine FB.ext (e:=xJoin) rfl ?_
  show (if _ then _ else _)=_
  rw[e]
  have h2:(Enc.E xs).length=xs.length:=by rw[Enc.E_eq,List.length_map]
  rw[if_pos ⟨by rw[Enc.E_eq];rfl,by rw[h2];exact hl,hs⟩]
  rfl
theorem strconv_Itoa_ok (n:Int) (h0 : -9223372036854775808<=n) (h1:n<=9223372036854775807):S_strconv_Itoa n (itoaS n):=by
  refine FB.ext (e:=xItoa) rfl ?_
  show (if _ then _ else _)=_
  rw[if_pos ⟨h0,h1⟩]
  rfl
theorem bytes_E (x:Str):bytesR x=Enc.E x.data.toList:=by rw[Enc.E_eq];rfl
theorem Write1_ok (b:List UInt8) (x:Str) (h:b.length+x.size<=bigStr):S_strings_Builder_WriteString_1 b x (b++x.data.toList):=by
  refine FB.ext (e:=xWrite _ _) rfl ?_
  show (if _ then _ else _)=_
  rw[if_pos ⟨rfl,rfl,by decide,by simp[bsh],by simp[selfP],by rw[Enc.E_eq,List.length_map];exact h⟩]
  rw[bytes_E,Enc.E_eq,Enc.E_eq,<-List.map_append,<-Enc.E_eq]
  rfl
theorem Write0_ok (b:List UInt8) (x:Str) (h:b.length+x.size<=bigStr):S_strings_Builder_WriteString_0 b x (b++x.data.toList):=by
  refine FB.ext (e:=xWrite _ _) rfl ?_
  show (if _ then _ else _)=_
  rw[if_pos ⟨rfl,rfl,by decide,by simp[bsh],rfl,by rw[Enc.E_eq,List.length_map];exact h⟩]
  rw[bytes_E,Enc.E_eq,Enc.E_eq,<-List.map_append,<-Enc.E_eq]
  rfl
theorem byt_E (b:List UInt8):(Enc.E b).map bytP=b:=by
  rw[Enc.E_eq,List.map_map]
  conv=>rhs;rw[<-List.map_id b]
  refine List.map_congr_left fun x _=>?_
  show UInt8.ofNat ((x.toNat:Int).toNat)=x
  simp
theorem String1_ok (b:List UInt8) (h:b.length<=bigStr):S_strings_Builder_String_1 b ⟨b.toArray⟩:=by
  refine FB.ext (e:=xBstr _ _) rfl ?_
  show (if _ then _ else _)=_
  rw[byt_E,if_pos ⟨rfl,rfl,by decide,by simp[bsh],by simp[selfP],by rw[Enc.E_eq,List.length_map];exact h⟩]
  rfl
def lB (f:Field):Str:=if f.fList=true then (((⟨#[91]⟩:Str)++f.fOf)++(⟨#[93]⟩:Str)) else f.fOf
def lM (f:Field):Str:=if f.fMust=true then lB f++(⟨#[33]⟩:Str) else lB f
def ln0 (f:Field):Str:=((((⟨#[32,32]⟩:Str)++f.fName)++(⟨#[32]⟩:Str))++lM f)
def ln1 (f:Field):Str:=if f.fFar=true then ln0 f++(⟨#[32,102,97,114]⟩:Str) else ln0 f
def ln2 (f:Field):Str:=if f.fHidden=true then ln1 f++(⟨#[32,104,105,100,100,101,110]⟩:Str) else ln1 f
def ln3 (f:Field):Str:=if f.fShared=true then ln2 f++(⟨#[32,115,104,97,114,101,100]⟩:Str) else ln2 f
def ln4 (f:Field):Str:=if decide ((f.fNeeds.length:Int)>0)=true then ln3 f++((⟨#[32,110,101,101,100,115,32]⟩:Str)++joinS f.fNeeds (⟨#[32]⟩:Str)) else ln3 f
def nLine (f:Field):Str:=ln4 f++(⟨#[10]⟩:Str)
def szF (f:Field):Nat:=f.fName.size+f.fOf.size
theorem lB_size (f:Field):(lB f).size<=f.fOf.size+2:=by unfold lB;split<;>(try simp only[app_size,sz_mk,List.size_toArray,List.length_cons,List.length_nil])<;>omega
theorem lM_size (f:Field):(lM f).size<=f.fOf.size+3:=by have:=lB_size f;unfold lM;split<;>(try simp only[app_size,sz_mk,List.size_toArray,List.length_cons,List.length_nil])<;>omega
theorem ln0_size (f:Field):(ln0 f).size<=szF f+6:=by have:=lM_size f;unfold ln0 szF;simp only[app_size,sz_mk,List.size_toArray,List.length_cons,List.length_nil];omega
theorem ln1_size (f:Field):(ln1 f).size<=szF f+10:=by have:=ln0_size f;unfold ln1;split<;>(try simp only[app_size,sz_mk,List.size_toArray,List.length_cons,List.length_nil])<;>omega
theorem ln2_size (f:Field):(ln2 f).size<=szF f+17:=by have:=ln1_size f;unfold ln2;split<;>(try simp only[app_size,sz_mk,List.size_toArray,List.length_cons,List.length_nil])<;>omega
theorem ln3_size (f:Field):(ln3 f).size<=szF f+24:=by have:=ln2_size f;unfold ln3;split<;>(try simp only[app_size,sz_mk,List.size_toArray,List.length_cons,List.length_nil])<;>omega
theorem ln4_size (f:Field):(ln4 f).size<=szF f+31+tot f.fNeeds:=by have:=ln3_size f;have:=join_size (⟨#[32]⟩:Str) rfl f.fNeeds;unfold ln4;split<;>(try simp only[app_size,sz_mk,List.size_toArray,List.length_cons,List.length_nil])<;>omega
theorem line_size (f:Field):(nLine f).size<=szF f+32+tot f.fNeeds:=by have:=ln4_size f;unfold nLine;simp only[app_size,sz_mk,List.size_toArray,List.length_cons,List.length_nil];omega
theorem s_l2Line_J6_ok (f:Field) (h:szF f+40+tot f.fNeeds<=bigStr) (v:Str) (hv:v=if decide ((f.fNeeds.length:Int)>0)=true then ln3 f++(⟨#[32,110,101,101,100,115]⟩:Str) else ln3 f):B_s_l2Line_J6 v f (nLine f):=by
  unfold B_s_l2Line_J6
  have hvs:v.size<=szF f+30:=by
    have:=ln3_size f
    rw[hv];split<;>(try simp only[app_size,sz_mk,List.size_toArray,List.length_cons,List.length_nil])<;>omega
  by_cases hl:f.fNeeds.length<=bigLen
  . refine range_inv (n:=f.fNeeds.length) (C:=fun a i=>C_s_l2Line_L1 a i f (nLine f)) (a0:=v) (fun i a=>a=(f.fNeeds.take i).foldl (fun a y=>(a++(⟨#[32]⟩:Str))++y) v/\a.size<=v.size+tot (f.fNeeds.take i)) ⟨by simp,by simp⟩ ?_ ?_
    . rintro a ⟨ha,hs⟩
      refine s_l2Line_L1_unf _ _ f _ fun _=>?_
      simp only[Int.lt_irrefl,decide_false,Bool.false_eq_true,if_false]
      have:=tot_le f.fNeeds f.fNeeds.length
      refine⟨by simp only[sz_mk,List.size_toArray,List.length_cons,List.length_nil];omega,?_⟩
      unfold nLine ln4
      congr 1
      rw[ha,List.take_length,hv]
      cases e:f.fNeeds with
      | nil=>simp
      | cons x r=>
        rw[if_pos (by simp),if_pos (by simp),fold_join]
        have e2:(⟨#[32,110,101,101,100,115,32]⟩:Str)=(⟨#[32,110,101,101,100,115]⟩:Str)++(⟨#[32]⟩:Str):=rfl
        rw[e2];simp only[app_assoc]
    . rintro i a hi ⟨ha,hs⟩
      have h1:=tot_take hi
      have h2:=tot_le f.fNeeds (i+1)
      refine .inr ⟨(a++(⟨#[32]⟩:Str))++f.fNeeds[i],⟨?_,?_⟩,fun k=>?_⟩
      .rw[List.take_add_one,List.getElem?_eq_getElem hi,List.foldl_append,ha];rfl
      .simp only[app_size,sz_mk,List.size_toArray,List.length_cons,List.length_nil];omega
      . refine s_l2Line_L1_unf _ _ f _ fun _=>?_
        simp only[Int.ofNat_lt,hi,decide_true,if_true]
        refine⟨by simp only[sz_mk,List.size_toArray,List.length_cons,List.length_nil];omega,_,⟨by omega,get_some hi⟩,by simp only[app_size,sz_mk,List.size_toArray,List.length_cons,List.length_nil];omega,?_⟩
        rw[wrap_succ hi hl];exact k
  .exact s_l2Line_L1_unf _ _ f _ fun h=>absurd h hl
theorem s_l2Line_ok (f:Field) (h:szF f+40+tot f.fNeeds<=bigStr):S_s_l2Line f (nLine f):=by
  have s0:=ln0_size f;have s1:=ln1_size f;have s2:=ln2_size f;have s3:=ln3_size f;have sB:=lB_size f;have sM:=lM_size f
  have szf:f.fName.size+f.fOf.size=szF f:=rfl
  have J5:B_s_l2Line_J5 (ln3 f) f (nLine f):=fun _=>by
    by_cases c:decide ((f.fNeeds.length:Int)>0)=true
    .rw[if_pos c];exact⟨by simp only[app_size,sz_mk,List.size_toArray,List.length_cons,List.length_nil];omega,s_l2Line_J6_ok f h _ (by rw[if_pos c])⟩
    .rw[if_neg c];exact s_l2Line_J6_ok f h _ (by rw[if_neg c])
  have J4:B_s_l2Line_J4 (ln2 f) f (nLine f):=by
    unfold B_s_l2Line_J4
    unfold ln3 at J5
    by_cases c:f.fShared=true
    .rw[if_pos c]at J5 ⊢;exact⟨by simp only[app_size,sz_mk,List.size_toArray,List.length_cons,List.length_nil];omega,J5⟩
    .rw[if_neg c]at J5 ⊢;exact J5
  have J3:B_s_l2Line_J3 (ln1 f) f (nLine f):=by
    unfold B_s_l2Line_J3
    unfold ln2 at J4
    by_cases c:f.fHidden=true
    .rw[if_pos c]at J4 ⊢;exact⟨by simp only[app_size,sz_mk,List.size_toArray,List.length_cons,List.length_nil];omega,J4⟩
    .rw[if_neg c]at J4 ⊢;exact J4
  have J2:B_s_l2Line_J2 (lM f) f (nLine f):=by
    refine⟨by simp only[app_size,sz_mk,List.size_toArray,List.length_cons,List.length_nil];omega,by simp only[app_size,sz_mk,List.size_toArray,List.length_cons,List.length_nil];omega,by simp only[app_size,sz_mk,List.size_toArray,List.length_cons,List.length_nil];omega,?_⟩
    unfold ln1 at J3
    unfold ln0 at J3 s0
    by_cases c:f.fFar=true
    .rw[if_pos c]at J3 ⊢;exact⟨by simp only[sz_mk,List.size_toArray,List.length_cons,List.length_nil];omega,J3⟩
    .rw[if_neg c]at J3 ⊢;exact J3
  have J1:B_s_l2Line_J1 (lB f) f (nLine f):=by
    unfold B_s_l2Line_J1
    unfold lM at J2
    by_cases c:f.fMust=true
    .rw[if_pos c]at J2 ⊢;exact⟨by simp only[app_size,sz_mk,List.size_toArray,List.length_cons,List.length_nil];omega,J2⟩
    .rw[if_neg c]at J2 ⊢;exact J2
  refine s_l2Line_unf f _ ?_
  unfold B_s_l2Line
  unfold lB at J1
  by_cases c:f.fList=true
  .rw[if_pos c]at J1 ⊢;exact⟨by simp only[app_size,sz_mk,List.size_toArray,List.length_cons,List.length_nil];omega,by simp only[app_size,sz_mk,List.size_toArray,List.length_cons,List.length_nil];omega,J1⟩
  .rw[if_neg c]at J1 ⊢;exact J1
theorem i_Field_line_ok (f:Field) (h:szF f+40+tot f.fNeeds<=bigStr) (hn:f.fNeeds.length<=bigLen):S_i_Field_line f (nLine f):=by
  have s0:=ln0_size f;have s1:=ln1_size f;have s2:=ln2_size f;have s3:=ln3_size f;have s4:=ln4_size f;have sB:=lB_size f;have sM:=lM_size f
  have sj:=join_size (⟨#[32]⟩:Str) rfl f.fNeeds
  have szf:f.fName.size+f.fOf.size=szF f:=rfl
  have J4:B_i_Field_line_J4 (ln4 f) (nLine f):=⟨by simp only[app_size,sz_mk,List.size_toArray,List.length_cons,List.length_nil];omega,rfl⟩
  have L3:C_i_Field_line_L1 (ln3 f) f 3 (nLine f):=by
    refine i_Field_line_L1_unf _ f _ _ ?_
    unfold B_i_Field_line_L1
    rw[if_neg (by simp)]
    refine⟨_,i_Field_needy_ok f,?_⟩
    unfold ln4 at J4
    by_cases c:decide ((f.fNeeds.length:Int)>0)=true
    . rw[if_pos c]at J4 ⊢
      exact⟨_,strings_Join_ok _ _ hn (by omega),by simp only[app_size,sz_mk,List.size_toArray,List.length_cons,List.length_nil];omega,by simp only[app_size,sz_mk,List.size_toArray,List.length_cons,List.length_nil];omega,J4⟩
    .rw[if_neg c]at J4 ⊢;exact J4
  have L2:C_i_Field_line_L1 (ln2 f) f 2 (nLine f):=by
    refine i_Field_line_L1_unf _ f _ _ ?_
    unfold B_i_Field_line_L1
    rw[if_pos (by simp)]
    refine⟨f.fShared,by simp,?_⟩
    unfold ln3 at L3
    by_cases c:f.fShared=true
    .rw[if_pos c]at L3 ⊢;exact⟨_,⟨by simp,rfl⟩,by simp only[app_size,sz_mk,List.size_toArray,List.length_cons,List.length_nil];omega,L3⟩
    .rw[if_neg c]at L3 ⊢;exact L3
  have L1:C_i_Field_line_L1 (ln1 f) f 1 (nLine f):=by
    refine i_Field_line_L1_unf _ f _ _ ?_
    unfold B_i_Field_line_L1
    rw[if_pos (by simp)]
    refine⟨f.fHidden,by simp,?_⟩
    unfold ln2 at L2
    by_cases c:f.fHidden=true
    .rw[if_pos c]at L2 ⊢;exact⟨_,⟨by simp,rfl⟩,by simp only[app_size,sz_mk,List.size_toArray,List.length_cons,List.length_nil];omega,L2⟩
    .rw[if_neg c]at L2 ⊢;exact L2
  have L0:C_i_Field_line_L1 (ln0 f) f 0 (nLine f):=by
    refine i_Field_line_L1_unf _ f _ _ ?_
    unfold B_i_Field_line_L1
    rw[if_pos (by simp)]
    refine⟨f.fFar,by simp,?_⟩
    unfold ln1 at L1
    by_cases c:f.fFar=true
    .rw[if_pos c]at L1 ⊢;exact⟨_,⟨by simp,rfl⟩,by simp only[app_size,sz_mk,List.size_toArray,List.length_cons,List.length_nil];omega,L1⟩
    .rw[if_neg c]at L1 ⊢;exact L1
  have J2:B_i_Field_line_J2 (lM f) f (nLine f):=by
    exact⟨by simp only[app_size,sz_mk,List.size_toArray,List.length_cons,List.length_nil];omega,by simp only[app_size,sz_mk,List.size_toArray,List.length_cons,List.length_nil];omega,by simp only[app_size,sz_mk,List.size_toArray,List.length_cons,List.length_nil];omega,fun _=>L0⟩
  have J1:B_i_Field_line_J1 (lB f) f (nLine f):=by
    unfold B_i_Field_line_J1
    unfold lM at J2
    by_cases c:f.fMust=true
    .rw[if_pos c]at J2 ⊢;exact⟨by simp only[app_size,sz_mk,List.size_toArray,List.length_cons,List.length_nil];omega,J2⟩
    .rw[if_neg c]at J2 ⊢;exact J2
  refine i_Field_line_unf f _ ?_
  unfold B_i_Field_line
  unfold lB at J1
  by_cases c:f.fList=true
  .rw[if_pos c]at J1 ⊢;exact⟨by simp only[app_size,sz_mk,List.size_toArray,List.length_cons,List.length_nil];omega,by simp only[app_size,sz_mk,List.size_toArray,List.length_cons,List.length_nil];omega,J1⟩
  .rw[if_neg c]at J1 ⊢;exact J1
set_option linter.unusedSimpArgs false
def hdT (a:Str) (t:Ty):Str:=(if (!(sEq t.fKey sE))=true then ((((a++(⟨#[116,121,112,101,32]⟩:Str))++t.fName)++(⟨#[32,107,101,121,32]⟩:Str))++t.fKey) else ((a++(⟨#[116,121,112,101,32]⟩:Str))++t.fName))++(⟨#[10]⟩:Str)
def fL (a:Str) (f:Field):Str:=a++nLine f
def wT (a:Str) (t:Ty):Str:=t.fFields.foldl fL (hdT a t)
def hdP (p:Part):Str:=(((⟨#[112,97,114,116,32]⟩:Str)++p.fName)++(⟨#[10]⟩:Str))
def nWrite (p:Part):Str:=p.fTypes.foldl wT (hdP p)
def fitF (f:Field):Prop:=szF f+40+tot f.fNeeds<=9437300/\f.fNeeds.length<=bigLen
def fitT (t:Ty):Prop:=t.fName.size<=8/\t.fKey.size<=8/\t.fFields.length<=8/\∀f∈t.fFields,fitF f
def fitP (p:Part):Prop:=p.fName.size<=8/\p.fTypes.length<=5/\∀t∈p.fTypes,fitT t
theorem hdT_size {t:Ty}(h:fitT t) (a:Str):(hdT a t).size<=a.size+30:=by
  obtain⟨h1,h2,_⟩:=h
  unfold hdT
  simp only[app_size,sz_mk,List.size_toArray,List.length_cons,List.length_nil]
  split<;>simp only[app_size,sz_mk,List.size_toArray,List.length_cons,List.length_nil]<;>omega
theorem fL_take {t:Ty}{i:Nat}(hi:i<t.fFields.length) (v:Str):(t.fFields.take (i+1)).foldl fL v=(t.fFields.take i).foldl fL v++nLine t.fFields[i]:=by
  rw[List.take_add_one,List.getElem?_eq_getElem hi,List.foldl_append];rfl
theorem fL_size {t:Ty}(h:fitT t) (v:Str):∀i,i<=t.fFields.length->((t.fFields.take i).foldl fL v).size<=v.size+i*9437300
  | 0,_=>by simp
  | i+1,hi=>by
    have ih:=fL_size h v i (by omega)
    have hl:=line_size t.fFields[i]
    have hf:=(h.2.2.2 _ (List.getElem_mem (by omega:i<t.fFields.length))).1
    rw[fL_take (by omega),app_size]
    omega
theorem wT_size {t:Ty}(h:fitT t) (a:Str):(wT a t).size<=a.size+75498430:=by
  have h1:=fL_size h (hdT a t) t.fFields.length (Nat.le_refl _)
  rw[List.take_length]at h1
  have h2:=hdT_size h a
  have h3:=h.2.2.1
  unfold wT
  omega
theorem wT_take {p:Part}{i:Nat}(hi:i<p.fTypes.length) (v:Str):(p.fTypes.take (i+1)).foldl wT v=wT ((p.fTypes.take i).foldl wT v) p.fTypes[i]:=by
  rw[List.take_add_one,List.getElem?_eq_getElem hi,List.foldl_append];rfl
theorem hdP_size {p:Part}(h:fitP p):(hdP p).size<=14:=by
  have:=h.1
  unfold hdP
  simp only[app_size,sz_mk,List.size_toArray,List.length_cons,List.length_nil];omega
theorem wP_size {p:Part}(h:fitP p):∀i,i<=p.fTypes.length->((p.fTypes.take i).foldl wT (hdP p)).size<=14+i*75498430
  | 0,_=>by simpa using hdP_size h
  | i+1,hi=>by
    have ih:=wP_size h i (by omega)
    have:=wT_size (h.2.2 _ (List.getElem_mem (by omega:i<p.fTypes.length))) ((p.fTypes.take i).foldl wT (hdP p))
    rw[wT_take (by omega)]
    omega
theorem nWrite_size {p:Part}(h:fitP p):(nWrite p).size<=400000000:=by
  have h1:=wP_size h p.fTypes.length (Nat.le_refl _)
  rw[List.take_length]at h1
  have:=h.2.1
  unfold nWrite
  omega
theorem s_l2Write_ok (p:Part) (h:fitP p):S_s_l2Write p (nWrite p):=by
  have hP:=h
  obtain⟨h1,h2,h3⟩:=h
  refine s_l2Write_unf p _ ⟨by simp only[app_size,sz_mk,List.size_toArray,List.length_cons,List.length_nil];unfold bigStr;omega,by simp only[app_size,sz_mk,List.size_toArray,List.length_cons,List.length_nil];unfold bigStr;omega,?_⟩
  refine range_inv (n:=p.fTypes.length) (a0:=hdP p) (C:=fun a i=>C_s_l2Write_L1 a i p (nWrite p)) (fun i a=>a=(p.fTypes.take i).foldl wT (hdP p)) rfl ?_ ?_
  . rintro a rfl
    refine s_l2Write_L1_unf _ _ p _ fun _=>?_
    simp only[Int.lt_irrefl,decide_false,Bool.false_eq_true,if_false]
    rw[List.take_length];rfl
  . rintro i a hi rfl
    refine .inr ⟨_,rfl,fun k=>?_⟩
    rw[wT_take hi]at k
    have hs:=wP_size hP i (by omega)
    generalize (p.fTypes.take i).foldl wT (hdP p)=a at *
    have ht:=h3 _ (List.getElem_mem hi)
    have hd:=hdT_size ht a
    obtain⟨n1,n2,n3,n4⟩:=ht
    have L2:C_s_l2Write_L2 (hdT a p.fTypes[i]) i 0 p p.fTypes[i] (nWrite p):=by
      refine range_inv (n:=p.fTypes[i].fFields.length) (a0:=hdT a p.fTypes[i]) (C:=fun a k=>C_s_l2Write_L2 a i k p p.fTypes[i] (nWrite p)) (fun k b=>b=(p.fTypes[i].fFields.take k).foldl fL (hdT a p.fTypes[i])) rfl ?_ ?_
      . rintro b rfl
        refine s_l2Write_L2_unf _ _ _ p _ _ fun _=>?_
        simp only[Int.lt_irrefl,decide_false,Bool.false_eq_true,if_false]
        rw[List.take_length,wrap_succ hi (by unfold bigLen;omega)];exact k
      . rintro j b hj rfl
        refine .inr ⟨_,rfl,fun k2=>?_⟩
        rw[fL_take hj]at k2
        have hs2:=fL_size ⟨n1,n2,n3,n4⟩ (hdT a p.fTypes[i]) j (by omega)
        have hf:=n4 _ (List.getElem_mem hj)
        have hls:=line_size p.fTypes[i].fFields[j]
        refine s_l2Write_L2_unf _ _ _ p _ _ fun hl=>?_
        simp only[Int.ofNat_lt,hj,decide_true,if_true]
        have hf1:=hf.1
        refine⟨_,⟨by omega,get_some hj⟩,_,s_l2Line_ok _ (by unfold bigStr;omega),by unfold bigStr;omega,?_⟩
        rw[wrap_succ hj hl];exact k2
    refine s_l2Write_L1_unf _ _ p _ fun _=>?_
    simp only[Int.ofNat_lt,hi,decide_true,if_true]
    have big:bigStr=68719476736:=rfl
    refine⟨_,⟨by omega,get_some hi⟩,by simp only[app_size,sz_mk,List.size_toArray,List.length_cons,List.length_nil];omega,by simp only[app_size,sz_mk,List.size_toArray,List.length_cons,List.length_nil];omega,?_⟩
    unfold hdT at L2 hd
    by_cases c:(!(sEq p.fTypes[i].fKey sE))=true
    . rw[if_pos c]at L2 hd ⊢
      refine⟨by simp only[app_size,sz_mk,List.size_toArray,List.length_cons,List.length_nil];omega,by simp only[app_size,sz_mk,List.size_toArray,List.length_cons,List.length_nil];omega,?_⟩
      exact⟨by simp only[app_size,sz_mk,List.size_toArray,List.length_cons,List.length_nil];omega,L2⟩
    . rw[if_neg c]at L2 hd ⊢
      exact⟨by simp only[app_size,sz_mk,List.size_toArray,List.length_cons,List.length_nil];omega,L2⟩
theorem i_Part_write_ok (p:Part) (h:fitP p):S_i_Part_write p (nWrite p):=by
  have hP:=h
  obtain⟨h1,h2,h3⟩:=h
  have big:bigStr=68719476736:=rfl
  have hp:=hdP_size hP
  refine i_Part_write_unf p _ ⟨by simp only[app_size,sz_mk,List.size_toArray,List.length_cons,List.length_nil];omega,by simp only[app_size,sz_mk,List.size_toArray,List.length_cons,List.length_nil];omega,_,Write0_ok _ _ (by unfold hdP at hp;simp only[List.length_nil];omega),fun _=>?_⟩
  rw[List.nil_append]
  refine range_inv (n:=p.fTypes.length) (a0:=(hdP p).data.toList) (C:=fun a i=>C_i_Part_write_L1 p i a (nWrite p)) (fun i a=>a=((p.fTypes.take i).foldl wT (hdP p)).data.toList) rfl ?_ ?_
  . rintro a rfl
    refine i_Part_write_L1_unf p _ _ _ ?_
    unfold B_i_Part_write_L1
    simp only[Int.lt_irrefl,decide_false,Bool.false_eq_true,if_false]
    have hs:=nWrite_size hP
    rw[List.take_length]
    refine⟨_,String1_ok _ (by rw[size_len];unfold nWrite at hs;omega),?_⟩
    apply str_ext;simp[nWrite]
  . rintro i a hi rfl
    refine .inr ⟨_,rfl,fun k=>?_⟩
    rw[wT_take hi]at k
    have hs:=wP_size hP i (by omega)
    generalize (p.fTypes.take i).foldl wT (hdP p)=a at *
    have ht:=h3 _ (List.getElem_mem hi)
    have hd:=hdT_size ht a
    obtain⟨n1,n2,n3,n4⟩:=ht
    have L2:C_i_Part_write_L2 p i p.fTypes[i] 0 (hdT a p.fTypes[i]).data.toList (nWrite p):=by
      refine range_inv (n:=p.fTypes[i].fFields.length) (a0:=(hdT a p.fTypes[i]).data.toList) (C:=fun a k=>C_i_Part_write_L2 p i p.fTypes[i] k a (nWrite p)) (fun k b=>b=((p.fTypes[i].fFields.take k).foldl fL (hdT a p.fTypes[i])).data.toList) rfl ?_ ?_
      . rintro b rfl
        refine i_Part_write_L2_unf p _ _ _ _ _ ?_
        unfold B_i_Part_write_L2
        simp only[Int.lt_irrefl,decide_false,Bool.false_eq_true,if_false]
        rw[List.take_length,wrap_succ hi (by unfold bigLen;omega)];exact k
      . rintro j b hj rfl
        refine .inr ⟨_,rfl,fun k2=>?_⟩
        rw[fL_take hj]at k2
        have hs2:=fL_size ⟨n1,n2,n3,n4⟩ (hdT a p.fTypes[i]) j (by omega)
        have hf:=n4 _ (List.getElem_mem hj)
        have hls:=line_size p.fTypes[i].fFields[j]
        have hf1:=hf.1
        refine i_Part_write_L2_unf p _ _ _ _ _ ?_
        unfold B_i_Part_write_L2
        simp only[Int.ofNat_lt,hj,decide_true,if_true]
        refine⟨_,⟨by omega,get_some hj⟩,_,i_Field_line_ok _ (by omega) hf.2,_,Write1_ok _ _ (by rw[size_len];omega),?_⟩
        rw[wrap_succ hj (by unfold bigLen;omega),<-app_data];exact k2
    refine i_Part_write_L1_unf p _ _ _ ?_
    unfold B_i_Part_write_L1
    simp only[Int.ofNat_lt,hi,decide_true,if_true]
    refine⟨_,⟨by omega,get_some hi⟩,by simp only[app_size,sz_mk,List.size_toArray,List.length_cons,List.length_nil];omega,_,Write1_ok _ _ (by rw[size_len];simp only[app_size,sz_mk,List.size_toArray,List.length_cons,List.length_nil];omega),?_⟩
    rw[<-app_data,<-app_assoc]
    unfold hdT at L2 hd
    by_cases c:(!(sEq p.fTypes[i].fKey sE))=true
    . rw[if_pos c]at L2 hd ⊢
      refine⟨by simp only[app_size,sz_mk,List.size_toArray,List.length_cons,List.length_nil];omega,_,Write1_ok _ _ (by rw[size_len];simp only[app_size,sz_mk,List.size_toArray,List.length_cons,List.length_nil];omega),?_⟩
      refine⟨_,Write1_ok _ _ (by rw[<-app_data,size_len];simp only[app_size,sz_mk,List.size_toArray,List.length_cons,List.length_nil];omega),fun _=>?_⟩
      rw[<-app_data,<-app_data,<-app_assoc];exact L2
    . rw[if_neg c]at L2 hd ⊢
      refine⟨_,Write1_ok _ _ (by rw[size_len];simp only[app_size,sz_mk,List.size_toArray,List.length_cons,List.length_nil];omega),fun _=>?_⟩
      rw[<-app_data];exact L2
set_option linter.unusedSimpArgs false
theorem first_bad (n:Nat) (bad:Nat->Prop):(∃i,i<n/\bad i/\∀j,j<i->¬bad j)\/∀i,i<n->¬bad i:=by
  induction n with
  | zero=>exact .inr fun i h=>by omega
  | succ n ih=>
    rcases ih with⟨i,h,hb,hj⟩ | h
    .exact .inl ⟨i,by omega,hb,hj⟩
    . by_cases hb:bad n
      .exact .inl ⟨n,by omega,hb,h⟩
      . refine .inr fun i hi=>?_
        by_cases e:i=n
        .subst e;exact hb
        .exact h i (by omega)
theorem to_bad {C:Int->Prop}{i:Nat}(h:C (i:Int)) (hs:∀j:Nat,j<i->C ((j+1:Nat):Int)->C (j:Int)):C 0:=by
  have key:∀k j:Nat,j+k=i->C (j:Int):=by
    intro k
    induction k with
    | zero=>
      intro j e;have:j=i:=by omega
      subst this;exact h
    | succ k ih=>intro j e;exact hs j (by omega) (ih (j+1) (by omega))
  exact key i 0 (by omega)
theorem scalar_size {s:Str}(h:nScalar s=true):s.size<=8:=by
  unfold nScalar at h
  simp only[sEq_iff,Bool.or_eq_true,decide_eq_true_eq]at h
  rcases h with (rfl | rfl) | rfl<;>simp[wInt,wText,wBool,sz_mk]
theorem tot_bound:∀ {xs:List Str},(∀x∈xs,x.size<=8)->tot xs<=9*xs.length
  | [],_=>by simp[tot]
  | x::r,h=>by
    have h1:=h x (by simp)
    have h2:=tot_bound (xs:=r) fun y hy=>h y (by simp[hy])
    simp only[tot,List.map_cons,List.sum_cons,List.length_cons]at *
    omega
theorem fit_of {t:Ty}(hb:bT t) (h:b1T t=false):fitT t:=by
  unfold b1T at h
  simp only[Bool.or_eq_false_iff,Bool.not_eq_false',Bool.and_eq_false_iff,bat,decide_eq_true_eq,List.any_eq_false]at h
  obtain⟨⟨⟨h1,h2⟩,h3⟩,h4⟩:=h
  refine⟨(name_size h1).2,?_,by omega,fun f hf=>?_⟩
  . rcases h2 with h2 | h2
    .simp only[sEq_iff,decide_eq_true_eq]at h2;rw[h2];simp[sE,sz_mk]
    .exact (name_size h2).2
  . have hn:=hb.2 f hf
    unfold bF at hn
    have hx:=h4 f hf
    unfold b1F at hx
    rw[Bool.not_eq_true]at hx
    simp only[Bool.or_eq_false_iff,Bool.not_eq_false',Bool.and_eq_false_iff,List.any_eq_false]at hx
    obtain⟨⟨hx1,hx2⟩,hx3⟩:=hx
    have t1:=tot_bound (xs:=f.fNeeds) fun s hs=>(name_size (by have:=hx3 s hs;revert this;cases nName s<;>simp)).2
    have s1:=name_size hx1
    have s2:f.fOf.size<=8:=by
      rcases hx2 with h | h
      .exact (name_size h).2
      .exact scalar_size h
    exact⟨by unfold szF;omega,by unfold bigLen;omega⟩
def q0 (p:Part):Bool:=match p.fTypes with
  | []=>true
  | t::_=>(!(sEq t.fName wQuery)) || (!(sEq t.fKey sE))
theorem q0_use {p:Part}{Q:Prop}{r:PartFault}(h7:q0 p=true->r=PartFault.mk 0 7) (h:q0 p=false->Q):
    ∃x2:Ty,(((p.fTypes.length:Int) == 0)=false->0<=(0:Int)/\p.fTypes[(0:Int).toNat]?=some x2)/\(∃x3:Ty,((((p.fTypes.length:Int) == 0) || (!(sEq x2.fName (⟨#[113,117,101,114,121]⟩:Str))))=false->0<=(0:Int)/\p.fTypes[(0:Int).toNat]?=some x3)/\(if ((((p.fTypes.length:Int) == 0) || (!(sEq x2.fName (⟨#[113,117,101,114,121]⟩:Str)))) || (!(sEq x3.fKey sE)))=true then (r=(PartFault.mk 0 7)) else Q)):=by
  unfold q0 at h7 h
  cases e:p.fTypes with
  | nil=>
    rw[e]at h7
    exact⟨zT,fun h=>by simp at h,zT,fun h=>by simp at h,by rw[if_pos (by simp)];exact h7 rfl⟩
  | cons t l=>
    rw[e]at h7 h
    simp only[]at h7 h
    have el:(((t::l).length:Int) == 0)=false:=by rw[beq_eq_false_iff_ne];simp only[List.length_cons];omega
    refine⟨t,fun _=>⟨by omega,by simp⟩,t,fun _=>⟨by omega,by simp⟩,?_⟩
    rw[el,Bool.false_or]
    by_cases c:((!(sEq t.fName wQuery)) || (!(sEq t.fKey sE)))=true
    .rw[if_pos (by unfold wQuery at c;exact c)];exact h7 c
    .rw[if_neg (by unfold wQuery at c;exact c)];exact h (by simpa using c)
def nbad (p:Part) (i:Nat):Prop:=∃hi:i<p.fTypes.length,nFault p i p.fTypes[i]≠0
theorem nF5_pos (p:Part) (i:Nat) (t:Ty):0<=nF5 p i t:=by unfold nF5;repeat' split<;>try omega
theorem nFault_pos (p:Part) (i:Nat) (t:Ty):0<=nFault p i t:=by have:=nF5_pos p i t;unfold nFault;split<;>(try split)<;>omega
theorem i_step {p:Part}{r:PartFault}(hl:p.fTypes.length<=bigLen){i:Nat}(hi:i<p.fTypes.length) (h1:nFault p i p.fTypes[i]≠0->r=⟨(i:Int)+1,nFault p i p.fTypes[i]⟩) (h2:nFault p i p.fTypes[i]=0->C_i_PartCheck_L1 p ((i+1:Nat):Int) r):C_i_PartCheck_L1 p i r:=by
  refine i_PartCheck_L1_unf p _ r ?_
  unfold B_i_PartCheck_L1
  simp only[Int.ofNat_lt,hi,decide_true,if_true]
  refine⟨_,i_Part_typeFault_ok p i hi,?_⟩
  have hp:=nFault_pos p i p.fTypes[i]
  rw[wrap_succ hi hl]
  by_cases c:nFault p i p.fTypes[i]=0
  .rw[c,if_neg (by simp)];exact h2 c
  .rw[if_pos (by simp;omega)];rw[h1 c];simp
theorem s_step {p:Part}{r:PartFault}(hl:p.fTypes.length<=bigLen){i:Nat}(hi:i<p.fTypes.length) (h1:nFault p i p.fTypes[i]≠0->r=⟨(i:Int)+1,nFault p i p.fTypes[i]⟩) (h2:nFault p i p.fTypes[i]=0->C_s_PartCheck_L1 ((i+1:Nat):Int) p r):C_s_PartCheck_L1 i p r:=by
  refine s_PartCheck_L1_unf _ p r fun _=>?_
  simp only[Int.ofNat_lt,hi,decide_true,if_true]
  refine⟨_,s_l2Fault_ok p i hi,?_⟩
  by_cases c:nF5 p i p.fTypes[i]=0
  . rw[c,if_neg (by simp)]
    have en:nFault p i p.fTypes[i]=if p.fTypes[i].fFields.any (fun f=>sEq f.fOf wQuery)=true then 7 else 0:=by unfold nFault;rw[if_neg (by simpa using c)]
    refine range_any (xs:=p.fTypes[i].fFields) (fun f=>sEq f.fOf wQuery) (C:=fun k=>C_s_PartCheck_L2 i k p r) ?_ ?_ ?_
    . intro k hk hb ha
      refine s_PartCheck_L2_unf _ _ p r ⟨_,⟨by omega,get_some hi⟩,fun _=>?_⟩
      simp only[Int.ofNat_lt,hk,decide_true,if_true]
      refine⟨_,⟨by omega,get_some hi⟩,_,⟨by omega,get_some hk⟩,?_⟩
      rw[if_pos (by unfold wQuery at hb;exact hb),wrap_succ hi hl]
      rw[ha,if_pos rfl]at en
      rw[h1 (by rw[en];omega),en];simp
    . intro k hk hb hc
      refine s_PartCheck_L2_unf _ _ p r ⟨_,⟨by omega,get_some hi⟩,fun hl2=>?_⟩
      simp only[Int.ofNat_lt,hk,decide_true,if_true]
      refine⟨_,⟨by omega,get_some hi⟩,_,⟨by omega,get_some hk⟩,?_⟩
      rw[if_neg (by unfold wQuery at hb;rw[hb];simp),wrap_succ hk hl2];exact hc
    . intro ha
      refine s_PartCheck_L2_unf _ _ p r ⟨_,⟨by omega,get_some hi⟩,fun hl2=>?_⟩
      simp only[Int.lt_irrefl,decide_false,Bool.false_eq_true,if_false]
      rw[wrap_succ hi hl]
      refine h2 ?_
      rw[en,ha];simp
  . rw[if_pos (by simpa using c),wrap_succ hi hl]
    have en:nFault p i p.fTypes[i]=nF5 p i p.fTypes[i]:=by unfold nFault;rw[if_pos c]
    rw[en]at h1
    rw[h1 c];simp
def okPart (p:Part):Prop:=fitP p/\nName p.fName=true/\q0 p=false/\∀i,(hi:i<p.fTypes.length)->nFault p i p.fTypes[i]=0
theorem PartCheck_ok (p:Part) (hb:bP p):∃r,S_i_PartCheck p r/\S_s_PartCheck p r/\(r.fCode=0->r.fAt=0/\okPart p):=by
  have hl:p.fTypes.length<=bigLen:=by have:=hb.1;unfold bigLen;omega
  by_cases h5:decide ((p.fTypes.length:Int)>5)=true
  .exact⟨⟨6,6⟩,i_PartCheck_unf p _ fun _=>by rw[if_pos h5],s_PartCheck_unf p _ fun _=>by rw[if_pos h5],fun h=>by simp at h⟩
  by_cases hn:(!(nName p.fName))=true
  . exact⟨⟨0,1⟩,i_PartCheck_unf p _ fun _=>by rw[if_neg h5];exact⟨_,i_isName_ok _,by rw[if_pos hn]⟩,
      s_PartCheck_unf p _ fun _=>by rw[if_neg h5];exact⟨_,s_l2Name_ok _,by rw[if_pos hn]⟩,fun h=>by simp at h⟩
  have key:∀r,(q0 p=true->r=PartFault.mk 0 7)->(q0 p=false->C_i_PartCheck_L1 p 0 r/\C_s_PartCheck_L1 0 p r)->S_i_PartCheck p r/\S_s_PartCheck p r:=by
    intro r h7 h
    constructor
    . refine i_PartCheck_unf p _ fun _=>?_
      rw[if_neg h5]
      refine⟨_,i_isName_ok _,?_⟩
      rw[if_neg hn]
      exact fun _=>q0_use h7 fun hq _=>(h hq).1
    . refine s_PartCheck_unf p _ fun _=>?_
      rw[if_neg h5]
      refine⟨_,s_l2Name_ok _,?_⟩
      rw[if_neg hn]
      exact fun _=>q0_use h7 fun hq=>(h hq).2
  by_cases hq:q0 p=true
  . obtain⟨a,b⟩:=key ⟨0,7⟩ (fun _=>rfl) (fun h=>by rw[hq]at h;cases h)
    exact⟨_,a,b,fun h=>by simp at h⟩
  rw[Bool.not_eq_true]at hq
  rcases first_bad p.fTypes.length (nbad p) with⟨i,hi,⟨_,hbad⟩,hj⟩ | hall
  . obtain⟨a,b⟩:=key ⟨(i:Int)+1,nFault p i p.fTypes[i]⟩ (fun h=>by rw[hq]at h;cases h) fun _=>by
      constructor
      . refine to_bad (C:=fun k=>C_i_PartCheck_L1 p k _) (i:=i) (i_step hl hi (fun _=>rfl) fun h=>absurd h hbad) fun j hji hc=>?_
        exact i_step hl (by omega) (fun h=>absurd ⟨by omega,h⟩ (hj j hji)) fun _=>hc
      . refine to_bad (C:=fun k=>C_s_PartCheck_L1 k p _) (i:=i) (s_step hl hi (fun _=>rfl) fun h=>absurd h hbad) fun j hji hc=>?_
        exact s_step hl (by omega) (fun h=>absurd ⟨by omega,h⟩ (hj j hji)) fun _=>hc
    exact⟨_,a,b,fun h=>absurd h hbad⟩
  . have hz:∀i,(hi:i<p.fTypes.length)->nFault p i p.fTypes[i]=0:=fun i hi=>Classical.byContradiction fun h=>hall i hi ⟨hi,h⟩
    have hfit:fitP p:=by
      refine⟨(name_size (by simpa using hn)).2,by simp at h5;omega,fun t ht=>?_⟩
      obtain⟨i,hi,e⟩:=List.mem_iff_getElem.1 ht
      subst e
      refine fit_of (hb.2 _ ht) ?_
      have h0:=hz i hi
      rw[<-Bool.not_eq_true]
      intro h1
      unfold nFault nF5 at h0
      rw[if_pos h1]at h0
      simp at h0
    obtain⟨a,b⟩:=key (if decide (((nWrite p).size:Int)>1500)=true then ⟨0,6⟩ else ⟨0,0⟩) (fun h=>by rw[hq]at h;cases h) fun _=>by
      constructor
      . refine range_ind (n:=p.fTypes.length) (C:=fun k=>C_i_PartCheck_L1 p k _) ?_ fun i hi hc=>i_step hl hi (fun h=>absurd (hz i hi) h) fun _=>hc
        refine i_PartCheck_L1_unf p _ _ ?_
        unfold B_i_PartCheck_L1
        simp only[Int.lt_irrefl,decide_false,Bool.false_eq_true,if_false]
        refine⟨_,i_Part_write_ok p hfit,fun _=>?_⟩
        split<;>rfl
      . refine range_ind (n:=p.fTypes.length) (C:=fun k=>C_s_PartCheck_L1 k p _) ?_ fun i hi hc=>s_step hl hi (fun h=>absurd (hz i hi) h) fun _=>hc
        refine s_PartCheck_L1_unf _ p _ fun _=>?_
        simp only[Int.lt_irrefl,decide_false,Bool.false_eq_true,if_false]
        refine⟨_,s_l2Write_ok p hfit,fun _=>?_⟩
        split<;>rfl
    refine⟨_,a,b,fun h=>?_⟩
    split at h
    .simp at h
    . rename_i c
      rw[if_neg c]
      exact⟨rfl,hfit,by simpa using hn,hq,hz⟩
theorem i_partOk_of {p:Part}{r:PartFault}(h:S_i_PartCheck p r) (h0:r.fCode=0->r.fAt=0):S_i_partOk p (r.fCode == 0):=by
  refine i_partOk_unf p _ ⟨r,h,?_⟩
  by_cases c:r.fCode=0
  .rw[c,h0 c];rfl
  . have e:(r.fCode == 0)=false:=beq_eq_false_iff_ne.2 c
    rw[e];simp
set_option linter.unusedSimpArgs false
theorem range_ex {A R:Type}{n:Nat}{C:A->Int->R->Prop}(I:Nat->A->Prop) (Q:R->Prop) (hend:∀a,I n a->∃r,C a n r/\Q r)
    (hstep:∀ (i:Nat) a,i<n->I i a->(∃r,C a i r/\Q r)\/∃a',I (i+1) a'/\∀r,C a' ((i+1:Nat):Int) r->C a i r){a0:A}(h0:I 0 a0):∃r,C a0 0 r/\Q r:=by
  have key:∀k (i:Nat) a,i+k=n->I i a->∃r,C a (i:Int) r/\Q r:=by
    intro k
    induction k with
    | zero=>
      intro i a h hi;have:i=n:=by omega
      subst this;exact hend a hi
    | succ k ih=>
      intro i a h hi
      rcases hstep i a (by omega) hi with h1 | ⟨a',h1,h2⟩
      .exact h1
      . obtain⟨r,hr,hq⟩:=ih (i+1) a' (by omega) h1
        exact⟨r,h2 r hr,hq⟩
  exact key n 0 a0 (by omega) h0
def nKey (s:Sel):Str:=if (!(sEq s.fAs sE))=true then s.fAs else s.fName
theorem i_Sel_under_ok (s:Sel):S_i_Sel_under s (nKey s):=by
  refine i_Sel_under_unf s _ ?_
  unfold B_i_Sel_under nKey;split<;>simp[*]
theorem s_l3Key_ok (s:Sel):S_s_l3Key s (nKey s):=by
  refine s_l3Key_unf s _ ?_
  unfold B_s_l3Key nKey;split<;>simp[*]
noncomputable def okSel (s:Sel):Bool:=(((nName s.fName)&&((sEq s.fAs sE) || ((nName s.fAs)&&(!(sEq s.fAs s.fName)))))&&((decide (s.fId>=0))&&(decide (s.fId<=999999))))&&(s.fOne || (s.fId == 0))
theorem i_Sel_ok_ok (s:Sel):S_i_Sel_ok s (okSel s):=i_Sel_ok_unf s _ ⟨_,i_isName_ok _,_,fun _ _=>i_isName_ok _,_,fun _=>i_in_ok _ _ _,rfl⟩
theorem i_unders_ok (xs:List Sel):S_i_unders xs (xs.map nKey):=by
  refine i_unders_unf xs _ fun hl=>?_
  refine range_inv (n:=xs.length) (a0:=[]) (C:=fun a i=>C_i_unders_L1 a xs i (xs.map nKey)) (fun i a=>a=(xs.take i).map nKey) (by simp) ?_ ?_
  . rintro a rfl
    refine i_unders_L1_unf _ xs _ _ ?_
    unfold B_i_unders_L1
    simp
  . rintro i a hi rfl
    refine .inr ⟨(xs.take i).map nKey++[nKey xs[i]],?_,fun h=>?_⟩
    .rw[List.take_add_one,List.getElem?_eq_getElem hi,List.map_append];rfl
    . refine i_unders_L1_unf _ xs _ _ ?_
      unfold B_i_unders_L1
      simp only[Int.ofNat_lt,hi,decide_true,if_true]
      refine⟨_,⟨by omega,get_some hi⟩,_,i_Sel_under_ok _,by simp;omega,?_⟩
      rw[wrap_succ hi hl];exact h
mutual
def cntS:Sel->Nat
  | ⟨_,_,_,_,ks⟩=>1+cntL ks
def cntL:List Sel->Nat
  | []=>0
  | x::r=>cntS x+cntL r
end
def ksum (xs:List Sel):Nat:=(xs.map fun x=>cntL x.fKids).sum
theorem cnt_sum:∀xs:List Sel,cntL xs=xs.length+ksum xs
  | []=>by simp[cntL,ksum]
  | ⟨a,b,c,d,ks⟩::r=>by
    have:=cnt_sum r
    simp only[cntL,cntS,ksum,List.map_cons,List.sum_cons,List.length_cons]at *
    omega
theorem ksum_take {xs:List Sel}{i:Nat}(hi:i<xs.length):ksum (xs.take (i+1))=ksum (xs.take i)+cntL xs[i].fKids:=by
  unfold ksum
  rw[List.take_add_one,List.getElem?_eq_getElem hi,List.map_append,List.sum_append];simp
theorem ksum_le (xs:List Sel) (i:Nat):ksum (xs.take i)<=ksum xs:=by
  have:ksum xs=ksum (xs.take i)+ksum (xs.drop i):=by
    unfold ksum
    rw[<-List.sum_append,<-List.map_append,List.take_append_drop]
  omega
inductive Good:Nat->List Sel->Prop
  | mk {lvl:Nat}{xs:List Sel}:(xs≠[]->lvl<=5)->¬twiceS (xs.map nKey)->(∀x∈xs,okSel x=true)->(∀x∈xs,Good (lvl+1) x.fKids)->Good lvl xs
theorem Good.nil (lvl:Nat):Good lvl [] := .mk (fun h=>absurd rfl h) (fun⟨i,hi,_⟩=>by simp at hi) (fun _ h=>by cases h) (fun _ h=>by cases h)
def topB (lvl:Nat):Nat:=25+(6-lvl)*137438953472
def QMany (xs:List Sel) (lvl:Nat) (y:Int):Prop:=0<=y/\y<=(topB lvl:Int)/\((Good lvl xs/\cntL xs<=24)->y=cntL xs)/\(¬(Good lvl xs/\cntL xs<=24)->25<=y)
theorem many_of (xs:List Sel) (hx:∀x∈xs,∀lvl,x.fKids≠[]->∃y,S_i_askMany x.fKids (lvl:Nat) y/\QMany x.fKids lvl y) (lvl:Nat) (hne:xs≠[]\/lvl<=5):∃y,S_i_askMany xs lvl y/\QMany xs lvl y:=by
  by_cases hc:((((decide ((lvl:Int)>5)) || ask (twiceS (xs.map nKey))) || xs.any (fun s => !(okSel s))))=true
  . refine⟨25,i_askMany_unf xs lvl _ ⟨_,fun _=>i_unders_ok xs,_,fun _=>i_twice_ok _,_,fun _=>slices_ContainsFunc_Sel_ok xs _ (fun s => !(okSel s)) (fun x _=>AB.clo (i_askMany_1_unf x _ ⟨_,i_Sel_ok_ok x,rfl⟩)),?_⟩,by omega,by unfold topB;omega,fun⟨h,_⟩=>?_,fun _=>by omega⟩
    .rw[if_pos hc]
    . exfalso
      cases h with
      | mk h1 h2 h3 h4=>
        simp only[Bool.or_eq_true,decide_eq_true_eq,ask_iff,List.any_eq_true,Bool.not_eq_true']at hc
        rcases hc with (h | h) | ⟨x,hx,h⟩
        . rcases hne with hn | hn
          .have:=h1 hn;omega
          .omega
        .exact h2 h
        .rw[h3 x hx]at h;cases h
  . have hc':=hc
    simp only[Bool.or_eq_true,decide_eq_true_eq,ask_iff,List.any_eq_true,Bool.not_eq_true',not_or,not_exists,not_and]at hc'
    obtain⟨⟨c1,c2⟩,c3⟩:=hc'
    have big:bigLen<=68719476736:=by unfold bigLen;omega
    by_cases hbig:xs.length<=bigLen
    rotate_left
    . by_cases G:Good lvl xs/\cntL xs<=24
      .exact absurd (by have:=cnt_sum xs;unfold bigLen;omega) hbig
      . refine⟨25,i_askMany_unf xs lvl _ ⟨_,fun _=>i_unders_ok xs,_,fun _=>i_twice_ok _,_,fun _=>slices_ContainsFunc_Sel_ok xs _ (fun s => !(okSel s)) (fun x _=>AB.clo (i_askMany_1_unf x _ ⟨_,i_Sel_ok_ok x,rfl⟩)),?_⟩,by omega,by unfold topB;omega,fun h=>absurd h G,fun _=>by omega⟩
        rw[if_neg hc]
        exact fun h=>absurd h hbig
    have L:=range_ex (n:=xs.length) (C:=fun v i r=>C_i_askMany_L1 (lvl:Int) v xs i r) (fun i (v:Int)=>v=xs.length+ksum (xs.take i)/\(∀j,(hj:j<xs.length)->j<i->Good (lvl+1) xs[j].fKids)/\(0<i->v<=24)) (QMany xs lvl) ?_ ?_ (a0:=(xs.length:Int)) ⟨by simp[ksum],fun j _ h=>by omega,fun h=>by omega⟩
    . obtain⟨r,h1,h2⟩:=L
      refine⟨r,i_askMany_unf xs lvl _ ⟨_,fun _=>i_unders_ok xs,_,fun _=>i_twice_ok _,_,fun _=>slices_ContainsFunc_Sel_ok xs _ (fun s => !(okSel s)) (fun x _=>AB.clo (i_askMany_1_unf x _ ⟨_,i_Sel_ok_ok x,rfl⟩)),?_⟩,h2⟩
      rw[if_neg hc]
      exact fun _ _=>h1
    . rintro v ⟨hv,hg,hle⟩
      rw[List.take_length]at hv
      have hgood:Good lvl xs := .mk (fun _=>by omega) c2 (fun x hx=>by have:=c3 x hx;revert this;cases okSel x<;>simp) (ball_of fun i hi=>hg i hi hi)
      have e:=cnt_sum xs
      have h24:v<=24:=by
        rcases Nat.eq_zero_or_pos xs.length with h0 | h0
        . have:xs=[]:=List.length_eq_zero_iff.1 h0
          subst this;simp[ksum]at hv;omega
        .exact hle h0
      refine⟨v,?_,by omega,by unfold topB;omega,fun _=>by omega,fun h=>absurd ⟨hgood,by omega⟩ h⟩
      refine i_askMany_L1_unf _ _ xs _ _ ?_
      unfold B_i_askMany_L1
      rw[if_neg (by simp)];rfl
    . rintro i v hi ⟨hv,hg,hle⟩
      have e:=cnt_sum xs
      have ek:=ksum_take hi
      have ele:=ksum_le xs (i+1)
      have inr:∀y:Int,0<=y->y<=(topB (lvl+1):Int)->((Good (lvl+1) xs[i].fKids/\cntL xs[i].fKids<=24)->y=cntL xs[i].fKids)->(¬(Good (lvl+1) xs[i].fKids/\cntL xs[i].fKids<=24)->25<=y) ->
          (∀r,B_i_askMany_J2 (lvl:Int) (v+y) xs i r->C_i_askMany_L1 (lvl:Int) v xs i r) ->
          (∃r,C_i_askMany_L1 (lvl:Int) v xs i r/\QMany xs lvl r)\/∃a':Int,(a'=xs.length+ksum (xs.take (i+1))/\(∀j,(hj:j<xs.length)->j<i+1->Good (lvl+1) xs[j].fKids)/\(0<i+1->a'<=24))/\∀r,C_i_askMany_L1 (lvl:Int) a' xs ((i+1:Nat):Int) r->C_i_askMany_L1 (lvl:Int) v xs i r:=by
        intro y y0 yb yg yn hJ
        have hvb:v<=68719476736+24:=by
          rcases Nat.eq_zero_or_pos i with h | h
          .subst h;simp[ksum]at hv;omega
          .have:=hle h;omega
        by_cases h24:v+y>24
        . refine .inl ⟨v+y,hJ _ ?_,by omega,?_,fun⟨hG,hc24⟩=>?_,fun _=>by omega⟩
          . unfold B_i_askMany_J2
            rw[if_pos (by simpa using h24)];rfl
          . unfold topB at yb ⊢
            have:6-lvl=(6-(lvl+1))+1:=by omega
            rw[this];omega
          . exfalso
            cases hG with
            | mk h1 h2 h3 h4=>
              have:=yg ⟨h4 _ (List.getElem_mem hi),by omega⟩
              omega
        . have hk:Good (lvl+1) xs[i].fKids/\cntL xs[i].fKids<=24:=Classical.byContradiction fun h=>by have:=yn h;omega
          have ey:=yg hk
          refine .inr ⟨v+y,⟨by omega,fun j hj hji=>?_,fun _=>by omega⟩,fun r h=>hJ r ?_⟩
          . by_cases ej:j=i
            .subst ej;exact hk.1
            .exact hg j hj (by omega)
          . unfold B_i_askMany_J2
            rw[if_neg (by simpa using h24),wrap_succ hi hbig];exact h
      by_cases hk:xs[i].fKids=[]
      . refine inr 0 (by omega) (by omega) (fun _=>by rw[hk];rfl) (fun h=>absurd ⟨by rw[hk];exact Good.nil _,by rw[hk];simp[cntL]⟩ h) fun r h=>?_
        refine i_askMany_L1_unf _ _ xs _ _ ?_
        unfold B_i_askMany_L1
        simp only[Int.ofNat_lt,hi,decide_true,if_true]
        refine⟨_,⟨by omega,get_some hi⟩,fun _=>?_⟩
        rw[if_neg (by rw[hk];simp)]
        rw[Int.add_zero]at h;exact h
      . obtain⟨y,hy,y0,yb,yg,yn⟩:=hx _ (List.getElem_mem hi) (lvl+1) hk
        refine inr y y0 yb yg yn fun r h=>?_
        refine i_askMany_L1_unf _ _ xs _ _ ?_
        unfold B_i_askMany_L1
        simp only[Int.ofNat_lt,hi,decide_true,if_true]
        refine⟨_,⟨by omega,get_some hi⟩,fun _=>?_⟩
        rw[if_pos (by simp only[decide_eq_true_eq];have:=List.length_pos_iff.2 hk;omega)]
        rw[wrap_in (by omega) (by omega)]
        refine⟨y,hy,?_⟩
        have hvb:v<=68719476736+24:=by
          rcases Nat.eq_zero_or_pos i with h | h
          .subst h;simp[ksum]at hv;omega
          .have:=hle h;omega
        have tb:topB (lvl+1)<=25+6*137438953472:=by unfold topB;omega
        rw[wrap_in (by omega) (by omega)]
        exact h
set_option linter.unusedSimpArgs false
theorem kids_all {P:List Sel->Prop}(h:∀xs:List Sel,(∀x∈xs,P x.fKids)->P xs) (xs:List Sel):P xs:=
  h xs fun x _=>sel_ind' (P:=fun s=>P s.fKids) (fun s ih=>h s.fKids fun k hk=>ih k hk) x
theorem i_askMany_ok (xs:List Sel):∀lvl:Nat,(xs≠[]\/lvl<=5)->∃y,S_i_askMany xs lvl y/\QMany xs lvl y:=
  kids_all (P:=fun xs=>∀lvl:Nat,(xs≠[]\/lvl<=5)->∃y,S_i_askMany xs lvl y/\QMany xs lvl y) (fun xs hx lvl hne=>many_of xs (fun x hm l hk=>hx x hm l (.inl hk)) lvl hne) xs
def dupAt (xs:List Sel) (i:Nat):Prop:=∃hi:i<xs.length,(xs.take i).any (fun x=>sEq (nKey x) (nKey xs[i]))=true
theorem twice_dup (xs:List Sel):twiceS (xs.map nKey)↔∃i,dupAt xs i:=by
  unfold twiceS dupAt
  constructor
  . rintro ⟨i,hi,h⟩
    rw[List.length_map]at hi
    refine⟨i,hi,?_⟩
    rw[<-List.map_take,List.any_map]at h
    simp only[List.getElem_map]at h
    simpa[Function.comp_def,sEq_comm]using h
  . rintro ⟨i,hi,h⟩
    refine⟨i,by simpa using hi,?_⟩
    rw[<-List.map_take,List.any_map]
    simp only[List.getElem_map]
    simpa[Function.comp_def,sEq_comm]using h
theorem notOk (s:Sel):((((!(nName s.fName)) || ((!(sEq s.fAs sE))&&((!(nName s.fAs)) || (sEq s.fAs s.fName)))) || ((!s.fOne)&&(s.fId != 0))) || (!((decide (s.fId>=0))&&(decide (s.fId<=999999))))) = !(okSel s):=by
  unfold okSel
  rw[show (s.fId != 0) = !(s.fId == 0) from rfl]
  cases nName s.fName<;>cases sEq s.fAs sE<;>cases nName s.fAs<;>cases sEq s.fAs s.fName<;>cases s.fOne<;>cases (s.fId == 0)<;>cases decide (s.fId>=0)<;>cases decide (s.fId<=999999)<;>rfl
def QOk (xs:List Sel) (lvl:Nat) (room:Int) (y:Int):Prop:=((Good lvl xs/\(cntL xs:Int)<=room)->y=room-cntL xs)/\(¬(Good lvl xs/\(cntL xs:Int)<=room)->y<0)
theorem l3L2 {xs:List Sel}{lvl:Int}{v:Int}{i:Nat}(hi:i<xs.length) (hl:xs.length<=bigLen){r:Int}(h1:dupAt xs i->r = -1) (h2:¬dupAt xs i->∃y8:Int,(S_s_l3Ok xs[i].fKids (IntKind.i64.wrap (lvl+1)) (IntKind.i64.wrap (v-1)) y8)/\(C_s_l3Ok_L1 xs lvl y8 (IntKind.i64.wrap ((i:Int)+1)) r)):C_s_l3Ok_L2 xs lvl v i 0 xs[i] r:=by
  have el:(xs.take i).length=i:=by rw[List.length_take];omega
  have hdup:dupAt xs i↔(xs.take i).any (fun x=>sEq (nKey x) (nKey xs[i]))=true:=⟨fun⟨_,h⟩=>h,fun h=>⟨hi,h⟩⟩
  have R:=range_any (xs:=xs.take i) (fun x=>sEq (nKey x) (nKey xs[i])) (C:=fun j=>C_s_l3Ok_L2 xs lvl v i j xs[i] r) ?_ ?_ ?_
  .exact R
  . intro j hj hb ha
    have hj':j<i:=by omega
    refine s_l3Ok_L2_unf xs _ _ _ _ _ r ?_
    unfold B_s_l3Ok_L2
    rw[if_pos (by simpa using hj')]
    refine⟨_,⟨by omega,get_some (by omega)⟩,_,s_l3Key_ok _,_,s_l3Key_ok _,?_⟩
    rw[List.getElem_take]at hb
    rw[if_pos hb];exact h1 (hdup.2 ha)
  . intro j hj hb hc
    have hj':j<i:=by omega
    refine s_l3Ok_L2_unf xs _ _ _ _ _ r ?_
    unfold B_s_l3Ok_L2
    rw[if_pos (by simpa using hj')]
    refine⟨_,⟨by omega,get_some (by omega)⟩,_,s_l3Key_ok _,_,s_l3Key_ok _,?_⟩
    rw[List.getElem_take]at hb
    rw[if_neg (by rw[hb];simp),wrap_succ (n:=xs.length) (by omega) hl];exact hc
  . intro ha
    refine s_l3Ok_L2_unf xs _ _ _ _ _ r ?_
    unfold B_s_l3Ok_L2
    rw[el,if_neg (by simp)]
    exact h2 (fun h=>by rw[hdup.1 h]at ha;cases ha)
theorem l3Ok_of (xs:List Sel) (hx:∀x∈xs,∀ (lvl:Nat) (room:Int),lvl<=7->room<=24->∃y,S_s_l3Ok x.fKids (lvl:Nat) room y/\QOk x.fKids lvl room y) (lvl:Nat) (room:Int) (h7:lvl<=7) (hr:room<=24):∃y,S_s_l3Ok xs lvl room y/\QOk xs lvl room y:=by
  have esum:=cnt_sum xs
  by_cases hl:xs.length<=bigLen
  rotate_left
  . refine⟨-1,s_l3Ok_unf xs _ _ _ fun h=>absurd h hl,fun⟨_,h⟩=>?_,fun _=>by omega⟩
    unfold bigLen at hl;omega
  by_cases hc:((decide ((xs.length:Int)>0))&&(decide ((lvl:Int)>5)))=true
  . refine⟨-1,s_l3Ok_unf xs _ _ _ fun _=>by rw[if_pos hc],fun⟨h,_⟩=>?_,fun _=>by omega⟩
    simp only[bat,decide_eq_true_eq]at hc
    cases h with
    | mk h1 _ _ _=>have:=h1 (List.length_pos_iff.1 (by omega));omega
  have hc':xs≠[]->lvl<=5:=by
    intro h
    simp only[bat,decide_eq_true_eq]at hc
    have:=List.length_pos_iff.2 h
    omega
  have done:∀v:Int,∀i:Int,v<0->C_s_l3Ok_L1 xs lvl v i v:=fun v i h=>s_l3Ok_L1_unf xs _ _ _ _ fun _=>by rw[if_neg (by simp;omega)]
  have L:=range_ex (n:=xs.length) (C:=fun v i r=>C_s_l3Ok_L1 xs lvl v i r) (fun i (v:Int)=>(v=room-i-ksum (xs.take i)/\(i=0\/0<=v))/\∀j,(hj:j<xs.length)->j<i->((okSel xs[j]=true/\Good (lvl+1) xs[j].fKids)/\¬dupAt xs j)) (QOk xs lvl room) ?_ ?_ (a0:=room) ⟨⟨by simp[ksum],.inl rfl⟩,fun j _ h=>by omega⟩
  . obtain⟨r,h1,h2⟩:=L
    exact⟨r,s_l3Ok_unf xs _ _ _ fun _=>by rw[if_neg hc];exact h1,h2⟩
  . rintro v ⟨⟨hv,h0⟩,hg⟩
    rw[List.take_length]at hv
    have hgood:Good lvl xs := .mk hc' (by rw[twice_dup];rintro ⟨i,hd⟩;exact (hg i hd.1 hd.1).2 hd) (ball_of fun i hi=>(hg i hi hi).1.1) (ball_of fun i hi=>(hg i hi hi).1.2)
    refine⟨v,s_l3Ok_L1_unf xs _ _ _ _ fun _=>by rw[if_neg (by simp)],fun _=>by omega,fun h=>?_⟩
    have:¬(cntL xs:Int)<=room:=fun h2=>h ⟨hgood,h2⟩
    omega
  . rintro i v hi ⟨⟨hv,h0⟩,hg⟩
    have ek:=ksum_take hi
    have ele:=ksum_le xs (i+1)
    by_cases hneg:v<0
    . refine .inl ⟨v,done v i hneg,fun⟨_,h⟩=>?_,fun _=>hneg⟩
      have:=ksum_le xs i
      omega
    have hi':((decide ((i:Int)<(xs.length:Int)))&&(decide (v>=0)))=true:=by simp;omega
    by_cases hok:okSel xs[i]=true
    rotate_left
    . refine .inl ⟨-1,s_l3Ok_L1_unf xs _ _ _ _ fun _=>?_,fun⟨h,_⟩=>?_,fun _=>by omega⟩
      . rw[if_pos hi']
        refine⟨_,⟨by omega,get_some hi⟩,_,s_l2Name_ok _,_,fun _ _=>s_l2Name_ok _,_,fun _=>s_l1In_ok _ _ _,?_⟩
        rw[if_pos (by rw[notOk];simpa using hok)]
      . cases h with
        | mk _ _ h3 _=>exact absurd (h3 _ (List.getElem_mem hi)) hok
    have step:∀r,C_s_l3Ok_L2 xs lvl v i 0 xs[i] r->C_s_l3Ok_L1 xs lvl v i r:=fun r h=>s_l3Ok_L1_unf xs _ _ _ _ fun _=>by
      rw[if_pos hi']
      refine⟨_,⟨by omega,get_some hi⟩,_,s_l2Name_ok _,_,fun _ _=>s_l2Name_ok _,_,fun _=>s_l1In_ok _ _ _,?_⟩
      rw[if_neg (by rw[notOk,hok];simp)];exact h
    by_cases hd:dupAt xs i
    . refine .inl ⟨-1,step _ (l3L2 hi hl (fun _=>rfl) fun h=>absurd hd h),fun⟨h,_⟩=>?_,fun _=>by omega⟩
      cases h with
      | mk _ h2 _ _=>exact absurd ((twice_dup xs).2 ⟨i,hd⟩) h2
    have hl5:=hc' (List.length_pos_iff.1 (by omega))
    obtain⟨y,hy,yg,yn⟩:=hx _ (List.getElem_mem hi) (lvl+1) (v-1) (by omega) (by omega)
    have hyS:S_s_l3Ok xs[i].fKids (IntKind.i64.wrap ((lvl:Int)+1)) (IntKind.i64.wrap (v-1)) y:=by
      rw[wrap_in (by omega) (by omega),wrap_in (by omega) (by omega)]
      exact hy
    by_cases hG:Good (lvl+1) xs[i].fKids/\(cntL xs[i].fKids:Int)<=v-1
    . have ey:=yg hG
      refine .inr ⟨y,⟨⟨by omega,.inr (by omega)⟩,fun j hj hji=>?_⟩,fun r h=>step r (l3L2 hi hl (fun h=>absurd h hd) fun _=>⟨y,hyS,by rw[wrap_succ hi hl];exact h⟩)⟩
      by_cases ej:j=i
      .subst ej;exact⟨⟨hok,hG.1⟩,hd⟩
      .exact hg j hj (by omega)
    . have yneg:=yn hG
      refine .inl ⟨y,step y (l3L2 hi hl (fun h=>absurd h hd) fun _=>⟨y,hyS,done y _ yneg⟩),fun⟨h,hle⟩=>?_,fun _=>yneg⟩
      cases h with
      | mk _ _ _ h4=>exact absurd ⟨h4 _ (List.getElem_mem hi),by omega⟩ hG
theorem s_l3Ok_ok (xs:List Sel):∀ (lvl:Nat) (room:Int),lvl<=7->room<=24->∃y,S_s_l3Ok xs lvl room y/\QOk xs lvl room y:=
  kids_all (P:=fun xs=>∀ (lvl:Nat) (room:Int),lvl<=7->room<=24->∃y,S_s_l3Ok xs lvl room y/\QOk xs lvl room y) (fun xs hx=>l3Ok_of xs hx) xs
set_option linter.unusedSimpArgs false
theorem u8_digit (k:Nat) (h:k<10):u8of (IntKind.i64.wrap (48+(k:Int)))=UInt8.ofNat (48+k):=by
  rw[wrap_in (by omega) (by omega)]
  unfold u8of
  congr 1
  have:IntKind.u8.wrap (48+(k:Int))=48+k:=by
    simp only[IntKind.wrap,IntKind.bits,IntKind.signed]
    simp;omega
  rw[this];omega
theorem dec_size:∀ (k u:Nat),u<10^(k+1)->(Lib.decDigits u).length<=k+1
  | 0,u,h=>by rw[Lib.decDigits_one (by omega)];simp
  | k+1,u,h=>by
    rw[Lib.decDigits]
    split
    .simp
    . have:=dec_size k (u/10) (by rw[Nat.pow_succ]at h;omega)
      simp only[List.length_append,List.length_cons,List.length_nil];omega
theorem itoa_data (n:Nat):(itoaS n).data.toList=Lib.decDigits n:=by
  unfold itoaS Lib.itoa
  rw[if_neg (by omega)];simp
theorem itoa_size (n:Nat) (h:n<=999999):(itoaS n).size<=6:=by
  rw[<-size_len,itoa_data];exact dec_size 5 n (by omega)
theorem s_l1Dec_ok:∀n:Nat,n<=999999->S_s_l1Dec n (itoaS n):=by
  intro n
  induction n using Nat.strongRecOn with
  | ind n ih=>
    intro hn
    refine s_l1Dec_unf n _ ?_
    unfold B_s_l1Dec
    rw[if_neg (by simp<;>omega),if_neg (by simp)]
    by_cases h:n<10
    . rw[if_pos (by simp;omega),u8_digit n h]
      apply str_ext
      rw[itoa_data,Lib.decDigits_one h]
    . rw[if_neg (by simp;omega)]
      have e1:(n:Int).tdiv 10=((n/10:Nat):Int):=by rw[Int.tdiv_eq_ediv_of_nonneg (by omega)];omega
      have e2:(n:Int).tmod 10=((n%10:Nat):Int):=by rw[Int.tmod_eq_emod_of_nonneg (by omega)];omega
      rw[e1,e2,wrap_in (by omega) (by omega),u8_digit _ (by omega)]
      have hs:=itoa_size (n/10) (by omega)
      refine⟨_,ih (n/10) (by omega) (by omega),by simp only[sz_mk,List.size_toArray,List.length_cons,List.length_nil];unfold bigStr;omega,?_⟩
      apply str_ext
      rw[app_data,itoa_data,itoa_data,Lib.decDigits,dif_neg h]
theorem join_snoc (sep y:Str):∀xs:List Str,joinS (xs++[y]) sep=if xs=[] then y else (joinS xs sep++sep)++y
  | []=>by rw[if_pos rfl];exact joinS_one y sep
  | [x]=>by rw[if_neg (by simp),List.cons_append,List.nil_append,joinS_cons,joinS_one,joinS_one]
  | x::z::r=>by
    have ih:=join_snoc sep y (z::r)
    rw[if_neg (by simp)]at ih
    rw[if_neg (by simp),List.cons_append,List.cons_append,joinS_cons,<-List.cons_append,ih,joinS_cons]
    simp only[app_assoc]
def preT (s:Sel):Str:=if (!(sEq s.fAs sE))=true then ((s.fAs++(⟨#[58]⟩:Str))++s.fName) else s.fName
def oneT (s:Sel):Str:=if s.fOne=true then preT s++(((⟨#[40]⟩:Str)++itoaS s.fId)++(⟨#[41]⟩:Str)) else preT s
def txT (s:Sel) (y:Str):Str:=if decide ((s.fKids.length:Int)>0)=true then oneT s++y else oneT s
theorem okSel_parts {s:Sel}(h:okSel s=true):s.fName.size<=8/\s.fAs.size<=8/\0<=s.fId/\s.fId<=999999:=by
  unfold okSel at h
  simp only[bat,Bool.or_eq_true,decide_eq_true_eq,sEq_iff]at h
  obtain⟨⟨⟨h1,h2⟩,h3⟩,_⟩:=h
  refine⟨(name_size h1).2,?_,by omega,by omega⟩
  rcases h2 with h2 | h2
  .rw[h2];simp[sE,sz_mk]
  .exact (name_size h2.1).2
theorem pre_size {s:Sel}(h:okSel s=true):(preT s).size<=17:=by
  have:=okSel_parts h
  unfold preT;split<;>(try simp only[app_size,sz_mk,List.size_toArray,List.length_cons,List.length_nil])<;>omega
theorem id_size {s:Sel}(h:okSel s=true):(itoaS s.fId).size<=6:=by
  have h1:=okSel_parts h
  have:s.fId=((s.fId.toNat:Nat):Int):=by omega
  rw[this];exact itoa_size _ (by omega)
theorem one_size {s:Sel}(h:okSel s=true):(oneT s).size<=25:=by
  have:=pre_size h;have:=id_size h
  unfold oneT;split<;>(try simp only[app_size,sz_mk,List.size_toArray,List.length_cons,List.length_nil])<;>omega
theorem tx_size {s:Sel}{y:Str}(h:okSel s=true) (hy:y.size<=40*cntL s.fKids+2):(txT s y).size<=27+40*cntL s.fKids:=by
  have:=one_size h
  unfold txT;split<;>(try simp only[app_size])<;>omega
theorem tot_tx {g:Sel->Str}:∀ {xs:List Sel},(∀x∈xs,okSel x=true/\(g x).size<=40*cntL x.fKids+2)->tot (xs.map fun x=>txT x (g x))<=40*cntL xs
  | [],_=>by simp[tot]
  | x::r,h=>by
    have ih:=tot_tx (xs:=r) fun y hy=>h y (by simp[hy])
    have h1:=h x (by simp)
    have h2:=tx_size h1.1 h1.2
    have hc:cntL (x::r)=1+cntL x.fKids+cntL r:=by cases x;simp[cntL,cntS]
    simp only[tot,List.map_cons,List.sum_cons]at ih ⊢
    rw[hc];omega
def TText (xs:List Sel):Prop:=∀lvl,Good lvl xs->cntL xs<=24->∃y,S_i_askText xs y/\S_s_l3Write xs y/\y.size<=40*cntL xs+2
theorem text_of (xs:List Sel) (hx:∀x∈xs,TText x.fKids):TText xs:=by
  intro lvl hG hc
  have big:bigStr=68719476736:=rfl
  have esum:=cnt_sum xs
  obtain⟨_,_,hok,hkids⟩:(xs≠[]->lvl<=5)/\(¬twiceS (xs.map nKey))/\(∀x∈xs,okSel x=true)/\(∀x∈xs,Good (lvl+1) x.fKids):=by cases hG with | mk a b c d=>exact⟨a,b,c,d⟩
  have hck:∀x∈xs,cntL x.fKids<=24:=ball_of fun i hi=>by have:=ksum_take hi;have:=ksum_le xs (i+1);omega
  obtain⟨g,hg⟩:∃g:Sel->Str,∀x,x∈xs->S_i_askText x.fKids (g x)/\S_s_l3Write x.fKids (g x)/\(g x).size<=40*cntL x.fKids+2:=
    Classical.axiomOfChoice (r:=fun x y=>x∈xs->S_i_askText x.fKids y/\S_s_l3Write x.fKids y/\y.size<=40*cntL x.fKids+2) fun x=>by
      by_cases h:x∈xs
      . obtain⟨y,a,b,c⟩:=hx x h (lvl+1) (hkids x h) (hck x h)
        exact⟨y,fun _=>⟨a,b,c⟩⟩
      .exact⟨sE,fun h2=>absurd h2 h⟩
  have htot:=tot_tx (g:=g) (xs:=xs) fun x hx=>⟨hok x hx,(hg x hx).2.2⟩
  have hlen:xs.length<=bigLen:=by unfold bigLen;omega
  have hj:=join_size (⟨#[44]⟩:Str) rfl (xs.map fun x=>txT x (g x))
  have htake:∀i,tot ((xs.take i).map fun x=>txT x (g x))<=tot (xs.map fun x=>txT x (g x)):=fun i=>by
    rw[List.map_take];exact tot_le _ i
  have hjt:∀i,(joinS ((xs.take i).map fun x=>txT x (g x)) (⟨#[44]⟩:Str)).size<=40*cntL xs:=fun i=>by
    have:=join_size (⟨#[44]⟩:Str) rfl ((xs.take i).map fun x=>txT x (g x))
    have:=htake i
    omega
  have hsnoc:∀i,(hi:i<xs.length)->(xs.take (i+1)).map (fun x=>txT x (g x))=(xs.take i).map (fun x=>txT x (g x))++[txT xs[i] (g xs[i])]:=fun i hi=>by
    rw[List.take_add_one,List.getElem?_eq_getElem hi,List.map_append];rfl
  obtain⟨R,hR⟩:∃R:Str,R=(((⟨#[123]⟩:Str)++joinS (xs.map fun x=>txT x (g x)) (⟨#[44]⟩:Str))++(⟨#[125]⟩:Str)):=⟨_,rfl⟩
  refine⟨R,?_,?_,?_⟩
  . refine i_askText_unf xs _ fun _=>?_
    refine range_inv (n:=xs.length) (a0:=[]) (C:=fun a i=>C_i_askText_L1 a xs i R) (fun i a=>a=(xs.take i).map fun x=>txT x (g x)) (by simp) ?_ ?_
    . rintro a rfl
      refine i_askText_L1_unf _ xs _ _ ?_
      unfold B_i_askText_L1
      rw[if_neg (by simp),List.take_length]
      refine⟨_,strings_Join_ok _ _ (by rw[List.length_map];exact hlen) (by omega),by simp only[sz_mk,List.size_toArray,List.length_cons,List.length_nil];omega,by simp only[app_size,sz_mk,List.size_toArray,List.length_cons,List.length_nil];omega,hR⟩
    . rintro i a hi rfl
      have hoki:=hok _ (List.getElem_mem hi)
      obtain⟨gi,_,gz⟩:=hg _ (List.getElem_mem hi)
      have hp:=okSel_parts hoki
      have hps:=pre_size hoki
      have hos:=one_size hoki
      have his:=id_size hoki
      have hcki:=hck _ (List.getElem_mem hi)
      refine .inr ⟨_,rfl,fun k=>?_⟩
      rw[hsnoc i hi]at k
      have J3:B_i_askText_J3 ((xs.take i).map fun x=>txT x (g x)) (txT xs[i] (g xs[i])) xs i R:=⟨by simp;omega,by rw[wrap_succ hi hlen];exact k⟩
      have J2:B_i_askText_J2 ((xs.take i).map fun x=>txT x (g x)) (oneT xs[i]) xs i xs[i] R:=fun _=>by
        unfold txT at J3
        by_cases c:decide ((xs[i].fKids.length:Int)>0)=true
        .rw[if_pos c];rw[if_pos c]at J3;exact⟨_,gi,by omega,J3⟩
        .rw[if_neg c];rw[if_neg c]at J3;exact J3
      have J1:B_i_askText_J1 ((xs.take i).map fun x=>txT x (g x)) (preT xs[i]) xs i xs[i] R:=by
        unfold B_i_askText_J1
        unfold oneT at J2
        by_cases c:xs[i].fOne=true
        . rw[if_pos c]at J2 ⊢
          refine⟨_,strconv_Itoa_ok _ (by omega) (by omega),by simp only[sz_mk,List.size_toArray,List.length_cons,List.length_nil];omega,by simp only[app_size,sz_mk,List.size_toArray,List.length_cons,List.length_nil];omega,by simp only[app_size,sz_mk,List.size_toArray,List.length_cons,List.length_nil];omega,J2⟩
        .rw[if_neg c]at J2 ⊢;exact J2
      refine i_askText_L1_unf _ xs _ _ ?_
      unfold B_i_askText_L1
      rw[if_pos (by simpa using hi)]
      refine⟨_,⟨by omega,get_some hi⟩,?_⟩
      unfold preT at J1
      by_cases c:(!(sEq xs[i].fAs sE))=true
      .rw[if_pos c]at J1 ⊢;exact⟨by simp only[sz_mk,List.size_toArray,List.length_cons,List.length_nil];omega,by simp only[app_size,sz_mk,List.size_toArray,List.length_cons,List.length_nil];omega,J1⟩
      .rw[if_neg c]at J1 ⊢;exact J1
  . refine s_l3Write_unf xs _ ?_
    refine range_inv (n:=xs.length) (a0:=(⟨#[123]⟩:Str)) (C:=fun a i=>C_s_l3Write_L1 xs a i R) (fun i a=>a=(⟨#[123]⟩:Str)++joinS ((xs.take i).map fun x=>txT x (g x)) (⟨#[44]⟩:Str)) (by simp[joinS_nil];rfl) ?_ ?_
    . rintro a rfl
      refine s_l3Write_L1_unf xs _ _ _ fun _=>?_
      rw[if_neg (by simp),List.take_length]
      exact⟨by simp only[app_size,sz_mk,List.size_toArray,List.length_cons,List.length_nil];omega,hR⟩
    . rintro i a hi rfl
      have hoki:=hok _ (List.getElem_mem hi)
      obtain⟨_,gs,gz⟩:=hg _ (List.getElem_mem hi)
      have hp:=okSel_parts hoki
      have hps:=pre_size hoki
      have hos:=one_size hoki
      have his:=id_size hoki
      have hcki:=hck _ (List.getElem_mem hi)
      have hji:=hjt i
      refine .inr ⟨_,rfl,fun k=>?_⟩
      rw[hsnoc i hi,join_snoc]at k
      have main:∀v:Str,v.size<=40*cntL xs+10->C_s_l3Write_L1 xs (v++txT xs[i] (g xs[i])) ((i+1:Nat):Int) R->B_s_l3Write_J2 xs v i xs[i] R:=by
        intro v hv k
        have J1:B_s_l3Write_J1 xs (v++txT xs[i] (g xs[i])) i R:=by unfold B_s_l3Write_J1;rw[wrap_succ hi hlen];exact k
        have J4:B_s_l3Write_J4 xs (v++oneT xs[i]) i xs[i] R:=fun _=>by
          unfold txT at J1
          by_cases c:decide ((xs[i].fKids.length:Int)>0)=true
          .rw[if_pos c];rw[if_pos c,<-app_assoc]at J1;exact⟨_,gs,by simp only[app_size];omega,J1⟩
          .rw[if_neg c];rw[if_neg c]at J1;exact J1
        have J3:∀w:Str,w.size<=40*cntL xs+20->w++xs[i].fName=v++preT xs[i]->B_s_l3Write_J3 xs w i xs[i] R:=by
          intro w hw e
          refine⟨by omega,?_⟩
          rw[e]
          unfold oneT at J4
          by_cases c:xs[i].fOne=true
          . rw[if_pos c]at J4 ⊢
            have eid:xs[i].fId=((xs[i].fId.toNat:Nat):Int):=by omega
            refine⟨by simp only[app_size,sz_mk,List.size_toArray,List.length_cons,List.length_nil];omega,_,(by rw[eid];exact s_l1Dec_ok _ (by omega)),?_⟩
            rw[<-eid]
            refine⟨by simp only[app_size,sz_mk,List.size_toArray,List.length_cons,List.length_nil];omega,by simp only[app_size,sz_mk,List.size_toArray,List.length_cons,List.length_nil];omega,?_⟩
            simp only[app_assoc]at J4 ⊢
            exact J4
          .rw[if_neg c]at J4 ⊢;exact J4
        unfold B_s_l3Write_J2
        unfold preT at J3
        by_cases c:(!(sEq xs[i].fAs sE))=true
        . rw[if_pos c]at J3 ⊢
          exact⟨by omega,by simp only[app_size,sz_mk,List.size_toArray,List.length_cons,List.length_nil];omega,J3 _ (by simp only[app_size,sz_mk,List.size_toArray,List.length_cons,List.length_nil];omega) (by simp only[app_assoc])⟩
        . rw[if_neg c]at J3 ⊢
          exact J3 _ (by omega) rfl
      refine s_l3Write_L1_unf xs _ _ _ fun _=>?_
      rw[if_pos (by simpa using hi)]
      refine⟨_,⟨by omega,get_some hi⟩,?_⟩
      by_cases h0:i=0
      . subst h0
        rw[if_neg (by simp)]
        refine main _ (by simp only[app_size,sz_mk,List.size_toArray,List.length_cons,List.length_nil];omega) ?_
        rw[if_pos (by simp)]at k
        rw[show (⟨#[123]⟩:Str)++joinS ((xs.take 0).map fun x=>txT x (g x)) (⟨#[44]⟩:Str)=(⟨#[123]⟩:Str) by simp[joinS_nil];rfl]
        exact k
      . rw[if_pos (by simp;omega)]
        refine⟨by simp only[app_size,sz_mk,List.size_toArray,List.length_cons,List.length_nil];omega,main _ (by simp only[app_size,sz_mk,List.size_toArray,List.length_cons,List.length_nil];omega) ?_⟩
        rw[if_neg (by intro h;have:=congrArg List.length h;simp only[List.length_map,List.length_take,List.length_nil]at this;omega)]at k
        simp only[app_assoc]at k ⊢
        exact k
  .rw[hR];simp only[app_size,sz_mk,List.size_toArray,List.length_cons,List.length_nil];omega
theorem text_ok (xs:List Sel):TText xs:=kids_all text_of xs
def okAsk (xs:List Sel):Prop:=xs≠[]/\Good 1 xs/\cntL xs<=24
theorem AskOk_ok (xs:List Sel):∃r,S_i_AskOk xs r/\S_s_AskOk xs r/\(r=true->okAsk xs):=by
  obtain⟨y,hy,y0,_,yg,yn⟩:=i_askMany_ok xs 1 (.inr (by omega))
  obtain⟨z,hz,zg,zn⟩:=s_l3Ok_ok xs 1 24 (by omega) (by omega)
  have esum:=cnt_sum xs
  by_cases hk:okAsk xs
  . obtain⟨h1,h2,h3⟩:=hk
    have ey:=yg ⟨h2,h3⟩
    have ez:=zg ⟨h2,by omega⟩
    have hl:=List.length_pos_iff.2 h1
    obtain⟨t,ti,ts,_⟩:=text_ok xs 1 h2 h3
    refine⟨decide ((t.size:Int)<=400),i_AskOk_unf xs _ ⟨y,hy,_,i_in_ok _ _ _,t,fun _=>ti,?_⟩,s_AskOk_unf xs _ fun _=>⟨z,fun _=>hz,t,fun _=>ts,?_⟩,fun _=>⟨h1,h2,h3⟩⟩
    .rw[show (decide (y>=1)&&decide (y<=24))=true by simp;omega,Bool.true_and]
    .rw[show (decide ((xs.length:Int)>0)&&decide (z>=0))=true by simp;omega,Bool.true_and]
  . have ey:(decide (y>=1)&&decide (y<=24))=false:=by
      rw[<-Bool.not_eq_true];intro h
      simp only[bat,decide_eq_true_eq]at h
      by_cases hG:Good 1 xs/\cntL xs<=24
      . have:=yg hG
        exact hk ⟨fun e=>by subst e;simp[cntL]at this;omega,hG.1,hG.2⟩
      .have:=yn hG;omega
    have ez:(decide ((xs.length:Int)>0)&&decide (z>=0))=false:=by
      rw[<-Bool.not_eq_true];intro h
      simp only[bat,decide_eq_true_eq]at h
      by_cases hG:Good 1 xs/\(cntL xs:Int)<=24
      .exact hk ⟨List.length_pos_iff.1 (by omega),hG.1,by omega⟩
      .have:=zn hG;omega
    refine⟨false,i_AskOk_unf xs _ ⟨y,hy,_,i_in_ok _ _ _,sE,fun h=>(by rw[ey]at h;cases h),by rw[ey];rfl⟩,s_AskOk_unf xs _ fun _=>⟨z,fun _=>hz,sE,fun h=>(by rw[ez]at h;cases h),by rw[ez];rfl⟩,fun h=>by cases h⟩
set_option linter.unusedSimpArgs false
theorem slices_Clone_string_u_ok (xs:List Str) (h:xs.length<=bigLen):S_slices_Clone_string_u xs xs:=by
  refine slices_Clone_string_u_unf xs xs ?_ fun e=>?_
  .unfold B_slices_Clone_string_u;rw[if_neg (by simp)];exact⟨by simpa using h,by simp⟩
  .unfold B_slices_Clone_string_u;rw[if_pos (by simp)];exact e
theorem i_along_u_ok (way:List Str) (k:Str) (h:way.length+1<=bigLen):S_i_along_u way k (way++[k]):=
  i_along_u_unf way k _ ⟨_,slices_Clone_string_u_ok way (by omega),by simpa using h,rfl⟩
def nCode (o:Str) (f:Field×Bool) (s:Sel):Int:=
  if ((!f.2) || f.1.fHidden)=true then 1 else
  if ((nScalar f.1.fOf)&&(decide ((s.fKids.length:Int)>0)))=true then 2 else
  if ((!(nScalar f.1.fOf))&&((s.fKids.length:Int) == 0))=true then 3 else
  if (s.fOne&&(((nScalar f.1.fOf) || f.1.fList) || (!(sEq o wQuery))))=true then 4 else 0
theorem i_askCode_ok (o:Str) (f:Field×Bool) (s:Sel):S_i_askCode o f.1 f.2 s (nCode o f s):=by
  refine i_askCode_unf o f.1 f.2 s _ ?_
  unfold B_i_askCode nCode
  by_cases c1:((!f.2) || f.1.fHidden)=true
  .rw[if_pos c1,if_pos c1]
  rw[if_neg c1,if_neg c1]
  refine⟨_,i_Field_ofWord_ok _,?_⟩
  by_cases c2:((nScalar f.1.fOf)&&(decide ((s.fKids.length:Int)>0)))=true
  .rw[if_pos c2,if_pos c2]
  rw[if_neg c2,if_neg c2]
  refine⟨_,i_Field_ofWord_ok _,?_⟩
  by_cases c3:((!(nScalar f.1.fOf))&&((s.fKids.length:Int) == 0))=true
  .rw[if_pos c3,if_pos c3]
  rw[if_neg c3,if_neg c3]
  refine⟨_,fun _=>i_Field_ofWord_ok _,?_⟩
  by_cases c4:(s.fOne&&(((nScalar f.1.fOf) || f.1.fList) || (!(sEq o wQuery))))=true
  .rw[if_pos c4,if_pos (by unfold wQuery at c4;exact c4)]
  .rw[if_neg c4,if_neg (by unfold wQuery at c4;exact c4)]
theorem nCode_pos (o:Str) (f:Field×Bool) (s:Sel):0<=nCode o f s:=by unfold nCode;repeat' split<;>try omega
theorem s_chk {p:Part}{o:Str}{xs:List Sel}{way:List Str}{i:Nat}(hi:i<xs.length) (hw:way.length+1<=bigLen){r:AskFault}
    (h1:nCode o (pField p o xs[i].fName) xs[i]≠0->r=⟨way++[nKey xs[i]],nCode o (pField p o xs[i].fName) xs[i]⟩)
    (h2:nCode o (pField p o xs[i].fName) xs[i]=0->∃y5:AskFault,(S_s_l3Check p (pField p o xs[i].fName).1.fOf xs[i].fKids (way++[nKey xs[i]]) y5)/\(if (y5.fCode != 0)=true then (r=y5) else (C_s_l3Check_L1 o xs way (IntKind.i64.wrap ((i:Int)+1)) p r))):
    C_s_l3Check_L1 o xs way i p r:=by
  refine s_l3Check_L1_unf o xs way _ p r fun _=>?_
  rw[if_pos (by simpa using hi)]
  refine⟨_,⟨by omega,get_some hi⟩,by simp;omega,_,s_l3Key_ok _,by simpa using hw,_,s_l2Get_ok p o _,_,s_l2Scalar_ok _,?_⟩
  simp only[List.nil_append]
  unfold nCode at h1 h2
  generalize pField p o xs[i].fName=f at *
  by_cases c1:((!f.2) || f.1.fHidden)=true
  .rw[if_pos c1];rw[if_pos c1]at h1;exact h1 (by omega)
  rw[if_neg c1];rw[if_neg c1]at h1 h2
  by_cases c2:((nScalar f.1.fOf)&&(decide ((xs[i].fKids.length:Int)>0)))=true
  .rw[if_pos c2];rw[if_pos c2]at h1;exact h1 (by omega)
  rw[if_neg c2];rw[if_neg c2]at h1 h2
  by_cases c3:((!(nScalar f.1.fOf))&&((xs[i].fKids.length:Int) == 0))=true
  .rw[if_pos c3];rw[if_pos c3]at h1;exact h1 (by omega)
  rw[if_neg c3];rw[if_neg c3]at h1 h2
  by_cases c4:(xs[i].fOne&&(((nScalar f.1.fOf) || f.1.fList) || (!(sEq o wQuery))))=true
  .rw[if_pos (by unfold wQuery at c4;exact c4)];rw[if_pos c4]at h1;exact h1 (by omega)
  rw[if_neg (by unfold wQuery at c4;exact c4)];rw[if_neg c4]at h2
  exact h2 rfl
inductive Fine (p:Part):Str->List Sel->Prop
  | mk {o:Str}{xs:List Sel}:(∀x∈xs,nCode o (pField p o x.fName) x=0)->(∀x∈xs,Fine p (pField p o x.fName).1.fOf x.fKids)->Fine p o xs
def QF (p:Part) (o:Str) (xs:List Sel) (r:AskFault):Prop:=0<=r.fCode/\r.fWay.length<=9/\(r.fCode=0->Fine p o xs)
def TF (p:Part) (xs:List Sel):Prop:=∀ (lvl:Nat) (o:Str) (way:List Str),Good lvl xs->way.length<=lvl->lvl<=7->∃r,S_i_askFault_u p o xs way r/\S_s_l3Check p o xs way r/\QF p o xs r
theorem fault_of (p:Part) (xs:List Sel) (hx:∀x∈xs,TF p x.fKids):TF p xs:=by
  intro lvl o way hG hw h7
  obtain⟨hl5,_,_,hkids⟩:(xs≠[]->lvl<=5)/\(¬twiceS (xs.map nKey))/\(∀x∈xs,okSel x=true)/\(∀x∈xs,Good (lvl+1) x.fKids):=by cases hG with | mk a b c d=>exact⟨a,b,c,d⟩
  by_cases hl:xs.length<=bigLen
  rotate_left
  . have hne:xs≠[]:=fun e=>by subst e;simp at hl
    refine⟨⟨[],1⟩,i_askFault_u_unf p o xs way _ fun h=>absurd h hl,s_l3Check_unf p o xs way _ (s_l3Check_L1_unf o xs way _ p _ fun h=>absurd h hl),by decide,by simp,fun h=>by simp at h⟩
  have L:=range_ex (A:=Unit) (n:=xs.length) (C:=fun _ i r=>C_i_askFault_u_L1 o way xs i p r/\C_s_l3Check_L1 o xs way i p r) (fun i _=>∀j,(hj:j<xs.length)->j<i->nCode o (pField p o xs[j].fName) xs[j]=0/\Fine p (pField p o xs[j].fName).1.fOf xs[j].fKids) (QF p o xs) ?_ ?_ (a0:=()) (fun j _ h=>by omega)
  . obtain⟨r,⟨h1,h2⟩,h3⟩:=L
    exact⟨r,i_askFault_u_unf p o xs way _ fun _=>h1,s_l3Check_unf p o xs way _ h2,h3⟩
  . intro _ hg
    refine⟨⟨[],0⟩,⟨i_askFault_u_L1_unf o way xs _ p _ ?_,s_l3Check_L1_unf o xs way _ p _ fun _=>by rw[if_neg (by simp)]⟩,by decide,by simp,fun _ => .mk (ball_of fun i hi=>(hg i hi hi).1) (ball_of fun i hi=>(hg i hi hi).2)⟩
    unfold B_i_askFault_u_L1
    rw[if_neg (by simp)]
  . intro i _ hi hg
    have hlv:=hl5 (List.length_pos_iff.1 (by omega))
    have hwl:way.length+1<=bigLen:=by unfold bigLen;omega
    have hp:=nCode_pos o (pField p o xs[i].fName) xs[i]
    have istep:∀r,(if (decide (nCode o (pField p o xs[i].fName) xs[i]>0))=true then (r=(AskFault.mk (way++[nKey xs[i]]) (nCode o (pField p o xs[i].fName) xs[i]))) else (∃y6:AskFault,(S_i_askFault_u p (pField p o xs[i].fName).1.fOf xs[i].fKids (way++[nKey xs[i]]) y6)/\(if (decide (y6.fCode>0))=true then (r=y6) else (C_i_askFault_u_L1 o way xs (IntKind.i64.wrap ((i:Int)+1)) p r))))->C_i_askFault_u_L1 o way xs i p r:=by
      intro r h
      refine i_askFault_u_L1_unf o way xs _ p _ ?_
      unfold B_i_askFault_u_L1
      rw[if_pos (by simpa using hi)]
      exact⟨_,⟨by omega,get_some hi⟩,_,i_Part_field_ok p o _,_,i_Sel_under_ok _,_,i_along_u_ok way _ hwl,_,i_askCode_ok o _ _,h⟩
    by_cases hc:nCode o (pField p o xs[i].fName) xs[i]=0
    . obtain⟨r6,hi6,hs6,h60,h6w,h6f⟩:=hx _ (List.getElem_mem hi) (lvl+1) (pField p o xs[i].fName).1.fOf (way++[nKey xs[i]]) (hkids _ (List.getElem_mem hi)) (by simp;omega) (by omega)
      by_cases h6:r6.fCode=0
      . refine .inr ⟨(),fun j hj hji=>?_,fun r ⟨k1,k2⟩=>⟨istep r ?_,s_chk hi hwl (fun h=>absurd hc h) fun _=>⟨r6,hs6,?_⟩⟩⟩
        . by_cases e:j=i
          .subst e;exact⟨hc,h6f h6⟩
          .exact hg j hj (by omega)
        . rw[hc,if_neg (by simp)]
          exact⟨r6,hi6,by rw[if_neg (by rw[h6];simp),wrap_succ hi hl];exact k1⟩
        .rw[if_neg (by rw[h6];simp),wrap_succ hi hl];exact k2
      . refine .inl ⟨r6,⟨istep r6 ?_,s_chk hi hwl (fun h=>absurd hc h) fun _=>⟨r6,hs6,?_⟩⟩,h60,h6w,fun h=>absurd h h6⟩
        . rw[hc,if_neg (by simp)]
          exact⟨r6,hi6,by rw[if_pos (by simp;omega)]⟩
        .rw[if_pos (by simpa using h6)]
    . refine .inl ⟨⟨way++[nKey xs[i]],nCode o (pField p o xs[i].fName) xs[i]⟩,⟨istep _ ?_,s_chk hi hwl (fun _=>rfl) fun h=>absurd h hc⟩,hp,by simp;omega,fun h=>absurd h hc⟩
      rw[if_pos (by simp;omega)]
theorem fault_ok (p:Part) (xs:List Sel):TF p xs:=kids_all (P:=TF p) (fault_of p) xs
theorem AskCheck_ok (p:Part) (xs:List Sel) (hb:bP p):∃r,S_i_AskCheck_u p xs r/\S_s_AskCheck p xs r/\(r.fCode=0->Fine p wQuery xs)/\r.fWay.length<=9:=by
  obtain⟨f,hfi,hfs,hf0⟩:=PartCheck_ok p hb
  obtain⟨a,hai,has,haok⟩:=AskOk_ok xs
  have hpo:=i_partOk_of hfi fun h=>(hf0 h).1
  by_cases c:((!(f.fCode == 0)) || (!a))=true
  .exact⟨⟨[],1⟩,i_AskCheck_u_unf p xs _ ⟨_,hpo,a,fun _=>hai,by rw[if_pos c]⟩,s_AskCheck_unf p xs _ ⟨f,hfs,a,fun _=>has,by rw[if_pos (by exact c)]⟩,fun h=>by simp at h,by simp⟩
  . have ha:a=true:=by revert c;cases a<;>simp
    obtain⟨_,hG,_⟩:=haok ha
    obtain⟨r,h1,h2,h3,h4,h5⟩:=fault_ok p xs 1 wQuery [] hG (by simp) (by omega)
    exact⟨r,i_AskCheck_u_unf p xs _ ⟨_,hpo,a,fun _=>hai,by rw[if_neg c];exact⟨r,h1,rfl⟩⟩,
      s_AskCheck_unf p xs _ ⟨f,hfs,a,fun _=>has,by rw[if_neg (by exact c)];exact⟨r,h2,by simp;unfold bigLen;omega,by simp⟩⟩,h5,h4⟩
theorem w_eqAskFault_self (f:AskFault):S_w_eqAskFault f f true:=w_eqAskFault_ok f
theorem ct_Part_le (p:Part):sumN ct_Ty p.fTypes<=9*mz_Part p:=by
  have hF:∀f:Field,ct_Field f<=9+9*mz_Field f:=fun f=>by
    have:∀xs:List Str,sumN (fun _=>1) xs=xs.length:=fun xs=>by induction xs with
      | nil=>rfl
      | cons a r ih=>simp only[sumN,ih,List.length_cons];omega
    unfold ct_Field mz_Field;rw[this];omega
  have hs:∀ {α:Type}(f g:α->Nat),(∀x,f x<=9+9*g x)->∀xs:List α,sumN f xs<=9*xs.length+9*sumN g xs:=fun f g h xs=>by
    induction xs with
    | nil=>exact Nat.le_refl _
    | cons a r ih=>have:=h a;simp only[sumN,List.length_cons];omega
  have hT:∀t:Ty,ct_Ty t<=9+9*mz_Ty t:=fun t=>by
    have:=hs _ _ hF t.fFields
    unfold ct_Ty mz_Ty;omega
  have:=hs _ _ hT p.fTypes
  unfold mz_Part;omega
theorem ct_Sel_le:∀s:Sel,ct_Sel s<=9+9*mz_Sel s:=ind_Sel fun s ih=>by
  have:∀xs:List Sel,(∀x∈xs,ct_Sel x<=9+9*mz_Sel x)->ct_SelL xs<=9*mz_SelL xs:=fun xs=>by
    induction xs with
    | nil=>intro _;exact Nat.le_refl _
    | cons a r ih=>intro h;have:=h a (by simp);have:=ih fun x hx=>h x (by simp[hx]);simp only[ct_SelL,mz_SelL];omega
  have:=this s.fKids ih
  rw[ct_Sel_eq,mz_Sel_eq];omega
theorem ct_SelS_le (xs:List Sel):sumN ct_Sel xs<=9*(xs.length+sumN mz_Sel xs):=by
  induction xs with
  | nil=>exact Nat.le_refl _
  | cons a r ih=>have:=ct_Sel_le a;simp only[sumN,List.length_cons];omega
theorem main_said (p:Part) (xs:List Sel):S_w_FnExactAskCheck p xs true:=by
  obtain⟨a,ha,ha2⟩:=w_szPart_ok p 1048576 (by decide) (by unfold mB;decide)
  refine w_FnExactAskCheck_unf p xs true ⟨a,ha,?_⟩
  by_cases h1:decide (a<0)=true
  .rw[if_pos h1]
  rw[if_neg h1]
  have h1:0<=a:=by simpa using h1
  obtain⟨b,hb,hb2⟩:=w_szSelS_ok xs a h1 (by unfold mB;omega)
  refine⟨b,hb,?_⟩
  by_cases h2:decide (b<0)=true
  .rw[if_pos h2]
  rw[if_neg h2]
  have h2:0<=b:=by simpa using h2
  obtain⟨r,hi,hs,_,hl⟩:=AskCheck_ok p xs (bP_of (p:=p) (n:=mz_Part p) (Nat.le_refl _) (by omega))
  refine⟨p,w_toPart_ok p,xs,w_toSelS_ok xs,r,hs,p,w_toPart_u_ok p,xs,w_toSelS_u_ok xs,r,hi,true,w_eqAskFault_ok r,?_⟩
  rw[if_neg (by simp)]
  refine⟨p,w_toPart_ok p,true,w_eqPart_ok p,?_⟩
  rw[if_neg (by simp)]
  refine⟨xs,w_toSelS_ok xs,true,w_eqSelS_ok xs,?_⟩
  rw[if_neg (by simp)]
  have cp:=ct_Part_le p
  have cs:=ct_SelS_le xs
  have hm1:=w_markTypeS_ok p.fTypes 1 (by omega) (by unfold kTop;omega)
  have hm2:=w_markSelS_ok xs (1+(sumN ct_Ty p.fTypes:Nat)) (by omega) (by unfold kTop;omega)
  refine⟨_,w_markPart_unf _ _ _ ⟨_,hm1,rfl⟩,_,hm2,true,fun _=>w_eqAskFault_ok r,?_⟩
  rw[if_neg (by simp only[Bool.or_eq_true,decide_eq_true_eq,Bool.not_true,Bool.false_eq_true,or_false];omega)]
  have hw:∀ys:List Str,sumN (fun _=>1) ys=ys.length:=fun ys=>by induction ys with
    | nil=>rfl
    | cons a r ih=>simp only[sumN,ih,List.length_cons];omega
  have hk:1+(sumN (fun _=>1) r.fWay:Nat)<=kTop:=by rw[hw];unfold kTop;omega
  have hm3:=w_markStringS_ok r.fWay 1 (by omega) hk
  have hh:S_w_heldAskFault (AskFault.mk (mkL (fun _ k=>mtx k) (fun _=>1) r.fWay 1) r.fCode) 1 (1+(sumN (fun _=>1) r.fWay:Nat)):=
    w_heldAskFault_unf _ _ _ ⟨_,w_heldStringS_ok r.fWay 1 (by omega) hk,by rw[if_neg (by simp only[decide_eq_true_eq];omega)]⟩
  refine⟨_,w_markAskFault_unf _ _ _ ⟨_,hm3,rfl⟩,_,hh,?_⟩
  rw[if_neg (by simp only[decide_eq_true_eq];omega),if_neg (by simp)]
  refine⟨p,w_toPart_ok p,xs,w_toSelS_ok xs,r,hi,true,w_eqAskFault_ok r,?_⟩
  rw[if_neg (by simp)]
  refine⟨_,hh,?_⟩
  rw[if_neg (by simp only[decide_eq_true_eq];omega),if_neg (by simp)]
end Go.Proofs.YtpgmljkhleidjaaGreatDoor.LM
