/- laws.FnExactAskCheck returns true for every input whose arguments and package variables hold together at most 1048576 values and letters; the input reads as it did. -/
import Derived.Test.YtpgmljkhleidjaaGreatDoorL2
import Derived.Test.YtpgmljkhleidjaaGreatDoorL1
import Derived.Shelf.Strings.Builder1
import Derived.Shelf.Strings.OnBuilder
import Derived.Shelf.Strconv.Itoa3
import Derived.Lib.LaidTab
import Derived.Lib.ItoaLen
import Derived.Test.YtpgmljkhleidjaaGreatDoorG
import Derived.Test.YtpgmljkhleidjaaGreatDoorK
import Derived.Test.YtpgmljkhleidjaaGreatDoorL3
import Derived.Test.YtpgmljkhleidjaaGreatDoorN0
import Derived.Test.YtpgmljkhleidjaaGreatDoorCards
import Derived.Test.YtpgmljkhleidjaaGreatDoorTie
import Derived.Deep.DeepHandedRow
set_option linter.unusedVariables false
set_option linter.unusedSimpArgs false
namespace Go.Proofs.YtpgmljkhleidjaaGreatDoor.LM
open Go.RowKit Go.Shelf
def RowB (h:Heap) (e:TypeId) (v:Value) (bs:List Value):Prop:=
 (v = .slice none 0 0/\bs=[])\/∃g cap cur,v = .slice (some ⟨g,0,none⟩) bs.length cap/\h[g]?=some (.cells cur e (0,0))/\bs.length<=cap/\cap<=maxLen/\cur.size=cap*1/\cur.toList.take (bs.length*1)=bs
theorem RowB.own {w:World}{e:TypeId}{v:Value}{bs:List Value}(h:RowB w.heap e v bs):w.ownsRow 0 e 1 v bs.length bs:=
 ⟨by simp,h.imp (fun⟨a,b⟩=>⟨a,by rw[b];rfl⟩) fun⟨g,cap,cur,a,b,r⟩=>⟨g,cap,cur,a,Nat.zero_le _,b,r⟩⟩
section
variable {P:Program}{w:World}
theorem bld_append {t u ty e:TypeId}{i:TypeInfo}(ht:P.underlying t=some (.slice e)) (hu:P.underlying u=some .string) (hi:P.info? e=some i) (hz:i.zero=some (.int .u8 0)) (hs:i.size=1) (hby:i.bytes=1)
  {v:Value}{bs:List Value}(hv:RowB w.heap e v bs) (s:ByteArray) (hlen:bs.length+s.size<=bigStr):
  ∃v' w',(Builtin.append_ #[t,u] ty #[v,.string s]).run P w = .ok v' w'/\w.grownBy w' v.ownBlock/\RowB w'.heap e v' (bs++Lib.strCells s)/\∀g,v'.ownBlock=some g->some g=v.ownBlock\/w.heap.size<=g:=by
 unfold bigStr at hlen
 obtain⟨v',w',hr,h2,h3,_⟩:=Lib.run_append_own_string (P:=P) w 0 t u ty e i ht hu hi hz hs hby v bs.length bs hv.own s (by unfold maxLen;omega) (by omega) (Nat.zero_le _)
 have hY:AppY P w t u ty e i (.int .u8 0) 1 s.size (.string s) (Lib.strCells s):=appY_of ht hi hz hu rfl (fun w=>rfl) (by rw[Lib.strCells_length,hs];simp) (Lib.run_firstCells_string _ _ _) (Lib.run_firstCells_string _ _ _)
 refine⟨v',w',hr,h3,?_,?_⟩
 .have hl:(bs++Lib.strCells s).length=bs.length+s.size:=by simp[Lib.strCells_length]
  rcases h2.2 with⟨a,b⟩ | ⟨g,cap,cur,a,_,b,r⟩
  .refine .inl ⟨a,?_⟩
   rw[<-List.length_eq_zero_iff,hl];exact b
  .refine .inr ⟨g,cap,cur,by rw[hl];exact a,b,?_⟩
   rw[hl];exact r
 .intro g hg
  by_cases h0:s.size=0
  .have hx:v'=v:=by
    rcases hv with⟨rfl,hb⟩ | ⟨g0,cap,cur,rfl,_,hc,_⟩
    .have:=hY.r0 h0 none 0 0 (Nat.le_refl _)
     rw[this]at hr;cases hr;rfl
    .have:=hY.r0 h0 (some ⟨g0,0,none⟩) bs.length cap hc
     rw[this]at hr;cases hr;rfl
   rw[hx]at hg
   exact .inl hg.symm
  .have hpos:0<s.size:=by omega
   rcases hv with⟨rfl,hb⟩ | ⟨g0,cap,cur,rfl,e2,hc,hm,hsz,htk⟩
   .have:=hY.r2 hpos (by omega) (by rw[hby];omega)
    rw[this]at hr;cases hr
    simp only[Value.ownBlock,osi]at hg
    exact .inr (by omega)
   .by_cases hroom:bs.length+s.size<=cap
    .have:=hY.r1 g0 bs.length cap e cur e2 hroom (by rw[hs,Lib.strCells_length];omega) (fun x hx=>by
      obtain⟨b,_,rfl⟩:=List.mem_map.1 hx;rfl) hpos
     rw[this]at hr;cases hr
     exact .inl hg.symm
    .have:=hY.r3 ⟨g0,0,none⟩ bs.length cap bs (by rw[hs];simp) (fun j x hj=>by
      rw[addr_add,cell?_heap]
      simp only[hcell,e2,Nat.zero_add]
      have hj':(cur.toList.take (bs.length*1))[j]?=some x:=by rw[htk];exact hj
      rw[List.getElem?_take]at hj'
      split at hj'
      .simpa using hj'
      .cases hj') (by omega) (by omega) (by
       have h1:Builtin.nextslicecap (bs.length+s.size) cap<=2*(bs.length+s.size):=nextslicecap_le (by omega)
       rw[hby];omega)
     rw[this]at hr;cases hr
     simp only[Value.ownBlock,osi]at hg
     exact .inr (by omega)
theorem wpList_bld {ops:Array Oper}{rest:List Oper}{o:Oper}{a:Act}{Q:Exit->Act->World->Prop}(hgd:o.guard=none) (sl x:Operand) (t u:TypeId)
  (ho:o.op = .call { callee := .builtin .append,args := #[sl,x],argTypes := #[t,u] }) (e:TypeId) (i:TypeInfo) (ht:P.underlying t=some (.slice e)) (hu:P.underlying u=some .string) (hi:P.info? e=some i) (hz:i.zero=some (.int .u8 0)) (hs:i.size=1) (hby:i.bytes=1)
  (v:Value) (bs:List Value) (hsl:a.eval sl=v) (hv:RowB w.heap e v bs) (s:ByteArray) (hx:a.eval x = .string s) (hlen:bs.length+s.size<=bigStr)
  (h:∀v' w',w.grownBy w' v.ownBlock->RowB w'.heap e v' (bs++Lib.strCells s)->(∀g,v'.ownBlock=some g->some g=v.ownBlock\/w.heap.size<=g)->wpList P ops Q rest (a.put o.dst v') w'):wpList P ops Q (o::rest) a w:=by
 refine wpList_plain hgd fun K hK=>?_
 obtain⟨v',w',hr,h2,h3,h4⟩:=bld_append (P:=P) (ty:=o.type) ht hu hi hz hs hby hv s hlen
 unfold Oper.wp execOp
 simp only[ho,resolve,invoke,builtin,Sem.run_bind,Sem.run_pure,Result.andThen_ok,List.map_toArray,List.map_cons,List.map_nil,hsl,hx,hr]
 exact hK _ _ (h v' w' h2 h3 h4)
end
structure Rest (w w':World) (X:Nat->Prop):Prop where
 os:w'.os=w.os
 tape:w'.tape=w.tape
 output:w'.output=w.output
 size:w.heap.size<=w'.heap.size
 block:∀k,k<w.heap.size->¬X k->w'.heap[k]?=w.heap[k]?
variable {P:Program}{ρ:Ren}
theorem bld_check (L:Lays.n240 P ρ) (X:Builder.X72 P ρ) (b:Nat) (p v:Value) (w:World) (hbk:w.heap[b]?=some (.cells #[p,v] (ρ.t 72) (0,0))) (hp:p = .pointer none\/p = .pointer (some ⟨b,0,none⟩)):
  Calls P (ρ.f 240) #[.pointer (some ⟨b,0,none⟩)] w fun e w'=>e = .returned (.tuple #[])/\w'.heap[b]?=some (.cells #[.pointer (some ⟨b,0,none⟩),v] (ρ.t 72) (0,0))/\Rest w w' (· = b):=by
 have h0:w.cell? ⟨b,0,none⟩=some p:=by simp[World.cell?,hbk]
 rcases hp with rfl | rfl
 .refine (Any.Builder_copyCheck_fresh L X b w h0 (by simp[World.shape?,hbk]) (Lib.frozen_of_heap hbk 0)).mono ?_
  rintro e w' ⟨rfl,rfl⟩
  refine⟨rfl,?_,⟨rfl,rfl,rfl,by simp[World.setCell],fun k hk hkb=>Below.heap_setCell _ _ _ _ (fun e=>hkb e)⟩⟩
  rw[World.setCell]
  simp[Array.getElem?_modify,hbk]
 .refine (Any.Builder_copyCheck_used L X b w h0).mono ?_
  rintro e w' ⟨rfl,rfl⟩
  exact⟨rfl,hbk,⟨rfl,rfl,rfl,Nat.le_refl _,fun _ _ _=>rfl⟩⟩
theorem heap_setCell_at {w:World}{b o:Nat}{cs:Array Value}{t:TypeId}{z:Nat×Nat}{v:Value}(h:w.heap[b]?=some (.cells cs t z)):(w.setCell ⟨b,o,none⟩ v).heap[b]?=some (.cells (cs.setIfInBounds o v) t z):=by
 rw[World.setCell]
 simp[Array.getElem?_modify,h]
theorem RowB.keep {h h':Heap}{e:TypeId}{v:Value}{bs:List Value}(r:RowB h e v bs) (hk:∀g,v.ownBlock=some g->h'[g]?=h[g]?):RowB h' e v bs:=
 r.imp id fun⟨g,cap,cur,e1,e2,e3⟩=>⟨g,cap,cur,e1,by rw[hk g (by rw[e1];rfl)];exact e2,e3⟩
theorem RowB.lt {h:Heap}{e:TypeId}{v:Value}{bs:List Value}(r:RowB h e v bs){g:Nat}(hg:v.ownBlock=some g):g<h.size:=by
 rcases r with⟨e1,_⟩ | ⟨g',cap,cur,e1,e2,_⟩
 .rw[e1]at hg;cases hg
 .rw[e1]at hg;cases hg;exact (ags e2).1
set_option maxHeartbeats 2000000 in
set_option maxRecDepth 100000 in
theorem bld_write (L:Lays.n166 P ρ) (X:Builder.Extra P ρ) (b:Nat) (p v:Value) (bs:List Value) (s:ByteArray) (w:World) (hbk:w.heap[b]?=some (.cells #[p,v] (ρ.t 72) (0,0))) (hp:p = .pointer none\/p = .pointer (some ⟨b,0,none⟩))
  (hv:RowB w.heap (ρ.t 5) v bs) (hne:v.ownBlock≠some b) (hlen:bs.length+s.size<=bigStr):
  Calls P (ρ.f 166) #[.pointer (some ⟨b,0,none⟩),.string s] w fun e w'=>e = .returned (.tuple #[.int .i64 s.size,.nilIface])/\∃v',w'.heap[b]?=some (.cells #[.pointer (some ⟨b,0,none⟩),v'] (ρ.t 72) (0,0)) /\
   RowB w'.heap (ρ.t 5) v' (bs++Lib.strCells s)/\(∀g,v'.ownBlock=some g->some g=v.ownBlock\/w.heap.size<=g)/\Rest w w' fun k=>k=b\/some k=v.ownBlock:=by
 obtain⟨i0,hi,hz0,hz1,hz2⟩:=info_parts X.infoByte
 have mixed:=L.mixed
 have t72:=L.t72;have a72:=L.a72;have z72:=L.z72;have v72:=L.v72;have u72:=fun w:World=>run_underlying (w:=w) L.t72
 have t70:=L.t70;have a70:=L.a70;have z70:=L.z70;have v70:=L.v70;have u70:=fun w:World=>run_underlying (w:=w) L.t70
 have t37:=L.t37;have a37:=L.a37;have z37:=L.z37;have v37:=L.v37;have u37:=fun w:World=>run_underlying (w:=w) L.t37
 have t3:=L.t3;have a3:=L.a3;have z3:=L.z3;have v3:=L.v3;have u3:=fun w:World=>run_underlying (w:=w) L.t3
 have t9:=L.t9;have a9:=L.a9;have z9:=L.z9;have v9:=L.v9;have u9:=fun w:World=>run_underlying (w:=w) L.t9
 have t4:=L.t4;have a4:=L.a4;have z4:=L.z4;have v4:=L.v4;have u4:=fun w:World=>run_underlying (w:=w) L.t4
 have t164:=L.t164;have a164:=L.a164;have z164:=L.z164;have v164:=L.v164;have u164:=fun w:World=>run_underlying (w:=w) L.t164
 have t5:=X.t5;have a5:=X.a5;have z5:=X.z5;have v5:=X.v5;have u5:=fun w:World=>run_underlying (w:=w) X.t5
 have e240:∀args w,(callFunc (ρ.f 240) args).run P w = .ok (.enter (ρ.f 240) args) w:=enters_of L.f240 (by kernel_rfl) rfl
 have hlt:b<w.heap.size:=(ags hbk).1
 go_enter L.f166,Body.n166_ntmps ρ
 go_wp2_with (go_at_fn (ρ.f 240);refine (bld_check { L with } X.toX72 b p v _ hbk hp).mono ?_)
 rintro e w1 ⟨rfl,hb1,hr1⟩
 have c0:w1.cell? ⟨b,0,none⟩=some (.pointer (some ⟨b,0,none⟩)):=by rw[Lib.cell_of_heap hb1];rfl
 have c1:w1.cell? ⟨b,1,none⟩=some v:=by rw[Lib.cell_of_heap hb1];rfl
 have hv1:RowB w1.heap (ρ.t 5) v bs:=hv.keep fun g hg=>hr1.block g (hv.lt hg) fun e=>hne (by rw[hg,e])
 go_wp2_with (at_builtin;refine wpList_bld rfl _ _ (ρ.t 37) (ρ.t 9) rfl (ρ.t 5) i0 L.t37 L.t9 hi hz0 hz1 hz2 _ bs rfl hv1 s rfl hlen ?_)
 intro v' w2 hg2 hv2 hn2
 have hb2:w2.heap[b]?=some (.cells #[.pointer (some ⟨b,0,none⟩),v] (ρ.t 72) (0,0)):=by
  rw[hg2.block b (Nat.lt_of_lt_of_le hlt hr1.size) (fun e=>hne e.symm)]
  exact hb1
 have d0:w2.cell? ⟨b,0,none⟩=some (.pointer (some ⟨b,0,none⟩)):=by rw[Lib.cell_of_heap hb2];rfl
 have d1:w2.cell? ⟨b,1,none⟩=some v:=by rw[Lib.cell_of_heap hb2];rfl
 have f1:w2.frozen? ⟨b,1,none⟩=false:=Lib.frozen_of_heap hb2 1
 have hneb:v'.ownBlock≠some b:=fun e=>by
  rcases hn2 b e with h | h
  .exact hne h.symm
  .have:=hr1.size;omega
 obtain⟨ao,n',cap,rfl⟩:∃ao n' cap,v' = .slice ao n' cap:=by
  rcases hv2 with⟨h,_⟩ | ⟨g,cap,cur,h,_⟩
  .exact⟨_,_,_,h⟩
  .exact⟨_,_,_,h⟩
 go_wp2
 go_ret2
 have hrest:Rest w (w2.setCell ⟨b,1,none⟩ (.slice ao n' cap)) fun k=>k=b\/some k=v.ownBlock:=by
  refine⟨hg2.os.trans hr1.os,hg2.tape.trans hr1.tape,hg2.output.trans hr1.output,?_,fun k hk hx=>?_⟩
  .have:=hr1.size;have:=hg2.size
   show _<=(World.setCell _ _ _).heap.size
   simp only[World.setCell,Array.size_modify];omega
  .rw[Below.heap_setCell _ _ _ _ (fun e=>hx (.inl e)),hg2.block k (Nat.lt_of_lt_of_le hk hr1.size) (fun e=>hx (.inr e)),hr1.block k hk fun e=>hx (.inl e)]
 refine⟨rfl,.slice ao n' cap,?_,hv2.keep fun g hg=>Below.heap_setCell _ _ _ _ fun e=>hneb (by rw[hg];exact congrArg some e),fun g hg=>(hn2 g hg).imp id fun h=>by have:=hr1.size;omega,hrest⟩
 exact heap_setCell_at hb2
theorem freeze_other {w:World}{g n k:Nat}(hk:k≠g):(w.freeze ⟨g,0,none⟩ n).heap[k]?=w.heap[k]?:=by
 unfold World.freeze
 split
 .rfl
 .simp only[Array.getElem?_modify,if_neg (Ne.symm hk)]
set_option maxHeartbeats 2000000 in
set_option maxRecDepth 100000 in
theorem bld_str1 (L:Lays.n169 P ρ) (X:Builder.Extra P ρ) (b g cap:Nat) (p:Value) (cur:Array Value) (l:List UInt8) (w:World) (hbk:w.heap[b]?=some (.cells #[p,.slice (some ⟨g,0,none⟩) l.length cap] (ρ.t 72) (0,0)))
  (hg:w.heap[g]?=some (.cells cur (ρ.t 5) (0,0))) (hn:l.length<=cap) (hm:cap<=maxLen) (hs:cur.size=cap*1) (ht:cur.toList.take (l.length*1)=Lib.byteCells l) (h0:l≠[]):
  Calls P (ρ.f 169) #[.pointer (some ⟨b,0,none⟩)] w fun e w'=>e = .returned (.string ⟨l.toArray⟩)/\Rest w w' (· = g):=by
 have hl0:l.length≠0:=by simpa using h0
 have c1:w.drew.cell? ⟨b,1,none⟩=some (.slice (some ⟨g,0,none⟩) l.length cap):=by
  have:w.drew.heap[b]?=some (.cells #[p,.slice (some ⟨g,0,none⟩) l.length cap] (ρ.t 72) (0,0)):=hbk
  rw[Lib.cell_of_heap this];rfl
 have hSD:(Builtin.unsafeSliceData_ #[(ρ.t 37)] (ρ.t 127) #[.slice (some ⟨g,0,none⟩) l.length cap]).run P w.drew = .ok (.pointer (some ⟨g,0,none⟩)) w.drew:=
  Lib.run_unsafeSliceData_row _ _ _ _ _ _ (by omega)
 have hUS:(Builtin.unsafeString_ #[(ρ.t 127),(ρ.t 3)] (ρ.t 9) #[.pointer (some ⟨g,0,none⟩),.int .i64 l.length]).run P w.drew = .ok (.string ⟨l.toArray⟩) (w.drew.freeze ⟨g,0,none⟩ l.length):=by
  have hg':w.drew.heap[g]?=some (.cells cur (ρ.t 5) (0,0)):=hg
  refine Lib.run_unsafeString_row w.drew (ρ.t 127) (ρ.t 3) (ρ.t 9) (ρ.t 5) L.t127 X.cellsByte g cur.size (by simp[World.shape?,hg']) l h0 (by omega) (by unfold maxLen at hm;omega) fun j x hx=>?_
  rw[addr_add,cell?_heap]
  simp only[hcell,hg',Nat.zero_add]
  have hj:(cur.toList.take (l.length*1))[j]?=some (.int .u8 x.toNat):=by rw[ht];simp[Lib.byteCells,hx]
  rw[List.getElem?_take]at hj
  split at hj
  .simpa using hj
  .cases hj
 have mixed:=L.mixed
 have t72:=L.t72;have a72:=L.a72;have z72:=L.z72;have v72:=L.v72;have u72:=fun w:World=>run_underlying (w:=w) L.t72
 have t70:=L.t70;have a70:=L.a70;have z70:=L.z70;have v70:=L.v70;have u70:=fun w:World=>run_underlying (w:=w) L.t70
 have t37:=L.t37;have a37:=L.a37;have z37:=L.z37;have v37:=L.v37;have u37:=fun w:World=>run_underlying (w:=w) L.t37
 have t127:=L.t127;have a127:=L.a127;have z127:=L.z127;have v127:=L.v127;have u127:=fun w:World=>run_underlying (w:=w) L.t127
 have t3:=L.t3;have a3:=L.a3;have z3:=L.z3;have v3:=L.v3;have u3:=fun w:World=>run_underlying (w:=w) L.t3
 have t9:=L.t9;have a9:=L.a9;have z9:=L.z9;have v9:=L.v9;have u9:=fun w:World=>run_underlying (w:=w) L.t9
 have t5:=X.t5;have a5:=X.a5;have z5:=X.z5;have v5:=X.v5;have u5:=fun w:World=>run_underlying (w:=w) X.t5
 have hrest:Rest w (w.drew.freeze ⟨g,0,none⟩ l.length) (· = g):=by
  refine⟨?_,?_,?_,?_,fun k hk hx=>freeze_other hx⟩
  all_goals unfold World.freeze;rw[if_neg hl0]
  all_goals first | rfl | exact Nat.le_of_eq (Array.size_modify ..).symm
 go_enter L.f169,Body.n169_ntmps ρ
 go_wp2
 go_region_o
 all_goals (go_wp2;go_ret;exact⟨rfl,hrest⟩)
theorem bld_str (L:Lays.n169 P ρ) (X:Builder.Extra P ρ) (b:Nat) (p v:Value) (l:List UInt8) (w:World) (hbk:w.heap[b]?=some (.cells #[p,v] (ρ.t 72) (0,0))) (hv:RowB w.heap (ρ.t 5) v (Lib.byteCells l)):
  Calls P (ρ.f 169) #[.pointer (some ⟨b,0,none⟩)] w fun e w'=>e = .returned (.string ⟨l.toArray⟩)/\Rest w w' fun k=>some k=v.ownBlock:=by
 have hb:∀ {w'},Below w.heap.size w w'->∀X,Rest w w' X:=fun h _=>⟨h.os,h.tape,h.output,h.size,fun k hk _=>h.block k hk⟩
 rcases hv with⟨rfl,e⟩ | ⟨g,cap,cur,rfl,h1,h2,h3,h4,h5⟩
 .have:l=[]:=by have:=congrArg List.length e;rw[Lib.byteCells_length]at this;exact List.length_eq_zero_iff.1 this
  subst this
  exact (Any.Builder_String_nil L X w.heap.size b p w hbk).mono fun e w' ⟨a,c⟩=>⟨a,hb c _⟩
 .rw[Lib.byteCells_length]at h2 h5 hbk
  by_cases h0:l=[]
  .subst h0
   by_cases hc:cap=0
   .subst hc
    exact (Any.Builder_String_noroom L X w.heap.size b g p cur w (Nat.le_refl _) hbk h1).mono fun e w' ⟨a,c⟩=>⟨a,hb c _⟩
   .exact (Any.Builder_String_room L X w.heap.size b g cap p w hc hbk).mono fun e w' ⟨a,c⟩=>⟨a,hb c _⟩
  .refine (bld_str1 L X b g cap p cur l w hbk h1 h2 h3 h4 h5 h0).mono fun e w' ⟨a,c⟩=>⟨a,c.os,c.tape,c.output,c.size,fun k hk hx=>c.block k hk fun e=>hx ?_⟩
   rw[e];rfl
theorem bld_at {K:Know}{N:Names}{h:Heap}{o:Nat}{p:LV}{es:List (List PV)}{sh:List Shp}(t:ObjAt K N h o (.var [p,.box 0 es sh])) (hp:selfP o p=true) (nd:(N.F o).Nodup) (hlo:o<1099511627776/\o/1024≠0):
  ∃u1 u2 bs,h[N.M o]?=some (.cells #[u1,u2] (o/1024) (0,0))/\(u1 = .pointer none\/u1 = .pointer (some ⟨N.M o,0,none⟩))/\RepL K N p u1/\es=bs.map (fun b:UInt8=>[PV.sc (.int .u8 (b.toNat:Int))])/\RowB h sh.length u2 (Lib.byteCells bs)/\u2.ownBlock≠some (N.M o) /\
   (∀g,u2.ownBlock=some g->g∈N.F o)/\N.M o∈N.F o/\u2.oneCell'=true:=by
 obtain⟨t1,_⟩:=t
 rcases t1 with⟨vs,el,G,e1,e2,⟨u1,r,F1,F2,e3,e4,a,⟨u2,r',F3,F4,e5,e6,b,e7⟩⟩,e8,e9⟩ | ⟨e,_⟩
 case inr=>exact e.elim
 have e9:=e9 hlo.1 hlo.2
 subst e5
 subst e3
 have hr':r'=[]:=by
  simp only[List.length_cons,List.length_nil]at e8
  exact List.length_eq_zero_iff.1 (by omega)
 subst hr'
 have hF4:F4=[]:=e7
 subst hF4
 have hpp:RepL K N p u1/\(u1 = .pointer none\/u1 = .pointer (some ⟨N.M o,0,none⟩)):=by
  unfold selfP at hp
  split at hp
  .exact⟨a.2,.inl a.2.1⟩
  .have:=eq_of_beq hp
   subst this
   exact⟨a.2,.inr a.2⟩
  .cases hp
 obtain⟨bs,b1,b2⟩:=b
 have hrow:RowB h sh.length u2 (Lib.byteCells bs):=by
  rcases b2 with⟨h1,h2,_⟩ | ⟨g,cap,cur,h1,h2,h3,h4,h5,h6,_⟩
  .exact .inl ⟨h1,by rw[h2];rfl⟩
  .exact .inr ⟨g,cap,cur,by rw[Lib.byteCells_length];exact h1,h2,by rw[Lib.byteCells_length];exact h3,h4,h5,by rw[Lib.byteCells_length];exact h6⟩
 have hown:∀g,u2.ownBlock=some g->F3=[g]:=fun g hg=>by
  rcases b2 with⟨h1,_⟩ | ⟨g',cap,cur,h1,_,_,_,_,_,h7⟩
  .rw[h1]at hg;cases hg
  .rw[h1]at hg;cases hg;exact h7
 refine⟨u1,u2,bs,by rw[e9]at e1;exact e1,hpp.2,hpp.1,b1,hrow,fun e=>?_,fun g hg=>by rw[e2,e4,e6,hown g hg];simp,by rw[e2];simp,?_⟩
 .rw[e2,e4,e6,hown _ e]at nd
  simp at nd
 .rcases hrow with⟨h1,_⟩ | ⟨_,_,_,h1,_⟩<;>rw[h1]<;>rfl
theorem bld_back {Wr:Nat->Prop}{K:Know}{N:Names}{w w':World}{ps:List (Value×LV)}{o:Nat}{x x':Go.Proofs.YtpgmljkhleidjaaGreatDoor.LM.Obj}{G':List Nat}{X:Nat->Prop}{v:Value}{u:LV}(hinv:Inv Wr K N w.heap ps [(o,x)]) (hW:∀b,w.heap.size<=b->Wr b)
  (hr:Rest w w' X) (hX:∀k,X k->k∈N.F o) (hM:N.M o∈N.F o) (hG:∀g∈G',g∈N.F o\/w.heap.size<=g) (hnd:(N.M o::G').Nodup)
  (hat:ObjAt K (N.setF o (N.M o::G')) w'.heap o x') (hc:LV.toksL x'.cells=[]) (hv:RepL K (N.setF o (N.M o::G')) u v) (hu:u.toks=[]):
  ∃v' K' N',(Ending.returned v:Ending) = .returned v'/\KExt Wr K K'/\Keep Wr w w'/\Inv Wr K' N' w'.heap [(v',u)] [(o,x')]/\∀y∈[(o,x)],N'.at y.1=N.at y.1:=by
 obtain⟨_,_,hWr⟩:=hinv.objs (o,x) (by simp)
 have hocc:∀g,¬Occ [(v,u)] [(o,x')] g:=by
  rintro g (⟨q,a,b⟩ | ⟨y,a,b⟩)
  .simp only[List.mem_singleton]at a;subst a;rw[hu]at b;cases b
  .simp only[List.mem_singleton]at a;subst a;rw[hc]at b;cases b
 refine⟨v,K,N.setF o (N.M o::G'),rfl,KExt.refl,⟨hr.os,hr.tape,hr.output,hr.size,fun b hb hw=>hr.block b hb fun hx=>hw (hWr b (hX b hx)).1⟩,⟨fun b k z hk=>?_,fun q hq=>?_,fun y hy=>?_,fun y hy y' hy' b h1 h2=>?_,fun g ho=>absurd ho (hocc g),fun g g' b ho=>absurd ho (hocc g),fun g x ho=>absurd ho (hocc g)⟩,fun y hy=>rfl⟩
 .have h1:=hinv.sat b k z hk
  have h2:=hcell_lt h1
  unfold hcell at h1 ⊢
  rw[hr.block b h2 fun hx=>by rw[(hWr b (hX b hx)).2 k]at hk;cases hk]
  exact h1
 .simp only[List.mem_singleton]at hq;subst hq;exact hv
 .simp only[List.mem_singleton]at hy
  subst hy
  have hF:(N.setF o (N.M o::G')).F o=N.M o::G':=by simp[Names.setF]
  refine⟨hat,by rw[hF];exact hnd,fun b hb=>?_⟩
  rw[hF]at hb
  rcases lm1 hb with rfl | hb
  .exact hWr _ hM
  .rcases hG b hb with h | h
   .exact hWr b h
   .exact⟨hW b h,hinv.fresh h⟩
 .simp only[List.mem_singleton]at hy hy'
  rw[hy,hy']
theorem xWrite_ok (L:Lays.n166 P ρ) (X:Builder.Extra P ρ) (K0:Tabs):ExtOk P K0 (ρ.f 166) (xWrite (ρ.t 72) (ρ.t 5)):=by
 intro ar os r he Wr K N w vs hK hW hrep hinv
 unfold xWrite at he
 split at he
 rotate_left
 .cases he
 rename_i o x o' p es sh
 split at he
 rotate_left
 .cases he
 rename_i hc
 obtain⟨rfl,hT,hlo,ht,hp,hl⟩:=hc
 cases he
 obtain⟨v1,r1,rfl,hr1,v2,r2,rfl,hr2,rfl⟩:=hrep
 have hr1:v1 = .pointer (some ⟨N.M o',0,none⟩):=hr1
 obtain⟨rfl,_⟩:=hr2
 subst hr1
 obtain⟨t,nd,_⟩:=hinv.objs (o',_) (List.mem_singleton.2 rfl)
 obtain⟨u1,u2,bs,h1,h2,h3,h4,h5,h6,h7,h8,_⟩:=bld_at t hp nd ⟨hlo.1,by rw[hT];exact hlo.2⟩
 rw[hT]at h1
 rw[ht]at h5
 have hlb:es.length=bs.length:=by rw[h4,List.length_map]
 have hlt:N.M o'<w.heap.size:=(ags h1).1
 refine (bld_write L X (N.M o') u1 u2 (Lib.byteCells bs) x w h1 h2 h5 h6 (by rw[Lib.byteCells_length,<-hlb];exact hl)).mono ?_
 rintro e w' ⟨rfl,v',k1,k2,k3,k4⟩
 have hG':∀g,v'.ownBlock=some g->g∈N.F o'\/w.heap.size<=g:=fun g hg=>(k3 g hg).imp (fun e=>h7 g e.symm) id
 refine bld_back (G':=v'.ownBlock.toList) (x' := .var [.ref o' 0,.box 0 (es++bytesR x) sh]) (u := .tup [.pv (.sc (.int .i64 (x.size:Int))),.pv (.sc .nilIface)]) hinv hW k4 (fun k hk=>hk.elim (fun e=>e▸h8) fun e=>h7 k e.symm) h8 (fun g hg=>hG' g (by simpa using hg)) ?_ ?_ rfl ⟨_,rfl,_,_,rfl,⟨rfl,rfl⟩,_,_,rfl,⟨rfl,rfl⟩,rfl⟩ rfl
 .refine List.nodup_cons.2 ⟨fun hm=>?_,by cases v'.ownBlock<;>simp⟩
  have hm':v'.ownBlock=some (N.M o'):=by simpa using hm
  rcases k3 _ hm' with h | h
  .exact h6 h.symm
  .omega
 .refine⟨.inl ⟨[.pointer (some ⟨N.M o',0,none⟩),v'],o'/1024,v'.ownBlock.toList,by rw[hT];exact k1,by simp[Names.setF],⟨_,_,[],v'.ownBlock.toList,rfl,rfl,⟨rfl,rfl⟩,v',[],v'.ownBlock.toList,[],rfl,by simp,⟨bs++x.data.toList,by rw[List.map_append,<-h4];rfl,?_⟩,rfl⟩,rfl,fun _ _=>rfl⟩,rfl⟩
  have hcells:Lib.byteCells bs++Lib.strCells x=(bs++x.data.toList).map fun b:UInt8=>Value.int .u8 (b.toNat:Int):=by rw[List.map_append];rfl
  have hlen:((bs++x.data.toList).map fun b:UInt8=>Value.int .u8 (b.toNat:Int)).length=(bs++x.data.toList).length:=List.length_map ..
  rw[hcells]at k2
  rcases k2 with⟨e1,e2⟩ | ⟨g,cap,cur,e1,e2,e3,e4,e5,e6⟩
  .exact .inl ⟨e1,List.map_eq_nil_iff.1 e2,by rw[e1];rfl⟩
  .rw[hlen]at e1 e3 e6
   exact .inr ⟨g,cap,cur,e1,by rw[ht];exact e2,e3,e4,e5,e6,by rw[e1];rfl⟩
theorem xBstr_ok (L:Lays.n169 P ρ) (X:Builder.Extra P ρ) (K0:Tabs):ExtOk P K0 (ρ.f 169) (xBstr (ρ.t 72) (ρ.t 5)):=by
 intro ar os r he Wr K N w vs hK hW hrep hinv
 unfold xBstr at he
 split at he
 rotate_left
 .cases he
 rename_i o o' p es sh
 split at he
 rotate_left
 .cases he
 rename_i hc
 obtain⟨rfl,hT,hlo,ht,hp,hl⟩:=hc
 cases he
 obtain⟨v1,r1,rfl,hr1,rfl⟩:=hrep
 have hr1:v1 = .pointer (some ⟨N.M o',0,none⟩):=hr1
 subst hr1
 obtain⟨t,nd,_⟩:=hinv.objs (o',_) (List.mem_singleton.2 rfl)
 obtain⟨u1,u2,bs,h1,h2,h3,h4,h5,h6,h7,h8,h9⟩:=bld_at t hp nd ⟨hlo.1,by rw[hT];exact hlo.2⟩
 rw[hT]at h1
 rw[ht]at h5
 have hlt:N.M o'<w.heap.size:=(ags h1).1
 have hes:es.map bytP=bs:=by
  rw[h4,List.map_map]
  have:(bytP∘fun b:UInt8=>[PV.sc (.int .u8 (b.toNat:Int))])=id:=by funext b;exact bytP_row b
  rw[this,List.map_id]
 refine (bld_str L X (N.M o') u1 u2 bs w h1 h5).mono ?_
 rintro e w' ⟨rfl,k4⟩
 have hk:w'.heap[N.M o']?=w.heap[N.M o']?:=k4.block _ hlt fun e=>h6 e.symm
 have hp':RepL K (N.setF o' [N.M o']) p u1:=h3.named Names.setF_agrees
 refine bld_back (G':=[]) (x' := .var [p,.dead]) (u := .pv (.sc (.string ⟨(es.map bytP).toArray⟩))) hinv hW k4 (fun k hk=>h7 k hk.symm) h8 (by simp) (by simp) ?_ ?_ ⟨by rw[hes],rfl⟩ rfl
 .refine⟨.inl ⟨[u1,u2],o'/1024,[],by rw[hT];show w'.heap[N.M o']?=_;rw[hk];exact h1,by simp[Names.setF],RepCs.of ⟨u1,_,rfl,hp',u2,_,rfl,h9,rfl⟩,rfl,fun _ _=>rfl⟩,?_⟩
  show [p,LV.dead].all LV.flat=true
  unfold selfP at hp
  split at hp<;>first | rfl | cases hp
 .unfold selfP at hp
  split at hp<;>first | rfl | cases hp
open Go.RowKit Go.Shelf Go.Sort
theorem KExt.rfl' {Wr:Nat->Prop}{K:Know}:KExt Wr K K:=⟨fun _ _ _ h=>h,fun _ _ _=>rfl⟩
theorem plain_back {Wr:Nat->Prop}{K:Know}{N:Names}{w w':World}{ps:List (Value×LV)}(hi:Inv Wr K N w.heap ps []) (hW:∀b,w.heap.size<=b->Wr b)
  (hb:Below w.heap.size w w'){v:Value}{u:PV}(hv:RepL K N (.pv u) v):
  ∃v' K' N',(Ending.returned v:Ending) = .returned v'/\KExt Wr K K'/\Keep Wr w w'/\Inv Wr K' N' w'.heap [(v',.pv u)] (backOf [] [])/\∀x∈([]:List (Nat×Obj)),N'.at x.1=N.at x.1:=by
 refine⟨v,K,N,rfl,KExt.rfl',⟨hb.os,hb.tape,hb.output,hb.size,fun b h _=>hb.block b h⟩,?_,fun x h=>(by cases h)⟩
 have hocc:∀g,¬Occ [(v,LV.pv u)] (backOf [] []) g:=by
  rintro g (⟨p,a,b⟩ | ⟨x,a,_⟩)
  .simp only[List.mem_singleton]at a;subst a;simp[LV.toks]at b
  .simp[backOf,newOf]at a
 refine⟨fun b o v h=>?_,fun p h=>?_,fun x h=>(by simp[backOf,newOf]at h),fun x h=>(by simp[backOf,newOf]at h),fun g o=>absurd o (hocc g),fun g g' b o=>absurd o (hocc g),fun g x o=>absurd o (hocc g)⟩
 .have h1:=hi.sat b o v h
  have h2:=hcell_lt h1
  unfold hcell at h1 ⊢
  rw[hb.block b h2];exact h1
 .simp only[List.mem_singleton]at h;subst h;exact hv
theorem rows_strs {K:Know}:∀ {xs:List Str}{b o:Nat},RepRows K 1 (xs.map fun s=>[PV.sc (.string s)]) b o->∀ (j:Nat) (x:Str),xs[j]?=some x->K b (o+j)=some (.string x)
 | [],_,_,_,_,_,h=>by simp at h
 | y::r,b,o,⟨_,⟨⟨u,hu,hp⟩,_⟩,hr⟩,j,x,h=>by
  cases j with
  | zero=>simp at h;subst h;rw[Nat.add_zero,hu];exact congrArg some hp.1
  | succ j=>have:=rows_strs hr j x (by simpa using h);rw[show o+(j+1)=o+1+j by omega];exact this
variable {P:Program}{ρ:Ren}
theorem xJoin_ok (L:Lays.n156 P ρ) (X:Builder.Extra P ρ) (K0:Tabs):ExtOk P K0 (ρ.f 156) xJoin:=by
 intro ar os r he Wr K N w vs hK hW hrep hinv
 unfold xJoin at he
 split at he
 rotate_left
 .cases he
 rename_i es sep
 split at he
 rotate_left
 .cases he
 rename_i hc
 obtain⟨h1,h2,h3⟩:=hc
 cases he
 obtain⟨v1,r1,rfl,hr1,v2,r2,rfl,hr2,rfl⟩:=hrep
 obtain⟨a,len,cap,rfl,rfl,hcap,ha⟩:=hr1
 obtain⟨rfl,_⟩:=hr2
 have hlen:(Lib.join ((es.map strP).map (·.data.toList)) sep.data.toList).length<=140737488355328:=by
  have:(joinS (es.map strP) sep).size=(Lib.join ((es.map strP).map (·.data.toList)) sep.data.toList).length:=by
   unfold joinS;exact List.size_toArray
  rw[<-this];unfold bigStr at h3;omega
 have fin:∀w',Below w.heap.size w w'->_:=fun w' hb=>plain_back (u := .sc (.string (joinS (es.map strP) sep))) (v := .string (joinS (es.map strP) sep)) hinv hW hb ⟨rfl,rfl⟩
 by_cases e0:es=[]
 .subst e0
  refine (Any.strings_Join_none L X a cap sep w).mono ?_
  rintro e w' ⟨rfl,rfl⟩
  exact fin _ (Below.refl _ _)
 .rcases ha with h | ⟨b,o,rfl,hrows⟩
  .exact absurd h e0
  rw[h1]at hrows
  have hk:=rows_strs hrows
  have hb:b<w.heap.size:=by
   cases es with
   | nil=>exact absurd rfl e0
   | cons y t=>exact hcell_lt (hinv.sat _ _ _ (hk 0 _ rfl))
  have hj:=Any.strings_Join L X b o cap (es.map strP) sep w (fun j x hx=>by rw[cell?_heap];exact hinv.sat _ _ _ (hk j x hx)) hb (by rw[List.length_map];unfold bigLen at h2;omega) (by rw[List.length_map];exact hcap) hlen
  rw[List.length_map]at hj
  refine hj.mono ?_
  rintro e w' ⟨rfl,hbl⟩
  exact fin _ hbl
theorem below_grow (w:World) (k:Nat) (os:Array Go.Obj):Below w.heap.size w (grow (w.drewN k) os):=by
 refine⟨rfl,rfl,rfl,?_,fun b hb=>?_⟩
 .show w.heap.size<=(w.heap++os).size
  rw[Array.size_append];omega
 .show (w.heap++os)[b]?=w.heap[b]?
  exact Array.getElem?_append_left hb
theorem xItoa_ok (L : LaysM.n171 P ρ) {T : Tabs} {g : Nat} (hg : P.globalNamed "internal/strconv.uint64pow10" = some g) (hT : (g, (Lib.pow10Tab.map fun z => Value.int .u64 z).toArray) ∈ T) : ExtOk P T (ρ.f 171) xItoa := by
 intro ar os r he Wr K N w vs hK hW hrep hinv
 unfold xItoa at he
 split at he
 rotate_left
 .cases he
 rename_i n
 split at he
 rotate_left
 .cases he
 rename_i hc
 cases he
 obtain⟨v1,r1,rfl,hr1,rfl⟩:=hrep
 obtain⟨rfl,_⟩:=hr1
 obtain⟨_,_,t,z,hb⟩:=hK _ hT
 have htab : Lib.TabIs P w "internal/strconv.uint64pow10" .u64 Lib.pow10Tab := by
  unfold Lib.TabIs World.var?
  simp only[hg,obb]
  rw[hb]
 refine (Any.strconv_Itoa L n hc.1 hc.2 w htab).mono ?_
 rintro e w' ⟨rfl,k,os,rfl⟩
 exact plain_back (u := .sc (.string (itoaS n))) (v := .string (itoaS n)) hinv hW (below_grow w k os) ⟨rfl,rfl⟩
theorem laid_at {P:Program}{W:World}{x:String×DataW Unit}:∀ {l:List (String×DataW Unit)}{ps:List MemPlace},DataW.LaidVars P W l ps->x∈l->∃g t cs fuel p,P.globalNamed x.1=some g/\(P.globals[g]?).map (·.type)=some t/\W.var? P x.1=some cs/\DataW.trod (fun _=>()) P W 0 (fun _=>true) false fuel t cs.toList=some (x.2,p)
 | [],_,_,h=>by cases h
 | y::l,_,⟨g,t,cs,fuel,p,q,h1,h2,h3,h4,h5,_⟩,h=>by
  rcases lm1 h with rfl | h
  .exact⟨g,t,cs,fuel,p,h1,h2,h3,h4⟩
  .exact laid_at h5 h
theorem stand_tab {P:Program}{W:World}{laid:List (String×DataW Unit)}{name:String}{k:IntKind}{zs:List Int}{g:Nat}{t e:TypeId}{n:Nat}(hL:laidMet P laid W) (hm:(name,Lib.tabData k zs)∈laid) (hg:P.globalNamed name=some g) (hty:(P.globals[g]?).map (·.type)=some t)
  (ht:P.underlying t=some (.array n e)) (he:P.underlying e=some (.int k)) (hce:P.cellsOf e=1) (hct:P.cellsOf t=n):Stand [(g,(zs.map fun z=>Value.int k z).toArray)] (fun b=>W.heap.size<=b) W.heap:=by
 obtain⟨ps,h,_⟩:=hL
 obtain⟨g',t',cs,fuel,p,h1,h2,h3,h4⟩:=laid_at h hm
 obtain rfl:=Option.some.inj (hg.symm.trans h1)
 obtain rfl:=Option.some.inj (hty.symm.trans h2)
 have hcs:cs=(zs.map fun z=>Value.int k z).toArray:=by rw[<-Lib.cells_of_tab ht he hce hct h4]
 subst hcs
 intro x hx
 rw[List.mem_singleton]at hx
 subst hx
 unfold World.var? at h3
 simp only at h3
 rw[hg]at h3
 simp only[obb]at h3
 split at h3
 .rename_i c t z hb
  simp only[osi]at h3
  subst h3
  have:=(ags hb).1
  exact⟨by simpa using this,this,_,_,hb⟩
 .cases h3
def ExtBd (e:Ext):Prop:=∀ar os r,argBd ar os->e ar os=some r->resBd r
theorem xJoin_bd:ExtBd xJoin:=by
 intro ar os r _ he
 unfold xJoin at he
 split at he
 .split at he
  .rename_i hc
   cases he
   exact⟨hc.2.2,by simp⟩
  .cases he
 .cases he
theorem xItoa_bd:ExtBd xItoa:=by
 intro ar os r _ he
 unfold xItoa at he
 split at he
 .split at he
  .rename_i hc
   cases he
   refine⟨?_,by simp⟩
   show (itoaS _).size<=bigStr
   have:=Lib.itoa_length_le _ hc.1 hc.2
   unfold itoaS
   show (List.toArray _).size<=bigStr
   rw[List.size_toArray]
   unfold bigStr
   omega
  .cases he
 .cases he
theorem xWrite_bd (T t:Nat):ExtBd (xWrite T t):=by
 intro ar os r hb he
 unfold xWrite at he
 split at he
 .split at he
  .rename_i o x o' p es sh hc
   cases he
   have hl:(bytesR x).length=x.size:=by unfold bytesR;rw[List.length_map];cases x;rfl
   have h1:LV.bdL [p,.box 0 es sh]:=hb.2 _ (List.mem_singleton.2 rfl)
   refine⟨⟨trivial,trivial,trivial⟩,fun y hy=>?_⟩
   simp only[List.mem_singleton,osi]at hy
   subst hy
   refine⟨trivial,⟨by rw[List.length_append,hl];exact hc.2.2.2.2.2,bdRows_iff.2 fun e he=>?_⟩,trivial⟩
   rcases lma he with he | he
   .exact bdRows_iff.1 h1.2.1.2 e he
   .obtain⟨b,_,rfl⟩:=List.mem_map.1 he
    exact⟨trivial,trivial⟩
  .cases he
 .cases he
theorem xBstr_bd (T t:Nat):ExtBd (xBstr T t):=by
 intro ar os r hb he
 unfold xBstr at he
 split at he
 .split at he
  .rename_i o o' p es sh hc
   cases he
   have h1:LV.bdL [p,.box 0 es sh]:=hb.2 _ (List.mem_singleton.2 rfl)
   refine⟨?_,fun y hy=>?_⟩
   .show (List.toArray (es.map bytP)).size<=bigStr
    rw[List.size_toArray,List.length_map]
    exact hc.2.2.2.2.2
   .simp only[List.mem_singleton,osi]at hy
    subst hy
    exact⟨h1.1,trivial,trivial⟩
  .cases he
 .cases he
open Go.ChangeShapes Go.WideShapes Go.ChangeAt Go.RowKit
open Go.Proofs.YtpgmljkhleidjaaGreatDoor
set_option maxRecDepth 100000
theorem rd_229 (w:World):∀n,Rd Tryz.prog w 229 Field n:=by
 intro n
 induction n using Nat.strongRecOn with | _ n ih=>?_
 intro H enc base spare held cs x h
 cases n with
 | zero=>simp[DataW.trod]at h
 | succ n=>
  obtain⟨hl,hf⟩:=struct_parts (t:=229) h (ps:=[(9,0,1),(9,1,1),(4,2,1),(4,3,1),(4,4,1),(4,5,1),(4,6,1),(41,7,1)]) (by kernel_rfl)
  have hl:cs.length=8:=hl.trans (by kernel_rfl)
  obtain⟨y0,h0,b0⟩:=hf (9,0,1) (by simp)
  obtain⟨v0,r0,q0⟩:=((fun n=>rd_str (t:=9) (by kernel_rfl) n) n:Rd Tryz.prog w 9 _ n) enc base spare held _ _ h0
  obtain⟨y1,h1,b1⟩:=hf (9,1,1) (by simp)
  obtain⟨v1,r1,q1⟩:=((fun n=>rd_str (t:=9) (by kernel_rfl) n) n:Rd Tryz.prog w 9 _ n) enc base spare held _ _ h1
  obtain⟨y2,h2,b2⟩:=hf (4,2,1) (by simp)
  obtain⟨v2,r2,q2⟩:=((fun n=>rd_bool (t:=4) (by kernel_rfl) n) n:Rd Tryz.prog w 4 _ n) enc base spare held _ _ h2
  obtain⟨y3,h3,b3⟩:=hf (4,3,1) (by simp)
  obtain⟨v3,r3,q3⟩:=((fun n=>rd_bool (t:=4) (by kernel_rfl) n) n:Rd Tryz.prog w 4 _ n) enc base spare held _ _ h3
  obtain⟨y4,h4,b4⟩:=hf (4,4,1) (by simp)
  obtain⟨v4,r4,q4⟩:=((fun n=>rd_bool (t:=4) (by kernel_rfl) n) n:Rd Tryz.prog w 4 _ n) enc base spare held _ _ h4
  obtain⟨y5,h5,b5⟩:=hf (4,5,1) (by simp)
  obtain⟨v5,r5,q5⟩:=((fun n=>rd_bool (t:=4) (by kernel_rfl) n) n:Rd Tryz.prog w 4 _ n) enc base spare held _ _ h5
  obtain⟨y6,h6,b6⟩:=hf (4,6,1) (by simp)
  obtain⟨v6,r6,q6⟩:=((fun n=>rd_bool (t:=4) (by kernel_rfl) n) n:Rd Tryz.prog w 4 _ n) enc base spare held _ _ h6
  obtain⟨y7,h7,b7⟩:=hf (41,7,1) (by simp)
  obtain⟨v7,r7,q7⟩:=((fun n=>rd_list (t:=41) (e:=9) (by kernel_rfl) (by kernel_rfl) (by decide) (fun _=>rfl) (fun m _=>(fun n=>rd_str (t:=9) (by kernel_rfl) n) m)) n:Rd Tryz.prog w 41 _ n) enc base spare held _ _ h7
  match cs,hl with
  | [c0,c1,c2,c3,c4,c5,c6,c7],_=>
   exact⟨⟨v0,v1,v2,v3,v4,v5,v6,v7⟩,r0.join (r1.join (r2.join (r3.join (r4.join (r5.join (r6.join (r7))))))),fun hb=>bdRow_append (q0 (Nat.le_trans b0 hb)) (bdRow_append (q1 (Nat.le_trans b1 hb)) (bdRow_append (q2 (Nat.le_trans b2 hb)) (bdRow_append (q3 (Nat.le_trans b3 hb)) (bdRow_append (q4 (Nat.le_trans b4 hb)) (bdRow_append (q5 (Nat.le_trans b5 hb)) (bdRow_append (q6 (Nat.le_trans b6 hb)) (q7 (Nat.le_trans b7 hb))))))))⟩
theorem rd_142 (w:World):∀n,Rd Tryz.prog w 142 Ty n:=by
 intro n
 induction n using Nat.strongRecOn with | _ n ih=>?_
 intro H enc base spare held cs x h
 cases n with
 | zero=>simp[DataW.trod]at h
 | succ n=>
  obtain⟨hl,hf⟩:=struct_parts (t:=142) h (ps:=[(9,0,1),(9,1,1),(140,2,1)]) (by kernel_rfl)
  have hl:cs.length=3:=hl.trans (by kernel_rfl)
  obtain⟨y0,h0,b0⟩:=hf (9,0,1) (by simp)
  obtain⟨v0,r0,q0⟩:=((fun n=>rd_str (t:=9) (by kernel_rfl) n) n:Rd Tryz.prog w 9 _ n) enc base spare held _ _ h0
  obtain⟨y1,h1,b1⟩:=hf (9,1,1) (by simp)
  obtain⟨v1,r1,q1⟩:=((fun n=>rd_str (t:=9) (by kernel_rfl) n) n:Rd Tryz.prog w 9 _ n) enc base spare held _ _ h1
  obtain⟨y2,h2,b2⟩:=hf (140,2,1) (by simp)
  obtain⟨v2,r2,q2⟩:=((fun n=>rd_list (t:=140) (e:=229) (by kernel_rfl) (by kernel_rfl) (by decide) (fun _=>rfl) (fun m _=>(rd_229 w) m)) n:Rd Tryz.prog w 140 _ n) enc base spare held _ _ h2
  match cs,hl with
  | [c0,c1,c2],_=>
   exact⟨⟨v0,v1,v2⟩,r0.join (r1.join (r2)),fun hb=>bdRow_append (q0 (Nat.le_trans b0 hb)) (bdRow_append (q1 (Nat.le_trans b1 hb)) (q2 (Nat.le_trans b2 hb)))⟩
theorem rd_24 (w:World):∀n,Rd Tryz.prog w 24 Part n:=by
 intro n
 induction n using Nat.strongRecOn with | _ n ih=>?_
 intro H enc base spare held cs x h
 cases n with
 | zero=>simp[DataW.trod]at h
 | succ n=>
  obtain⟨hl,hf⟩:=struct_parts (t:=24) h (ps:=[(9,0,1),(22,1,1)]) (by kernel_rfl)
  have hl:cs.length=2:=hl.trans (by kernel_rfl)
  obtain⟨y0,h0,b0⟩:=hf (9,0,1) (by simp)
  obtain⟨v0,r0,q0⟩:=((fun n=>rd_str (t:=9) (by kernel_rfl) n) n:Rd Tryz.prog w 9 _ n) enc base spare held _ _ h0
  obtain⟨y1,h1,b1⟩:=hf (22,1,1) (by simp)
  obtain⟨v1,r1,q1⟩:=((fun n=>rd_list (t:=22) (e:=142) (by kernel_rfl) (by kernel_rfl) (by decide) (fun _=>rfl) (fun m _=>(rd_142 w) m)) n:Rd Tryz.prog w 22 _ n) enc base spare held _ _ h1
  match cs,hl with
  | [c0,c1],_=>
   exact⟨⟨v0,v1⟩,r0.join (r1),fun hb=>bdRow_append (q0 (Nat.le_trans b0 hb)) (q1 (Nat.le_trans b1 hb))⟩
theorem rd_88 (w:World):∀n,Rd Tryz.prog w 88 Sel n:=by
 intro n
 induction n using Nat.strongRecOn with | _ n ih=>?_
 intro H enc base spare held cs x h
 cases n with
 | zero=>simp[DataW.trod]at h
 | succ n=>
  obtain⟨hl,hf⟩:=struct_parts (t:=88) h (ps:=[(9,0,1),(9,1,1),(4,2,1),(3,3,1),(25,4,1)]) (by kernel_rfl)
  have hl:cs.length=5:=hl.trans (by kernel_rfl)
  obtain⟨y0,h0,b0⟩:=hf (9,0,1) (by simp)
  obtain⟨v0,r0,q0⟩:=((fun n=>rd_str (t:=9) (by kernel_rfl) n) n:Rd Tryz.prog w 9 _ n) enc base spare held _ _ h0
  obtain⟨y1,h1,b1⟩:=hf (9,1,1) (by simp)
  obtain⟨v1,r1,q1⟩:=((fun n=>rd_str (t:=9) (by kernel_rfl) n) n:Rd Tryz.prog w 9 _ n) enc base spare held _ _ h1
  obtain⟨y2,h2,b2⟩:=hf (4,2,1) (by simp)
  obtain⟨v2,r2,q2⟩:=((fun n=>rd_bool (t:=4) (by kernel_rfl) n) n:Rd Tryz.prog w 4 _ n) enc base spare held _ _ h2
  obtain⟨y3,h3,b3⟩:=hf (3,3,1) (by simp)
  obtain⟨v3,r3,q3⟩:=((fun n=>rd_int (t:=3) (by kernel_rfl) n) n:Rd Tryz.prog w 3 _ n) enc base spare held _ _ h3
  obtain⟨y4,h4,b4⟩:=hf (25,4,1) (by simp)
  obtain⟨v4,r4,q4⟩:=(rd_list (t:=25) (e:=88) (by kernel_rfl) (by kernel_rfl) (by decide) (fun _=>rfl) (fun m hm=>ih m (by omega)):Rd Tryz.prog w 25 _ n) enc base spare held _ _ h4
  match cs,hl with
  | [c0,c1,c2,c3,c4],_=>
   exact⟨⟨v0,v1,v2,v3,v4⟩,r0.join (r1.join (r2.join (r3.join (r4)))),fun hb=>bdRow_append (q0 (Nat.le_trans b0 hb)) (bdRow_append (q1 (Nat.le_trans b1 hb)) (bdRow_append (q2 (Nat.le_trans b2 hb)) (bdRow_append (q3 (Nat.le_trans b3 hb)) (q4 (Nat.le_trans b4 hb)))))⟩
theorem chk_all:∀x∈gtab,chkF Tryz.prog (fid x.1) x.2=true:=
 List.forall_mem_cons.2 ⟨chk6,List.forall_mem_cons.2 ⟨chk10,List.forall_mem_cons.2 ⟨chk11,List.forall_mem_cons.2 ⟨chk13,List.forall_mem_cons.2 ⟨chk14,List.forall_mem_cons.2 ⟨chk16,List.forall_mem_cons.2 ⟨chk17,List.forall_mem_cons.2 ⟨chk20,List.forall_mem_cons.2 ⟨chk29,List.forall_mem_cons.2 ⟨chk30,List.forall_mem_cons.2 ⟨chk31,List.forall_mem_cons.2 ⟨chk32,List.forall_mem_cons.2 ⟨chk33,List.forall_mem_cons.2 ⟨chk45,List.forall_mem_cons.2 ⟨chk46,List.forall_mem_cons.2 ⟨chk47,List.forall_mem_cons.2 ⟨chk48,List.forall_mem_cons.2 ⟨chk49,List.forall_mem_cons.2 ⟨chk51,List.forall_mem_cons.2 ⟨chk52,List.forall_mem_cons.2 ⟨chk55,List.forall_mem_cons.2 ⟨chk56,List.forall_mem_cons.2 ⟨chk63,List.forall_mem_cons.2 ⟨chk64,List.forall_mem_cons.2 ⟨chk66,List.forall_mem_cons.2 ⟨chk67,List.forall_mem_cons.2 ⟨chk68,List.forall_mem_cons.2 ⟨chk83,List.forall_mem_cons.2 ⟨chk84,List.forall_mem_cons.2 ⟨chk91,List.forall_mem_cons.2 ⟨chk92,List.forall_mem_cons.2 ⟨chk93,List.forall_mem_cons.2 ⟨chk94,List.forall_mem_cons.2 ⟨chk95,List.forall_mem_cons.2 ⟨chk96,List.forall_mem_cons.2 ⟨chk98,List.forall_mem_cons.2 ⟨chk103,List.forall_mem_cons.2 ⟨chk104,List.forall_mem_cons.2 ⟨chk105,List.forall_mem_cons.2 ⟨chk106,List.forall_mem_cons.2 ⟨chk108,List.forall_mem_cons.2 ⟨chk109,List.forall_mem_cons.2 ⟨chk110,List.forall_mem_cons.2 ⟨chk111,List.forall_mem_cons.2 ⟨chk112,List.forall_mem_cons.2 ⟨chk113,List.forall_mem_cons.2 ⟨chk114,List.forall_mem_cons.2 ⟨chk115,List.forall_mem_cons.2 ⟨chk116,List.forall_mem_cons.2 ⟨chk119,List.forall_mem_cons.2 ⟨chk136,List.forall_mem_cons.2 ⟨chk138,List.forall_mem_cons.2 ⟨chk139,List.forall_mem_cons.2 ⟨chk144,List.forall_mem_cons.2 ⟨chk147,List.forall_mem_cons.2 ⟨chk149,List.forall_mem_cons.2 ⟨chk150,List.forall_mem_cons.2 ⟨chk151,List.forall_mem_cons.2 ⟨chk152,List.forall_mem_cons.2 ⟨chk153,List.forall_mem_cons.2 ⟨chk155,List.forall_mem_cons.2 ⟨chk156,List.forall_mem_cons.2 ⟨chk157,List.forall_mem_cons.2 ⟨chk158,List.forall_mem_cons.2 ⟨chk159,List.forall_mem_cons.2 ⟨chk160,List.forall_mem_cons.2 ⟨chk161,List.forall_mem_cons.2 ⟨chk162,List.forall_mem_cons.2 ⟨chk165,List.forall_mem_cons.2 ⟨chk166,List.forall_mem_cons.2 ⟨chk167,List.forall_mem_cons.2 ⟨chk168,List.forall_mem_cons.2 ⟨chk169,List.forall_mem_cons.2 ⟨chk171,List.forall_mem_cons.2 ⟨chk175,List.forall_mem_cons.2 ⟨chk191,List.forall_mem_cons.2 ⟨chk192,List.forall_mem_cons.2 ⟨chk193,List.forall_mem_cons.2 ⟨chk194,List.forall_mem_cons.2 ⟨chk196,List.forall_mem_cons.2 ⟨chk197,List.forall_mem_cons.2 ⟨chk198,List.forall_mem_cons.2 ⟨chk199,List.forall_mem_cons.2 ⟨chk200,List.forall_mem_cons.2 ⟨chk201,List.forall_mem_cons.2 ⟨chk202,List.forall_mem_cons.2 ⟨chk203,List.forall_mem_cons.2 ⟨chk204,List.forall_mem_cons.2 ⟨chk205,List.forall_mem_cons.2 ⟨chk207,List.forall_mem_cons.2 ⟨chk209,List.forall_mem_cons.2 ⟨chk213,List.forall_mem_cons.2 ⟨chk221,List.forall_mem_cons.2 ⟨chk222,List.forall_mem_cons.2 ⟨chk223,List.forall_mem_cons.2 ⟨chk224,List.forall_mem_cons.2 ⟨chk225,List.forall_mem_cons.2 ⟨chk65549,List.forall_mem_cons.2 ⟨chk65550,List.forall_mem_cons.2 ⟨chk65555,List.forall_mem_cons.2 ⟨chk65587,List.forall_mem_cons.2 ⟨chk65588,List.forall_mem_cons.2 ⟨chk65601,List.forall_mem_cons.2 ⟨chk65629,List.forall_mem_cons.2 ⟨chk65643,List.forall_mem_cons.2 ⟨chk65678,List.forall_mem_cons.2 ⟨chk65688,List.forall_mem_cons.2 ⟨chk65733,List.forall_mem_cons.2 ⟨chk65758,(by simp)⟩⟩⟩⟩⟩⟩⟩⟩⟩⟩⟩⟩⟩⟩⟩⟩⟩⟩⟩⟩⟩⟩⟩⟩⟩⟩⟩⟩⟩⟩⟩⟩⟩⟩⟩⟩⟩⟩⟩⟩⟩⟩⟩⟩⟩⟩⟩⟩⟩⟩⟩⟩⟩⟩⟩⟩⟩⟩⟩⟩⟩⟩⟩⟩⟩⟩⟩⟩⟩⟩⟩⟩⟩⟩⟩⟩⟩⟩⟩⟩⟩⟩⟩⟩⟩⟩⟩⟩⟩⟩⟩⟩⟩⟩⟩⟩⟩⟩⟩⟩⟩⟩⟩⟩⟩⟩⟩⟩⟩
theorem cok_all:(gtab.all fun x=>x.2.body.cok)=true:=by kernel_rfl
theorem prog_ok:∀f p,gE.prog f=some p->chkF Tryz.prog (fid f) p=true:=fun f p h=>chk_all _ (aget_mem h)
theorem own:ownKnob Tryz.prog.godebug=none:=by kernel_rfl
mutual
theorem bk_le {H:Type}:∀d:DataW H,bk d+1<=Go.Proofs.YtpgmljkhleidjaaGreatDoor.Rows.uptoBulk d
 | .lit l=>by cases l<;>simp[bk,Go.Proofs.YtpgmljkhleidjaaGreatDoor.Rows.uptoBulk]
 | .nil=>by simp[bk,Go.Proofs.YtpgmljkhleidjaaGreatDoor.Rows.uptoBulk]
 | .ptr _=>by simp[bk,Go.Proofs.YtpgmljkhleidjaaGreatDoor.Rows.uptoBulk]
 | .slice a b=>by have:=bks_le a;simp only[bk,Go.Proofs.YtpgmljkhleidjaaGreatDoor.Rows.uptoBulk];omega
 | .agg a=>by have:=bks_le a;simp only[bk,Go.Proofs.YtpgmljkhleidjaaGreatDoor.Rows.uptoBulk];omega
 | .iface _ _=>by simp[bk,Go.Proofs.YtpgmljkhleidjaaGreatDoor.Rows.uptoBulk]
 | .map _=>by simp[bk,Go.Proofs.YtpgmljkhleidjaaGreatDoor.Rows.uptoBulk]
 | .held _=>by simp[bk,Go.Proofs.YtpgmljkhleidjaaGreatDoor.Rows.uptoBulk]
theorem bks_le {H:Type}:∀l:List (DataW H),bks l+l.length<=Go.Proofs.YtpgmljkhleidjaaGreatDoor.Rows.uptoBulkAll l
 | []=>by simp[bks,Go.Proofs.YtpgmljkhleidjaaGreatDoor.Rows.uptoBulkAll]
 | d::r=>by have:=bk_le d;have:=bks_le r;simp only[bks,Go.Proofs.YtpgmljkhleidjaaGreatDoor.Rows.uptoBulkAll,List.length_cons];omega
end
def shR:Go.Shelf.Ren:=⟨fun | 156=>164 | 165=>211 | 166=>206 | 169=>208 | 240=>226 | 241=>228 | 276=>231 | 277=>236 | n=>n,fun | 31=>41 | 9=>9 | 3=>3 | 4=>4 | 0=>0 | 20=>20 | 72=>235 | 76=>238 | 70=>233 | 37=>38 | 75=>237 | 127=>249 | 164=>252 | 5=>5 | 80=>159 | n=>n,fun | n=>n⟩
def shI:Go.Shelf.Ren:=⟨fun | 171=>163 | 243=>210 | 246=>227 | 283=>232 | 284=>233 | 285=>234 | 286=>235 | 129=>240 | 317=>239 | 318=>241 | 319=>242 | 320=>243 | 337=>254 | 338=>255 | n=>n,fun | 3=>3 | 9=>9 | 2=>2 | 4=>4 | 171=>254 | 0=>0 | 53=>255 | 37=>38 | 5=>5 | 173=>258 | 212=>265 | 51=>266 | 20=>20 | 213=>267 | 46=>263 | 232=>285 | 233=>286 | n=>n,fun | 17=>0 | 18=>2 | 19=>3 | n=>n⟩
theorem sh156:Go.Proofs.Lays.n156 Tryz.prog shR:={
 mixed:=by kernel_rfl
 f156:=Tryz.func164.trans (congrArg some (by kernel_rfl))
 f165:=Tryz.func211.trans (congrArg some (by kernel_rfl))
 f166:=Tryz.func206.trans (congrArg some (by kernel_rfl))
 f169:=Tryz.func208.trans (congrArg some (by kernel_rfl))
 f240:=Tryz.func226.trans (congrArg some (by kernel_rfl))
 f241:=Tryz.func228.trans (congrArg some (by kernel_rfl))
 f276:=Tryz.func231.trans (congrArg some (by kernel_rfl))
 f277:=Tryz.func236.trans (congrArg some (by kernel_rfl))
 t0:=Tryz.underlying0
 a0:=Tryz.isAgg0
 z0:=Tryz.sizeOf0
 v0:=Tryz.zeroValue0
 t3:=Tryz.underlying3
 a3:=Tryz.isAgg3
 z3:=Tryz.sizeOf3
 v3:=Tryz.zeroValue3
 t4:=Tryz.underlying4
 a4:=Tryz.isAgg4
 z4:=Tryz.sizeOf4
 v4:=Tryz.zeroValue4
 t9:=Tryz.underlying9
 a9:=Tryz.isAgg9
 z9:=Tryz.sizeOf9
 v9:=Tryz.zeroValue9
 t20:=Tryz.underlying20
 a20:=Tryz.isAgg20
 z20:=Tryz.sizeOf20
 v20:=Tryz.zeroValue20
 t31:=Tryz.underlying41
 a31:=Tryz.isAgg41
 z31:=Tryz.sizeOf41
 v31:=Tryz.zeroValue41
 t37:=Tryz.underlying38
 a37:=Tryz.isAgg38
 z37:=Tryz.sizeOf38
 v37:=Tryz.zeroValue38
 t70:=Tryz.underlying233
 a70:=Tryz.isAgg233
 z70:=Tryz.sizeOf233
 v70:=Tryz.zeroValue233
 t72:=Tryz.underlying235
 a72:=Tryz.isAgg235
 z72:=Tryz.sizeOf235
 v72:=Tryz.zeroValue235
 t75:=Tryz.underlying237
 a75:=Tryz.isAgg237
 z75:=Tryz.sizeOf237
 v75:=Tryz.zeroValue237
 t76:=Tryz.underlying238
 a76:=Tryz.isAgg238
 z76:=Tryz.sizeOf238
 v76:=Tryz.zeroValue238
 t127:=Tryz.underlying249
 a127:=Tryz.isAgg249
 z127:=Tryz.sizeOf249
 v127:=Tryz.zeroValue249
 t164:=Tryz.underlying252
 a164:=Tryz.isAgg252
 z164:=Tryz.sizeOf252
 v164:=Tryz.zeroValue252 }
theorem sh166:Go.Proofs.Lays.n166 Tryz.prog shR:={
 mixed:=by kernel_rfl
 f166:=Tryz.func206.trans (congrArg some (by kernel_rfl))
 f240:=Tryz.func226.trans (congrArg some (by kernel_rfl))
 f276:=Tryz.func231.trans (congrArg some (by kernel_rfl))
 t0:=Tryz.underlying0
 a0:=Tryz.isAgg0
 z0:=Tryz.sizeOf0
 v0:=Tryz.zeroValue0
 t3:=Tryz.underlying3
 a3:=Tryz.isAgg3
 z3:=Tryz.sizeOf3
 v3:=Tryz.zeroValue3
 t4:=Tryz.underlying4
 a4:=Tryz.isAgg4
 z4:=Tryz.sizeOf4
 v4:=Tryz.zeroValue4
 t9:=Tryz.underlying9
 a9:=Tryz.isAgg9
 z9:=Tryz.sizeOf9
 v9:=Tryz.zeroValue9
 t20:=Tryz.underlying20
 a20:=Tryz.isAgg20
 z20:=Tryz.sizeOf20
 v20:=Tryz.zeroValue20
 t37:=Tryz.underlying38
 a37:=Tryz.isAgg38
 z37:=Tryz.sizeOf38
 v37:=Tryz.zeroValue38
 t70:=Tryz.underlying233
 a70:=Tryz.isAgg233
 z70:=Tryz.sizeOf233
 v70:=Tryz.zeroValue233
 t72:=Tryz.underlying235
 a72:=Tryz.isAgg235
 z72:=Tryz.sizeOf235
 v72:=Tryz.zeroValue235
 t75:=Tryz.underlying237
 a75:=Tryz.isAgg237
 z75:=Tryz.sizeOf237
 v75:=Tryz.zeroValue237
 t164:=Tryz.underlying252
 a164:=Tryz.isAgg252
 z164:=Tryz.sizeOf252
 v164:=Tryz.zeroValue252 }
theorem sh169:Go.Proofs.Lays.n169 Tryz.prog shR:={
 mixed:=by kernel_rfl
 f169:=Tryz.func208.trans (congrArg some (by kernel_rfl))
 t0:=Tryz.underlying0
 a0:=Tryz.isAgg0
 z0:=Tryz.sizeOf0
 v0:=Tryz.zeroValue0
 t3:=Tryz.underlying3
 a3:=Tryz.isAgg3
 z3:=Tryz.sizeOf3
 v3:=Tryz.zeroValue3
 t9:=Tryz.underlying9
 a9:=Tryz.isAgg9
 z9:=Tryz.sizeOf9
 v9:=Tryz.zeroValue9
 t37:=Tryz.underlying38
 a37:=Tryz.isAgg38
 z37:=Tryz.sizeOf38
 v37:=Tryz.zeroValue38
 t70:=Tryz.underlying233
 a70:=Tryz.isAgg233
 z70:=Tryz.sizeOf233
 v70:=Tryz.zeroValue233
 t72:=Tryz.underlying235
 a72:=Tryz.isAgg235
 z72:=Tryz.sizeOf235
 v72:=Tryz.zeroValue235
 t127:=Tryz.underlying249
 a127:=Tryz.isAgg249
 z127:=Tryz.sizeOf249
 v127:=Tryz.zeroValue249 }
theorem sh171:Go.Proofs.LaysM.n171 Tryz.prog shI:={
 mixed:=by kernel_rfl
 f129:=Tryz.func240.trans (congrArg some (by kernel_rfl))
 f171:=Tryz.func163.trans (congrArg some (by kernel_rfl))
 f243:=Tryz.func210.trans (congrArg some (by kernel_rfl))
 f246:=Tryz.func227.trans (congrArg some (by kernel_rfl))
 f283:=Tryz.func232.trans (congrArg some (by kernel_rfl))
 f284:=Tryz.func233.trans (congrArg some (by kernel_rfl))
 f285:=Tryz.func234.trans (congrArg some (by kernel_rfl))
 f286:=Tryz.func235.trans (congrArg some (by kernel_rfl))
 f317:=Tryz.func239.trans (congrArg some (by kernel_rfl))
 f318:=Tryz.func241.trans (congrArg some (by kernel_rfl))
 f319:=Tryz.func242.trans (congrArg some (by kernel_rfl))
 f320:=Tryz.func243.trans (congrArg some (by kernel_rfl))
 f337:=Tryz.func254.trans (congrArg some (by kernel_rfl))
 f338:=Tryz.func255.trans (congrArg some (by kernel_rfl))
 t0:=Tryz.underlying0
 a0:=Tryz.isAgg0
 z0:=Tryz.sizeOf0
 v0:=Tryz.zeroValue0
 t2:=Tryz.underlying2
 a2:=Tryz.isAgg2
 z2:=Tryz.sizeOf2
 v2:=Tryz.zeroValue2
 t3:=Tryz.underlying3
 a3:=Tryz.isAgg3
 z3:=Tryz.sizeOf3
 v3:=Tryz.zeroValue3
 t4:=Tryz.underlying4
 a4:=Tryz.isAgg4
 z4:=Tryz.sizeOf4
 v4:=Tryz.zeroValue4
 t5:=Tryz.underlying5
 a5:=Tryz.isAgg5
 z5:=Tryz.sizeOf5
 v5:=Tryz.zeroValue5
 t9:=Tryz.underlying9
 a9:=Tryz.isAgg9
 z9:=Tryz.sizeOf9
 v9:=Tryz.zeroValue9
 t20:=Tryz.underlying20
 a20:=Tryz.isAgg20
 z20:=Tryz.sizeOf20
 v20:=Tryz.zeroValue20
 t37:=Tryz.underlying38
 a37:=Tryz.isAgg38
 z37:=Tryz.sizeOf38
 v37:=Tryz.zeroValue38
 t46:=Tryz.underlying263
 a46:=Tryz.isAgg263
 z46:=Tryz.sizeOf263
 v46:=Tryz.zeroValue263
 t51:=Tryz.underlying266
 a51:=Tryz.isAgg266
 z51:=Tryz.sizeOf266
 v51:=Tryz.zeroValue266
 t53:=Tryz.underlying255
 a53:=Tryz.isAgg255
 z53:=Tryz.sizeOf255
 v53:=Tryz.zeroValue255
 t171:=Tryz.underlying254
 a171:=Tryz.isAgg254
 z171:=Tryz.sizeOf254
 v171:=Tryz.zeroValue254
 t173:=Tryz.underlying258
 a173:=Tryz.isAgg258
 z173:=Tryz.sizeOf258
 v173:=Tryz.zeroValue258
 t212:=Tryz.underlying265
 a212:=Tryz.isAgg265
 z212:=Tryz.sizeOf265
 v212:=Tryz.zeroValue265
 t213:=Tryz.underlying267
 a213:=Tryz.isAgg267
 z213:=Tryz.sizeOf267
 t232:=Tryz.underlying285
 a232:=Tryz.isAgg285
 z232:=Tryz.sizeOf285
 v232:=Tryz.zeroValue285
 t233:=Tryz.underlying286
 a233:=Tryz.isAgg286
 z233:=Tryz.sizeOf286
 v233:=Tryz.zeroValue286
 g17:=by kernel_rfl
 g18:=by kernel_rfl
 g19:=by kernel_rfl
 i0:=by kernel_rfl
 i2:=by kernel_rfl
 i3:=by kernel_rfl
 i4:=by kernel_rfl
 i5:=by kernel_rfl
 i9:=by kernel_rfl
 i20:=by kernel_rfl
 i37:=by kernel_rfl
 i46:=by kernel_rfl
 i51:=by kernel_rfl
 i53:=by kernel_rfl
 i171:=by kernel_rfl
 i173:=by kernel_rfl
 i212:=by kernel_rfl
 i232:=by kernel_rfl
 i233:=by kernel_rfl
 m17:=by kernel_rfl
 m18:=by kernel_rfl
 m19:=by kernel_rfl }
theorem shX:Go.Proofs.Builder.Extra Tryz.prog shR:={
 sizeBuilder:=by kernel_rfl
 liesBuilder:=by kernel_rfl
 t5:=Tryz.underlying5
 a5:=Tryz.isAgg5
 z5:=Tryz.sizeOf5
 v5:=Tryz.zeroValue5
 infoByte:=by kernel_rfl
 cellsByte:=by kernel_rfl
 sizeByte:=by kernel_rfl
 neB5:=by decide }
def tabs:Tabs:=[(0,(Lib.pow10Tab.map fun z=>Value.int .u64 z).toArray)]
theorem ext_all:∀x∈gext,FnOk Tryz.prog (fid x.1)/\ExtOk Tryz.prog tabs (fid x.1) x.2:=
 List.forall_mem_cons.2 ⟨⟨⟨_,Tryz.func163,by decide,rfl⟩,xItoa_ok sh171 (by kernel_rfl) (List.mem_singleton.2 rfl)⟩,List.forall_mem_cons.2 ⟨⟨⟨_,Tryz.func164,by decide,rfl⟩,xJoin_ok sh156 shX tabs⟩,List.forall_mem_cons.2 ⟨⟨⟨_,Tryz.func206,by decide,rfl⟩,xWrite_ok sh166 shX tabs⟩,List.forall_mem_cons.2 ⟨⟨⟨_,Tryz.func208,by decide,rfl⟩,xBstr_ok sh169 shX tabs⟩,(by simp)⟩⟩⟩⟩
theorem ext_ok:CallOk Tryz.prog tabs (fun f xs os=>(gE.ext f).bind fun e=>e xs os):=callOk_of ext_all
theorem ext_bds:∀x∈gext,ExtBd x.2:=
 List.forall_mem_cons.2 ⟨xItoa_bd,List.forall_mem_cons.2 ⟨xJoin_bd,List.forall_mem_cons.2 ⟨xWrite_bd _ _,List.forall_mem_cons.2 ⟨xBstr_bd _ _,(by simp)⟩⟩⟩⟩
theorem env_ok:gE.ok:=⟨fun _ _ h=>List.all_eq_true.1 cok_all _ (aget_mem h),fun f e h as1 os r hb he=>ext_bds _ (aget_mem h) as1 os r hb he⟩
theorem stand {W:World}(h:laidMet Tryz.prog Go.Proofs.YtpgmljkhleidjaaGreatDoor.Rows.fnExactAskCheckUptoRow.laid W):Stand tabs (fun b=>W.heap.size<=b) W.heap:=
 stand_tab (name := "internal/strconv.uint64pow10") (k := .u64) (zs := Lib.pow10Tab) (g := 0) (t := 265) (e := 255) (n := 20) h (List.mem_cons_of_mem _ (List.mem_cons_of_mem _ (List.mem_cons_self ..))) (by kernel_rfl) (by kernel_rfl) (by kernel_rfl) (by kernel_rfl) (by kernel_rfl) (by kernel_rfl)
theorem contract (H:Type) (enc:TypeId×Value->H) (W:World) (base:Nat) (args:Array Value) (ds gs:List (DataW H)) (before:List MemPlace)
  (hval:∀ (j:Nat) t v,Tryz.f6.params[j]?=some t->args[j]?=some v->Value.okWide Tryz.prog W .any base t v)
  (hW:DataW.Whole enc Tryz.prog Tryz.f6.params.toList Go.Proofs.YtpgmljkhleidjaaGreatDoor.Rows.fnExactAskCheckSpec.vars false W args.toList ds gs before) (hb:Go.Proofs.YtpgmljkhleidjaaGreatDoor.Rows.uptoBulkAll (ds++gs)<=1048576) (hL:laidMet Tryz.prog Go.Proofs.YtpgmljkhleidjaaGreatDoor.Rows.fnExactAskCheckUptoRow.laid W):
  Calls Tryz.prog 6 args W fun e W'=>∃v,e = .returned v/\Go.Proofs.YtpgmljkhleidjaaGreatDoor.Rows.fnExactAskCheckSpec.post enc Tryz.prog Tryz.f6 false true false false W args v W':=by
 have hW':=hW
 have hlt:=hW.lt
 obtain⟨p,q,hA0,hV,rfl,hfz,hnd⟩:=hW
 have hA:DataW.TrodAll enc Tryz.prog W 0 (fun _=>true) true Tryz.f6.params.toList args.toList ds p:=hA0
 rw[Tryz.params6]at hA hval
 obtain⟨v0,vs0,d0,ds0,p0,q0,hargs,rfl,rfl,⟨n0,h0⟩,r0⟩:=trodAll_cons hA
 obtain⟨v1,vs1,d1,ds1,p1,q1,rfl,rfl,rfl,⟨n1,h1⟩,r1⟩:=trodAll_cons r0
 obtain⟨rfl,rfl,rfl⟩:=trodAll_nil r1
 obtain rfl:args = #[v0,v1]:=by cases args;simp_all
 obtain⟨rfl,rfl⟩:=trodVars_none hV
 simp only[List.append_nil]at hb
 have b0:bk d0<=bigLen:=by have:=bks_mem (show d0∈[d0,d1] by simp);have:=bks_le [d0,d1];unfold bigLen;omega
 obtain⟨x0,e0,c0⟩:=((rd_24 W) n0:Rd Tryz.prog W 24 _ n0) enc 0 _ true _ _ h0
 have a0:ArgOk (Kh W) (v0,A x0):=arg_agg (t:=24) (by kernel_rfl) (hval 0 24 v0 rfl rfl) e0
 have g0:(A x0).bd:=bd_agg (c0 b0)
 have b1:bk d1<=bigLen:=by have:=bks_mem (show d1∈[d0,d1] by simp);have:=bks_le [d0,d1];unfold bigLen;omega
 obtain⟨x1,e1,c1⟩:=((fun n=>rd_list (t:=25) (e:=88) (by kernel_rfl) (by kernel_rfl) (by decide) (fun _=>rfl) (fun m _=>(rd_88 W) m)) n1:Rd Tryz.prog W 25 _ n1) enc 0 _ true _ _ h1
 have a1:ArgOk (Kh W) (v1,L x1):=arg_plain (t:=25) (by kernel_rfl) (hval 1 25 v1 rfl rfl) e1
 have g1:(L x1).bd:=(c1 b1).1
 obtain⟨m,hm⟩:=main_said x0 x1 env_ok ⟨⟨g0,g1,trivial⟩,by simp⟩
 have hc:=fun_ok (P:=Tryz.prog) (by kernel_rfl) (K0:=tabs) prog_ok ext_ok m
 refine (calls_first hc hm (vs:=[v0,v1]) (stand hL) (fun N=>⟨_,_,rfl,a0.rep N,⟨_,_,rfl,a1.rep N,rfl⟩⟩) ?_).mono ?_
 .intro p hp
  simp only[List.zip_cons_cons,List.zip_nil_right,List.zip_nil_left,List.mem_cons,List.not_mem_nil,or_false]at hp
  rcases hp with rfl | rfl
  .exact a0
  .exact a1
 rintro e W' ⟨v,K,N,rfl,hv,hk⟩
 have hvb:v = .bool true:=hv.1
 subst hvb
 have hl:kidsB Tryz.prog [3,4,9,22,24,25,41,88,140,142,229]=true:=by kernel_rfl
 refine⟨_,rfl,post_same (pa:=p0++(p1++[])) (pv:=[]) hW' (fun _ _ _=>trodAll_cons_mk (shut_bool Tryz.underlying4 _) trodAll_mk0) (fun sp hsp=>?_) (fun _ _=>rfl) (by simp) (grown_of hk _) (frozen_same hk.2.2.2) (ok_one (by kernel_rfl) rfl (okWide_bool_mk Tryz.underlying4 _))⟩
 refine all_same hl hk.2.2.2 hA0 (by rw[Tryz.params6];decide) (fun q hq=>hlt q (by simpa using hq)) sp (fun q hq=>hsp q (by simpa using hq))
noncomputable def laidWorld (os:Os):World:={ World.holding Tryz.prog os ⟨#[],#[],[]⟩ with heap:=((((World.holding Tryz.prog os ⟨#[],#[],[]⟩).heap.modify 2 fun | .cells _ t frozen => .cells #[.int .u8 0,.int .u8 1,.int .u8 28,.int .u8 2,.int .u8 29,.int .u8 14,.int .u8 24,.int .u8 3,.int .u8 30,.int .u8 22,.int .u8 20,.int .u8 15,.int .u8 25,.int .u8 17,.int .u8 4,.int .u8 8,.int .u8 31,.int .u8 27,.int .u8 13,.int .u8 23,.int .u8 21,.int .u8 19,.int .u8 16,.int .u8 7,.int .u8 26,.int .u8 12,.int .u8 18,.int .u8 6,.int .u8 11,.int .u8 5,.int .u8 10,.int .u8 9] t frozen | o=>o).modify 3 fun | .cells _ t frozen => .cells #[.int .u8 0,.int .u8 1,.int .u8 56,.int .u8 2,.int .u8 57,.int .u8 49,.int .u8 28,.int .u8 3,.int .u8 61,.int .u8 58,.int .u8 42,.int .u8 50,.int .u8 38,.int .u8 29,.int .u8 17,.int .u8 4,.int .u8 62,.int .u8 47,.int .u8 59,.int .u8 36,.int .u8 45,.int .u8 43,.int .u8 51,.int .u8 22,.int .u8 53,.int .u8 39,.int .u8 33,.int .u8 30,.int .u8 24,.int .u8 18,.int .u8 12,.int .u8 5,.int .u8 63,.int .u8 55,.int .u8 48,.int .u8 27,.int .u8 60,.int .u8 41,.int .u8 37,.int .u8 16,.int .u8 46,.int .u8 35,.int .u8 44,.int .u8 21,.int .u8 52,.int .u8 32,.int .u8 23,.int .u8 11,.int .u8 54,.int .u8 26,.int .u8 40,.int .u8 15,.int .u8 34,.int .u8 20,.int .u8 31,.int .u8 10,.int .u8 25,.int .u8 14,.int .u8 19,.int .u8 9,.int .u8 13,.int .u8 8,.int .u8 7,.int .u8 6] t frozen | o=>o).modify 0 fun | .cells _ t frozen => .cells #[.int .u64 1,.int .u64 10,.int .u64 100,.int .u64 1000,.int .u64 10000,.int .u64 100000,.int .u64 1000000,.int .u64 10000000,.int .u64 100000000,.int .u64 1000000000,.int .u64 10000000000,.int .u64 100000000000,.int .u64 1000000000000,.int .u64 10000000000000,.int .u64 100000000000000,.int .u64 1000000000000000,.int .u64 10000000000000000,.int .u64 100000000000000000,.int .u64 1000000000000000000,.int .u64 10000000000000000000] t frozen | o=>o) }
theorem laid_met (os:Os):laidMet Tryz.prog Go.Proofs.YtpgmljkhleidjaaGreatDoor.Rows.fnExactAskCheckUptoRow.laid ((laidWorld os).forCall (fun _ _=>0) ⟨#[],#[.agg #[.string ⟨#[]⟩,.slice none 0 0],.slice none 0 0],[]⟩).memory:=laidMet_of_run' 8 (by kernel_rfl) (by kernel_rfl)
theorem reads (os:Os){H:Type}(enc:TypeId×Value->H):∃places,DataW.whole enc Tryz.prog ((laidWorld os).forCall (fun _ _=>0) ⟨#[],#[.agg #[.string ⟨#[]⟩,.slice none 0 0],.slice none 0 0],[]⟩).memory Tryz.f6.params.toList Go.Proofs.YtpgmljkhleidjaaGreatDoor.Rows.fnExactAskCheckSpec.vars false #[.agg #[.string ⟨#[]⟩,.slice none 0 0],.slice none 0 0].toList 8=some ([.agg [.lit (.string []),.nil],.nil],[],places):=⟨[],by kernel_rfl⟩
theorem liftedUpto (os:Os) (started:os.Started) (H:Type) (enc:TypeId×Value->H) (F:Stop.Interp):
  ReturnsInHanded {} Tryz.checked os 6 .any ((Go.Proofs.YtpgmljkhleidjaaGreatDoor.Rows.OpenSpec.upto Go.Proofs.YtpgmljkhleidjaaGreatDoor.Rows.fnExactAskCheckSpec).preRow enc Tryz.prog Tryz.f6 Go.Proofs.YtpgmljkhleidjaaGreatDoor.Rows.fnExactAskCheckUptoRow.domain false Go.Proofs.YtpgmljkhleidjaaGreatDoor.Rows.fnExactAskCheckUptoRow.laid) (((Go.Proofs.YtpgmljkhleidjaaGreatDoor.Rows.OpenSpec.upto Go.Proofs.YtpgmljkhleidjaaGreatDoor.Rows.fnExactAskCheckSpec).at F).post enc Tryz.prog Tryz.f6 false true false false):=by
 obtain⟨places,hx⟩:=reads os enc
 refine returnsInHanded_of_row (C:=Tryz.checked) (s:=Go.Proofs.YtpgmljkhleidjaaGreatDoor.Rows.OpenSpec.upto Go.Proofs.YtpgmljkhleidjaaGreatDoor.Rows.fnExactAskCheckSpec) own started (by kernel_rfl) Tryz.func6
  (witness_row_at (enc:=enc) (C:=Tryz.checked) false (laidWorld os) #[.agg #[.string ⟨#[]⟩,.slice none 0 0],.slice none 0 0] rfl (by kernel_rfl) (by kernel_rfl) (by kernel_rfl)
   (OpenSpec.preRow_of_cond 8 hx (by kernel_rfl) (fun k hk=>by cases hk;kernel_rfl) (by kernel_rfl) (laid_met os))) ?_
 intro W base args ds gs before hval hW _ hcond _ hL _ _
 exact contract H enc W base args ds gs before hval hW (of_decide_eq_true (hcond _ rfl)) hL
theorem saidUpto:Go.Proofs.YtpgmljkhleidjaaGreatDoor.Rows.FnExactAskCheckUptoSaid:=
 OpenClaim.holds_of_cond 6 Tryz.f6 rfl rfl rfl rfl rfl rfl rfl ⟨rfl,rfl,rfl,rfl,rfl⟩ rfl rfl rfl rfl rfl (by kernel_rfl) Tryz.func6 (by kernel_rfl)
  (of_decide_eq_true (by kernel_rfl)) (by unfold Func.isWrapper;first | (rw[if_pos (by decide +kernel)];kernel_rfl) | (rw[if_neg (by decide +kernel)];exact⟨rfl,rfl⟩))
  (fun os started H enc _ F=>by rw[OpenClaim.pre_eq_preRow];exact liftedUpto os started H enc F)
end Go.Proofs.YtpgmljkhleidjaaGreatDoor.LM
