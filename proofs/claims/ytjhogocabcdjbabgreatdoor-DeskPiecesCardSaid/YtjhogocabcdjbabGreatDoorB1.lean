import Derived.Great.BuildSlice
import Derived.Test.YtjhogocabcdjbabGreatDoorShelf
import Derived.Shelf.Strings.SlTrimAscii
import Derived.LaidEql
import Derived.Stop.Asserts
import Derived.RowKitTokens
import Derived.WideLaws
import Derived.Lib.ItoaLen
import Derived.Lib.Join
import Derived.ProofKit
import Derived.OpenShut
import Derived.Deep.DeepHandedRow
import Derived.Deep.Slices
import Derived.Lay
import Derived.LaidHandle
import Derived.Lib.LaidTab
import Derived.Lib.AppendIntMem
import Derived.RangeFuncRecord
import Derived.RangeFuncCalls
import Derived.RangeFuncBound
import Derived.OrdersIn
import Derived.Lib.SplitLaws
import Derived.Lib.AtoiAll
import Derived.Lib.IndexLaws
import Derived.Lib.IndexBytes
import Derived.Lib.ItoaMem
import Derived.Laws.Strings3
import Derived.Laws.Slices
import Derived.Lib.AtoiErrMem
import Derived.Test.YtjhogocabcdjbabGreatDoorB0
set_option linter.unusedSimpArgs false
set_option linter.unusedVariables false
set_option maxRecDepth 100000
set_option maxHeartbeats 8000000
namespace WB
open Go Go.RowKit
section
variable {P:Program} {ops:Array Oper} {d:Bool} {Q:Exit->Act->World->Prop} {n:Nat} {D:List Deferred} {w0:World} {G:Env} {L R N:List HP} {l:List (Kd×Oper)} {k:Kd}
 {t:Nat} {op:Op} {ty T T' E:TypeId} {pos:String} {af:Array Edge} {x y z:Operand} {v u:Value} {i j:Nat} {a c r:Int} {α:Type} {cf:α->List Value} {sz:Nat} {xs ys:List α} {e:α}
theorem KO.wv(hk:(!d||k== .write)=true)(hr:∀a w,ct n D G a->St w0 L w->∃w',(execOp a.eval ⟨some t,op,ty,pos,af,none⟩).run P w=.ok (.value v) w'/\St w0 N w')(ht:Nat.blt t n=true)(h:KO P ops d Q n D w0 ((t,v)::G) N l):KO P ops d Q n D w0 G L ((k,⟨some t,op,ty,pos,af,none⟩)::l):=fun a w ha hw=>by
 obtain⟨w',hr,hs⟩:=hr a w ha hw;refine jO hk rfl ?_;unfold Oper.wp;rw[hr];exact h _ w' (fQ ha _ ht) hs
theorem KO.wn(hk:(!d||k== .write)=true)(hr:∀a w,ct n D G a->St w0 L w->∃w' u,(execOp a.eval ⟨none,op,ty,pos,af,none⟩).run P w=.ok (.value u) w'/\St w0 N w')(h:KO P ops d Q n D w0 G N l):KO P ops d Q n D w0 G L ((k,⟨none,op,ty,pos,af,none⟩)::l):=fun a w ha hw=>by
 obtain⟨w',u,hr,hs⟩:=hr a w ha hw;refine jO hk rfl ?_;unfold Oper.wp;rw[hr];exact h _ w' ha hs
theorem KO.wvE(hk:(!d||k== .write)=true){F:Value->List HP}(hr:∀a w,ct n D G a->St w0 L w->∃v w',(execOp a.eval ⟨some t,op,ty,pos,af,none⟩).run P w=.ok (.value v) w'/\St w0 (F v) w')(ht:Nat.blt t n=true)(h:∀v,KO P ops d Q n D w0 ((t,v)::G) (F v) l):KO P ops d Q n D w0 G L ((k,⟨some t,op,ty,pos,af,none⟩)::l):=fun a w ha hw=>by
 obtain⟨v,w',hr,hs⟩:=hr a w ha hw;refine jO hk rfl ?_;unfold Oper.wp;rw[hr];exact h v _ w' (fQ ha _ ht) hs
theorem vQ{w:World}{bs:Option Addr}{len cap lo hi mx:Nat}{l h m:Option Value}(hT:P.underlying T=some (.slice E))(hs:(Go.sizeOf E).run P w=.ok sz w)(hm:match m with|none=>mx=cap|some v=>v=.int .i64 (mx:Nat))(hh:match h with|none=>hi=len/\m=none|some v=>v=.int .i64 (hi:Nat))(hl:match l with|none=>lo=0|some v=>v=.int .i64 (lo:Nat))(h1:lo<=hi)(h2:hi<=mx)(h3:mx<=cap):
 (Instr.sliceAt T (.slice bs len cap) l h m).run P w=.ok (.slice (if mx=lo then bs else bs.map (·.add (lo *sz))) (hi-lo) (mx-lo)) w:=by
 have e1:∀(i y:Nat) (code:BoundsCode),i<=y->(Instr.sliceBound (.int .i64 (i:Nat)) y code).run P w=.ok i w:=fun i y code h=>by
  simp[Instr.sliceBound,asIntOf,h]
 cases m with
 |none=>
  cases h with
  |none=>
   obtain⟨rfl,_⟩:=hh;cases l with
   |none=>simp only at hm hl;subst hm;subst hl;simp[Instr.sliceAt,run_underlying hT,Instr.slice,Instr.sliceBounds,hs]
   |some v=>simp only at hm hl;subst hm;subst hl;simp[Instr.sliceAt,run_underlying hT,Instr.slice,Instr.sliceBounds,hs,e1 _ _ _ h1]
  |some v=>
   simp only at hh;subst hh;cases l with
   |none=>simp only at hm hl;subst hm;subst hl;simp[Instr.sliceAt,run_underlying hT,Instr.slice,Instr.sliceBounds,hs,e1 _ _ _ h2]
   |some v=>simp only at hm hl;subst hm;subst hl;simp[Instr.sliceAt,run_underlying hT,Instr.slice,Instr.sliceBounds,hs,e1 _ _ _ h1,e1 _ _ _ h2]
 |some vm=>
  simp only at hm;subst hm;cases h with
  |none=>simp at hh
  |some v=>
   simp only at hh;subst hh;cases l with
   |none=>simp only at hl;subst hl;simp[Instr.sliceAt,run_underlying hT,Instr.slice,Instr.sliceBounds,hs,e1 _ _ _ h2,e1 _ _ _ h3]
   |some v=>simp only at hl;subst hl;simp[Instr.sliceAt,run_underlying hT,Instr.slice,Instr.sliceBounds,hs,e1 _ _ _ h1,e1 _ _ _ h2,e1 _ _ _ h3]
def cutAt (g:Nat) (lo sz mx:Nat):Addr:=⟨g,if mx=lo then 0 else lo *sz,none⟩
theorem D_(g lo sz mx:Nat):(if mx=lo then(some ⟨g,0,none⟩:Option Addr)else(some (⟨g,0,none⟩:Addr)).map (·.add (lo *sz)))=some (cutAt g lo sz mx):=by
 unfold cutAt;by_cases h:mx=lo
 ·simp[h]
 ·simp[h,Addr.add_lit]
theorem KO.Ap{bs:Option Addr}{len cap hi:Nat}(hx:ev G x=some (.slice bs len cap))(hy:ev G y=some (.int .i64 c))(hT:P.underlying T=some (.slice E))(hs:∀w,(Go.sizeOf E).run P w=.ok sz w)(hc:c=(hi:Int))(h2:hi<=cap)(ht:Nat.blt t n=true)(h:KO P ops d Q n D w0 ((t,.slice bs hi cap)::G) L l):KO P ops d Q n D w0 G L ((k,⟨some t,.slice T x none (some y) none,ty,pos,af,none⟩)::l):=
 KO.val (fun a w ha=>by
  subst hc;have :=vQ (P:=P) (w:=w) (bs:=bs) (len:=len) (cap:=cap) (lo:=0) (hi:=hi) (mx:=cap) (l:=none) (h:=some (.int .i64 (hi:Nat))) (m:=none) hT (hs w) rfl rfl rfl (aR _) h2 (aC _);have e:(if cap=0 then bs else bs.map (·.add (0*sz)))=bs:=by
   split
   ·rfl
   ·cases bs<;>simp[Addr.add_zero']
  simp only[e,Nat.sub_zero]at this
  simp[execOp,ha.eval hx,ha.eval hy,this]) ht h
theorem KO.cutFrom{g len cap lo:Nat}(hx:ev G x=some (.slice (some ⟨g,0,none⟩) len cap))(hy:ev G y=some (.int .i64 c))(hT:P.underlying T=some (.slice E))(hs:∀w,(Go.sizeOf E).run P w=.ok sz w)(hc:c=(lo:Int))(h1:lo<=len)(h2:len<=cap)(ht:Nat.blt t n=true)(h:KO P ops d Q n D w0 ((t,.slice (some (cutAt g lo sz cap)) (len-lo) (cap-lo))::G) L l):KO P ops d Q n D w0 G L ((k,⟨some t,.slice T x (some y) none none,ty,pos,af,none⟩)::l):=
 KO.val (fun a w ha=>by
  subst hc;have :=vQ (P:=P) (w:=w) (bs:=some ⟨g,0,none⟩) (len:=len) (cap:=cap) (lo:=lo) (hi:=len) (mx:=cap) (l:=some (.int .i64 (lo:Nat))) (h:=none) (m:=none) hT (hs w) rfl ⟨rfl,rfl⟩ rfl h1 h2 (aC _);rw[D_]at this
  simp[execOp,ha.eval hx,ha.eval hy,this]) ht h
theorem KO.GD{g len cap lo hi:Nat}{b:Int}(hx:ev G x=some (.slice (some ⟨g,0,none⟩) len cap))(hy:ev G y=some (.int .i64 c))(hz:ev G z=some (.int .i64 b))(hT:P.underlying T=some (.slice E))(hs:∀w,(Go.sizeOf E).run P w=.ok sz w)(hc:c=(lo:Int))(hb:b=(hi:Int))(h1:lo<=hi)(h2:hi<=cap)(ht:Nat.blt t n=true)(h:KO P ops d Q n D w0 ((t,.slice (some (cutAt g lo sz cap)) (hi-lo) (cap-lo))::G) L l):KO P ops d Q n D w0 G L ((k,⟨some t,.slice T x (some y) (some z) none,ty,pos,af,none⟩)::l):=
 KO.val (fun a w ha=>by
  subst hc;subst hb;have :=vQ (P:=P) (w:=w) (bs:=some ⟨g,0,none⟩) (len:=len) (cap:=cap) (lo:=lo) (hi:=hi) (mx:=cap) (l:=some (.int .i64 (lo:Nat))) (h:=some (.int .i64 (hi:Nat))) (m:=none) hT (hs w) rfl rfl rfl h1 h2 (aC _);rw[D_]at this
  simp[execOp,ha.eval hx,ha.eval hy,ha.eval hz,this]) ht h
theorem KO.GF{u:Operand}{bs:Option Addr}{len cap lo hi mx:Nat}{b m:Int}(hx:ev G x=some (.slice bs len cap))(hy:ev G y=some (.int .i64 c))(hz:ev G z=some (.int .i64 b))(hu:ev G u=some (.int .i64 m))(hT:P.underlying T=some (.slice E))(hs:∀w,(Go.sizeOf E).run P w=.ok sz w)(hc:c=(lo:Int))(hb:b=(hi:Int))(hm:m=(mx:Int))(h1:lo<=hi)(h2:hi<=mx)(h3:mx<=cap)(ht:Nat.blt t n=true)(h:∀q,KO P ops d Q n D w0 ((t,.slice q (hi-lo) (mx-lo))::G) L l):KO P ops d Q n D w0 G L ((k,⟨some t,.slice T x (some y) (some z) (some u),ty,pos,af,none⟩)::l):=
 KO.val (v:=.slice (if mx=lo then bs else bs.map (·.add (lo *sz))) (hi-lo) (mx-lo)) (fun a w ha=>by
  subst hc;subst hb;subst hm;have :=vQ (P:=P) (w:=w) (bs:=bs) (len:=len) (cap:=cap) (lo:=lo) (hi:=hi) (mx:=mx) (l:=some (.int .i64 (lo:Nat))) (h:=some (.int .i64 (hi:Nat))) (m:=some (.int .i64 (mx:Nat))) hT (hs w) rfl rfl rfl h1 h2 h3
  simp[execOp,ha.eval hx,ha.eval hy,ha.eval hz,ha.eval hu,this]) ht (h _)
end
theorem xR{α:Type}{cf:α->List Value}(h1:∀e,∀u∈cf e,u.oneCell'=true)(xs:List α):∀u∈xs.flatMap cf,u.oneCell'=true:=fun u hu=>by
 obtain⟨e,_,hu⟩:=List.mem_flatMap.1 hu;exact h1 e u hu
section
variable {P:Program} {w0 w:World} {L:List HP} {E T ty:TypeId} {α:Type} {cf:α->List Value} {sz g cap n:Nat} {xs:List α}
theorem g_(h:St w0 (SL E sz cf (.slice (some ⟨g,0,none⟩) n cap) xs::L) w):n=xs.length/\n<=cap/\cap<=maxLen/\∃cur:Array Value,cur.size=cap *sz/\cur.toList.take (xs.length *sz)=xs.flatMap cf/\St w0 (bD g (.cells cur E (0,0))::L) w:=by
 rcases h.cr with⟨h1,_⟩|⟨g',ou,cur,hv,h1,h2,h3,h4,_,h5⟩
 ·simp at h1
 ·simp only[Value.slice.injEq,ay,Addr.mk.injEq,and_true,true_and]at hv;obtain⟨rfl,rfl,rfl⟩:=hv;exact⟨rfl,h1,h2,cur,h3,h4,h5⟩
theorem EU{cur:Array Value}(h:St w0 (bD g (.cells cur E (0,0))::L) w)(hn:xs.length<=cap)(hc:cap<=maxLen)(hs:cur.size=cap *sz)(ht:cur.toList.take (xs.length *sz)=xs.flatMap cf):
 St w0 (SL E sz cf (.slice (some ⟨g,0,none⟩) xs.length cap) xs::L) w:=h.ju hn hc hs ht
theorem R4(cj:∀e,(cf e).length=sz)(h1:∀e,∀u∈cf e,u.oneCell'=true){i:TypeInfo}(hT:P.underlying T=some (.slice E))(hi:P.info? E=some i)(ad4:i.size=sz){n j k c o:Nat}(h:St w0 (SL E sz cf (.slice (some ⟨g,0,none⟩) n cap) xs::L) w)(hk:k<=j)(hj:j<=xs.length)(ho:xs.length-j=0\/o=j *sz):
 ∃w',(Builtin.append_ #[T,T] ty #[.slice (some ⟨g,0,none⟩) k cap,.slice (some ⟨g,o,none⟩) (xs.length-j) c]).run P w=.ok (.slice (some ⟨g,0,none⟩) (k+(xs.length-j)) cap) w'/\
  St w0 (SL E sz cf (.slice (some ⟨g,0,none⟩) xs.length cap) (xs.take k++xs.drop j++xs.drop (k+(xs.length-j)))::L) w':=by
 obtain⟨rfl,tF,sP,cur,mL,eO,hb⟩:=g_ h;subst ad4;have KK:∀l:List α,(l.flatMap cf).length=l.length *i.size:=kx cf i.size cj;have oG:cur.toList.length=cap *i.size:=by simpa using mL
 have iD:∀(q:Nat) (u:Value),(xs.flatMap cf)[q]? =some u->cur[q]? =some u:=fun q u hq=>by
  rw[<-eO,List.getElem?_take]at hq;split at hq
  ·simpa using hq
  ·simp at hq
 have pd:∀(q:Nat) (u:Value),((xs.drop j).flatMap cf)[q]? =some u->w.cell? ((⟨g,o,none⟩:Addr).add q)=some u:=fun q u hq=>by
  have dI:=(au.1 hq).1;rw[KK,bo]at dI;rcases ho with ho|ho
  ·rw[ho,Nat.zero_mul]at dI;omega
  ·rw[<-lu cf i.size cj xs j hj,List.getElem?_drop]at hq;rw[Addr.add_lit,World.cell?,hb.look.2,ho];exact iD _ u hq
 have hle:(k+(xs.length-j))*i.size<=cap *i.size:=Nat.mul_le_mul_right _ ae;have hr:=run_append_room (P:=P) w T ty E i hT hi g k cap cur hb.look.2 ⟨g,o,none⟩ (xs.length-j) c ((xs.drop j).flatMap cf) (by rw[KK,bo]) pd (xR h1 _) ae
  (by rw[KK,bo,<-Nat.add_mul,mL];exact hle)
 refine⟨_,hr,?_⟩;have e1:(xs.take k++xs.drop j++xs.drop (k+(xs.length-j))).length=xs.length:=by simp;omega
 have eP:=hb.setRow (c':=(cur.toList.take (k *i.size)++(xs.drop j).flatMap cf++cur.toList.drop (k *i.size+((xs.drop j).flatMap cf).length)).toArray);have :=EU (xs:=xs.take k++xs.drop j++xs.drop (k+(xs.length-j))) (cf:=cf) (sz:=i.size) (cap:=cap) eP ae sP ?_ ?_
 ·rw[e1]at this;exact this
 ·simp only[List.size_toArray,aQ,bp,bo,KK,oG,Nat.min_def];have :=Nat.mul_le_mul_right i.size (show k<=cap by omega);rw[if_pos this,<-Nat.add_mul];omega
 ·rw[e1];simp only[List.flatMap_append,KK,bo];have ON:cur.toList.take (k *i.size)=(xs.take k).flatMap cf:=by
   rw[<-lr cf i.size cj xs k ae,<-eO,List.take_take,Nat.min_eq_left (Nat.mul_le_mul_right _ ae)]
  rw[ON,<-lu cf i.size cj xs (k+(xs.length-j)) ae,<-eO];have hlA:((xs.take k).flatMap cf++(xs.drop j).flatMap cf).length=(k+(xs.length-j))*i.size:=by
   rw[aQ,KK,KK,bp,bo,Nat.min_eq_left ae,Nat.add_mul]
  rw[List.take_append,hlA,List.take_of_length_le (by rw[hlA];exact Nat.mul_le_mul_right _ ae)];congr 1
  rw[<-Nat.add_mul,List.take_drop,show(k+(xs.length-j))*i.size+(xs.length *i.size-(k+(xs.length-j))*i.size)=xs.length *i.size by
   have :=Nat.mul_le_mul_right i.size (show k+(xs.length-j)<=xs.length by omega);omega]
theorem Oy(cj:∀e,(cf e).length=sz){i:TypeInfo}{z:Value}(hT:P.underlying T=some (.slice E))(hi:P.info? E=some i)(hz:i.zero=some z)(l0:∀u∈z.cells.toList,u.oneCell'=true)(P7:z.cells.size=sz){n m c o q:Nat}(h:St w0 (SL E sz cf (.slice (some ⟨g,0,none⟩) n cap) xs::L) w)(hq:q+m<=xs.length)(ho:m=0\/o=q *sz):
 ∃w' u,(Builtin.clear_ #[T] ty #[.slice (some ⟨g,o,none⟩) m c]).run P w=.ok u w'/\St w0 (SL E sz cf (.slice (some ⟨g,0,none⟩) q cap) (xs.take q)::L) w':=by
 obtain⟨rfl,tF,sP,cur,mL,eO,hb⟩:=g_ h;have tB:(xs.take q).length=q:=by simp;omega
 have hqt:cur.toList.take (q *sz)=(xs.take q).flatMap cf:=by
  rw[<-lr cf sz cj xs q ae,<-eO,List.take_take,Nat.min_eq_left (Nat.mul_le_mul_right _ ae)]
 by_cases hm:m=0
 ·subst hm;refine⟨w,.tuple #[],by simp[Builtin.clear_,run_underlying hT],?_⟩;have :=EU (xs:=xs.take q) (cf:=cf) (sz:=sz) (cap:=cap) hb ae sP mL (by rw[tB];exact hqt);rw[tB]at this;exact this
 ·have ho:=ho.resolve_left hm;subst ho;have Kx:(Builtin.zeroCells z.cells m).toList.length=m *sz:=by simp[size_zeroCells,P7]
  have adR:∀u∈(Builtin.zeroCells z.cells m).toList,u.oneCell'=true:=fun u hu=>by
   simp only[Builtin.zeroCells,Array.toList_map,aD]at hu;obtain⟨j,hj,rfl⟩:=hu;have hp:0<z.cells.size:=by
    rcases Nat.eq_zero_or_pos z.cells.size with h0|h0
    ·simp[h0]at hj
    ·exact h0
   have :j%z.cells.size<z.cells.size:=Nat.mod_lt _ hp;rw[getElem!_pos z.cells _ this];exact l0 _ (Array.mem_toList_iff.2 (Array.getElem_mem this))
  have nj:q *sz+0+(Builtin.zeroCells z.cells m).toList.length<=cur.size:=by
   rw[Kx,mL,Nat.add_zero,<-Nat.add_mul];exact Nat.mul_le_mul_right _ ae
  have kO:=run_storeCells_at P g (q *sz) E (Builtin.zeroCells z.cells m).toList 0 cur w hb.look.2 nj adR;simp only[Nat.add_zero]at kO;have wh:∃m',m=m'+1:=⟨m-1,by omega⟩;obtain⟨m',rfl⟩:=wh;refine⟨w.setRow g (cur.toList.take (q *sz)++(Builtin.zeroCells z.cells (m'+1)).toList++cur.toList.drop (q *sz+(Builtin.zeroCells z.cells (m'+1)).toList.length)).toArray,.tuple #[],by simp[Builtin.clear_,run_underlying hT,zeroValue,typeInfo,hi,hz,kO],?_⟩;have :=EU (xs:=xs.take q) (cf:=cf) (sz:=sz) (cap:=cap) (hb.setRow (c':=(cur.toList.take (q *sz)++(Builtin.zeroCells z.cells (m'+1)).toList++cur.toList.drop (q *sz+(Builtin.zeroCells z.cells (m'+1)).toList.length)).toArray)) ae sP ?_ ?_
  ·rw[tB]at this;exact this
  ·have oG:cur.toList.length=cap *sz:=by simpa using mL
   simp only[List.size_toArray,aQ,bp,bo,oG,Kx,Nat.min_def];have :=Nat.mul_le_mul_right sz (show q<=cap by omega);have h3:=Nat.mul_le_mul_right sz (show q+(m'+1)<=cap by omega);rw[Nat.add_mul]at h3;rw[if_pos this];omega
  ·rw[tB,aK,List.take_append_of_le_length]
   ·rw[List.take_take,Nat.min_self];exact hqt
   ·have oG:cur.toList.length=cap *sz:=by simpa using mL
    rw[bp,oG,Nat.min_eq_left (Nat.mul_le_mul_right _ ae)];exact aC _
end
theorem St.Se{w0 w:World}{A B:HP}{R R':List HP}(h:St w0 (A::R) w)(hq:bC R B R'):St w0 (A::B::R') w:=by
 have :=h.pick (.tail hq);exact this.pick (.tail .head)
theorem St.Ta{w0 w:World}{A B:HP}{R:List HP}(h:St w0 (A::B::R) w):St w0 (A::R) w:=(h.pick (.tail .head)).drop
section
variable {P:Program} {ops:Array Oper} {d:Bool} {Q:Exit->Act->World->Prop} {n:Nat} {D:List Deferred} {w0:World} {G:Env} {L R R' N:List HP} {l:List (Kd×Oper)} {k:Kd}
 {t:Nat} {op:Op} {ty T T' E E':TypeId} {pos:String} {af:Array Edge} {x y:Operand} {v u z:Value} {i j:Nat} {a c r:Int} {α:Type} {cf:α->List Value} {sz cV:Nat} {xs ys:List α} {e e':α}
theorem KO.bs(hk:(!d||(k== .cx||k== .write))=true){len:Nat}{parts:Array (Nat×Operand)}(os:List Operand){vs cs:List Value}(hp:parts.toList=(os.zipIdx 0).map fun x=>(x.2,x.1))(hv:D3 G os=some vs)(hT:P.underlying T=some (.slice E))(hi:(P.info? E).map (fun i=>(i.zero,i.size,i.bytes))=some (some z,sz,cV))(cj:vs.all (fun v=>v.cells.size==sz)=true)(hlen:vs.length=len)(hs:¬len *sz>2^24)(A8:¬len *sz=0)(mL:(vs.flatMap fun v=>v.cells.toList)=cs)(ht:Nat.blt t n=true)(h:∀bb,KO P ops d Q n D w0 ((t,.slice (some ⟨bb,0,none⟩) len len)::G) (bD bb (.cells cs.toArray E (0,0))::L) l):KO P ops d Q n D w0 G L ((k,⟨some t,.buildSlice T len parts,ty,pos,af,none⟩)::l):=by
 obtain⟨i0,KI,uF,l0,_⟩:=info_parts hi;refine KO.pS hk (F:=fun bb=>.slice (some ⟨bb,0,none⟩) len len) (N:=fun bb=>bD bb (.cells cs.toArray E (0,0))::L) (fun a w ha hw=>⟨w.heap.size,w.alloc (.cells cs.toArray E),?_,Ext.alloc w _,hw.alloc _⟩) ht h;have UP:(parts.map fun(i,x)=>(i,a.eval x)).toList=(vs.zipIdx 0).map fun x=>(x.2,x.1):=by
  have key:∀(os:List Operand) (vs:List Value) (q:Nat),os.map (ev G)=vs.map some->((os.zipIdx q).map fun x=>(x.2,x.1)).map (fun(p:Nat×Operand)=>(p.1,a.eval p.2))=(vs.zipIdx q).map fun x=>(x.2,x.1):=by
   intro os
   induction os with
   |nil=>intro vs q h;cases vs with|nil=>rfl|cons _ _=>simp at h
   |cons o os ih=>intro vs q h;cases vs with
    |nil=>simp at h
    |cons v vs=>
     simp only[aT,List.cons.injEq]at h;simp only[List.zipIdx_cons,aT,ha.eval h.1];rw[ih vs (q+1) h.2]
  rw[Array.toList_map,hp];exact key os vs 0 (la hv)
 have hsp:0<sz:=Nat.pos_of_ne_zero fun e=>A8 (by rw[e,Nat.mul_zero])
 have hf:=Great.fill_whole hsp vs ((Array.range (len *sz)).map (z.cells[· %z.cells.size]!)) (fun v hv=>by simpa using aG.1 cj v hv) (by simp[hlen])
 rw[<-l0]at hf hs A8;have hr:=run_buildSlice (P:=P) w T E len (parts.map fun(i,x)=>(i,a.eval x)) _ i0 z hT KI uF hs A8 (by rw[UP];exact hf);simp only[mL]at hr;simp only[execOp,hr,Sem.run_bind,Sem.run_pure,Result.andThen_ok]
theorem KO.app(hk:(!d||k== .write)=true){bv cp:Nat}{us:List Value}(hx:ev G x=some v)(hy:ev G y=some (.slice (some ⟨bv,0,none⟩) 1 cp))(hp:bC L (SL E sz cf v xs) R)(hq:bC R (bD bv (.cells us.toArray E' (0,0))) R')(hT:P.underlying T=some (.slice E))(hi:(P.info? E).map (fun i=>(i.zero,i.size,i.bytes))=some (some z,sz,cV))(P7:z.cells.size=sz)(e:α)(he:cf e=us)(MT:us.length=sz)(h1:us.all Value.oneCell'=true)(hb:xs.length<1000000000)(SX:cV<=10000)(ht:Nat.blt t n=true)(h:∀v',KO P ops d Q n D w0 ((t,v')::G) (SL E sz cf v' (xs++[e])::R') l):KO P ops d Q n D w0 G L ((k,⟨some t,.call ⟨.builtin .append,#[x,y],#[T,T]⟩,ty,pos,af,none⟩)::l):=by
 obtain⟨i0,KI,uF,l0,u9⟩:=info_parts hi;refine KO.wvE hk (F:=fun v'=>SL E sz cf v' (xs++[e])::R') (fun a w ha hw=>?_) ht h;have hs:=hw.pick hp;have Gf:cU w ⟨bv,0,none⟩ us:=by
  have :=hs.drop.pick hq;exact this.eT fun j c hj=>by simpa using hj
 have Zx:(xs.length+1)*cV<=140737488355328:=by
  have :=Nat.mul_le_mul (show xs.length+1<=1000000000 by omega) SX;omega
 obtain⟨v',w',hr,kO⟩:=p8 (P:=P) T ty E i0 z sz cV hT KI uF l0 u9 P7 hs ⟨bv,0,none⟩ 1 cp us (by rw[MT,Nat.one_mul]) Gf (fun u hu=>aG.1 h1 u hu) Ou Zx;refine⟨v',w',jA x y T T rfl v _ (ha.eval hx) (ha.eval hy) hr,?_⟩;have iW:=(kO.Se hq).Ta
 show St w0 (ie E sz v' (xs++[e]).length ((xs++[e]).flatMap cf)::R') w'
 rw[show(xs++[e]).length=xs.length+1 by simp,show(xs++[e]).flatMap cf=xs.flatMap cf++us by simp[he]];exact iW
theorem KO.move(hk:(!d||k== .write)=true){g n' cap kk c:Nat}(hx:ev G x=some (.slice (some ⟨g,0,none⟩) kk cap))(hy:ev G y=some (.slice (some (cutAt g j sz cap)) (n'-j) c))(hp:bC L (SL E sz cf (.slice (some ⟨g,0,none⟩) n' cap) xs) R)(hn:n'=xs.length)(tF:n'<=cap)(hT:P.underlying T=some (.slice E))(hi:(P.info? E).map (fun i=>(i.zero,i.size,i.bytes))=some (some z,sz,cV))(cj:∀e,(cf e).length=sz)(h1:∀e,(cf e).all Value.oneCell'=true)(hkj:kk<=j)(hj:j<=xs.length)(ht:Nat.blt t n=true)(h:KO P ops d Q n D w0 ((t,.slice (some ⟨g,0,none⟩) (kk+(n'-j)) cap)::G) (SL E sz cf (.slice (some ⟨g,0,none⟩) n' cap) (xs.take kk++xs.drop j++xs.drop (kk+(n'-j)))::R) l):
 KO P ops d Q n D w0 G L ((k,⟨some t,.call ⟨.builtin .append,#[x,y],#[T,T]⟩,ty,pos,af,none⟩)::l):=by
 obtain⟨i0,KI,uF,l0,_⟩:=info_parts hi;subst hn;refine KO.wv hk (fun a w ha hw=>?_) ht h
 obtain⟨w',hr,hs⟩:=R4 (P:=P) (ty:=ty) cj (fun e u hu=>aG.1 (h1 e) u hu) hT KI l0 (c:=c) (o:=(cutAt g j sz cap).off) (hw.pick hp) hkj hj (by
  by_cases hc:cap=j
  ·left;omega
  ·right;simp[cutAt,hc])
 exact⟨w',jA x y T T rfl _ _ (ha.eval hx) (ha.eval hy) hr,hs⟩
theorem KO.clear(hk:(!d||k== .write)=true){g n' cap q m c:Nat}(hx:ev G x=some (.slice (some (cutAt g q sz cap)) m c))(hp:bC L (SL E sz cf (.slice (some ⟨g,0,none⟩) n' cap) xs) R)(tF:n'<=cap)(hn:n'=xs.length)(hq:q+m<=xs.length)(hT:P.underlying T=some (.slice E))(hi:(P.info? E).map (fun i=>(i.zero,i.size,i.bytes))=some (some z,sz,cV))(cj:∀e,(cf e).length=sz)(l0:z.cells.toList.all Value.oneCell'=true)(P7:z.cells.size=sz)(h:KO P ops d Q n D w0 G (SL E sz cf (.slice (some ⟨g,0,none⟩) q cap) (xs.take q)::R) l):
 KO P ops d Q n D w0 G L ((k,⟨none,.call ⟨.builtin .clear,#[x],#[T]⟩,ty,pos,af,none⟩)::l):=by
 obtain⟨i0,KI,uF,_,_⟩:=info_parts hi;refine KO.wn hk (fun a w ha hw=>?_) h
 obtain⟨w',u,hr,hs⟩:=Oy (P:=P) (ty:=ty) cj hT KI uF (fun u hu=>aG.1 l0 u hu) P7 (m:=m) (c:=c) (o:=(cutAt g q sz cap).off) (hw.pick hp) hq (by
  by_cases hc:cap=q
  ·left;omega
  ·right;simp[cutAt,hc])
 refine⟨w',u,?_,hs⟩;have e:a.eval x=.slice (some ⟨g,(cutAt g q sz cap).off,none⟩) m c:=ha.eval hx;simp[execOp,resolve,invoke,builtin,e,hr]
theorem Ox{w:World}{g cap n':Nat}{us:List Value}{o:Nat}(cj:∀e,(cf e).length=sz)(hw:St w0 (SL E sz cf (.slice (some ⟨g,0,none⟩) n' cap) xs::R) w)(he:xs[i]? =some e)(nj:j+us.length<=sz)(hu:nZ j us (cf e)=cf e')(ho:o=i *sz+j)(hn:(Go.sizeOf T).run P w=.ok us.length w)(h1:∀u∈us,u.oneCell'=true)(hv:v.cells=us.toArray):
 ∃w',(storeVar T ⟨g,o,none⟩ v).run P w=.ok () w'/\St w0 (SL E sz cf (.slice (some ⟨g,0,none⟩) n' cap) (xs.set i e')::R) w':=by
 obtain⟨rfl,tF,sP,cur,mL,eO,hb⟩:=g_ hw;have hi:=(au.1 he).1;have hei:=(au.1 he).2;have ad8:(i+1)*sz<=xs.length *sz:=Nat.mul_le_mul_right _ hi;have ago:xs.length *sz<=cap *sz:=Nat.mul_le_mul_right _ tF;rw[Nat.succ_mul]at ad8;have oG:cur.toList.length=cap *sz:=by simpa using mL
 have kO:=j0 (P:=P) (T:=T) (off:=o) (v:=v) hb (by simpa[hv]using hn) (by simp[hv,mL];omega) (by simpa[hv]using h1);simp only[hv]at kO;refine⟨_,kO,?_⟩;have hlen:(xs.set i e').length=xs.length:=by simp
 have :=EU (xs:=xs.set i e') (cf:=cf) (sz:=sz) (cap:=cap) (hb.setRow (c':=(cur.toList.take o++us++cur.toList.drop (o+us.length)).toArray)) ae sP ?_ ?_
 ·rw[hlen]at this;exact this
 ·simp only[List.size_toArray,aQ,bp,bo,oG,Nat.min_def];rw[if_pos ae];omega
 ·rw[hlen];have eP:(xs.set i e').flatMap cf=(xs.take i).flatMap cf++cf e'++(xs.drop (i+1)).flatMap cf:=by
   rw[List.set_eq_take_append_cons_drop,if_pos hi];simp
  have hold:xs.flatMap cf=(xs.take i).flatMap cf++cf e++(xs.drop (i+1)).flatMap cf:=by
   have UE:xs=xs.take i++e::xs.drop (i+1):=by
    rw[<-hei,List.getElem_cons_drop,List.take_append_drop]
   conv=>lhs;rw[UE]
   simp
  have Xa:((xs.take i).flatMap cf).length=i *sz:=by rw[kx cf sz cj,bp,Nat.min_eq_left ae]
  rw[eP,<-hu,<-vW j us (cf e) (by rw[cj];exact nj)];obtain⟨tl,Ie⟩:∃tl,cur.toList=xs.flatMap cf++tl:=⟨cur.toList.drop (xs.length *sz),by rw[<-eO,List.take_append_drop]⟩;rw[Ie,hold,ho];have ael:=cj e;generalize (xs.take i).flatMap cf=A at Xa;generalize hC:(xs.drop (i+1)).flatMap cf=C;have hCl:C.length=(xs.length-(i+1))*sz:=by rw[<-hC,kx cf sz cj,bo]
  have ah1:i *sz+sz+(xs.length-(i+1))*sz=xs.length *sz:=by
   have :(i+1)*sz+(xs.length-(i+1))*sz=xs.length *sz:=by rw[<-Nat.add_mul];congr 1;omega
   rw[Nat.succ_mul]at this;omega
  generalize cf e=B at ael;clear kO eP hold Ie hu cj eO;have h1:(A++B++C++tl).take (i *sz+j)=A++B.take j:=by
   rw[aK,aK,<-Xa,List.take_length_add_append,List.take_append_of_le_length ae]
  have h2:(A++B++C++tl).drop (i *sz+j+us.length)=B.drop (j+us.length)++C++tl:=by
   rw[aK,aK,<-Xa,Nat.add_assoc,List.drop_length_add_append,List.drop_append_of_le_length ae,aK]
  rw[h1,h2];have e1:A++List.take j B++us++(List.drop (j+us.length) B++C++tl)=(A++(List.take j B++us++List.drop (j+us.length) B)++C)++tl:=by simp
  rw[e1,List.take_append_of_le_length fV,List.take_of_length_le fV]
theorem KO.XS(hk:(!d||k== .write)=true){g n' cap:Nat}{us:List Value}(hx:ev G x=some (.pointer (some ⟨g,i *sz+j,none⟩)))(hy:ev G y=some v)(hv:v.cells=us.toArray)(hn:∀w,(Go.sizeOf T).run P w=.ok us.length w)(h1:us.all Value.oneCell'=true)(hp:bC L (SL E sz cf (.slice (some ⟨g,0,none⟩) n' cap) xs) R)(cj:∀e,(cf e).length=sz)(he:xs[i]? =some e)(nj:Nat.ble (j+us.length) sz=true)(e':α)(hu:nZ j us (cf e)=cf e')(h:KO P ops d Q n D w0 G (SL E sz cf (.slice (some ⟨g,0,none⟩) n' cap) (xs.set i e')::R) l):KO P ops d Q n D w0 G L ((k,⟨none,.store T x y,ty,pos,af,none⟩)::l):=
 KO.Cg hk (fun a w ha hw=>by
  obtain⟨w',hr,hs⟩:=Ox (P:=P) (T:=T) (v:=v) cj (hw.pick hp) he (by simpa[Nat.ble_eq]using nj) hu rfl (hn w) (fun u hu=>aG.1 h1 u hu) hv
  exact⟨w',by simp[execOp,ha.eval hx,ha.eval hy,Instr.storeAt,Instr.sureAddr,hr],hs⟩) h
theorem KO.acI(hk:(!d||k== .write)=true){g n' cap:Nat}(hx:ev G x=some (.pointer (some ⟨g,i *sz,none⟩)))(e':α)(hy:ev G y=some (.agg (cf e').toArray))(hn:∀w,(Go.sizeOf T).run P w=.ok sz w)(h1:∀e,(cf e).all Value.oneCell'=true)(hp:bC L (SL E sz cf (.slice (some ⟨g,0,none⟩) n' cap) xs) R)(cj:∀e,(cf e).length=sz)(he:xs[i]? =some e)(h:KO P ops d Q n D w0 G (SL E sz cf (.slice (some ⟨g,0,none⟩) n' cap) (xs.set i e')::R) l):KO P ops d Q n D w0 G L ((k,⟨none,.store T x y,ty,pos,af,none⟩)::l):=
 KO.Cg hk (fun a w ha hw=>by
  obtain⟨w',hr,hs⟩:=Ox (P:=P) (T:=T) (v:=.agg (cf e').toArray) (us:=cf e') (o:=i *sz) (j:=0) (e':=e') cj (hw.pick hp) he (by rw[cj];omega) (by simp[nZ,cj,List.drop_of_length_le]) rfl (by rw[cj];exact hn w) (fun u hu=>aG.1 (h1 e') u hu) rfl
  exact⟨w',by simp[execOp,ha.eval hx,ha.eval hy,Instr.storeAt,Instr.sureAddr,hr],hs⟩) h
end
section
variable {P:Program} {f:FuncId} {args:Array Value} {w0:World} {L R1 R2 R3:List HP} {A B C:HP} {R:Value->List HP->Prop}
theorem KC.qR(p1:bC L A R1)(h:KC P f args w0 (A::R1) R):KC P f args w0 L R:=fun w hw=>h w (hw.pick p1)
theorem St.gu{w:World}(hw:St w0 L w)(p1:bC L A R1)(p2:bC R1 B R2):St w0 (A::B::R2) w:=(hw.pick p1).Se p2
theorem St.SB{w:World}(hw:St w0 L w)(p1:bC L A R1)(p2:bC R1 B R2)(p3:bC R2 C R3):St w0 (A::B::C::R3) w:=by
 have h1:=hw.gu p1 p2;have h2:=h1.pick (.tail (.tail p3));exact(h2.pick (.tail .head)).pick (.tail (.tail .head)) |>.pick (.tail .head)
theorem KC.OI(p1:bC L A R1)(p2:bC R1 B R2)(h:KC P f args w0 (A::B::R2) R):KC P f args w0 L R:=fun w hw=>h w (hw.gu p1 p2)
end
section
variable {P:Program} {ops:Array Oper} {d:Bool} {Q:Exit->Act->World->Prop} {n:Nat} {D:List Deferred} {w0:World} {G:Env} {L R:List HP} {A:HP} {l:List (Kd×Oper)} {k:Kd}
 {t:Nat} {ty T:TypeId} {pos:String} {af:Array Edge} {v:Value} {c:Code} {e:Exit}
theorem K.pk(hp:bC L A R)(h:K P c Q n D w0 G (A::R)):K P c Q n D w0 G L:=K.conv (fun _ hw=>hw.pick hp) h
theorem KO.bld{parts:Array (Nat×Operand)}{vs:List Value}(hv:D3 G (parts.toList.map (·.2))=some vs)(hr:∀w,(Instr.build T ((parts.toList.map (·.1)).zip vs).toArray).run P w=.ok v w)(ht:Nat.blt t n=true)(h:KO P ops d Q n D w0 ((t,v)::G) L l):KO P ops d Q n D w0 G L ((k,⟨some t,.build T parts,ty,pos,af,none⟩)::l):=
 KO.val (fun a w ha=>by
  have key:∀(ps:List (Nat×Operand)) (vs:List Value),(ps.map (·.2)).map (ev G)=vs.map some->ps.map (fun(p:Nat×Operand)=>(p.1,a.eval p.2))=(ps.map (·.1)).zip vs:=by
   intro ps
   induction ps with
   |nil=>intro vs h;cases vs with|nil=>rfl|cons _ _=>simp at h
   |cons p ps ih=>intro vs h;cases vs with
    |nil=>simp at h
    |cons v vs=>
     simp only[aT,List.cons.injEq]at h;simp only[aT,List.zip_cons_cons,ha.eval h.1,ih vs h.2]
  have e:parts.map (fun(i,x)=>(i,a.eval x))=((parts.toList.map (·.1)).zip vs).toArray:=by
   apply Array.ext';rw[Array.toList_map];exact key _ _ (la hv)
  simp only[execOp,e,hr w,Sem.run_bind,Sem.run_pure,Result.andThen_ok]) ht h
end
def Ka (pl:List (Nat×Nat)):List Value->List (Nat×Value)->Option (List Value)
 |cs,[]=>some cs
 |cs,(i,v)::rest=>match pl[i]? with
  |some (off,size)=>match (Nat.beq v.cells.toList.length size&&Nat.ble (off+v.cells.toList.length) cs.length)with|true=>Ka pl (nZ off v.cells.toList cs) rest|false=>none
  |none=>none
theorem Aj(pl:List (Nat×Nat))(place:Nat->Option (Nat×Nat))(qA:∀i,place i=pl[i]?):∀(parts:List (Nat×Value)) (cs vp:List Value),Ka pl cs parts=some vp->Instr.fill place cs.toArray parts=some vp.toArray
 |[],cs,vp,h=>by simp only[Ka,ay]at h;subst h;rfl
 |(i,v)::rest,cs,vp,h=>by
  unfold Ka at h;cases hp:pl[i]? with
  |none=>rw[hp]at h;simp at h
  |some os=>
   obtain⟨off,size⟩:=os;rw[hp]at h;simp only at h;cases hb:(Nat.beq v.cells.toList.length size&&Nat.ble (off+v.cells.toList.length) cs.length)with
   |false=>rw[hb]at h;simp at h
   |true=>
    rw[hb]at h;simp only at h;simp only[aW]at hb;have h1:v.cells.toList.length=size:=Nat.eq_of_beq_eq_true hb.1;have h2:off+v.cells.toList.length<=cs.length:=Nat.le_of_ble_eq_true hb.2;unfold Instr.fill;rw[qA i,hp];simp only;rw[if_neg (by simp only[Array.length_toList]at h1 h2;simp;omega)];have eP:(v.cells.zipIdx.foldl (fun cs (x:Value×Nat)=>cs.setIfInBounds (off+x.2) x.1) cs.toArray)=(nZ off v.cells.toList cs).toArray:=by
     have e0:v.cells.zipIdx.foldl (fun cs (x:Value×Nat)=>cs.setIfInBounds (off+x.2) x.1) cs.toArray=(v.cells.toList.zipIdx 0).foldl (fun cs (x:Value×Nat)=>cs.setIfInBounds (off+x.2) x.1) cs.toArray:=by
      rw[<-Array.foldl_toList];simp
     obtain⟨g1,g2⟩:=Great.foldl_set off v.cells.toList 0 cs.toArray;rw[e0];apply Array.ext_getElem?;intro q;rw[g2 q];simp only[List.getElem?_toArray,List.size_toArray,Nat.add_zero];rw[<-vW off _ cs h2];by_cases hq:off<=q/\q<off+v.cells.toList.length/\q<cs.length
     ·rw[if_pos hq,aK,bM Y31,bp,Nat.min_eq_left ae,List.getElem?_append_left ae]
     ·rw[if_neg hq,aK];by_cases YU:q<off
      ·rw[List.getElem?_append_left Y31,List.getElem?_take,if_pos YU]
      ·rw[bM Y31,bp,Nat.min_eq_left ae];by_cases KF:q<cs.length
       ·have h3:off+v.cells.toList.length<=q:=Nat.not_lt.1 fun h4=>hq ⟨by omega,h4,KF⟩
        rw[bM ae,List.getElem?_drop];congr 1;omega
       ·rw[cG ae,bM ae,cG (by rw[bo];omega)]
    show Instr.fill place (v.cells.zipIdx.foldl (fun cs (x:Value×Nat)=>cs.setIfInBounds (off+x.2) x.1) cs.toArray) rest=_
    rw[eP];exact Aj pl place qA rest _ _ h
section
variable {P:Program} {ops:Array Oper} {d:Bool} {Q:Exit->Act->World->Prop} {n:Nat} {D:List Deferred} {w0:World} {G:Env} {L R:List HP} {l:List (Kd×Oper)} {k:Kd} {t:Nat} {ty T:TypeId} {pos:String} {af:Array Edge} {v z:Value}
theorem KO.VO{parts:Array (Nat×Operand)}{vs:List Value}{fs:Array Field}{pl:List (Nat×Nat)}(cs:List Value)(hv:D3 G (parts.toList.map (·.2))=some vs)(hz:∀w,(zeroValue T).run P w=.ok z w)(hu:∀w,(underlying T).run P w=.ok (.struct fs) w)(qA:∀w,(fs.mapM fun(f:Field)=>(do pure (f.offset,<-Go.sizeOf f.type):Sem (Nat×Nat))).run P w=.ok pl.toArray w)(hb:Ka pl z.cells.toList ((parts.toList.map (·.1)).zip vs)=some cs)(ht:Nat.blt t n=true)(h:KO P ops d Q n D w0 ((t,.agg cs.toArray)::G) L l):KO P ops d Q n D w0 G L ((k,⟨some t,.build T parts,ty,pos,af,none⟩)::l):=
 KO.bld hv (fun w=>by
  have :=Aj pl (fun x=>pl[x]?) (fun i=>rfl) _ _ _ hb;simp only[Array.toArray_toList]at this;simp only[Instr.build,hz w,hu w,Sem.run_bind,Result.andThen_ok];rw[qA w]
  simp[this]) ht h
end
section
variable {P:Program} {ops:Array Oper} {d:Bool} {Q:Exit->Act->World->Prop} {n:Nat} {D:List Deferred} {w0:World} {G:Env} {L R:List HP} {l:List (Kd×Oper)} {k:Kd} {t:Nat} {ty T:TypeId} {pos:String} {af:Array Edge} {v z:Value}
theorem KO.sE{parts:Array (Nat×Operand)}{vs:List Value}{fs:Array Field}{pl:List (Nat×Nat)}{cs:List Value}(hv:D3 G (parts.toList.map (·.2))=some vs)(hz:∀w,(zeroValue T).run P w=.ok z w)(hu:∀w,(underlying T).run P w=.ok (.struct fs) w)(qA:∀w,(fs.mapM fun(f:Field)=>(do pure (f.offset,<-Go.sizeOf f.type):Sem (Nat×Nat))).run P w=.ok pl.toArray w)(hb:Ka pl z.cells.toList ((parts.toList.map (·.1)).zip vs)=some cs)(ht:Nat.blt t n=true)(h:KO P ops d Q n D w0 ((t,.agg cs.toArray)::G) L l):KO P ops d Q n D w0 G L ((k,⟨some t,.build T parts,ty,pos,af,none⟩)::l):=KO.VO cs hv hz hu qA hb ht h
end
section
variable {P:Program} {ops:Array Oper} {d:Bool} {Q:Exit->Act->World->Prop} {n:Nat} {D:List Deferred} {w0:World} {G:Env} {L R:List HP} {l:List (Kd×Oper)} {k:Kd} {t:Nat} {ty T E:TypeId} {pos:String} {af:Array Edge} {v:Value} {x y:Operand}
theorem KO.lC{b:Nat}{cs us:List Value}(hk:(!d||k== .write)=true)(hx:ev G x=some (.pointer (some ⟨b,0,none⟩)))(hy:ev G y=some v)(hv:v.cells=us.toArray)(hn:∀w,(Go.sizeOf T).run P w=.ok us.length w)(h1:us.all Value.oneCell'=true)(hp:bC L (bD b (.cells cs.toArray E (0,0))) R)(nj:Nat.beq us.length cs.length=true)(h:KO P ops d Q n D w0 G (bD b (.cells us.toArray E (0,0))::R) l):
 KO P ops d Q n D w0 G L ((k,⟨none,.store T x y,ty,pos,af,none⟩)::l):=
 have e:us.length=cs.length:=Nat.eq_of_beq_eq_true nj
 KO.Pd hk hx hy hv hn h1 hp (Nat.ble_eq_true_of_le ae) (by rw[nZ,e,List.drop_length,List.append_nil]) h
end
section
variable {P:Program} {ops:Array Oper} {d:Bool} {Q:Exit->Act->World->Prop} {n:Nat} {D:List Deferred} {w0:World} {G:Env} {L R:List HP} {l:List (Kd×Oper)} {k:Kd} {t:Nat} {ty T E:TypeId} {pos:String} {af:Array Edge} {v z:Value} {x y:Operand} {sz cV:Nat}
theorem KO.iN(hk:(!d||(k== .cx||k== .write))=true){cs:List Value}(hv:ev G x=some v)(hT:P.underlying T=some (.slice E))(hi:(P.info? E).map (fun i=>(i.zero,i.size,i.bytes))=some (some z,sz,cV))(hc:v.cells=cs.toArray)(cj:cs.length=sz)(hs:¬1*sz>2^24)(A8:¬1*sz=0)(ht:Nat.blt t n=true)(h:∀bb,KO P ops d Q n D w0 ((t,.slice (some ⟨bb,0,none⟩) 1 1)::G) (bD bb (.cells cs.toArray E (0,0))::L) l):KO P ops d Q n D w0 G L ((k,⟨some t,.buildSlice T 1 #[(0,x)],ty,pos,af,none⟩)::l):=
 KO.bs hk [x] rfl (vs:=[v]) (by simp[D3,hv]) hT hi (by simp[hc,cj]) rfl hs A8 (by simp[hc]) ht h
theorem KO.VN(hk:(!d||(k== .cx||k== .write))=true){len:Nat}{parts:Array (Nat×Operand)}(os:List Operand){vs:List Value}(hp:parts.toList=(os.zipIdx 0).map fun x=>(x.2,x.1))(hv:D3 G os=some vs)(hT:P.underlying T=some (.slice E))(hi:(P.info? E).map (fun i=>(i.zero,i.size,i.bytes))=some (some z,1,cV))(cj:vs.all (fun v=>v.cells.size==1)=true)(hlen:vs.length=len)(hs:¬len *1>2^24)(A8:¬len *1=0)(mL:(vs.flatMap fun v=>v.cells.toList)=vs)(ht:Nat.blt t n=true)(h:∀bb,KO P ops d Q n D w0 ((t,.slice (some ⟨bb,0,none⟩) len len)::G) (bD bb (.cells vs.toArray E (0,0))::L) l):KO P ops d Q n D w0 G L ((k,⟨some t,.buildSlice T len parts,ty,pos,af,none⟩)::l):=
 KO.bs hk os hp hv hT hi cj hlen hs A8 mL ht h
end
open Go
inductive sM:List HP->List HP->Prop
 |refl {L:List HP}:sM L L
 |drop {A:HP} {L M:List HP}:sM L M->sM L (A::M)
theorem St.PS{w0 w:World}{A:HP}{L M:List HP}(f:∀h,gj M h->∃h1 h2,sN h1 h2/\h=nL h1 h2/\gj L h2)(h:St w0 (A::M) w):St w0 (A::L) w:=by
 obtain⟨x,hx,h1,h2,d,rfl,a,b⟩:=h.own;obtain⟨g1,g2,d2,rfl,c⟩:=f h2 b;rw[ly]at d;refine {h with own:=⟨nL h1 g2,fun k o hk=>hx k o ?_,h1,g2,d.2,rfl,a,c⟩};simp only[nL]at hk ⊢;cases e1:h1 k with
 |some v=>rw[e1]at hk;simpa using hk
 |none=>
  rw[e1]at hk;simp only[Option.none_or]at hk ⊢;rcases d2 k with e|e
  ·rw[e];simpa using hk
  ·rw[e]at hk;simp at hk
theorem sM.gj{L M:List HP}(hs:sM L M):∀h,WB.gj M h->∃h1 h2,sN h1 h2/\h=nL h1 h2/\WB.gj L h2:=by
 induction hs with
 |refl=>exact fun h hh=>⟨fun _=>none,h,fun _=>.inl rfl,(vP fun _=>rfl).symm,hh⟩
 |drop _ ih=>
  rintro h ⟨h1,h2,d,rfl,_,b⟩;obtain⟨g1,g2,d2,rfl,c⟩:=ih h2 b;rw[ly]at d;refine⟨nL h1 g1,g2,nw.2 ⟨d.2,d2⟩,(mP _ _ _).symm,c⟩
theorem St.OQ{w0 w:World}{A:HP}{L M:List HP}(h:St w0 (A::M) w)(hs:sM L M):St w0 (A::L) w:=h.PS hs.gj
theorem St.OP{w0 w:World}{A B:HP}{L M:List HP}(h:St w0 (A::B::M) w)(hs:sM L M):St w0 (A::B::L) w:=((h.join).OQ hs).split
theorem St.gc3{w0 w:World}{A B C:HP}{L M:List HP}(h:St w0 (A::B::C::M) w)(hs:sM L M):St w0 (A::B::C::L) w:=((h.join).OP hs).split
end WB
namespace Go.Proofs.YtjhogocabcdjbabGreatDoor
open Tryz
open Go Go.RowKit WB
theorem A1:(prog.info? 243).map (fun i=>(i.zero,i.size,i.bytes))=some (some (Value.agg #[.int .i64 0,.int .i64 0,.string ⟨#[]⟩,.string ⟨#[]⟩,.int .i64 0,.int .i64 0,.int .i64 0,.int .i64 0]),8,80):=by kernel_rfl
theorem pT(x:It):(lZ x).all Value.oneCell'=true:=rfl
theorem Df(xs:List It):∀u∈xs.flatMap lZ,u.oneCell'=true:=xR (fun e u hu=>aG.1 (pT e) u hu) xs
theorem P2(w0:World)(L:List HP)(v:Value)(xs:List It)(x:It)(k bv:Nat)(hk:k<=xs.length)(hn:xs.length<1000000):
 KC prog 246 #[v,.int .i64 (k:Nat),.slice (some ⟨bv,0,none⟩) 1 1] w0 (Ic v xs::bD bv (.cells (lZ x).toArray 243 (0,0))::L) (fun v' L'=>L'=Ic v' (xs.take k++x::xs.drop k)::L):=fun w h=>by
 have fin:∀{w':World} {v':Value},St w0 (ie 243 8 v' (xs.length+1) (xs.flatMap lZ |>.take (k *8))::L) w'->True:=fun _=>trivial
 have e1:(xs.take k++x::xs.drop k).length=xs.length+1:=by simp;omega
 have e2:(xs.flatMap lZ).take (k *8)++lZ x++(xs.flatMap lZ).drop (k *8)=(xs.take k++x::xs.drop k).flatMap lZ:=by
  rw[lr lZ 8 (fun _=>rfl) xs k hk,lu lZ 8 (fun _=>rfl) xs k hk];simp
 by_cases sO:k=xs.length
 ·subst sO;refine(FV w w0 L v xs.length (xs.flatMap lZ) (lZ x) bv h rfl (fun u hu=>aG.1 (pT x) u hu) hn).mono ?_;rintro e w' ⟨v',he,hs⟩;refine⟨v',_,he,rfl,?_⟩
  show St w0 (ie 243 8 v' _ _::L) w'
  rw[e1,show(xs.take xs.length++x::xs.drop xs.length).flatMap lZ=xs.flatMap lZ++lZ x by simp];exact hs
 ·have dI:k<xs.length:=by omega
  have key:Calls prog 246 #[v,.int .i64 (k:Nat),.slice (some ⟨bv,0,none⟩) 1 1] w fun e w'=> ∃v',e=.returned v'/\St w0 (ie 243 8 v' (xs.length+1) ((xs.flatMap lZ).take (k *8)++lZ x++(xs.flatMap lZ).drop (k *8))::L) w':=by
   obtain⟨g,cap,rfl⟩:=p_ h dI;by_cases hr:xs.length+1<=cap
   ·exact Dc w w0 L g xs.length cap k _ (lZ x) bv h rfl (fun u hu=>aG.1 (pT x) u hu) (Df xs) hn dI hr
   ·exact De w w0 L g xs.length k cap _ (lZ x) bv h rfl (fun u hu=>aG.1 (pT x) u hu) (Df xs) hn dI ae
  refine key.mono ?_;rintro e w' ⟨v',he,hs⟩;refine⟨v',_,he,rfl,?_⟩
  show St w0 (ie 243 8 v' _ _::L) w'
  rw[e1,<-e2];exact hs
theorem Tb(w0:World)(L:List HP)(v:Value)(xs:List It)(k:Nat)(hk:k<xs.length)(hn:xs.length<1000000):
 KC prog 151 #[v,.int .i64 (k:Nat),.int .i64 ((k:Int)+1)] w0 (Ic v xs::L) (fun v' L'=>L'=Ic v' (xs.eraseIdx k)::L):=by
 refine KC.pre (fun w hw=>p_ hw hk) ?_;rintro⟨g,cap,rfl⟩;refine KC.pre (fun w hw=>(g_ hw).2.1) fun tF=>?_
 refine KC.mk (n:=33) func151 rfl ntmps151 aj ?_;refine iG ?_;refine zf ?_;refine yC ?_;refine KO.GF (lo:=k) (hi:=k+1) (mx:=xs.length) rfl rfl rfl rfl underlying120 sizeOf243 rfl ae rfl ae ae ae rfl (fun q13=>?_);refine Z0 ?_;refine iw ?_;refine sI ?_;refine BE ?_;refine mG ?_;refine yC ?_;refine Wt ?_;refine jh ?_;refine KO.Ap rfl rfl underlying120 sizeOf243 aL ae rfl ?_;refine jh ?_;refine KO.cutFrom (lo:=k+1) rfl rfl underlying120 sizeOf243 ae ae ae rfl ?_;refine KO.move (j:=k+1) rfl rfl rfl bC.head rfl tF underlying120 A1 (fun _=>rfl) pT ae ae rfl ?_;refine kQ ?_;refine Z1 ?_;refine yC ?_;refine Z1 ?_;refine KO.GD (lo:=k+(xs.length-(k+1))) (hi:=xs.length) rfl rfl rfl underlying120 sizeOf243 rfl rfl ae ae rfl ?_;refine KO.clear rfl rfl bC.head tF fV fV underlying120 A1 (fun _=>rfl) rfl rfl ?_;refine oy ?_;refine fK ?_;refine KQ.a_ rfl rfl (fun w' hs=>⟨_,_,rfl,rfl,?_⟩);have e:(List.take (k+(xs.length-(k+1))) (List.take k xs++List.drop (k+1) xs++List.drop (k+(xs.length-(k+1))) xs))=xs.eraseIdx k:=by
  rw[List.take_append_of_le_length fV,List.take_of_length_le fV,List.eraseIdx_eq_take_drop_succ]
 rw[e]at hs;exact hs
theorem VC(w0:World)(L:List HP)(v:Value)(xs:List It)(f:FuncId)(cp:List Value)(pf:It->Bool)(hn:xs.length<1000000)(dx:∀args w,(callFunc f args).run prog w=.ok (.enter f args) w)(oG:∀e v ys,e∈xs->KE prog f ([]++([Value.agg (lZ e).toArray]++cp)).toArray w0 (Ic v ys::L) (fun u L'=>u=.bool (pf e)/\L'=Ic v ys::L)):
 KC prog 158 #[v,.func (.func f) [].toArray cp.toArray] w0 (Ic v xs::L) (fun v' L'=>L'=Ic v' (xs.filter fun e=> !pf e)::L):=by
 refine KC.pre (fun w hw=>aN hw) ?_;rintro⟨sa,cap,rfl,Jz⟩;refine KC.mk (n:=42) func158 rfl ntmps158 aj ?_;refine BI ?_;refine KO.ce rfl rfl rfl call149 rfl (A4 w0 _ _ xs f cp pf (B2.of (fun _=>rfl) bC.head) hn dx (fun e he=>oG e _ xs he)) ?_;rintro v L' ⟨rfl,rfl⟩;refine kQ ?_;refine sI ?_;refine K.bI rfl (fun h=>?_) (fun h=>?_)
 ·refine Ew ?_;refine KQ.a_ rfl rfl (fun w' hs=>⟨_,_,rfl,rfl,?_⟩)
  rw[b_.2 (fun a ha=>by
   have :=List.findIdx?_eq_none_iff.1 (su (by omega :ot pf xs<0)) a ha
   simp[this])]
  exact hs
 ·obtain⟨i0,e0,Zl,JJ,hp0,JD,U7⟩:=mf (p:=pf) (l:=xs) (by unfold ot at h ⊢;split at h<;>simp_all);obtain⟨g,rfl⟩:=Jz ae;refine K.fact (fun w hw=>(g_ hw).2.1) fun tF=>?_
  refine mG ?_;rw[Zl];refine KO.add rfl rfl rfl ae rfl ?_;refine Z8 ?_;refine Tn ?_;refine K.loop (fun k:Nat×Nat×List It=>[(0,.slice (some ⟨g,0,none⟩) xs.length cap),(1,.func (.func f) [].toArray cp.toArray),(5,.int .i64 (k.1:Nat)),(6,.int .i64 (k.2.1:Nat))]) (fun k=>Ic (.slice (some ⟨g,0,none⟩) xs.length cap) k.2.2::L)
   (fun k=>k.2.2.length=xs.length/\k.1<k.2.1/\k.2.1<=xs.length/\k.2.2.take k.1=(xs.take k.2.1).filter (fun e=> !pf e)/\k.2.2.drop k.2.1=xs.drop k.2.1) (fun k=>xs.length-k.2.1) (i0,i0+1,xs) ⟨rfl,by dsimp only;omega,by dsimp only;omega,(jk U7).symm,rfl⟩ ⟨rfl,rfl,rfl,rfl,trivial⟩ (fun _ h=>h) ?_
  rintro⟨i,j,ys⟩ ⟨hyl,Zi,Xj,SG,hyd⟩;dsimp only at hyl Zi Xj SG hyd ⊢;refine y8 ?_;refine yC ?_;refine Eo ?_;refine K.bI rfl (fun h1=>?_) (fun h1=>?_)
  ·obtain⟨e,he⟩:∃e,xs[j]? =some e:=⟨xs[j],ao ae⟩;have YC:ys[j]? =some e:=by rw[<-he];have :=congrArg (fun l=>l[0]?) hyd;simpa using this
   refine RY ?_;refine iw ?_;refine Tj ?_;refine KO.yU rfl rfl isAgg243 sizeOf243 bE (fun _=>rfl) uT rfl ?_;refine KO.alloc rfl zeroValue243 aL rfl ?_;intro b7;refine Rz ?_;refine oy ?_;refine RC ?_;refine KO.ce rfl rfl rfl dx rfl ((oG e _ ys (ax he)).only (fun w h=>h.drop)) ?_;rintro v L' ⟨rfl,rfl⟩;refine oY ?_;refine Z5 ?_;refine K.cond rfl (fun h2=>?_) (fun h2=>?_)
   ·obtain⟨u,hu⟩:∃u,ys[i]? =some u:=⟨ys[i],ao ae⟩;refine y8 ?_;refine RC ?_;refine KO.eN rfl rfl runUnderlying120 sizeOf243 rfl ae rfl ?_;refine KO.acI rfl rfl e rfl sizeOf243 pT aX (fun _=>rfl) hu ?_;refine Z5 ?_;refine Z7 ?_;refine uS ?_;refine Z8 ?_;refine Z14 ?_;refine Z7 ?_;refine uS ?_;refine oz ?_;refine KQ.round (i+1,j+1,ys.set i e) ⟨by simp;omega,by dsimp only;omega,by dsimp only;omega,?_,?_⟩ ji ⟨rfl,rfl,rfl,rfl,trivial⟩ (fun _ h=>h.Ta)
    ·dsimp only;rw[bA he,dG,<-SG,bA (e:=e) (by rw[List.getElem?_set_self ae])];rw[List.take_set_of_le (aC _)];simp only[fh,h2,if_true,List.filter_nil]
    ·dsimp only;rw[List.drop_set_of_lt ae];have :=congrArg (List.drop 1) hyd;simpa[List.drop_drop,Nat.add_comm]using this
   ·refine aaW ?_;refine Z7 ?_;refine uS ?_;refine oz ?_;refine KQ.round (i,j+1,ys) ⟨hyl,by dsimp only;omega,by dsimp only;omega,?_,?_⟩ ji ⟨rfl,rfl,rfl,rfl,trivial⟩ (fun _ h=>h.drop)
    ·dsimp only;rw[bA he,dG,<-SG];simp only[fh,h2,List.filter_nil,List.append_nil,Bool.false_eq_true,if_false]
    ·dsimp only;have :=congrArg (List.drop 1) hyd;simpa[List.drop_drop,Nat.add_comm]using this
  ·have hjx:j=xs.length:=by omega
   subst hjx;have SG:ys.take i=xs.filter (fun e=> !pf e):=by rw[SG,List.take_length]
   refine wx ?_;refine iw ?_;refine KO.cutFrom (lo:=i) rfl rfl underlying120 sizeOf243 rfl ae ae rfl ?_;refine KO.clear rfl rfl bC.head tF hyl.symm ae underlying120 A1 (fun _=>rfl) rfl rfl ?_;refine Z0 ?_;refine iw ?_;refine KO.Ap (hi:=i) rfl rfl underlying120 sizeOf243 rfl ae rfl ?_;refine fK ?_;refine KQ.a_ rfl rfl (fun w' hs=>⟨_,_,rfl,rfl,?_⟩);rw[<-SG];exact hs
theorem HX(w0:World)(L:List HP)(a b:It)(ha:nS a)(hb:nS b):
 KE prog 244 #[.agg (lZ a).toArray,.agg (lZ b).toArray] w0 L (fun v L'=>v=.int .i64 (lS a b)/\L'=L):=by
 refine KE.mk (n:=14) func244 rfl ntmps244 aj ?_;intro w hw;refine Z2 ?_;refine KO.box rfl rfl aL rfl ?_;intro b2;refine KO.box rfl rfl aL rfl ?_;intro b3;refine qm ?_;refine Ko ?_
 (refine KO.Ur rfl rfl isAgg44 sizeOf44 aX Y9 aL rfl ?_)
 refine Ko ?_
 (refine KO.Ur rfl rfl isAgg44 sizeOf44 bE Y9 aL rfl ?_)
 refine KO.ij (off:=5) rfl runUnderlying243 rfl rfl sizeOf3 rfl ?_;refine E8 ?_;refine KO.ij (off:=5) rfl runUnderlying243 rfl rfl sizeOf3 rfl ?_;refine vG ?_;refine KO.ce rfl rfl rfl call245 rfl (aas w _ a.m b.m a.line b.line ha.1 hb.1 ha.2 hb.2) ?_;rintro v L' ⟨rfl,rfl⟩;refine fK ?_;refine KQ.a_ rfl rfl (fun w' hs=>⟨_,_,rfl,⟨rfl,rfl⟩,hw.aA hs.below,hs.below⟩)
theorem VM(w0:World)(L:List HP)(v:Value)(xs:List It)(x:It)(hr:∀w,St w0 L w->B2 w 8 lZ v xs)(hlen:xs.length<1000000)(hm:OD xs x)(hx:nS x)(oc:∀e∈xs,nS e):
 KE prog 243 #[v,.agg (lZ x).toArray,.func (.func 244) #[] #[]] w0 L (fun v L'=> ∃k,Hl xs x k/\v=.tuple #[.int .i64 (k:Nat),.bool (Nb xs x k)]/\L'=L):=by
 refine KE.mk (n:=49) func243 rfl ntmps243 aj ?_;intro w hw;obtain⟨sa,cap,rfl,Jz,hc⟩:=hr w hw;refine Z2 ?_;refine KO.box rfl rfl aL rfl ?_;intro b4;refine Z8 ?_;refine kQ ?_;refine yC ?_;refine kQ ?_;refine ry ?_;refine OS ?_;refine K.loop (fun k:Nat×Nat=>[(0,.slice sa xs.length cap),(2,.func (.func 244) #[] #[]),(4,.pointer (some ⟨b4,0,none⟩)),(8,.int .i64 (xs.length:Nat)),(9,.int .i64 (k.1:Nat)),(10,.int .i64 (k.2:Nat))]) (fun _=>[bD b4 (.cells (lZ x).toArray 243 (0,0))])
  (fun k=>k.1<=k.2/\k.2<=xs.length/\(∀(p:Nat) (a:It),p<k.1->xs[p]? =some a->lS a x<0)/\(∀(p:Nat) (a:It),k.2<=p->xs[p]? =some a->0<=lS a x)) (fun k=>k.2-k.1) (0,xs.length)
  ⟨aR _,aC _,fun p a h=>absurd h (Nat.not_lt_zero _),fun p a h ha=>by have :=(au.1 ha).1;omega⟩ ⟨rfl,rfl,rfl,rfl,rfl,rfl,trivial⟩ (fun _ h=>h) ?_
 rintro⟨p,q⟩ ⟨OL,hq,h1,h2⟩;dsimp only at OL hq h1 h2 ⊢;refine y8 ?_;refine Eo ?_;refine K.bI rfl (fun h=>?_) (fun h=>?_)
 ·obtain⟨g,rfl⟩:=Jz ae;have Bb:((p:Int)+(q:Int))/2=(((p+q)/2:Nat):Int):=by omega
  obtain⟨e,he⟩:∃e,xs[(p+q)/2]? =some e:=⟨xs[(p+q)/2],ao ae⟩;refine RY ?_;refine iw ?_;refine uS ?_;refine KO.i2u rfl (by rw[underlying3];rfl) underlying73 ae rfl ?_;refine KO.acK rfl rfl rfl rfl ?_;refine KO.u2i rfl (by rw[underlying73];rfl) underlying3 ae rfl ?_;refine jH ?_;rw[Bb];refine K.draw [.pure,.pure,.pure,.pure,.read,.read,.write,.pure] [0,1,2,3,4,5,6,7] bm bm ?_;refine zf ?_;refine Tj ?_;refine KO.Jp (cs:=(lZ e).toArray) rfl rfl isAgg243 sizeOf243 rfl (hc g rfl _ e he) rfl ?_;refine RC ?_;refine KO.ce rfl rfl rfl call244 rfl (HX w _ e x (oc e (ax he)) hx) ?_;rintro v L' ⟨rfl,rfl⟩;refine Eo ?_;refine K.bI rfl (fun h3=>?_) (fun h3=>?_)
  ·(skip)
   refine Z7 ?_;refine uS ?_;refine Z8 ?_;refine yD ?_;refine KQ.round ((p+q)/2+1,q) ⟨by dsimp only;omega,hq,fun r a hr ha=>hm r _ a e ae ha he h3,h2⟩ ji ⟨rfl,rfl,rfl,rfl,rfl,rfl,trivial⟩ (fun _ h=>h)
  ·(skip)
   refine Z7 ?_;refine Z8 ?_;refine yD ?_;refine KQ.round (p,(p+q)/2) ⟨by dsimp only;omega,by dsimp only;omega,h1,fun r a hr ha=>Int.not_lt.1 fun hl=>h3 (hm _ r e a hr he ha hl)⟩ ji ⟨rfl,rfl,rfl,rfl,rfl,rfl,trivial⟩ (fun _ h=>h)
 ·obtain rfl:p=q:=by omega
  by_cases dI:p<xs.length
  ·obtain⟨g,rfl⟩:=Jz ae;obtain⟨e,he⟩:∃e,xs[p]? =some e:=⟨xs[p],ao ae⟩;refine wx ?_;refine abg ?_;refine vz ?_;refine uo ?_;refine uo ?_;refine Tj ?_;refine KO.on rfl rfl fV ?_;refine KO.Jp (cs:=(lZ e).toArray) rfl rfl isAgg243 sizeOf243 rfl (hc g rfl _ e he) rfl ?_;refine lV ?_;refine RC ?_;refine KO.on rfl rfl fV ?_;refine KO.ce rfl rfl rfl call244 rfl (HX w _ e x (oc e (ax he)) hx) ?_;rintro v L' ⟨rfl,rfl⟩;refine lV ?_;refine IC ?_;refine qJ ?_;refine nE ?_;refine KQ.ef rfl rfl rfl (fun w' hs=>⟨_,_,rfl,⟨p,⟨hq,h1,h2⟩,?_,rfl⟩,hw.aA hs.below,hs.below⟩);simp[Nb,he]
  ·refine wx ?_;refine abg ?_;refine vz ?_;refine Ev ?_;refine Tm ?_;refine vy ?_;refine nE ?_;refine KQ.ef rfl rfl rfl (fun w' hs=>⟨_,_,rfl,⟨p,⟨hq,h1,h2⟩,?_,rfl⟩,hw.aA hs.below,hs.below⟩);have :xs[p]? =none:=cG ae;simp[Nb,this,dI]
abbrev Yn (b:Nat) (v:Value) (next:Int):HP:=bD b (.cells [v,.int .i64 next].toArray 122 (0,0))
def iU (b:Nat) (q:Qu):HP:=ex fun v=>sep (Yn b v q.next) (Ic v q.l)
theorem jq{w0 w:World}{b:Nat}{q:Qu}{L:List HP}(h:St w0 (iU b q::L) w):∃v,St w0 (Yn b v q.next::Ic v q.l::L) w:=by
 obtain⟨v,h⟩:=h.B9;exact⟨v,h.split⟩
theorem jR{w0 w:World}{b:Nat}{l:List It}{next:Int}{v:Value}{L:List HP}(h:St w0 (Yn b v next::Ic v l::L) w):St w0 (iU b ⟨l,next⟩::L) w:=St.Bk (F:=fun v=>sep (Yn b v next) (Ic v l)) v h.join
theorem AU(w0:World)(L:List HP)(b:Nat)(q:Qu)(m:Ms)(u:Int)(hq:WO q)(hm:small m.pri):
 KC prog 147 #[.pointer (some ⟨b,0,none⟩),.agg (dN m).toArray,.int .i64 u] w0 (iU b q::L) (fun v L'=>v=.tuple #[]/\L'=iU b (dS q m u)::L):=by
 have hx:nS (gI q m u):=⟨hm,by have :=hq.next;unfold gI small;dsimp only;omega⟩;have hk:=zo q.l (gI q m u);have h1:=hq.next
 have h2:=hq.len;refine KC.mk (n:=44) func147 rfl ntmps147 aj ?_;refine oQ ?_;refine K.cg (fun _ h=>jq h) fun v=>?_
 refine dC ?_;refine KO.box rfl rfl aL rfl ?_;intro b4;refine Z0 ?_;refine K.draw [.read,.pure,.pure,.pure,.read,.pure,.pure,.pure,.cx,.write] [0,1,2,3,4,5,6,7,8,9] bm bm ?_;refine EK ?_;refine uk ?_;refine Wa ?_;refine E8 ?_;refine Z1 ?_;refine KO.max2 rfl rfl rfl rfl ?_;refine KO.VO (pl:=[(0,5),(5,1),(6,1),(7,1)]) (lZ (gI q m u)) rfl zeroValue243 runUnderlying243 (by intro w;simp[sizeOf3,sizeOf44]) rfl rfl ?_;refine KO.alloc rfl zeroValue243 aL rfl ?_;intro b6;refine Rz ?_;refine oy ?_;refine lb ?_;refine Wa ?_;refine E8 ?_;refine uS ?_;refine lb ?_;refine Wa ?_
 (refine KO.Pd rfl rfl rfl aL AB aL aX aL Y0 ?_)
 refine Z0 ?_;refine K.draw [.pure,.pure,.pure,.read,.read,.write,.pure,.pure,.pure,.pure,.pure] [0,1,2,3,4,5,6,7,8,9,10] bm bm ?_;refine Z1 ?_;refine RB ?_;refine KO.xA rfl rfl isAgg243 sizeOf243 aX aL rfl ?_;refine KO.ce rfl rfl rfl call243 rfl (VM w0 _ v q.l (gI q m u) (B2.of (fun _=>rfl) aX) ae (hq.mono m u) hx hq.small) ?_;rintro v30 L' ⟨k,hsr,rfl,rfl⟩;obtain rfl:=zp hsr;refine N2 ?_;refine iH ?_;refine K.draw [.pure,.pure,.pure,.pure,.read,.pure,.read,.cx,.write,.pure,.pure,.write] [0,1,2,3,4,5,6,7,8,9,10,11] bm bm ?_;refine jh ?_;refine RB ?_;refine Z1 ?_;refine KO.xA rfl rfl isAgg243 sizeOf243 aX aL rfl ?_;refine KO.iN (z:=(Value.agg #[.int .i64 0,.int .i64 0,.string ⟨#[]⟩,.string ⟨#[]⟩,.int .i64 0,.int .i64 0,.int .i64 0,.int .i64 0])) (sz:=8) (cV:=80) rfl rfl underlying120 bm aL aL ai ai rfl ?_;intro b40;refine KO.cl rfl rfl rfl call246 rfl (KC.OI aX bE (P2 w0 _ v q.l (gI q m u) _ _ hk ae)) ?_;rintro v' L' rfl;refine KO.fact (fun _ hs=>aN hs) ?_;rintro⟨a',c',rfl,-⟩;refine V0 ?_
 (refine KO.Pd rfl rfl rfl aL Y42 aL aX aL Y0 ?_)
 refine KO.nil ?_;refine KQ.tU rfl (fun w' hs=>⟨_,_,rfl,⟨rfl,rfl⟩,?_⟩);exact jR ((hs.gu bE bE).OP Cc)
theorem Uk(w0:World)(L R:List HP)(b:Nat)(q:Qu)(hp:bC L (iU b q) R):
 KE prog 192 #[.pointer (some ⟨b,0,none⟩)] w0 L (fun v L'=>v=.int .i64 (q.l.length:Nat)/\L'=L):=by
 refine KE.mk (n:=8) func192 rfl ntmps192 aj ?_;intro w yI;obtain⟨v,hw⟩:=jq (yI.pick hp);obtain⟨sa,cap,rfl,Jz⟩:=aN hw.drop;refine iG ?_;refine RD ?_;refine yC ?_;refine fK ?_;refine KQ.a_ rfl rfl (fun w' hs=>⟨_,_,rfl,⟨rfl,rfl⟩,yI.aA hs.below,hs.below⟩)
theorem Vh(w0:World)(L R:List HP)(e:It)(b:Nat)(id:Int)(E:TypeId)(hp:bC L (bD b (.cells [Value.int .i64 id].toArray E (0,0))) R):
 KE prog 242 #[.agg (lZ e).toArray,.pointer (some ⟨b,0,none⟩)] w0 L (fun v L'=>v=.bool (MP id e)/\L'=L):=by
 refine KE.mk (n:=9) func242 rfl ntmps242 aj ?_;intro w hw;have hw:=hw.pick hp;refine Z2 ?_;refine KO.box rfl rfl aL rfl ?_;intro b2;refine qm ?_;refine Ko ?_;refine Kl ?_;refine V7 ?_;refine fK ?_;refine KQ.a_ rfl rfl (fun w' hs=>⟨_,_,rfl,⟨rfl,rfl⟩,(hw.sY hp).aA hs.below,hs.below⟩)
theorem S0(w0:World)(L R:List HP)(b:Nat)(q:Qu)(id:Int)(hp:bC L (iU b q) R)(hq:q.l.length<900000):
 KE prog 146 #[.pointer (some ⟨b,0,none⟩),.int .i64 id] w0 L (fun v L'=>v=.bool (CL q id)/\L'=L):=by
 refine KE.mk (n:=11) func146 rfl ntmps146 aj ?_;intro w yI;obtain⟨v,hw⟩:=jq (yI.pick hp);refine Z2 ?_;refine KO.box rfl rfl aL rfl ?_;intro b3;refine kQ ?_;refine RD ?_;refine Ep ?_;refine KO.ce rfl rfl rfl call241 rfl (VK w _ v q.l 242 [.pointer (some ⟨b3,0,none⟩)] (MP id) (B2.of (E:=243) (sz:=8) (cf:=lZ) (fun _=>rfl) bC.head w hw.drop).base ae call242 (fun e _=>Vh _ _ _ e b3 id _ bE)) ?_;rintro v L' ⟨rfl,rfl⟩;refine fK ?_;refine KQ.a_ rfl rfl (fun w' hs=>⟨_,_,rfl,⟨rfl,rfl⟩,yI.aA hs.below,hs.below⟩)
end Go.Proofs.YtjhogocabcdjbabGreatDoor
namespace WB
open Go Go.RowKit
section
variable {P:Program} {fn:Func} {R:Ending->World->Prop} {n:Nat} {w0:World} {G:Env} {L M:List HP} {v v1 v2 v3:Value} {t t1 t2 t3:Nat} {T E:TypeId} {b:Nat} {cs:List Value} {fz:Nat×Nat}
theorem ac1(h1:cF G t1=some (.pointer (some ⟨b,0,none⟩)))(hT:∀w,(isAgg T).run P w=.ok true w)(hn:∀w,(Go.sizeOf T).run P w=.ok cs.length w)(hp:bC L (bD b (.cells cs.toArray E fz)) M)(a:Act)(w:World)(ha:ct n [] G a)(hw:St w0 L w):
 (loadVar T ⟨b,0,none⟩).run P w=.ok (.agg cs.toArray) w:=by
 refine nV (hT w) (hn w) fun j c hj=>?_
 rw[Addr.add_lit,World.cell?,(hw.lK hp).2];simpa using hj
theorem KQ.jn(hr:fn.results=#[.cell t1 T,.tmp t2])(h1:cF G t1=some (.pointer (some ⟨b,0,none⟩)))(hT:∀w,(isAgg T).run P w=.ok true w)(hp:bC L (bD b (.cells cs.toArray E fz)) M)(hn:∀w,(Go.sizeOf T).run P w=.ok cs.length w)(h2:cF G t2=some v2)(h:∀w,St w0 L w->R (.returned (.tuple #[.agg cs.toArray,v2])) w):KQ (bodyPost P fn R) .ret n [] w0 G L:=
 KQ.fin (fun a w ha hw=>by
  have hl:=ac1 (P:=P) h1 hT hn hp a w ha hw
  simp[results,hr,Array.getD_eq_getD_getElem?,ha.get _ _ h1,ha.get _ _ h2,asAddr,hl]) h
end
theorem St.stack{w0 w w':World}{L M:List HP}(hw:St w0 L w)(hs:St w M w'):St w0 (M++L) w':=by
 refine⟨hs.os.trans hw.os,hs.tape.trans hw.tape,hs.output.trans hw.output,Nat.le_trans hw.size hs.size,fun k hk=>?_,?_⟩
 ·rw[hs.block k (Nat.lt_of_lt_of_le hk hw.size)];exact hw.block k hk
 ·obtain⟨h1,hh1,s1⟩:=hw.own;obtain⟨h2,Zm,s2⟩:=hs.own;have dI:∀k o,h1 k=some o->k<w.heap.size:=fun k o hk=>(Array.getElem?_eq_some_iff.1 (hh1 k o hk).2).1
  refine⟨nL h2 h1,fun k o hk=>?_,dD.2 ⟨h2,h1,fun k=>?_,rfl,s2,s1⟩⟩
  ·simp only[nL]at hk;cases e2:h2 k with
   |some v=>
    rw[e2]at hk;simp only[Option.some_or,ay]at hk;subst hk;exact⟨Nat.le_trans hw.size (Zm k v e2).1,(Zm k v e2).2⟩
   |none=>
    rw[e2]at hk;simp only[Option.none_or]at hk;exact⟨(hh1 k o hk).1,by rw[hs.block k (dI k o hk)];exact(hh1 k o hk).2⟩
  ·cases e1:h1 k with
   |none=>exact .inr rfl
   |some o=>
    left;cases e2:h2 k with
    |none=>rfl
    |some v=>have h3:=(Zm k v e2).1;have h4:=dI k o e1;omega
theorem cL{w0 w:World}{L:List HP}{α:Type}{E:TypeId}{sz:Nat}{cf:α->List Value}(h:St w0 L w):St w0 (SL E sz cf (.slice none 0 0) ([]:List α)::L) w:=h.pM
end WB
namespace Go.Proofs.YtjhogocabcdjbabGreatDoor
open Tryz
open Go Go.RowKit WB
theorem Ly(w0:World)(L:List HP)(b:Nat)(q:Qu)(id:Int)(hq:q.l.length<900000):
 KC prog 161 #[.pointer (some ⟨b,0,none⟩),.int .i64 id] w0 (iU b q::L) (fun v L'=>v=.tuple #[.agg (dN (qP q id)).toArray,cz 70 (lF q id)]/\L'=iU b (fm q id)::L):=by
 refine KC.mk (n:=38) func161 rfl ntmps161 aj ?_;refine oQ ?_;refine K.cg (fun _ h=>jq h) fun v=>?_
 refine dC ?_;refine KO.box rfl rfl aL rfl ?_;intro b3;refine KO.alloc rfl zeroValue44 aL rfl ?_;intro b4;refine kQ ?_;refine BW ?_;refine Ep ?_;refine KO.ce rfl rfl rfl call149 rfl (A4 w0 _ v q.l 252 [.pointer (some ⟨b3,0,none⟩)] (MP id) (B2.of (fun _=>rfl) aX) ae call252 (fun e _=>Pa w0 _ _ e b3 id _ aX)) ?_;rintro v12 L' ⟨rfl,rfl⟩;refine kQ ?_;refine Eo ?_;refine K.bI rfl (fun h=>?_) (fun h=>?_)
 ·have hn:nX q id=none:=su h;refine G8 ?_;refine K2 ?_;refine vx ?_;refine KQ.jn rfl rfl isAgg44 bE IG rfl (fun w' hs=>⟨_,_,rfl,⟨?_,rfl⟩,?_⟩)
  ·simp only[qP,lF,hn];rfl
  ·rw[show fm q id=q by simp only[fm,hn]];exact jR ((hs.gu aX aX).OP Cc)
 ·obtain⟨i0,e0,Zl,JJ,hp0,JD,U7⟩:=mf (Int.not_lt.1 h);have hn:nX q id=some i0:=U7;refine K.fact (fun w hw=>p_ (hw.pick aX) JD) ?_;rintro⟨g,cap,rfl⟩;rw[Zl];refine mG ?_;refine BW ?_;refine Z1 ?_;refine Tj ?_;refine KO.fo (off:=0) rfl runUnderlying243 rfl rfl sizeOf44 rfl ?_
  (refine KO.Yx rfl rfl isAgg44 sizeOf44 aX (fun _=>rfl) uT Y9 aL rfl ?_)
  refine KO.alloc rfl zeroValue44 aL rfl ?_;intro b7;refine BH ?_;refine iw ?_;refine BW ?_;refine jh ?_;refine uS ?_;refine KO.cl rfl rfl rfl call151 rfl (KC.qR aX (Tb w0 _ _ q.l i0 JD ae)) ?_;rintro v' L' rfl;refine KO.fact (fun _ hs=>aN hs) ?_;rintro⟨a',c',rfl,-⟩;refine V0 ?_
  (refine KO.Pd rfl rfl rfl aL Y42 aL aX aL Y0 ?_)
  refine E9 ?_;refine BV ?_;refine EH ?_;refine fK ?_;refine KQ.jn rfl rfl isAgg44 bE IG rfl (fun w' hs=>⟨_,_,rfl,⟨?_,rfl⟩,?_⟩)
  ·simp only[qP,lF,hn,ob JJ];rfl
  ·rw[show fm q id=⟨q.l.eraseIdx i0,q.next⟩by simp only[fm,hn]];exact jR ((hs.gu aX aX).OP Cc)
theorem ZT(w0:World)(L:List HP)(b:Nat)(q:Qu)(u:Int)(hq:q.l.length<900000):
 KC prog 58 #[.pointer (some ⟨b,0,none⟩),.int .i64 u] w0 (iU b q::L) (fun v L'=>v=.tuple #[.agg (dN (lG q)).toArray,cz 70 (lH q)]/\L'=iU b (mW q u)::L):=by
 refine KC.mk (n:=47) func58 rfl ntmps58 aj ?_;refine oQ ?_;refine K.cg (fun _ h=>jq h) fun v=>?_
 refine dC ?_;refine KO.alloc rfl zeroValue44 aL rfl ?_;intro b4;refine kQ ?_;refine BW ?_;refine KO.ce (cp:=[]) rfl rfl rfl call149 rfl (A4 w0 _ v q.l 150 [] fU (B2.of (fun _=>rfl) aX) ae call150 (fun e _=>Vo w0 _ e)) ?_;rintro v12 L' ⟨rfl,rfl⟩;refine kQ ?_;refine Eo ?_;refine K.bI rfl (fun h=>?_) (fun h=>?_)
 ·have hn:xd q=none:=su h;refine G8 ?_;refine K2 ?_;refine vx ?_;refine KQ.jn rfl rfl isAgg44 bE IG rfl (fun w' hs=>⟨_,_,rfl,⟨?_,rfl⟩,?_⟩)
  ·simp only[lG,lH,hn];rfl
  ·rw[show mW q u=q by simp only[mW,hn]];exact jR ((hs.gu aX aX).OP Cc)
 ·obtain⟨i0,e0,Zl,JJ,hp0,JD,U7⟩:=mf (Int.not_lt.1 h);have hn:xd q=some i0:=U7;refine K.fact (fun w hw=>p_ (hw.pick aX) JD) ?_;rintro⟨g,cap,rfl⟩;rw[Zl];refine mG ?_;refine BW ?_;refine Z1 ?_;refine Tj ?_;refine KO.fo (off:=0) rfl runUnderlying243 rfl rfl sizeOf44 rfl ?_
  (refine KO.Yx rfl rfl isAgg44 sizeOf44 aX (fun _=>rfl) uT Y9 aL rfl ?_)
  refine KO.alloc rfl zeroValue44 aL rfl ?_;intro b7;refine BH ?_;refine BX ?_;refine Z5 ?_;refine K.bI rfl (fun h2=>?_) (fun h2=>?_)
  ·(skip)
   refine iw ?_;refine BW ?_;refine jh ?_;refine uS ?_;refine KO.cl rfl rfl rfl call151 rfl (KC.qR aX (Tb w0 _ _ q.l i0 JD ae)) ?_;rintro v' L' rfl;refine KO.fact (fun _ hs=>aN hs) ?_;rintro⟨a',c',rfl,-⟩;refine V0 ?_
   (refine KO.Pd rfl rfl rfl aL Y42 aL aX aL Y0 ?_)
   refine E9 ?_;refine BV ?_;refine EH ?_;refine fK ?_;refine KQ.jn rfl rfl isAgg44 bE IG rfl (fun w' hs=>⟨_,_,rfl,⟨?_,rfl⟩,?_⟩)
   ·simp only[lG,lH,hn,ob JJ];rfl
   ·rw[show mW q u=⟨q.l.eraseIdx i0,q.next⟩by simp only[mW,hn,h2,if_true]];exact jR ((hs.gu aX aX).OP Cc)
  ·(skip)
   refine Z7 ?_;refine BW ?_;refine jh ?_;refine Tj ?_;refine Og ?_;refine KO.XS rfl rfl rfl aL AB aL aX (fun _=>rfl) JJ rfl {e0 with j9:=u} rfl ?_;refine E9 ?_;refine BV ?_;refine EH ?_;refine fK ?_;refine KQ.jn rfl rfl isAgg44 bE IG rfl (fun w' hs=>⟨_,_,rfl,⟨?_,rfl⟩,?_⟩)
   ·simp only[lG,lH,hn,ob JJ];rfl
   ·rw[show mW q u=⟨q.l.set i0 {e0 with j9:=u},q.next⟩by simp only[mW,hn,h2,if_false,ob JJ]];exact jR ((hs.gu aX aX).OP Cc)
abbrev Jh (v:Value) (xs:List Ms):HP:=SL 44 5 dN v xs
theorem H6:(prog.info? 44).map (fun i=>(i.zero,i.size,i.bytes))=some (some (Value.agg #[.int .i64 0,.int .i64 0,.string ⟨#[]⟩,.string ⟨#[]⟩,.int .i64 0]),5,56):=by kernel_rfl
theorem Hw(w0:World)(L R:List HP)(b:Nat)(q:Qu)(hp:bC L (iU b q) R)(hq:q.l.length<900000):
 KE prog 80 #[.pointer (some ⟨b,0,none⟩)] w0 L (fun v L'=>L'=Jh v (eK q)::L):=by
 refine KE.mk (n:=30) func80 rfl ntmps80 aj ?_;intro w yI;obtain⟨v,hw⟩:=jq (yI.pick hp);obtain⟨sa,cap,rfl,Jz,hc⟩:=B2.of (E:=243) (sz:=8) (cf:=lZ) (fun _=>rfl) bC.head w hw.drop;refine Z2 ?_;refine BM ?_;refine RD ?_;refine yC ?_;refine lf ?_;refine K.loop (fun k:Nat×Value=>[(3,k.2),(9,.slice sa q.l.length cap),(10,.int .i64 (q.l.length:Nat)),(11,.int .i64 (k.1:Nat))]) (fun k=>[Jh k.2 (((q.l.take k.1).filter fU).map (·.m))]) (fun k=>k.1<=q.l.length) (fun k=>q.l.length-k.1) (0,.slice none 0 0)
  (aR _) ⟨rfl,rfl,rfl,rfl,trivial⟩ (fun _ h=>cL h) ?_
 rintro⟨k,vo⟩ hk;dsimp only at hk ⊢;refine gZ ?_;refine K.bI rfl (fun h=>?_) (fun h=>?_)
 ·obtain⟨g,rfl⟩:=Jz ae;obtain⟨e,he⟩:∃e,q.l[k]? =some e:=⟨q.l[k],ao ae⟩;have hlen:(((q.l.take k).filter fU).map (·.m)).length<900000:=by
   have :=List.length_filter_le fU (q.l.take k);simp at this ⊢;omega
  have fN:((q.l.take (k+1)).filter fU).map (·.m)=((q.l.take k).filter fU).map (·.m)++(if fU e=true then[e.m]else[]):=by
   rw[bA he,dG];by_cases ha:fU e=true<;>simp[ha]
  refine pE ?_;refine Ws ?_;refine KO.alloc rfl zeroValue243 aL rfl ?_;intro b5;refine Rz ?_;refine Z0 ?_;by_cases h1:e.put<0
  ·refine XB ?_;refine Ey ?_;refine EO ?_;refine pF ?_;refine vz ?_;refine BP ?_;refine K.bI rfl (fun h2=>?_) (fun h2=>?_)
   ·rw[if_pos (by simp[fU,h1,h2])]at fN;refine Z7 ?_;refine Ko ?_
    (refine KO.Ur rfl rfl isAgg44 sizeOf44 bE Y9 aL rfl ?_)
    refine KO.iN (z:=(Value.agg #[.int .i64 0,.int .i64 0,.string ⟨#[]⟩,.string ⟨#[]⟩,.int .i64 0])) (sz:=5) (cV:=56) rfl rfl underlying49 bm aL aL ai ai rfl ?_;intro VR;refine KO.app (z:=Value.agg #[.int .i64 0,.int .i64 0,.string ⟨#[]⟩,.string ⟨#[]⟩,.int .i64 0]) (sz:=5) (cV:=56) rfl rfl rfl aX bE underlying49 H6 rfl e.m aL aL aL ae ai rfl ?_;intro v';refine rz ?_;refine KQ.round (k+1,v') ji ji ⟨rfl,rfl,rfl,rfl,trivial⟩ (fun _ h=>?_);dsimp only;rw[fN];exact(h.pick bE).OQ Cc
   ·rw[if_neg (by simp[fU,h2]),List.append_nil]at fN;refine rA ?_;refine KQ.round (k+1,vo) ji ji ⟨rfl,rfl,rfl,rfl,trivial⟩ (fun _ h=>?_);dsimp only;rw[fN];exact(h.pick aX).OQ Cc
  ·rw[if_neg (by simp[fU,h1]),List.append_nil]at fN;refine XB ?_;refine Ob ?_;refine G6 ?_;refine BB ?_;refine rA ?_;refine KQ.round (k+1,vo) ji ji ⟨rfl,rfl,rfl,rfl,trivial⟩ (fun _ h=>?_);dsimp only;rw[fN];exact(h.pick aX).OQ Cc
 ·have oX:k=q.l.length:=by omega
  refine yu ?_;refine fK ?_;refine KQ.a_ rfl rfl (fun w' hs=>⟨_,_,rfl,rfl,?_,hs.below⟩);rw[oX,List.take_length]at hs;exact yI.stack hs
theorem FT(w0:World)(L R:List HP)(b:Nat)(q:Qu)(hp:bC L (iU b q) R)(hq:q.l.length<900000):
 KE prog 67 #[.pointer (some ⟨b,0,none⟩)] w0 L (fun v L'=>L'=Jh v (cM q)::L):=by
 refine KE.mk (n:=25) func67 rfl ntmps67 aj ?_;intro w yI;obtain⟨v,hw⟩:=jq (yI.pick hp);obtain⟨sa,cap,rfl,Jz,hc⟩:=B2.of (E:=243) (sz:=8) (cf:=lZ) (fun _=>rfl) bC.head w hw.drop;refine Z2 ?_;refine BM ?_;refine RD ?_;refine yC ?_;refine lf ?_;refine K.loop (fun k:Nat×Value=>[(3,k.2),(9,.slice sa q.l.length cap),(10,.int .i64 (q.l.length:Nat)),(11,.int .i64 (k.1:Nat))]) (fun k=>[Jh k.2 (((q.l.take k.1).filter fun e=>decide (e.put<0)).map (·.m))]) (fun k=>k.1<=q.l.length) (fun k=>q.l.length-k.1) (0,.slice none 0 0)
  (aR _) ⟨rfl,rfl,rfl,rfl,trivial⟩ (fun _ h=>cL h) ?_
 rintro⟨k,vo⟩ hk;dsimp only at hk ⊢;refine gZ ?_;refine K.bI rfl (fun h=>?_) (fun h=>?_)
 ·obtain⟨g,rfl⟩:=Jz ae;obtain⟨e,he⟩:∃e,q.l[k]? =some e:=⟨q.l[k],ao ae⟩;have hlen:(((q.l.take k).filter fun e=>decide (e.put<0)).map (·.m)).length<900000:=by
   have :=List.length_filter_le (fun e:It=>decide (e.put<0)) (q.l.take k);simp at this ⊢;omega
  have fN:((q.l.take (k+1)).filter fun e=>decide (e.put<0)).map (·.m)=((q.l.take k).filter fun e=>decide (e.put<0)).map (·.m)++(if e.put<0 then[e.m]else[]):=by
   rw[bA he,dG];by_cases ha:e.put<0<;>simp[ha]
  refine pE ?_;refine Ws ?_;refine KO.alloc rfl zeroValue243 aL rfl ?_;intro b5;refine Rz ?_;refine Z0 ?_;refine XB ?_;refine Ob ?_;refine Z5 ?_;refine K.bI rfl (fun h2=>?_) (fun h2=>?_)
  ·rw[if_pos h2]at fN;refine Z7 ?_;refine Ko ?_
   (refine KO.Ur rfl rfl isAgg44 sizeOf44 bE Y9 aL rfl ?_)
   refine KO.iN (z:=(Value.agg #[.int .i64 0,.int .i64 0,.string ⟨#[]⟩,.string ⟨#[]⟩,.int .i64 0])) (sz:=5) (cV:=56) rfl rfl underlying49 bm aL aL ai ai rfl ?_;intro b21;refine KO.app (z:=Value.agg #[.int .i64 0,.int .i64 0,.string ⟨#[]⟩,.string ⟨#[]⟩,.int .i64 0]) (sz:=5) (cV:=56) rfl rfl rfl aX bE underlying49 H6 rfl e.m aL aL aL ae ai rfl ?_;intro v';refine rz ?_;refine KQ.round (k+1,v') ji ji ⟨rfl,rfl,rfl,rfl,trivial⟩ (fun _ h=>?_);dsimp only;rw[fN];exact(h.pick bE).OQ Cc
  ·rw[if_neg h2,List.append_nil]at fN;refine rA ?_;refine KQ.round (k+1,vo) ji ji ⟨rfl,rfl,rfl,rfl,trivial⟩ (fun _ h=>?_);dsimp only;rw[fN];exact(h.pick aX).OQ Cc
 ·have oX:k=q.l.length:=by omega
  refine yu ?_;refine fK ?_;refine KQ.a_ rfl rfl (fun w' hs=>⟨_,_,rfl,rfl,?_,hs.below⟩);rw[oX,List.take_length]at hs;exact yI.stack hs
theorem QQ(w0:World)(L R1 R2:List HP)(e:It)(b1 b2:Nat)(u:Int)(back:Bool)(E1 E2:TypeId)(mD:bC L (bD b1 (.cells [Value.int .i64 u].toArray E1 (0,0))) R1)(kJ:bC L (bD b2 (.cells [Value.bool back].toArray E2 (0,0))) R2):
 KE prog 159 #[.agg (lZ e).toArray,.pointer (some ⟨b1,0,none⟩),.pointer (some ⟨b2,0,none⟩)] w0 L (fun v L'=>v=.bool (oP u back e)/\L'=L):=by
 refine KE.mk (n:=22) func159 rfl ntmps159 aj ?_;intro w yI;have c1:w.cell? ⟨b1,0,none⟩=some (.int .i64 u):=by rw[World.cell?,(yI.lK mD).2];rfl
 have c2:w.cell? ⟨b2,0,none⟩=some (.bool back):=by rw[World.cell?,(yI.lK kJ).2];rfl
 refine Z2 ?_;refine KO.box rfl rfl aL rfl ?_;intro b3;refine jH ?_;by_cases h1:e.put=u
 all_goals cases back
 all_goals by_cases h2:e.j9=u
 ·refine N5 ?_;refine KO.on rfl rfl ET ?_;refine KO.pb rfl rfl isAgg4 c2 rfl ?_;refine qJ ?_;refine Hf ?_;refine EO ?_;refine G3 ?_;refine KO.on rfl rfl rfl ?_;refine KO.pb rfl rfl isAgg3 c1 rfl ?_;refine Et ?_;refine BG ?_;refine KO.on rfl rfl (by simp[h2]) ?_;refine KO.pb rfl rfl isAgg4 c2 rfl ?_;refine lV ?_;refine oY ?_;refine sG ?_;refine KO.r7 rfl ?_ rfl rfl ?_
  (focus(simp only[decide_eq_true_eq,decide_eq_false_iff_not,Bool.not_eq_true,Bool.not_true,Bool.not_false,ne_eq];omega))
  refine G1 ?_;refine KQ.a_ rfl rfl (fun w' hs=>⟨_,_,rfl,⟨?_,rfl⟩,yI.aA hs.below,hs.below⟩);simp[oP,h1,h2]
 ·refine N5 ?_;refine KO.on rfl rfl ET ?_;refine KO.pb rfl rfl isAgg4 c2 rfl ?_;refine qJ ?_;refine Hf ?_;refine EO ?_;refine G3 ?_;refine KO.on rfl rfl rfl ?_;refine KO.pb rfl rfl isAgg3 c1 rfl ?_;refine Et ?_;refine sG ?_;refine Hh ?_;refine sG ?_;refine KO.o7 rfl ?_ rfl rfl ?_
  (focus(simp only[decide_eq_true_eq,decide_eq_false_iff_not,Bool.not_eq_true,Bool.not_true,Bool.not_false,ne_eq];omega))
  refine G1 ?_;refine KQ.a_ rfl rfl (fun w' hs=>⟨_,_,rfl,⟨?_,rfl⟩,yI.aA hs.below,hs.below⟩);simp[oP,h1,h2]
 ·refine N5 ?_;refine KO.on rfl rfl ET ?_;refine KO.pb rfl rfl isAgg4 c2 rfl ?_;refine qJ ?_;refine lg ?_;refine Tl ?_;refine Ry ?_;refine y4 ?_;refine fK ?_;refine KQ.a_ rfl rfl (fun w' hs=>⟨_,_,rfl,⟨?_,rfl⟩,yI.aA hs.below,hs.below⟩);simp[oP,h1]
 ·refine N5 ?_;refine KO.on rfl rfl ET ?_;refine KO.pb rfl rfl isAgg4 c2 rfl ?_;refine qJ ?_;refine lg ?_;refine Tl ?_;refine Ry ?_;refine y4 ?_;refine fK ?_;refine KQ.a_ rfl rfl (fun w' hs=>⟨_,_,rfl,⟨?_,rfl⟩,yI.aA hs.below,hs.below⟩);simp[oP,h1]
 ·refine Rx ?_;refine vy ?_;refine Hf ?_;refine EO ?_;refine G3 ?_;refine KO.on rfl rfl rfl ?_;refine KO.pb rfl rfl isAgg3 c1 rfl ?_;refine Et ?_;refine BG ?_;refine KO.on rfl rfl (by simp[h2]) ?_;refine KO.pb rfl rfl isAgg4 c2 rfl ?_;refine lV ?_;refine oY ?_;refine sG ?_;refine KO.r7 rfl ?_ rfl rfl ?_
  (focus(simp only[decide_eq_true_eq,decide_eq_false_iff_not,Bool.not_eq_true,Bool.not_true,Bool.not_false,ne_eq];omega))
  refine G1 ?_;refine KQ.a_ rfl rfl (fun w' hs=>⟨_,_,rfl,⟨?_,rfl⟩,yI.aA hs.below,hs.below⟩);simp[oP,h1,h2]
 ·refine Rx ?_;refine vy ?_;refine Hf ?_;refine EO ?_;refine G3 ?_;refine KO.on rfl rfl rfl ?_;refine KO.pb rfl rfl isAgg3 c1 rfl ?_;refine Et ?_;refine sG ?_;refine Hh ?_;refine sG ?_;refine KO.o7 rfl ?_ rfl rfl ?_
  (focus(simp only[decide_eq_true_eq,decide_eq_false_iff_not,Bool.not_eq_true,Bool.not_true,Bool.not_false,ne_eq];omega))
  refine G1 ?_;refine KQ.a_ rfl rfl (fun w' hs=>⟨_,_,rfl,⟨?_,rfl⟩,yI.aA hs.below,hs.below⟩);simp[oP,h1,h2]
 ·refine Rx ?_;refine vy ?_;refine Hf ?_;refine EO ?_;refine G3 ?_;refine KO.on rfl rfl rfl ?_;refine KO.pb rfl rfl isAgg3 c1 rfl ?_;refine Et ?_;refine BG ?_;refine KO.on rfl rfl (by simp[h2]) ?_;refine KO.pb rfl rfl isAgg4 c2 rfl ?_;refine lV ?_;refine oY ?_;refine sG ?_;refine KO.r7 rfl ?_ rfl rfl ?_
  (focus(simp only[decide_eq_true_eq,decide_eq_false_iff_not,Bool.not_eq_true,Bool.not_true,Bool.not_false,ne_eq];omega))
  refine G1 ?_;refine KQ.a_ rfl rfl (fun w' hs=>⟨_,_,rfl,⟨?_,rfl⟩,yI.aA hs.below,hs.below⟩);simp[oP,h1,h2]
 ·refine Rx ?_;refine vy ?_;refine Hf ?_;refine EO ?_;refine G3 ?_;refine KO.on rfl rfl rfl ?_;refine KO.pb rfl rfl isAgg3 c1 rfl ?_;refine Et ?_;refine sG ?_;refine Hh ?_;refine sG ?_;refine KO.o7 rfl ?_ rfl rfl ?_
  (focus(simp only[decide_eq_true_eq,decide_eq_false_iff_not,Bool.not_eq_true,Bool.not_true,Bool.not_false,ne_eq];omega))
  refine G1 ?_;refine KQ.a_ rfl rfl (fun w' hs=>⟨_,_,rfl,⟨?_,rfl⟩,yI.aA hs.below,hs.below⟩);simp[oP,h1,h2]
def wB (u:Int) (l:List It) (k:Nat):List It:=(l.take k).map (oq u)++l.drop k
theorem K9{u:Int}{l:List It}{k:Nat}{e:It}(he:l[k]? =some e):(wB u l k)[k]? =some e:=by
 have hk:=(au.1 he).1;unfold wB;rw[bM fV];simp[show k-min k l.length=0 by omega,he]
theorem IJ{u:Int}{l:List It}{k:Nat}{e:It}(he:l[k]? =some e):(wB u l k).set k (oq u e)=wB u l (k+1):=by
 have hk:=(au.1 he).1;have hd:l.drop k=e::l.drop (k+1):=by rw[<-(au.1 he).2,List.getElem_cons_drop]
 unfold wB;rw[bA he,bu,hd,List.set_append_right _ _ fV];simp[show k-min k l.length=0 by omega]
theorem Fu{l:List It}{k:Nat}{e:It}(he:l[k]? =some e):l.set k e=l:=by
 obtain⟨hk,h⟩:=au.1 he;rw[<-h];exact List.set_getElem_self hk
theorem Ny(w0:World)(L:List HP)(b:Nat)(q:Qu)(u:Int)(back:Bool)(hq:q.l.length<900000):
 KC prog 64 #[.pointer (some ⟨b,0,none⟩),.int .i64 u,.bool back] w0 (iU b q::L) (fun v L'=>v=.tuple #[]/\L'=iU b (fp q u back)::L):=by
 refine KC.mk (n:=52) func64 rfl ntmps64 aj ?_;refine oQ ?_;refine K.cg (fun _ h=>jq h) fun v=>?_
 refine dC ?_;refine KO.box rfl rfl aL rfl ?_;intro b4;refine KO.box rfl rfl aL rfl ?_;intro b5;refine E9 ?_;refine E8 ?_;refine Eo ?_;refine K.bI rfl (fun h=>?_) (fun h=>?_)
 ·repeat(first|(with_reducible refine KQ.mQ ?_)|(with_reducible refine K.ret ?_))
  refine KQ.T7 rfl (fun w' hs=>⟨_,_,rfl,⟨rfl,rfl⟩,?_⟩);rw[show fp q u back=q by simp only[fp,h,if_true]];exact jR ((hs.gu aX aX).OP Cc)
 ·rw[show fp q u back=⟨(q.l.filter fun e=> !oP u back e).map (oq u),q.next⟩by simp only[fp,h,if_false]];have KK:(q.l.filter fun e=> !oP u back e).length<900000:=Nat.lt_of_le_of_lt (List.length_filter_le _ _) hq;refine Z6 ?_;refine iw ?_;refine BW ?_;refine Ep ?_;refine KO.cl rfl rfl rfl call158 rfl (KC.qR aX (VC w0 _ v q.l 159 [.pointer (some ⟨b4,0,none⟩),.pointer (some ⟨b5,0,none⟩)] (oP u back) ae call159 (fun e v ys _=>QQ w0 _ _ _ e b4 b5 u back _ _ aX aX))) ?_;rintro v' L' rfl;refine KO.fact (fun _ hs=>aN hs) ?_;rintro⟨a',c',rfl,rJ⟩;refine V0 ?_
  (refine KO.Pd rfl rfl rfl aL Y42 aL aX aL Y0 ?_)
  refine Z0 ?_;generalize q.l.filter (fun e=> !oP u back e)=l at *;refine Z7 ?_;refine RB ?_;refine yC ?_;refine lf ?_;refine K.loop (fun k:Nat=>[(0,.pointer (some ⟨b,0,none⟩)),(4,.pointer (some ⟨b4,0,none⟩)),(23,.int .i64 (l.length:Nat)),(24,.int .i64 (k:Nat))]) (fun k=>Ic (.slice a' l.length c') (wB u l k)::Yn b (.slice a' l.length c') q.next::bD b4 (.cells [Value.int .i64 u].toArray 3 (0,0))::L) (fun k=>k<=l.length) (fun k=>l.length-k) 0
   (aR _) ⟨rfl,rfl,rfl,rfl,trivial⟩ (fun _ h=>by rw[show wB u l 0=l by simp[wB]];exact(h.SB aX bE aX).gc3 Cc) ?_
  intro k hk;refine gZ ?_;refine K.bI rfl (fun h1=>?_) (fun h1=>?_)
  ·obtain⟨g,rfl⟩:=rJ ae;obtain⟨e,he⟩:∃e,l[k]? =some e:=⟨l[k],ao ae⟩;have YC:=K9 (u:=u) he;have fN:=IJ (u:=u) he;have Ii:oq u e={e with put:=if e.put=u then -1 else e.put,j9:=if e.j9=u then -1 else e.j9}:=rfl;generalize wB u l k=ys at *;have hyk:=(au.1 YC).1;refine G5 ?_;refine BW ?_;refine Z1 ?_;refine Tj ?_;refine jH ?_;refine Wn ?_;refine KO.fo (off:=6) rfl runUnderlying243 rfl rfl sizeOf3 rfl ?_;refine Wh ?_;refine sI ?_;refine K.bI rfl (fun h2=>?_) (fun h2=>?_)
   ·have adu:(ys.set k {e with put:= -1})[k]? =some {e with put:= -1}:=by rw[List.getElem?_set_self hyk]
    refine ED ?_;refine KO.fo (off:=6) rfl runUnderlying243 rfl rfl sizeOf3 rfl ?_;refine KO.XS rfl rfl rfl aL AB aL bE (fun _=>rfl) YC rfl {e with put:= -1} rfl ?_;refine Z0 ?_;refine Wn ?_;refine Og ?_;refine Wh ?_;refine sI ?_;refine K.bI rfl (fun h3=>?_) (fun h3=>?_)
    ·(skip)
     refine ED ?_;refine Og ?_;refine KO.XS rfl rfl rfl aL AB aL bE (fun _=>rfl) adu rfl {e with put:= -1,j9:= -1} rfl ?_;refine um ?_;refine KQ.round (k+1) ae ae ⟨rfl,rfl,rfl,rfl,trivial⟩ (fun _ hs=>?_);rw[<-fN,Ii,if_pos h2,if_pos h3];rw[List.set_set]at hs;exact hs
    ·refine rA ?_;refine KQ.round (k+1) ae ae ⟨rfl,rfl,rfl,rfl,trivial⟩ (fun _ hs=>?_);rw[<-fN,Ii,if_pos h2,if_neg h3];exact hs
   ·refine Z6 ?_;refine Wn ?_;refine Og ?_;refine Wh ?_;refine sI ?_;refine K.bI rfl (fun h3=>?_) (fun h3=>?_)
    ·(skip)
     refine ED ?_;refine Og ?_;refine KO.XS rfl rfl rfl aL AB aL bE (fun _=>rfl) YC rfl {e with j9:= -1} rfl ?_;refine um ?_;refine KQ.round (k+1) ae ae ⟨rfl,rfl,rfl,rfl,trivial⟩ (fun _ hs=>?_);rw[<-fN,Ii,if_neg h2,if_pos h3];exact hs
    ·refine rA ?_;refine KQ.round (k+1) ae ae ⟨rfl,rfl,rfl,rfl,trivial⟩ (fun _ hs=>?_);rw[<-fN,Ii,if_neg h2,if_neg h3,show({e with put:=e.put,j9:=e.j9}:It)=e from rfl,Fu YC];exact hs
  ·have oX:k=l.length:=by omega
   refine RR ?_;refine KQ.tU rfl (fun w' hs=>⟨_,_,rfl,⟨rfl,rfl⟩,?_⟩);rw[oX,show wB u l l.length=l.map (oq u)by simp[wB]]at hs;exact jR ((hs.gu aX bE).OP Cc)
theorem Ah(a b s:ak)(h:Int)(w:World):
 Calls prog 248 #[.agg #[.string a,.string b,.int .i64 h],.string s] w fun e w'=>e=.returned (.int .i64 (iu a s))/\Below w.heap.size w w':=by
 go_enter func248,ntmps248
 go_wp2_with (go_at_call 249;refine(Tryz.strings_Compare _ _ _).mono ?_;rintro e w' ⟨rfl,rfl⟩)
 go_ret
 exact⟨rfl,(Below.refl _ _).alloc (aC _) _⟩
def abA (l:List Nm) (s:ak) (w:World) (i j:Value) (wr:World):Prop:=
 ∃p q:Nat,p<=q/\q<=l.length/\i=.int .i64 p/\j=.int .i64 q/\(∀k,k<p->iu (dU l k).name s<0)/\(∀k,q<=k->k<l.length->0<=iu (dU l k).name s)/\Below w.heap.size w wr
def Hp (l:List Nm) (s:ak) (w:World) (e:Ending) (w':World):Prop:=
 ∃k:Nat,Hm l s k/\e=.returned (.tuple #[.int .i64 k,.bool (eW l s k)])/\Below w.heap.size w w'
theorem NS(g n cap:Nat)(l:List Nm)(s:ak)(w w0:World)(L:List HP)(h:St w0 (ie 75 3 (.slice (some ⟨g,0,none⟩) n cap) n (bY l)::L) w)(zY:n<1000000)(DC:B3 l s):
 Calls prog 247 #[.slice (some ⟨g,0,none⟩) n cap,.string s,.func (.func 248) #[] #[]] w (Hp l s w):=by
 have hn:n=l.length:=by have :=h.r8;rw[uC]at this;omega
 have HN:=Lib.hid hn;have HS:=Lib.hid h;clear hn h
 go_enter func247,ntmps247
 go_wp2_with fail
 go_loopw [9,10] (fun i j wr=>abA l s w i j wr) (fun i j _=>(intOf j-intOf i).toNat)
 case atStart=>exact⟨0,n,by omega,by rw[HN.out];exact aC _,rfl,rfl,fun k hk=>by omega,fun k h1 h2=>by rw[<-HN.out]at h2;omega,Below.refl _ _⟩
 case round=>
  obtain⟨p,q,OL,hq,rfl,rfl,h1,h2,JL⟩:=hrel;have SK:q<=n:=by rw[HN.out];exact hq
  have H1:=Lib.hid h1;have H2:=Lib.hid h2;have HB:=Lib.hid JL;clear h1 h2 JL hq;by_cases dI:p<q
  ·have hm:(p+q)/2<n:=by omega
   obtain⟨c0,c1,c2⟩:=lJ HS.out (i:=(p+q)/2) (by rw[<-HN.out];exact hm);have d0:=Below.cells HB.out c0;have d1:=Below.cells HB.out c1;have d2:=Below.cells HB.out c2;clear c0 c1 c2
   go_wp2_with fail
   refine(Ah _ _ _ _ _).mono ?_;rintro e w1 ⟨rfl,jV⟩;have B4:=Lib.hid jV;clear jV d0 d1 d2;by_cases hc:iu (dU l ((p+q)/2)).name s<0
   ·have hd:decide (iu (dU l ((p+q)/2)).name s<0)=true:=by simpa using hc
    go_wp2_with fail
    go_roundw
    case rel=>
     refine⟨(p+q)/2+1,q,by omega,by rw[<-HN.out];exact SK,by go_num,rfl,fun k hk=>?_,H2.out,HB.out.trans (B4.out.mono HB.out.size)⟩;exact DC k ((p+q)/2) ae (by rw[<-HN.out];exact hm) hc
    case measure=>simp[intOf];omega
   ·have hd:decide (iu (dU l ((p+q)/2)).name s<0)=false:=by simpa using hc
    go_wp2_with fail
    go_roundw
    case rel=>
     refine⟨p,(p+q)/2,by omega,by rw[<-HN.out];omega,rfl,by go_num,H1.out,fun k ON qB=>?_,HB.out.trans (B4.out.mono HB.out.size)⟩;exact Int.not_lt.1 fun hk=>absurd (DC _ k ON qB hk) (Int.not_lt.2 hc)
    case measure=>simp[intOf];omega
  ·obtain rfl:p=q:=by omega
   by_cases Bc:p<n
   ·obtain⟨c0,c1,c2⟩:=lJ HS.out (i:=p) (by rw[<-HN.out];exact Bc);have d0:=Below.cells HB.out c0;have d1:=Below.cells HB.out c1;have d2:=Below.cells HB.out c2;clear c0 c1 c2
    go_wp2_with fail
    refine(Ah _ _ _ _ _).mono ?_;rintro e w1 ⟨rfl,jV⟩;have B4:=Lib.hid jV;clear jV d0 d1 d2
    go_wp2_with fail
    go_ret2
    exact⟨p,⟨by rw[<-HN.out];omega,H1.out,H2.out⟩,by simp[eW,<-HN.out,Bc],HB.out.trans (B4.out.mono HB.out.size)⟩
   ·go_wp2_with fail
    go_ret2
    exact⟨p,⟨by rw[<-HN.out];omega,H1.out,H2.out⟩,by simp[eW,<-HN.out,Bc],HB.out⟩
theorem Rg(s:ak)(w:World):
 Calls prog 247 #[.slice none 0 0,.string s,.func (.func 248) #[] #[]] w (Hp [] s w):=by
 go_enter func247,ntmps247
 go_wp2_with fail
 refine wp_loop_rounds 1 ?_;rw[rounds_succ]
 go_wp2_with fail
 go_ret2
 exact⟨0,⟨by simp,fun p hp=>by omega,fun p _ hp=>by simp at hp⟩,by simp[eW],Below.refl _ _⟩
theorem nr(b off:Nat)(c:Array Value)(T:TypeId)(fz:Nat×Nat)(v:Value)(l:List Nm)(s:ak)(w w0:World)(L:List HP)(h:St w0 (bD b (.cells c T fz)::ie 75 3 v l.length (bY l)::L) w)(hc:c[off]? =some v)(zY:l.length<1000000)(DC:B3 l s):
 Calls prog 148 #[.pointer (some ⟨b,off,none⟩),.string s] w (Hp l s w):=by
 have iD:w.cell? ⟨b,off,none⟩=some v:=by rw[World.cell?,h.look.2];exact hc
 have HS:=Lib.hid h;clear h hc;rcases HS.out.drop.cr with⟨rfl,hz,hx,_⟩|⟨g,cap,cur,rfl,_⟩
 ·obtain rfl:l=[]:=List.eq_nil_of_length_eq_zero hz;clear hz hx
  go_enter func148,ntmps148
  go_wp2_with (go_at_call 247;refine(Rg _ _).mono ?_;rintro e w' ⟨k,hk,rfl,hb⟩)
  go_ret2
  exact⟨k,hk,rfl,hb⟩
 ·have kG:=NS g l.length cap l s w w0 L HS.out.drop zY DC;have HC:=Lib.hid kG;clear kG DC;generalize l.length=n at *
  go_enter func148,ntmps148
  go_wp2_with fail
  refine HC.out.mono ?_;rintro e w' ⟨k,hk,rfl,hb⟩
  go_wp2_with fail
  go_ret2
  exact⟨k,hk,rfl,hb⟩
theorem Lt(s:ak)(w:World)(hs:s.size<=9223372036854775807):
 Calls prog 239 #[.string s,.string pw] w fun e w'=>e=.returned (.string ⟨(Lib.trimS s.data.toList pw.data.toList).toArray⟩)/\Below w.heap.size w w':=
 Any.strings_Trim_laid Tryz.lays160 bm s pw w hs ai (ascii_of_all ai)
theorem uD(s:ak)(u6:Nat)(w:World)(hs:s.size<=maxLen)(_hm:u6<100):
 Calls prog 143 #[.string s,.int .i64 u6] w fun e w'=>e=.returned (.bool (dh s u6))/\Below w.heap.size w w':=by
 have aY:s.size<=9223372036854775807:=by unfold maxLen at hs;exact hs
 clear hs;have ht:=Lt s w aY;have HT:=Lib.hid ht;have HN:=Lib.hid (IU s);clear ht;by_cases h1:1<=s.size
 ·by_cases h2:s.size<=u6
  ·have hd1:decide ((1:Int)<=(s.size:Int))=true:=by simp;omega
   have U9:decide ((s.size:Int)<=(u6:Int))=true:=by simp;omega
   by_cases h3:gT s=true
   ·have iW:dh s u6=true:=by simp[dh,h1,h2,h3]
    have HF:=Lib.hid iW;have HE:=Lib.hid (HN.out.2 h3);clear iW h3
    go_enter func143,ntmps143
    go_wp2_with fail
    refine HT.out.mono ?_;rintro e w' ⟨rfl,hb⟩;rw[HE.out]
    go_wp2_with fail
    go_ret
    exact⟨fA HF.out.symm,hb⟩
   ·have iW:dh s u6=false:=by simp[dh,h3]
    have HF:=Lib.hid iW;have kF:Lib.trimS s.data.toList pw.data.toList≠[]:=fun h=>h3 (HN.out.1 h)
    obtain⟨x,xs,hx⟩:=List.exists_cons_of_ne_nil kF;have HE:=Lib.hid hx;clear iW h3 kF hx
    go_enter func143,ntmps143
    go_wp2_with fail
    refine HT.out.mono ?_;rintro e w' ⟨rfl,hb⟩;rw[HE.out]
    go_wp2_with fail
    go_ret
    exact⟨fA HF.out.symm,hb⟩
  ·have hd1:decide ((1:Int)<=(s.size:Int))=true:=by simp;omega
   have U9:decide ((s.size:Int)<=(u6:Int))=false:=by simp;omega
   have iW:dh s u6=false:=by simp[dh,h2]
   have HF:=Lib.hid iW;clear iW
   go_enter func143,ntmps143
   go_wp2_with fail
   go_ret
   exact⟨fA HF.out.symm,Below.refl _ _⟩
 ·have hd1:decide ((1:Int)<=(s.size:Int))=false:=by simp;omega
  have iW:dh s u6=false:=by simp[dh,h1]
  have HF:=Lib.hid iW;clear iW
  go_enter func143,ntmps143
  go_wp2_with fail
  go_ret
  exact⟨fA HF.out.symm,Below.refl _ _⟩
theorem AF(s:ak)(b:Bool)(w:World)(hs:s.size<=maxLen)(hb:cS s=b):
 Calls prog 240 #[.string s] w fun e w'=>e=.returned (.bool b)/\Below w.heap.size w w':=by
 subst hb;have H:=Lib.hid (uD s 8 w hs ae)
 go_enter func240,ntmps240
 go_wp2_with fail
 refine H.out.mono ?_;rintro e w' ⟨rfl,hb⟩
 go_wp2_with fail
 go_ret
 exact⟨rfl,hb⟩
theorem Rj(s:ak)(b:Bool)(w:World)(hs:s.size<=maxLen)(hb:jN s=b):
 Calls prog 54 #[.string s] w fun e w'=>e=.returned (.bool b)/\Below w.heap.size w w':=by
 subst hb;have H:=Lib.hid (uD s 12 w hs ae)
 go_enter func54,ntmps54
 go_wp2_with fail
 refine H.out.mono ?_;rintro e w' ⟨rfl,hb⟩
 go_wp2_with fail
 go_ret
 exact⟨rfl,hb⟩
theorem I5(x:Nm)(w:World)(h1:x.name.size<=maxLen)(h2:x.iQ.size<=maxLen):
 Calls prog 267 #[.agg x.cells.toArray] w fun e w'=>e=.returned (.bool (bW x))/\Below w.heap.size w w':=by
 obtain⟨a,b,n⟩:=x;simp only at h1 h2
 show Calls prog 267 #[.agg #[.string a,.string b,.int .i64 n]] w _
 have W1:∀(v:Bool) (w:World),cS a=v->Calls prog 240 #[.string a] w fun e w'=>e=.returned (.bool v)/\Below w.heap.size w w':=fun v w hv=>AF a v w h1 hv
 have W2:∀(v:Bool) (w:World),cS b=v->Calls prog 240 #[.string b] w fun e w'=>e=.returned (.bool v)/\Below w.heap.size w w':=fun v w hv=>AF b v w h2 hv
 have H1:=Lib.hid W1;have H2:=Lib.hid W2;clear W1 W2 h1 h2;have Bg:Below w.heap.size w (w.alloc (.cells #[.string a,.string b,.int .i64 n] 75)):=(Below.refl _ _).alloc (aC _) _;have XH:=Lib.hid Bg;clear Bg;cases hA:cS a with
 |false=>
  have HF:=Lib.hid (show bW ⟨a,b,n⟩=false by simp[bW,hA]);have HA:=Lib.hid hA;clear hA
  go_enter func267,ntmps267
  go_wp2_with fail
  refine(H1.out _ _ HA.out).mono ?_;rintro e w1 ⟨rfl,jV⟩;have B4:=Lib.hid (XH.out.trans (jV.mono aj));clear jV
  go_wp2_with fail
  go_ret
  exact⟨fA HF.out.symm,B4.out⟩
 |true=>
  have HA:=Lib.hid hA;by_cases Dy:n< -1
  ·have HF:=Lib.hid (show bW ⟨a,b,n⟩=false by simp[bW];omega);have hd:decide (n< -1)=true:=by simpa using Dy
   clear hA Dy
   go_enter func267,ntmps267
   go_wp2_with fail
   refine(H1.out _ _ HA.out).mono ?_;rintro e w1 ⟨rfl,jV⟩;have B4:=Lib.hid (XH.out.trans (jV.mono aj));obtain⟨c0,c1,c2⟩:w1.cell? ⟨w.heap.size,0,none⟩=some (.string a)/\w1.cell? ⟨w.heap.size,1,none⟩=some (.string b)/\w1.cell? ⟨w.heap.size,2,none⟩=some (.int .i64 n):=
    ⟨Below.cells jV aj,Below.cells jV aj,Below.cells jV aj⟩
   clear jV
   go_wp2_with fail
   go_ret
   exact⟨fA HF.out.symm,B4.out⟩
  ·by_cases zY:n>=4
   ·have HF:=Lib.hid (show bW ⟨a,b,n⟩=false by simp[bW];omega);have hd:decide (n< -1)=false:=by simpa using Dy
    have U9:decide ((4:Int)<=n)=true:=by simpa using zY
    clear hA Dy zY
    go_enter func267,ntmps267
    go_wp2_with fail
    refine(H1.out _ _ HA.out).mono ?_;rintro e w1 ⟨rfl,jV⟩;have B4:=Lib.hid (XH.out.trans (jV.mono aj));obtain⟨c0,c1,c2⟩:w1.cell? ⟨w.heap.size,0,none⟩=some (.string a)/\w1.cell? ⟨w.heap.size,1,none⟩=some (.string b)/\w1.cell? ⟨w.heap.size,2,none⟩=some (.int .i64 n):=
     ⟨Below.cells jV aj,Below.cells jV aj,Below.cells jV aj⟩
    clear jV
    go_wp2_with fail
    go_ret
    exact⟨fA HF.out.symm,B4.out⟩
   ·have hd:decide (n< -1)=false:=by simpa using Dy
    have U9:decide ((4:Int)<=n)=false:=by simpa using zY
    cases hB:cS b with
    |true=>
     have HF:=Lib.hid (show bW ⟨a,b,n⟩=true by simp[bW,hA,hB];omega);have HB:=Lib.hid hB;clear hA Dy zY hB
     go_enter func267,ntmps267
     go_wp2_with fail
     refine(H1.out _ _ HA.out).mono ?_;rintro e w1 ⟨rfl,jV⟩;have B4:=Lib.hid (XH.out.trans (jV.mono aj));obtain⟨c0,c1,c2⟩:w1.cell? ⟨w.heap.size,0,none⟩=some (.string a)/\w1.cell? ⟨w.heap.size,1,none⟩=some (.string b)/\w1.cell? ⟨w.heap.size,2,none⟩=some (.int .i64 n):=
      ⟨Below.cells jV aj,Below.cells jV aj,Below.cells jV aj⟩
     clear jV
     go_wp2_with fail
     refine(H2.out _ _ HB.out).mono ?_;rintro e w2 ⟨rfl,jy⟩;have yQ:=Lib.hid (B4.out.trans (jy.mono B4.out.size));clear jy
     go_wp2_with fail
     go_ret
     exact⟨fA HF.out.symm,yQ.out⟩
    |false=>
     have HB:=Lib.hid hB;cases hE:ik b with
     |false=>
      have HF:=Lib.hid (show bW ⟨a,b,n⟩=false by simp[bW,hB,hE]);have OO:b.toList.isEmpty=false:=hE;have iM:(b.toList==[])=false:=by simpa[ik]using hE
      clear hA Dy zY hB hE
      go_enter func267,ntmps267
      go_wp2_with fail
      refine(H1.out _ _ HA.out).mono ?_;rintro e w1 ⟨rfl,jV⟩;have B4:=Lib.hid (XH.out.trans (jV.mono aj));obtain⟨c0,c1,c2⟩:w1.cell? ⟨w.heap.size,0,none⟩=some (.string a)/\w1.cell? ⟨w.heap.size,1,none⟩=some (.string b)/\w1.cell? ⟨w.heap.size,2,none⟩=some (.int .i64 n):=
       ⟨Below.cells jV aj,Below.cells jV aj,Below.cells jV aj⟩
      clear jV
      go_wp2_with fail
      refine(H2.out _ _ HB.out).mono ?_;rintro e w2 ⟨rfl,jy⟩;have yQ:=Lib.hid (B4.out.trans (jy.mono B4.out.size));have d0:=Below.cells jy c0;have d1:=Below.cells jy c1;have d2:=Below.cells jy c2;clear jy c0 c1 c2
      go_wp2_with fail
      go_ret
      exact⟨fA HF.out.symm,yQ.out⟩
     |true=>
      have p1:decide (-1<=n)=true:=by simp;omega
      have p2:decide (n<=3)=true:=by simp;omega
      have HF:=Lib.hid (show bW ⟨a,b,n⟩=(n== -1)by simp only[bW,hA,hB,hE,p1,p2,Bool.true_and,Bool.false_or]);clear p1 p2;have OO:b.toList.isEmpty=true:=hE;have iM:b.toList=[]:=by simpa[ik]using hE
      clear hA Dy zY hB hE
      go_enter func267,ntmps267
      go_wp2_with fail
      refine(H1.out _ _ HA.out).mono ?_;rintro e w1 ⟨rfl,jV⟩;have B4:=Lib.hid (XH.out.trans (jV.mono aj));obtain⟨c0,c1,c2⟩:w1.cell? ⟨w.heap.size,0,none⟩=some (.string a)/\w1.cell? ⟨w.heap.size,1,none⟩=some (.string b)/\w1.cell? ⟨w.heap.size,2,none⟩=some (.int .i64 n):=
       ⟨Below.cells jV aj,Below.cells jV aj,Below.cells jV aj⟩
      clear jV
      go_wp2_with fail
      refine(H2.out _ _ HB.out).mono ?_;rintro e w2 ⟨rfl,jy⟩;have yQ:=Lib.hid (B4.out.trans (jy.mono B4.out.size));have d0:=Below.cells jy c0;have d1:=Below.cells jy c1;have d2:=Below.cells jy c2;clear jy c0 c1 c2
      go_wp2_with fail
      go_ret
      exact⟨fA HF.out.symm,yQ.out⟩
theorem yj(w0:World)(L:List HP)(s:ak)(hs:s.size<=maxLen):KE prog 54 #[.string s] w0 L (fun u L'=>u=.bool (jN s)/\L'=L):=KE.bB fun w _=>Rj s _ w hs rfl
theorem Fe(w0:World)(L:List HP)(s:ak)(hs:s.size<=maxLen):KE prog 240 #[.string s] w0 L (fun u L'=>u=.bool (cS s)/\L'=L):=KE.bB fun w _=>AF s _ w hs rfl
theorem HD(w0:World)(L:List HP)(m:Ms)(hb:m.body.size<=maxLen)(hq:m.queue.size<=maxLen):
 KE prog 145 #[.agg (dN m).toArray] w0 L (fun v L'=>v=.bool (bG m)/\L'=L):=by
 refine KE.mk (n:=41) func145 rfl ntmps145 aj ?_;intro w hw;refine Z2 ?_;refine KO.box rfl rfl aL rfl ?_;intro b1;refine jH ?_;have qC:¬0<=m.id\/(0<=m.id/\¬m.id<=1099511627776)\/(0<=m.id/\m.id<=1099511627776/\¬0<=m.pri)\/(0<=m.id/\m.id<=1099511627776/\0<=m.pri/\¬m.pri<=9)\/(0<=m.id/\m.id<=1099511627776/\0<=m.pri/\m.pri<=9/\jN m.body=false)\/
  (0<=m.id/\m.id<=1099511627776/\0<=m.pri/\m.pri<=9/\jN m.body=true/\cS m.queue=false)\/(0<=m.id/\m.id<=1099511627776/\0<=m.pri/\m.pri<=9/\jN m.body=true/\cS m.queue=true/\¬0<=m.b9)\/
  (0<=m.id/\m.id<=1099511627776/\0<=m.pri/\m.pri<=9/\jN m.body=true/\cS m.queue=true/\0<=m.b9):=by
  cases jN m.body<;>cases cS m.queue<;>simp <;>omega
 have fin:∀(b:Bool) (w':World) (M:List HP),b=bG m->St w M w'->∃v L',Ending.returned (.bool b)=Ending.returned v/\(v=.bool (bG m)/\L'=L)/\St w0 L' w'/\Below w.heap.size w w':=fun b w' M e hs=>⟨_,_,rfl,⟨by rw[e],rfl⟩,hw.aA hs.below,hs.below⟩
 rcases qC with h1|⟨h1,h2⟩|⟨h1,h2,h3⟩|⟨h1,h2,h3,h4⟩|⟨h1,h2,h3,h4,h5⟩|⟨h1,h2,h3,h4,h5,h6⟩|⟨h1,h2,h3,h4,h5,h6,h7⟩|⟨h1,h2,h3,h4,h5,h6,h7⟩
 ·refine aaU ?_;refine G6 ?_;refine sJ ?_;refine sJ ?_;refine lg ?_
  (refine KO.no rfl rfl ?_ rfl ?_;(rfl))
  refine qj ?_;refine lg ?_
  (refine KO.no rfl rfl ?_ rfl ?_;(rfl))
  refine qj ?_;refine sJ ?_;refine sJ ?_;refine fK ?_;exact KQ.a_ rfl rfl (fun w' hs=>fin _ w' _ Tp hs)
 ·refine Hb ?_;refine qJ ?_;refine G6 ?_;refine sJ ?_;refine lg ?_
  (refine KO.no rfl rfl ?_ rfl ?_;(rfl))
  refine qj ?_;refine lg ?_
  (refine KO.no rfl rfl ?_ rfl ?_;(rfl))
  refine qj ?_;refine sJ ?_;refine sJ ?_;refine fK ?_;exact KQ.a_ rfl rfl (fun w' hs=>fin _ w' _ Tp hs)
 ·refine Hb ?_;refine yz ?_;refine pF ?_;refine uh ?_;refine qJ ?_;refine G6 ?_;refine lg ?_
  (refine KO.no rfl rfl ?_ rfl ?_;(rfl))
  refine qj ?_;refine lg ?_
  (refine KO.no rfl rfl ?_ rfl ?_;(rfl))
  refine qj ?_;refine sJ ?_;refine sJ ?_;refine fK ?_;exact KQ.a_ rfl rfl (fun w' hs=>fin _ w' _ Tp hs)
 ·refine Hb ?_;refine yz ?_;refine pF ?_;refine uh ?_;refine yz ?_;refine Kp ?_;refine qJ ?_;refine Hh ?_
  (refine KO.no rfl rfl ?_ rfl ?_;((simp;omega)))
  refine vy ?_;refine lg ?_
  (refine KO.no rfl rfl ?_ rfl ?_;(rfl))
  refine qj ?_;refine sJ ?_;refine sJ ?_;refine fK ?_;exact KQ.a_ rfl rfl (fun w' hs=>fin _ w' _ Tp hs)
 ·refine Hb ?_;refine yz ?_;refine pF ?_;refine uh ?_;refine yz ?_;refine Kp ?_;refine Oc ?_;refine Oe ?_;refine lV ?_;refine qn ?_
  (refine KO.on rfl rfl ?_ ?_;(simp;omega);refine KO.ce (cp:=[]) rfl rfl rfl call54 rfl (yj w _ _ hb) ?_;rintro v L' ⟨rfl,rfl⟩)
  refine qJ ?_;refine Z1 ?_;refine EL ?_
  (refine KO.no rfl rfl ?_ rfl ?_;(assumption))
  refine KO.o7 rfl uT rfl rfl ?_;refine sJ ?_;refine sJ ?_;refine fK ?_;exact KQ.a_ rfl rfl (fun w' hs=>fin _ w' _ Tp hs)
 ·refine Hb ?_;refine yz ?_;refine pF ?_;refine uh ?_;refine yz ?_;refine Kp ?_;refine Oc ?_;refine Oe ?_;refine lV ?_;refine qn ?_
  (refine KO.on rfl rfl ?_ ?_;(simp;omega);refine KO.ce (cp:=[]) rfl rfl rfl call54 rfl (yj w _ _ hb) ?_;rintro v L' ⟨rfl,rfl⟩)
  refine qJ ?_;refine GZ ?_;refine Rq ?_;refine sK ?_;refine qn ?_
  (refine KO.on rfl rfl ?_ ?_;(assumption);refine KO.ce (cp:=[]) rfl rfl rfl call240 rfl (Fe w _ _ hq) ?_;rintro v L' ⟨rfl,rfl⟩)
  refine Ki ?_;refine Z1 ?_;refine EL ?_;refine KO.no rfl rfl uT rfl ?_;refine KO.o7 rfl uT rfl rfl ?_;refine sJ ?_;refine fK ?_;exact KQ.a_ rfl rfl (fun w' hs=>fin _ w' _ Tp hs)
 ·refine Hb ?_;refine yz ?_;refine pF ?_;refine uh ?_;refine yz ?_;refine Kp ?_;refine Oc ?_;refine Oe ?_;refine lV ?_;refine qn ?_
  (refine KO.on rfl rfl ?_ ?_;(simp;omega);refine KO.ce (cp:=[]) rfl rfl rfl call54 rfl (yj w _ _ hb) ?_;rintro v L' ⟨rfl,rfl⟩)
  refine qJ ?_;refine GZ ?_;refine Rq ?_;refine sK ?_;refine qn ?_
  (refine KO.on rfl rfl ?_ ?_;(assumption);refine KO.ce (cp:=[]) rfl rfl rfl call240 rfl (Fe w _ _ hq) ?_;rintro v L' ⟨rfl,rfl⟩)
  refine Ki ?_;refine GZ ?_;refine ER ?_;refine sK ?_;refine vG ?_;refine sK ?_;refine uh ?_;refine Ki ?_;refine G6 ?_;refine fK ?_;exact KQ.a_ rfl rfl (fun w' hs=>fin _ w' _ Tp hs)
 ·refine Hb ?_;refine yz ?_;refine pF ?_;refine uh ?_;refine yz ?_;refine Kp ?_;refine Oc ?_;refine Oe ?_;refine lV ?_;refine qn ?_
  (refine KO.on rfl rfl ?_ ?_;(simp;omega);refine KO.ce (cp:=[]) rfl rfl rfl call54 rfl (yj w _ _ hb) ?_;rintro v L' ⟨rfl,rfl⟩)
  refine qJ ?_;refine GZ ?_;refine Rq ?_;refine sK ?_;refine qn ?_
  (refine KO.on rfl rfl ?_ ?_;(assumption);refine KO.ce (cp:=[]) rfl rfl rfl call240 rfl (Fe w _ _ hq) ?_;rintro v L' ⟨rfl,rfl⟩)
  refine Ki ?_;refine GZ ?_;refine ER ?_;refine sK ?_;refine vG ?_;refine sK ?_;refine uh ?_;refine Ki ?_;refine Ek ?_;refine ER ?_;refine pF ?_;refine vz ?_;refine qJ ?_;refine fK ?_;exact KQ.a_ rfl rfl (fun w' hs=>fin _ w' _ Tp hs)
theorem Yo(w0:World)(L:List HP)(b:Nat)(q:Qu)(m:Ms)(u:Int)(hq:WO q)(hb:m.body.size<=maxLen)(hs:m.queue.size<=maxLen):
 KC prog 56 #[.pointer (some ⟨b,0,none⟩),.agg (dN m).toArray,.int .i64 u] w0 (iU b q::L) (fun v L'=>v=cz 70 (jr q m)/\L'=iU b (nY q m u)::L):=by
 have hl:=hq.len;refine KC.mk (n:=30) func56 rfl ntmps56 aj ?_;refine Z2 ?_;refine KO.box rfl rfl aL rfl ?_;intro b4;refine Z8 ?_;refine OS ?_;refine dC ?_;refine EK ?_;refine KO.ce (cp:=[]) rfl rfl rfl call145 rfl (HD w0 _ m hb hs) ?_;rintro v L' ⟨rfl,rfl⟩;refine oY ?_;refine iH ?_;refine K.cond rfl (fun h=>?_) (fun h=>?_)
 ·have hr:bG m=false:=by simpa using h
  refine vA ?_;refine KQ.a_ rfl rfl (fun w' hs=>⟨_,_,rfl,⟨by simp only[jr,hr,if_true];rfl,rfl⟩,?_⟩);rw[show nY q m u=q by simp[nY,jr,hr]];exact(hs.pick aX).OQ Cc
 ·have hr:bG m=true:=by simpa using h
  have hp:=bP hr;refine gU ?_;refine Kl ?_;refine KO.ce (cp:=[]) rfl rfl rfl call146 rfl (S0 w0 _ _ b q m.id aX ae) ?_;rintro v L' ⟨rfl,rfl⟩;refine iH ?_;refine K.cond rfl (fun h1=>?_) (fun h1=>?_)
  ·refine vA ?_;refine KQ.a_ rfl rfl (fun w' hs=>⟨_,_,rfl,⟨by simp only[jr,hr,h1,if_true,Bool.true_eq_false,if_false];rfl,rfl⟩,?_⟩);rw[show nY q m u=q by simp[nY,jr,hr,h1]];exact(hs.pick aX).OQ Cc
  ·refine K.pk (A:=iU b q) aX ?_;refine K.cg (fun _ h=>jq h) fun v=>?_
   refine K.fact (fun _ h=>aN h.drop) ?_;rintro⟨sa,cap,rfl,Jz⟩;refine gU ?_;refine RB ?_;refine yC ?_;refine uh ?_;refine iH ?_;refine K.bI rfl (fun h2=>?_) (fun h2=>?_)
   ·have h3:20<=q.l.length:=by omega
    refine vA ?_;refine KQ.a_ rfl rfl (fun w' hs=>⟨_,_,rfl,⟨by simp only[jr,hr,h1,h3,if_true,Bool.true_eq_false,Bool.false_eq_true,if_false];rfl,rfl⟩,?_⟩);rw[show nY q m u=q by simp[nY,jr,hr,h1,h3]];exact jR ((hs.gu bE bE).OP Cc)
   ·have h3:¬20<=q.l.length:=by omega
    refine K.conv (fun _ h=>jR h) ?_
    refine VY ?_;refine Z7 ?_;refine BV ?_;refine Z1 ?_;refine KO.cl (cp:=[]) rfl rfl rfl call147 rfl (KC.qR bE (AU w0 _ b q m u hq (by unfold small;omega))) ?_;rintro v L' ⟨rfl,rfl⟩;refine jf ?_;refine KQ.a_ rfl rfl (fun w' hs=>⟨_,_,rfl,⟨by simp only[jr,hr,h1,h3,Bool.true_eq_false,Bool.false_eq_true,if_false];rfl,rfl⟩,?_⟩);rw[show nY q m u=dS q m u by simp[nY,jr,hr,h1,h3]];exact hs.OQ Cc
open Go Go.RowKit Go.Extern.Stop Go.Stop Go.Extern WB
theorem Ln(t:Addr)(w:World):(ReflectliteValue.unpack (.iface 410 (.pointer (some t)))).run prog w
 =.ok (.agg #[.pointer (some ⟨10,410,none⟩),.pointer (some ⟨w.heap.size,0,none⟩),.int .u64 150]) (w.alloc (.cells #[.pointer (some t)] 410)):=by kernel_rfl
theorem XL(a:Addr)(w:World):(ReflectliteValue.methodAny (ReflectliteValue.valueError "reflectlite.Value.Type" 0) (fun t _ _ _=>ReflectliteType.toType t) #[.agg #[.pointer (some ⟨10,410,none⟩),.pointer (some a),.int .u64 150]]).run prog w
 =.ok (.iface 367 (.agg #[.pointer (some ⟨10,410,none⟩)])) w:=by kernel_rfl
theorem FM(h:Value)(w:World):(Go.method (592) 367 (.agg #[h]) "Kind").run prog w=.ok (428,h) w:=by kernel_rfl
theorem Yz(w:World):((ReflectliteType.abiMethod fun t=>Functor.map (fun a : Nat => Value.int IntKind.u8 (a:Int)) (Rtype.kind t)) #[.pointer (some ⟨10,410,none⟩)]).run prog w=.ok (.int .u8 22) w:=by kernel_rfl
theorem YA(w:World):((ReflectliteType.abiMethod fun t=>Functor.map (fun a : Nat => Value.int IntKind.u8 (a:Int)) (Rtype.kind t)) #[.pointer (some ⟨10,70,none⟩)]).run prog w=.ok (.int .u8 2) w:=by kernel_rfl
theorem rlm(z:Sem Value)(f:TypeId->Addr->Nat->Nat->Sem Value)(v:Value):
 ReflectliteValue.method z f #[v]=(do match <-ReflectliteValue.parts v with|none=>z|some (t,a,fl)=>f t a fl (fl%32)):=rfl
theorem Mc(a:Addr)(w:World):(ReflectliteValue.parts (.agg #[.pointer (some ⟨10,410,none⟩),.pointer (some a),.int .u64 150])).run prog w=.ok (some (410,a,150)) w:=by kernel_rfl
theorem Uu(a p:Addr)(W:World)(ha:W.cell? a=some (.pointer (some p))):
 (ReflectliteValue.method (ReflectliteValue.valueError "reflectlite.Value.IsNil" 0) ReflectliteValue.isNil #[.agg #[.pointer (some ⟨10,410,none⟩),.pointer (some a),.int .u64 150]]).run prog W=.ok (.bool false) W:=by
 rw[rlm];simp only[Sem.run_bind,Mc,Result.andThen];simp[ReflectliteValue.isNil,loadVar,isAgg,underlying,underlying410,ha,Result.andThen]
theorem FN(h:Value)(w:World):(Go.method (592) 367 (.agg #[h]) "Elem").run prog w=.ok (438,.agg #[h]) w:=by kernel_rfl
theorem tj(h:Value)(w:World):(Go.method (592) 367 (.agg #[h]) "Implements").run prog w=.ok (439,.agg #[h]) w:=by kernel_rfl
theorem q7(h:Value)(w:World):(Go.method (592) 367 (.agg #[h]) "AssignableTo").run prog w=.ok (437,.agg #[h]) w:=by kernel_rfl
theorem aai(w:World):(ReflectliteType.method ReflectliteType.elem #[.agg #[.pointer (some ⟨10,410,none⟩)]]).run prog w=.ok (.iface 367 (.agg #[.pointer (some ⟨10,70,none⟩)])) w:=by kernel_rfl
theorem Dh(w:World):(ReflectliteType.relation "Implements" ReflectliteType.implements_ #[.agg #[.pointer (some ⟨10,70,none⟩)],.iface 367 (.agg #[.pointer (some ⟨10,31,none⟩)])]).run prog w=.ok (.bool true) w:=by kernel_rfl
theorem O8(v:Value)(w:World):(ReflectliteType.typeOf #[.iface 70 v]).run prog w=.ok (.iface 367 (.agg #[.pointer (some ⟨10,70,none⟩)])) w:=by kernel_rfl
theorem Ef(w:World):(ReflectliteType.relation "AssignableTo" ReflectliteType.assignableTo #[.agg #[.pointer (some ⟨10,70,none⟩)],.iface 367 (.agg #[.pointer (some ⟨10,70,none⟩)])]).run prog w=.ok (.bool true) w:=by kernel_rfl
theorem Lp(k:Int)(w:World):(ReflectliteValue.unpack (.iface 70 (.int .i64 k))).run prog w
 =.ok (.agg #[.pointer (some ⟨10,70,none⟩),.pointer (some ⟨w.heap.size,0,none⟩),.int .u64 130]) (w.alloc (.cells #[.int .i64 k] 70)):=by kernel_rfl
theorem QR(w:World):(Rtype.elem? 410).run prog w=.ok (some 70) w:=by kernel_rfl
theorem mkE(p:Addr)(w:World):(ReflectliteValue.mk 70 p ReflectliteValue.flagAddr).run prog w=.ok (.agg #[.pointer (some ⟨10,70,none⟩),.pointer (some p),.int .u64 386]) w:=by kernel_rfl
theorem Vu(a p:Addr)(W:World)(ha:W.cell? a=some (.pointer (some p))):
 (ReflectliteValue.method (ReflectliteValue.valueError "reflectlite.Value.Elem" 0) ReflectliteValue.elem #[.agg #[.pointer (some ⟨10,410,none⟩),.pointer (some a),.int .u64 150]]).run prog W
  =.ok (.agg #[.pointer (some ⟨10,70,none⟩),.pointer (some p),.int .u64 386]) W:=by
 rw[rlm];simp only[Sem.run_bind,Mc,Result.andThen];simp[ReflectliteValue.elem,loadVar,isAgg,underlying,underlying410,ha,Result.andThen,QR,mkE]
theorem rls(v x:Value):ReflectliteValue.set #[v,x]=(do
 let(some (dst,a,fl),some (src,b,_)):=(<-ReflectliteValue.parts v,<-ReflectliteValue.parts x)
  |unsupported (.noEntry "extern/(internal/reflectlite.Value).Set.zeroValue")
 if fl/ReflectliteValue.flagAddr%2==0 then unsupported (.noEntry "extern/(internal/reflectlite.Value).Set.unaddressable")
 let val <-loadVar src b
 if <-Rtype.directlyAssignable dst src then storeVar dst a val
 else if <-Rtype.implements dst src then
  if(<-Rtype.kind src)==20 then
   match val with
   | .nilIface=>unsupported (.noEntry "extern/reflectlite: a nil value of one interface type handed on as a value of another")
   |_=>storeVar dst a val
  else storeVar dst a (.iface src val)
 else panicString ("reflectlite.Set: value of type "++(<-Rtype.spelt src)++ " is not assignable to type "++(<-Rtype.spelt dst))
 pure (.tuple #[])):=rfl
theorem PF(a:Addr)(w:World):(ReflectliteValue.parts (.agg #[.pointer (some ⟨10,70,none⟩),.pointer (some a),.int .u64 386])).run prog w=.ok (some (70,a,386)) w:=by kernel_rfl
theorem Ua(a:Addr)(w:World):(ReflectliteValue.parts (.agg #[.pointer (some ⟨10,70,none⟩),.pointer (some a),.int .u64 130])).run prog w=.ok (some (70,a,130)) w:=by kernel_rfl
theorem QY(w:World):(Rtype.directlyAssignable 70 70).run prog w=.ok true w:=by kernel_rfl
theorem acM(ta b:Addr)(k:Int)(yH:Value)(W:World)(hb:W.cell? b=some (.int .i64 k))(ht:W.cell? ta=some yH)(hf:W.frozen? ta=false):
 (ReflectliteValue.set #[.agg #[.pointer (some ⟨10,70,none⟩),.pointer (some ta),.int .u64 386],.agg #[.pointer (some ⟨10,70,none⟩),.pointer (some b),.int .u64 130]]).run prog W
  =.ok (.tuple #[]) (W.setCell ta (.int .i64 k)):=by
 rw[rls];simp only[Sem.run_bind,PF,Ua,Result.andThen];simp[ReflectliteValue.flagAddr,loadVar,isAgg,underlying,underlying70,hb,Result.andThen,QY,storeVar,Value.cells,storeCells,Addr.add];rw[run_store prog W ta _ _ (by rfl)];simp[ht,hf]
def c8 (w:World):Prop:=w.cell? ⟨5,0,none⟩=some (.iface 367 (.agg #[.pointer (some ⟨10,31,none⟩)]))
theorem VU(k:Int)(t:Addr)(yH:Value)(w:World)(hg:w.cell? ⟨5,0,none⟩=some (.iface 367 (.agg #[.pointer (some ⟨10,31,none⟩)])))(ht0:w.cell? t=some yH)(hf0:w.frozen? t=false):
 Calls prog 360 #[.iface 70 (.int .i64 k),.iface 410 (.pointer (some t))] w fun ev w'=>ev=.returned (.bool true)/\w'=((((w.alloc (.cells #[.pointer (some t)] 410)).alloc (.cells #[.pointer (some ⟨10,410,none⟩),.pointer (some ⟨w.heap.size,0,none⟩),.int .u64 150] 299)).alloc (.cells #[.pointer (some ⟨10,410,none⟩),.pointer (some ⟨w.heap.size,0,none⟩),.int .u64 150] 299)).alloc (.cells #[.int .i64 k] 70)).setCell t (.int .i64 k):=by
 have h6:=@run_callFunc_extern prog 209 _ (fun args=>ReflectliteValue.unpack (args.getD 0 (.tuple #[]))) func209 bm bm bm bm;have h7:=@run_callFunc_extern prog 393 _ (ReflectliteValue.methodAny (ReflectliteValue.valueError "reflectlite.Value.Type" 0) (fun t _ _ _=>ReflectliteType.toType t)) func393 bm bm bm bm;have h8:=@run_callFunc_extern prog 394 _ (ReflectliteValue.method (ReflectliteValue.valueError "reflectlite.Value.IsNil" 0) ReflectliteValue.isNil) func394 bm bm bm bm;have ZP:=@run_callFunc_extern prog 428 _ (ReflectliteType.abiMethod fun t=>do pure (.int .u8 (<-Rtype.kind t))) func428 bm bm bm bm;have h37:=@run_callFunc_extern prog 438 _ (ReflectliteType.method ReflectliteType.elem) func438 bm bm bm bm;have h38:=@run_callFunc_extern prog 439 _ (ReflectliteType.relation "Implements" ReflectliteType.implements_) func439 bm bm bm bm;have KU:=@run_callFunc_extern prog 408 _ ReflectliteType.typeOf func408 bm bm bm bm;have h35:=@run_callFunc_extern prog 437 _ (ReflectliteType.relation "AssignableTo" ReflectliteType.assignableTo) func437 bm bm bm bm
 have Gt:=@run_callFunc_extern prog 409 _ (ReflectliteValue.method (ReflectliteValue.valueError "reflectlite.Value.Elem" 0) ReflectliteValue.elem) func409 bm bm bm bm;have Vk:=@run_callFunc_extern prog 410 _ ReflectliteValue.set func410 bm bm bm bm;have tO:=O8;have mA:=q7;have a25:=Ef;have v25:=Lp;have f6:=Ln;have f7:=XL;have mK:=FM;have mE:=FN;have mI:=tj;have k27:=Yz;have P1:=YA;have e27:=aai;have i25:=Dh;have n8:=Uu ⟨w.heap.size,0,none⟩ t ((w.alloc (.cells #[.pointer (some t)] 410)).alloc (.cells #[.pointer (some ⟨10,410,none⟩),.pointer (some ⟨w.heap.size,0,none⟩),.int .u64 150] 299)) aj;have dI:5<w.heap.size:=by
  rcases Nat.lt_or_ge 5 w.heap.size with h|h
  ·exact h
  ·simp[World.cell?,Array.getElem?_eq_none h]at hg
 have JI:((w.alloc (.cells #[.pointer (some t)] 410)).alloc (.cells #[.pointer (some ⟨10,410,none⟩),.pointer (some ⟨w.heap.size,0,none⟩),.int .u64 150] 299)).cell? ⟨5,0,none⟩=some (.iface 367 (.agg #[.pointer (some ⟨10,31,none⟩)])):=by
  rw[World.cell?_alloc_lt _ _ ⟨5,0,none⟩ (by simp <;>omega),World.cell?_alloc_lt _ _ ⟨5,0,none⟩ dI];exact hg
 have Ie:t.block<w.heap.size:=by
  rcases Nat.lt_or_ge t.block w.heap.size with h|h
  ·exact h
  ·simp[World.cell?,Array.getElem?_eq_none h]at ht0
 have el:=Vu ⟨w.heap.size,0,none⟩ t (((w.alloc (.cells #[.pointer (some t)] 410)).alloc (.cells #[.pointer (some ⟨10,410,none⟩),.pointer (some ⟨w.heap.size,0,none⟩),.int .u64 150] 299)).alloc (.cells #[.pointer (some ⟨10,410,none⟩),.pointer (some ⟨w.heap.size,0,none⟩),.int .u64 150] 299)) (by rw[World.cell?_alloc_lt _ _ ⟨w.heap.size,0,none⟩ fV];simp);have st:=acM t ⟨w.heap.size+1+1+1,0,none⟩ k yH ((((w.alloc (.cells #[.pointer (some t)] 410)).alloc (.cells #[.pointer (some ⟨10,410,none⟩),.pointer (some ⟨w.heap.size,0,none⟩),.int .u64 150] 299)).alloc (.cells #[.pointer (some ⟨10,410,none⟩),.pointer (some ⟨w.heap.size,0,none⟩),.int .u64 150] 299)).alloc (.cells #[.int .i64 k] 70))
  (by rw[World.cell?_alloc_at _ _ _ _ aj];rfl)
  (by rw[World.cell?_alloc_lt _ _ t fV,World.cell?_alloc_lt _ _ t fV,World.cell?_alloc_lt _ _ t fV,World.cell?_alloc_lt _ _ t Ie];exact ht0)
  (by rw[World.frozen?_alloc_old _ _ t fV,World.frozen?_alloc_old _ _ t fV,World.frozen?_alloc_old _ _ t fV,World.frozen?_alloc_old _ _ t (Nat.ne_of_lt Ie)];exact hf0)
 go_enter func360,ntmps360
 go_wp2
 refine wp_loop_rounds 1 ?_;rw[rounds_succ]
 go_wp2
 go_ret
 exact⟨rfl,rfl⟩
theorem Lx(w:World):Calls prog 265 #[.nilIface] w fun e w'=>e=.returned (.int .i64 0)/\Below w.heap.size w w':=by
 go_enter func265,ntmps265
 go_wp2
 go_ret
 exact⟨rfl,Below.refl _ _⟩
theorem Fo(k:Int)(w:World)(hg:c8 w):Calls prog 265 #[.iface 70 (.int .i64 k)] w fun e w'=>e=.returned (.int .i64 k)/\Below w.heap.size w w':=by
 have dI:5<w.heap.size:=by
  rcases Nat.lt_or_ge 5 w.heap.size with h|h
  ·exact h
  ·simp[c8,World.cell?,Array.getElem?_eq_none h]at hg
 have JI:(w.alloc (.cells #[.int .i64 0] 70)).cell? ⟨5,0,none⟩=some (.iface 367 (.agg #[.pointer (some ⟨10,31,none⟩)])):=by
  rw[World.cell?_alloc_lt _ _ ⟨5,0,none⟩ dI];exact hg
 have hc:=VU k ⟨w.heap.size,0,none⟩ (.int .i64 0) (w.alloc (.cells #[.int .i64 0] 70)) JI aj aj;have HC:=Lib.hid hc;clear hc JI hg
 go_enter func265,ntmps265
 go_wp2_with fail
 refine HC.out.mono ?_;rintro e w1 ⟨rfl,hw⟩;have iD:w1.cell? ⟨w.heap.size,0,none⟩=some (.int .i64 k):=by
  rw[hw];refine World.cell?_setCell_same _ _ _ (u:=.int .i64 0) ?_;rw[World.cell?_alloc_lt _ _ _ fV,World.cell?_alloc_lt _ _ _ fV,World.cell?_alloc_lt _ _ _ fV,World.cell?_alloc_lt _ _ _ aj];simp
 have hb:Below w.heap.size w w1:=by
  rw[hw];exact((((((Below.refl _ _).alloc (aC _) _).alloc aj _).alloc fV _).alloc fV _).alloc fV _).setCell (aC _) _
 clear hw;have HB:=Lib.hid hb;clear hb
 go_wp2_with fail
 go_ret
 exact⟨rfl,HB.out⟩
end Go.Proofs.YtjhogocabcdjbabGreatDoor
namespace WB
open Go Go.RowKit
deriving instance DecidableEq for Ms
section
variable {P:Program} {w:World} {d:Nat} {xs ys:Array Value} {f:Field} {fs:List Field} {r:Bool}
end
inductive iI:List HP->List HP->Prop
 |nil {L:List HP}:iI L []
 |cons {L R M:List HP} {A:HP} (p:bC L A R) (h:iI R M):iI L (A::M)
theorem iI.drop{A:HP}{L M:List HP}(h:iI L M):iI (A::L) M:=by
 induction h with
 |nil=>exact .nil
 |cons p _ ih=>exact .cons (.tail p) ih
theorem iI.refl:∀{L:List HP},iI L L
 |[]=>.nil
 |_::_=>.cons .head iI.refl
theorem iI.gj{L M:List HP}(h:iI L M):∀x,WB.gj L x->∃h1 h2,sN h1 h2/\x=nL h1 h2/\WB.gj M h2:=by
 induction h with
 |nil=>exact fun x _=>⟨x,fun _=>none,fun _=>.inr rfl,by rw[rT (fun _=>.inr rfl),vP fun _=>rfl],fun _=>rfl⟩
 |cons p _ ih=>
  intro x hx;obtain⟨h1,h2,d,rfl,a,b⟩:=p.gj hx;obtain⟨g1,g2,d2,rfl,c⟩:=ih h2 b;rw[ly]at d;refine⟨g1,nL h1 g2,ly.2 ⟨d.1.symm,d2⟩,?_,h1,g2,d.2,rfl,a,c⟩;rw[<-mP,<-mP,rT d.1]
theorem St.all{w0 w:World}{L M:List HP}(hw:St w0 L w)(h:iI L M):St w0 M w:=by
 obtain⟨x,hx,hs⟩:=hw.own;obtain⟨h1,h2,d,rfl,hm⟩:=h.gj x hs;refine {hw with own:=⟨h2,fun k o hk=>hx k o ?_,hm⟩};rw[rT d];unfold nL;rw[hk];rfl
def pk (a n:Int):Int:=(a%18446744073709551616)%n
section
variable {P:Program} {ops:Array Oper} {d:Bool} {Q:Exit->Act->World->Prop} {n:Nat} {D:List Deferred} {w0:World} {G:Env} {L R:List HP} {l:List (Kd×Oper)} {k:Kd}
 {t:Nat} {op:Op} {ty T T' E EN:TypeId} {pos:String} {af:Array Edge} {x y z:Operand} {v u:Value} {b:Bool} {i off:Nat} {a c r:Int} {ad:Addr} {kk:IntKind}
theorem KO.eqN(hx:ev G x=some (cz EN c))(hT:P.underlying T=some (.interface (P.methodsAt T)))(ht:Nat.blt t n=true)(h:KO P ops d Q n D w0 ((t,.bool (decide (c=0)))::G) L l):
 KO P ops d Q n D w0 G L ((k,⟨some t,.binOp .eql T x (.const .nilIface) T',ty,pos,af,none⟩)::l):=
 KO.val (fun a w ha=>by
  simp only[execOp,ha.eval hx,show a.eval (.const .nilIface)=.nilIface from rfl];unfold cz;by_cases h0:c=0
  ·simp[h0,run_eql_nil_nil w T hT,eqGuard_nil_constR]
  ·simp[h0,run_eql_held_nil w T _ _ hT,eqGuard_at_iface]) ht h
theorem KO.Uf(hx:ev G x=some (cz EN c))(hT:P.underlying T=some (.interface (P.methodsAt T)))(ht:Nat.blt t n=true)(h:KO P ops d Q n D w0 ((t,.bool (decide (c≠0)))::G) L l):
 KO P ops d Q n D w0 G L ((k,⟨some t,.binOp .neq T x (.const .nilIface) T',ty,pos,af,none⟩)::l):=
 KO.val (fun a w ha=>by
  simp only[execOp,ha.eval hx,show a.eval (.const .nilIface)=.nilIface from rfl];unfold cz;by_cases h0:c=0
  ·simp[h0,run_neq_nil_nil w T hT,eqGuard_nil_constR]
  ·simp[h0,run_neq_held_nil w T _ _ hT,eqGuard_at_iface]) ht h
def WS {α:Type} (n:Nat) (D:List Deferred) (w0:World) (E:α->Env) (H:α->List HP) (φ:α->Prop) (a:Act) (w:World):Prop:= ∃y,φ y/\ct n D (E y) a/\St w0 (H y) w
theorem K.cut{α:Type}{c1 c2:Code}{L:List HP}(E:α->Env)(H:α->List HP)(φ:α->Prop)(h1:K P c1 (Exit.then (WS n D w0 E H φ) Q) n D w0 G L)(h2:∀y,φ y->K P c2 Q n D w0 (E y) (H y)):K P c1 (Exit.then (c2.wp P Q) Q) n D w0 G L:=fun a w ha hw=>
 Go.wp_mono (h1 a w ha hw) fun e a w hq=>by
  cases e with
  |normal=>obtain⟨y,hy,ha,hw⟩:=hq;exact h2 y hy a w ha hw
  |_=>exact hq
theorem KQ.qc{α:Type}{E:α->Env}{H:α->List HP}{φ:α->Prop}(y:α)(hy:φ y)(hG:BZ G (E y))(hL:∀w,St w0 L w->St w0 (H y) w):KQ (Exit.then (WS n D w0 E H φ) Q) .normal n D w0 G L:=fun _ w ha hw=>⟨y,hy,ha.sub hG,hL w hw⟩
theorem KO.di{b:Nat}{cs:List Value}{fz:Nat×Nat}(hk:(!d||k != .pure)=true)(hx:ev G x=some (.pointer (some ad)))(hT:∀w,(isAgg T).run P w=.ok false w)(hp:bC L (bD b (.cells cs.toArray E fz)) R)(ha:ad=⟨b,i,none⟩)(hc:cs[i]? =some v)(ht:Nat.blt t n=true)(h:KO P ops d Q n D w0 ((t,v)::G) L l):KO P ops d Q n D w0 G L ((k,⟨some t,.load T x,ty,pos,af,none⟩)::l):=KO.ld hk (ha▸hx) hT hp hc ht h
theorem CO(v:Value):∀(i:Nat) (cs:List Value),i<cs.length->nZ i [v] cs=cs.set i v
 |0,c::cs,_=>by simp[nZ]
 |i+1,c::cs,h=>by simp[nZ,CO v i cs IF]
theorem KO.iA{b:Nat}{cs:List Value}(hk:(!d||k== .write)=true)(hx:ev G x=some (.pointer (some ad)))(hy:ev G y=some v)(hv:v.cells=[v].toArray)(hn:∀w,(Go.sizeOf T).run P w=.ok 1 w)(h1:v.oneCell'=true)(hp:bC L (bD b (.cells cs.toArray E (0,0))) R)(ha:ad=⟨b,i,none⟩)(hi:i<cs.length)(h:KO P ops d Q n D w0 G (bD b (.cells (cs.set i v).toArray E (0,0))::R) l):
 KO P ops d Q n D w0 G L ((k,⟨none,.store T x y,ty,pos,af,none⟩)::l):=
 KO.Pd hk (ha▸hx) hy hv hn ET hp (by simp[Nat.ble_eq];omega) (CO v i cs hi) h
theorem KO.tA{len cap sz:Nat}(hx:ev G x=some (.slice (some ad) len cap))(hy:ev G y=some (.int kk a))(hu:∀w,(underlying T).run P w=.ok (.slice E) w)(hs:∀w,(Go.sizeOf E).run P w=.ok sz w)(ha:a=(i:Int))(hb:i<len)(ht:Nat.blt t n=true)(h:KO P ops d Q n D w0 ((t,.pointer (some (ad.add (i *sz))))::G) L l):KO P ops d Q n D w0 G L ((k,⟨some t,.indexAddr T x y,ty,pos,af,none⟩)::l):=
 KO.val (fun a' w rJ=>by
  subst ha;have :(0:Int)<=(i:Int)/\(i:Int)<(len:Int):=⟨by omega,by omega⟩
  simp[execOp,rJ.eval hx,rJ.eval hy,Instr.indexAt,hu w,asIntOf,hs w,this,hb]) ht h
theorem KO.ZZ{fs:Array Field}{f sz off:Nat}{fd:Field}(hx:ev G x=some (.pointer (some ad)))(hu:∀w,(underlying T).run P w=.ok (.struct fs) w)(hf:fs[f]? =some fd)(ho:fd.offset=off)(hs:∀w,(Go.sizeOf fd.type).run P w=.ok (sz+1) w)(ht:Nat.blt t n=true)(h:KO P ops d Q n D w0 ((t,.pointer (some (ad.add off)))::G) L l):KO P ops d Q n D w0 G L ((k,⟨some t,.fieldAddr T x f,ty,pos,af,none⟩)::l):=
 KO.fld hx hu hf hs ht (by rw[ho];exact h)
end
end WB
namespace Go.Proofs.YtjhogocabcdjbabGreatDoor
open Tryz
open Go Go.RowKit WB
theorem TE(w0:World)(L:List HP)(k:Int)(hg:c8 w0):KE prog 265 #[cz 70 k] w0 L (fun u L'=>u=.int .i64 k/\L'=L):=KE.bB fun w hw=>by
 unfold cz;split
 ·next h=>subst h;exact Lx w
 ·exact Fo k w ((Ext.bB hw.below).cell hg)
open Go Go.RowKit Go.Extern.Stop Go.Stop Go.Extern WB
end Go.Proofs.YtjhogocabcdjbabGreatDoor
namespace WB
open Go Go.RowKit
variable {P:Program} {ops:Array Oper} {Q:Exit->Act->World->Prop}
def via (qG:List (List Nat)) (x i:Nat) (q:Nat×Nat):Bool:=(q.1==x||(qG.getD q.1 []).contains x)&&(q.2==i||(qG.getD i []).contains q.2)
theorem pG{qG:List (List Nat)}(hb:ff ops=true)(ha:qF ops qG=true){l:List Nat}(hv:Valid ops l){q:Nat×Nat}(hE:∀p s,l=p++q.2::s->q.1∈p){x i:Nat}(h:via qG x i q=true):∀p s,l=p++i::s->x∈p:=by
 intro p s hl;unfold via at h;simp only[aW,Bool.or_eq_true,beq_iff_eq]at h;have lt:∀y,y∈l->y<ops.size:=fun y hy=>(hv.2.1 y).1 hy
 have h1:q.1∈p:=by
  rcases h.2 with e|e
  ·exact hE p s (by rw[e];exact hl)
  ·have :=p9 hb ha hv i i (aC _) (lt i K7) p s hl q.2 (List.contains_iff_mem.1 e);obtain⟨p1,p2,rfl⟩:=List.append_of_mem this;have :=hE p1 (p2++i::s) K7;simp[this]
 rcases h.1 with e|e
 ·rw[<-e];exact h1
 ·obtain⟨p1,p2,rfl⟩:=List.append_of_mem h1;have :=p9 hb ha hv q.1 q.1 (aC _) (lt q.1 K7) p1 (p2++i::s) K7 x (List.contains_iff_mem.1 e);simp[this]
theorem q8{E:List (Nat×Nat)}{ks:List Kd}{qG:List (List Nat)}(hb:ff ops=true)(ha:qF ops qG=true){l:List Nat}(hv:Valid ops l)(hE:∀q∈E,∀p s,l=p++q.2::s->q.1∈p):
 ∀(s p rem:List Nat),l=p++s->(∀x,x∈rem↔x∈s)->
  j7 (fun x i=> !(x==i)&&((qG.getD i []).contains x||(je ops ks x i||E.any (via qG x i)))) rem=true->
  ∀a w,ib P ops Q (rem.map (item ops ks)) a w->wpOps P ops Q s a w
 |[],p,rem,hl,hm,hp,a,w,h=>by
  have :rem=[]:=List.eq_nil_iff_forall_not_mem.2 fun x hx=>by simpa using(hm x).1 hx
  subst this;exact h
 |i::s,p,rem,hl,hm,hp,a,w,h=>by
  have hi:i<ops.size:=(hv.2.1 i).1 K7;have F7:=hv.1;rw[hl]at F7;have hnp:∀x∈i::s,x∉p:=fun x hx P8=>(List.nodup_append.1 F7).2.2 x P8 x hx rfl
  have E3:i∉s:=(bZ.1 (List.nodup_append.1 F7).2.1).1;obtain⟨pre,post,rfl⟩:=List.append_of_mem ((hm i).2 List.mem_cons_self);obtain⟨h1,h2,h3⟩:=my pre hp;have UO:∀x∈pre,je ops ks x i=true:=fun x hx=>by
   have hf:=h1 x hx;simp only[aW,Bool.or_eq_true]at hf;rcases hf.2 with hc|hc|hc
   ·have P8:=p9 hb ha hv i i (aC _) hi p s hl x (List.contains_iff_mem.1 hc);exact absurd P8 (hnp x ((hm x).1 sR))
   ·exact hc
   ·obtain⟨q,hq,hqv⟩:=List.any_eq_true.1 hc;have P8:=pG hb ha hv (hE q hq) hqv p s hl;exact absurd P8 (hnp x ((hm x).1 sR))
  have lP:=GL pre UO a w h;have F9:∀x,x∈pre++post↔x∈s:=fun x=>by
   have hx:=hm x;constructor
   ·intro YD;have Dj:x∈pre++i::post:=by
     rcases aP.1 YD with e|e<;>simp[e]
    rcases aJ.1 (hx.1 Dj)with rfl|e
    ·exfalso;rcases aP.1 YD with e|e
     ·have :=h1 x e;simp at this
     ·have :=h3 x e;simp at this
    ·exact e
   ·intro oc;have :=hx.2 (List.mem_cons_of_mem _ oc);rcases aP.1 this with e|e
    ·simp[e]
    ·rcases aJ.1 e with rfl|e
     ·exact absurd oc E3
     ·simp[e]
  have IH:=q8 hb ha hv hE s (p++[i]) (pre++post) K7 F9 h2;have tI:ops[i]? =some (item ops ks i).2:=by simp[item,hi]
  simp only[aT]at lP;simp only[wpOps,tI];cases hw:Region.wanted (item ops ks i).2 (yielded ops a.tmps)with
  |false=>
   simp only[Bool.false_eq_true,if_false];rw[show item ops ks i=((item ops ks i).1,(item ops ks i).2)from rfl,o0 hw]at lP;exact IH _ _ lP
  |true=>
   simp only[if_true];left;rw[show item ops ks i=((item ops ks i).1,(item ops ks i).2)from rfl]at lP;by_cases dI:(item ops ks i).1.m_=true
   ·rw[dL dI hw]at lP;obtain⟨v,pU,hr⟩:=lP;have kO:stays (item ops ks i).1 w w:=by
     cases(item ops ks i).1<;>first|trivial|exact Ext.refl w|rfl
    unfold Oper.wp;rcases pU w kO with hg|⟨f,args,hg,dx⟩
    ·rw[hg];exact IH _ _ hr
    ·rw[hg];refine dx.mono ?_;rintro e w' ⟨rfl,rfl⟩;exact IH _ _ hr
   ·generalize hk:(item ops ks i).1=k at lP dI;cases k with
    |cx=>rw[fX hw]at lP;exact gg r5 (fun a w hh=>IH _ _ hh.2) lP
    |write=>rw[dK hw]at lP;exact gg r5 (fun a w hh=>IH _ _ hh) lP
    |_=>exact absurd rfl dI
def ways:List (Nat×Nat)->List (List (Nat×Nat))
 |[]=>[[]]
 |q::r=>(ways r).map (q:: ·)++(ways r).map ((q.2,q.1):: ·)
theorem sV{l:List Nat}(hn:l.Nodup):∀(X:List (Nat×Nat)),(∀q∈X,q.1∈l/\q.2∈l/\q.1≠q.2)->∃E∈ways X,(∀q∈E,∀p s,l=p++q.2::s->q.1∈p)/\∀q∈E,q.2∈l
 |[],_=>⟨[],by simp[ways],(fun _ h=>by cases h),fun _ h=>by cases h⟩
 |q::X,h=>by
  obtain⟨E,hE,fZ,k9⟩:=sV hn X fun q hq=>h q (List.mem_cons_of_mem _ hq)
  obtain⟨h1,h2,h3⟩:=h q List.mem_cons_self;obtain⟨p1,s1,hl⟩:=List.append_of_mem h2;have uniq:∀{y:Nat} {p s p' s':List Nat},l=p++y::s->l=p'++y::s'->p=p':=by
   intro y p s p' s' e1 e2;have :∀(p p' s s':List Nat),(p++y::s).Nodup->p++y::s=p'++y::s'->p=p':=by
    intro p
    induction p with
    |nil=>
     intro p' s s' hn e;cases p' with
     |nil=>rfl
     |cons x p'=>
      simp only[List.nil_append,bn,List.cons.injEq]at e;obtain⟨rfl,e⟩:=e;simp only[List.nil_append,bZ]at hn;exact absurd (by rw[e];simp) hn.1
    |cons x p ih=>
     intro p' s s' hn e;cases p' with
     |nil=>
      simp only[List.nil_append,bn,List.cons.injEq]at e;obtain⟨rfl,e⟩:=e;simp only[bn,bZ]at hn;exact absurd aj hn.1
     |cons x' p'=>
      simp only[bn,List.cons.injEq]at e;simp only[bn,bZ]at hn;rw[e.1,ih p' s s' hn.2 e.2]
   exact this p p' s s' (e1▸hn) (e1.symm.trans e2)
  by_cases vg:q.1∈p1
  ·refine⟨q::E,by simp only[ways,aP,aD];exact .inl ⟨E,hE,rfl⟩,fun q' yW p s e=>?_,fun q' yW=>(aJ.1 yW).elim (fun e=>e▸h2) (k9 q')⟩;rcases aJ.1 yW with rfl|yW
   ·rw[<-uniq hl e];exact vg
   ·exact fZ q' yW p s e
  ·refine⟨(q.2,q.1)::E,by simp only[ways,aP,aD];exact .inr ⟨E,hE,rfl⟩,fun q' yW p s e=>?_,fun q' yW=>(aJ.1 yW).elim (fun e=>e▸h1) (k9 q')⟩;rcases aJ.1 yW with rfl|yW
   ·dsimp only at e ⊢;have h4:q.1∈s1:=by
     have :=h1;rw[hl]at this;simp only[aP,aJ]at this;rcases this with a|a|a
     ·exact absurd a vg
     ·exact absurd a h3
     ·exact a
    obtain⟨p2,s2,rfl⟩:=List.append_of_mem h4;have e2:l=(p1++q.2::p2)++q.1::s2:=by rw[hl];simp
    rw[<-uniq e2 e];simp
   ·exact fZ q' yW p s e
def Jd (ops:Array Oper) (ks:List Kd) (E:List (Nat×Nat)) (ord:List Nat):Bool:=
 let qG:=C7 ops.toList []
 ff ops&&(qF ops qG&&((List.range ops.size).all (fun i=>ord.contains i)&&(ord.all (fun i=>Nat.blt i ops.size)&&
  j7 (fun x i=> !(x==i)&&((qG.getD i []).contains x||(je ops ks x i||E.any (via qG x i)))) ord)))
def Ke (ops:Array Oper) (E:List (Nat×Nat)):Bool:=
 let qG:=C7 ops.toList []
 qF ops qG&&E.any fun q=>E.any (via qG q.2 q.1)
theorem yl{E:List (Nat×Nat)}(hb:ff ops=true){l:List Nat}(hv:Valid ops l)(hE:∀q∈E,∀p s,l=p++q.2::s->q.1∈p)(hm:∀q∈E,q.2∈l)(h:Ke ops E=true):False:=by
 simp only[Ke,aW]at h;obtain⟨ha,h⟩:=h;obtain⟨q,hq,h⟩:=List.any_eq_true.1 h;obtain⟨q',yW,h⟩:=List.any_eq_true.1 h;obtain⟨p1,s1,hl⟩:=List.append_of_mem (hm q hq);obtain⟨a,b,rfl⟩:=List.append_of_mem (hE q hq p1 s1 hl);have :=pG hb ha hv (hE q' yW) h a (b++q.2::s1) K7;have hn:=hv.1;rw[hl]at hn;simp only[aK,bn]at hn;exact(List.nodup_append.1 hn).2.2 q.2 this q.2 aj rfl
def SC (ops:Array Oper) (ks:List Kd):List (List (Nat×Nat))->List (List Nat)->Bool
 |[],[]=>true
 |E::r,O=>if Ke ops E then SC ops ks r O else match O with|o::s=>Jd ops ks E o&&SC ops ks r s|[]=>false
 |_,_=>false
@[reducible] def BA (f:List Nat->Prop):List (List Nat)->Prop
 |[]=>True
 |o::r=>f o/\BA f r
theorem xm{ks:List Kd}{f:List Nat->Prop}{E:List (Nat×Nat)}:∀{W:List (List (Nat×Nat))} {O:List (List Nat)},SC ops ks W O=true->BA f O->E∈W->Ke ops E=true\/∃o,Jd ops ks E o=true/\f o
 |[],_,_,_,h=>by cases h
 |F::r,O,h,hf,hE=>by
  cases hB:Ke ops F with
  |true=>
   have h2:SC ops ks r O=true:=by unfold SC at h;rw[hB]at h;simpa using h
   rcases aJ.1 hE with rfl|hE
   ·exact .inl hB
   ·exact xm h2 hf hE
  |false=>
   unfold SC at h;rw[hB]at h;cases O with
   |nil=>simp at h
   |cons o s=>
    simp only[Bool.false_eq_true,if_false,aW]at h;rcases aJ.1 hE with rfl|hE
    ·exact .inr ⟨o,h.1,hf.1⟩
    ·exact xm h.2 hf.2 hE
theorem wC{id:Nat}{a:Act}{w:World}(ks:List Kd)(X:List (Nat×Nat))(O:List (List Nat))(pg:P.follows .mixedOrders=true)(hX:(ff ops&&X.all fun q=>Nat.blt q.1 ops.size&&(Nat.blt q.2 ops.size&& !(q.1==q.2)))=true)(ku:SC ops ks (ways X) O=true)(h:BA (fun ord=>ib P ops Q (ord.map (item ops ks)) a w.drew) O):(Code.region id ops true).wp P Q a w:=by
 rw[aW]at hX;obtain⟨hb,hX⟩:=hX;refine wp_region_draw fun t=>?_
 have hv:Valid ops (Region.schedule (P.follows .mixedOrders) ops t):=jm _ pg _ _ fun i o ho d hd=>by
  have hi:i<ops.size:=(Array.getElem?_eq_some_iff.1 ho).1
  have h1:=aG.1 (aG.1 hb i (bz.2 hi)) d (by
   have :ops.toList.getD i default=o:=by
    simp[Array.getElem?_eq_getElem hi]at ho ⊢;simp[ho]
   rw[this];exact hd)
  simpa[Nat.blt_eq]using h1
 generalize Region.schedule (P.follows .mixedOrders) ops t=l at hv ⊢;obtain⟨E,hE,ZI,hEm⟩:=sV hv.1 X fun q hq=>by
  have :=aG.1 hX q hq;simp only[aW,Nat.blt_eq,Bool.not_eq_true',beq_eq_false_iff_ne]at this;exact⟨(hv.2.1 _).2 this.1,(hv.2.1 _).2 this.2.1,this.2.2⟩
 rcases xm ku h hE with fg|⟨ord,ku,h⟩
 ·exact(yl hb hv ZI hEm fg).elim
 simp only[Jd,aW]at ku;obtain⟨hb,ha,fZ,dI,hp⟩:=ku;refine q8 hb ha hv ZI l [] ord rfl (fun x=>?_) hp a _ h;rw[hv.2.1 x];constructor
 ·intro hx;simpa[Nat.blt_eq]using aG.1 dI x hx
 ·intro hx;exact List.contains_iff_mem.1 (aG.1 fZ x (bz.2 hx))
theorem ug{f g:List Nat->Prop}(h:∀o,f o->g o):∀{O:List (List Nat)},BA f O->BA g O
 |[],_=>trivial
 |_::_,hf=>⟨h _ hf.1,ug h hf.2⟩
theorem K.NF{n:Nat}{D:List Deferred}{w0:World}{G:Env}{L:List HP}{id:Nat}(ks:List Kd)(X:List (Nat×Nat))(O:List (List Nat))(pg:P.follows .mixedOrders=true)(hX:(ff ops&&X.all fun q=>Nat.blt q.1 ops.size&&(Nat.blt q.2 ops.size&& !(q.1==q.2)))=true)(ku:SC ops ks (ways X) O=true)(h:BA (fun ord=>KO P ops true Q n D w0 G L (ord.map (item ops ks))) O):K P (.region id ops true) Q n D w0 G L:=fun a _ ha hw=>
 wC ks X O pg hX ku (ug (fun _ hh=>hh a _ ha hw.drew) h)
end WB
namespace WB
open Go Go.RowKit
def Src {α:Type} (w:World) (cf:α->List Value) (v:Value) (xs:List α):Prop:=
 ∃a cap,v=.slice a xs.length cap/\(a=none->xs=[])/\∀ad,a=some ad->cU w ad (xs.flatMap cf)
section
variable {w0 w:World} {L R:List HP} {E:TypeId} {α:Type} {cf:α->List Value} {sz:Nat} {xs ys:List α} {v:Value}
theorem tS(cj:∀e,(cf e).length=sz):∀xs:List α,(xs.flatMap cf).length=xs.length *sz
 |[]=>by simp
 |a::l=>by simp[tS cj l,cj,Nat.succ_mul];omega
theorem Src.of(hp:bC L (SL E sz cf v xs) R)(w:World)(hw:St w0 L w):Src w cf v xs:=by
 rcases(hw.pick hp).cr with⟨h1,h2,h3,_⟩|⟨g,cap,cur,h1,h2,h3,h4,h5,h6,h7⟩
 ·have :xs=[]:=List.eq_nil_of_length_eq_zero h2;exact⟨none,0,by rw[h1,this];rfl,fun _=>this,fun ad h=>(by cases h)⟩
 ·refine⟨some ⟨g,0,none⟩,cap,h1,(fun h=>by cases h),fun ad h=>?_⟩;cases h
  have hl:=h7.look.2;intro j c hj;rw[Addr.add_lit,World.cell?,hl];rw[<-h5,List.getElem?_take]at hj;split at hj
  ·simpa using hj
  ·simp at hj
theorem Src.ext{w':World}(h:Src w cf v xs)(e:Ext w w'):Src w' cf v xs:=by
 obtain⟨a,cap,h1,h2,h3⟩:=h;exact⟨a,cap,h1,h2,fun ad ha=>(h3 ad ha).ext e⟩
theorem B1{g n cap:Nat}(hw:St w0 (SL E sz cf (.slice (some ⟨g,0,none⟩) n cap) xs::R) w):n=xs.length/\n<=cap:=by
 obtain⟨h1,h2,_⟩:=g_ hw;exact⟨h1,h2⟩
end
section
variable {P:Program} {ops:Array Oper} {d:Bool} {Q:Exit->Act->World->Prop} {n:Nat} {D:List Deferred} {w0:World} {G:Env} {L R R' N:List HP} {l:List (Kd×Oper)} {k:Kd}
 {t:Nat} {op:Op} {ty T T' E E':TypeId} {pos:String} {af:Array Edge} {x y:Operand} {v u z:Value} {i j:Nat} {a c r:Int} {ad:Addr} {α:Type} {cf:α->List Value} {sz cV:Nat} {xs ys:List α} {e e':α}
theorem uY(w:World)(t e:TypeId)(sz:Nat)(hu:P.underlying t=some (.slice e))(hs:(Go.sizeOf e).run P w=.ok sz w):
 (Instr.buildSlice t 0 #[]).run P w=.ok (.slice (some ⟨w.heap.size,0,none⟩) 0 0) (w.alloc (.cells #[] e)):=by
 simp[Instr.buildSlice,run_underlying hu,hs,Instr.fill,newRow];rw[show Array.range 0=#[]from rfl,Array.map_empty]
theorem KO.bs0(cf:α->List Value)(hk:(!d||(k== .cx||k== .write))=true)(hT:P.underlying T=some (.slice E))(hs:∀w,(Go.sizeOf E).run P w=.ok sz w)(ht:Nat.blt t n=true)(h:∀bb,KO P ops d Q n D w0 ((t,.slice (some ⟨bb,0,none⟩) 0 0)::G) (SL E sz cf (.slice (some ⟨bb,0,none⟩) 0 0) []::L) l):KO P ops d Q n D w0 G L ((k,⟨some t,.buildSlice T 0 #[],ty,pos,af,none⟩)::l):=by
 refine KO.pS hk (F:=fun bb=>.slice (some ⟨bb,0,none⟩) 0 0) (N:=fun bb=>SL E sz cf (.slice (some ⟨bb,0,none⟩) 0 0) []::L) (fun a w ha hw=>⟨w.heap.size,w.alloc (.cells #[] E),?_,Ext.alloc w _,?_⟩) ht h
 ·have hr:=uY (P:=P) w T E sz hT (hs w);simp[execOp,hr]
 ·exact(hw.alloc (.cells #[] E)).ju (n:=0) (cap:=0) (aC _) Ou aj aj
theorem uZ(w:World)(t ty e:TypeId)(b:Option Addr)(m cap c s:Nat)(hu:P.underlying t=some (.slice e))(hs:(Go.sizeOf e).run P w=.ok s w)(h:m<=cap):
 (Builtin.append_ #[t,t] ty #[.slice b m cap,.slice none 0 c]).run P w=.ok (.slice b m cap) w:=by
 cases b<;>simp[Builtin.append_,run_underlying hu,hs,Builtin.lenOf,Builtin.firstCells,h,storeCells]
theorem KO.Ro(hk:(!d||k== .write)=true)(hx:ev G x=some v)(hy:ev G y=some u)(hp:bC L (SL E sz cf v xs) R)(hs:∀w,St w0 L w->Src w cf u ys)(hT:P.underlying T=some (.slice E))(hi:(P.info? E).map (fun i=>(i.zero,i.size,i.bytes))=some (some z,sz,cV))(P7:z.cells.size=sz)(cj:∀e,(cf e).length=sz)(h1:∀e,(cf e).all Value.oneCell'=true)(hb:xs.length+ys.length<1000000000)(SX:cV<=10000)(ht:Nat.blt t n=true)(h:∀v',KO P ops d Q n D w0 ((t,v')::G) (SL E sz cf v' (xs++ys)::R) l):KO P ops d Q n D w0 G L ((k,⟨some t,.call ⟨.builtin .append,#[x,y],#[T,T]⟩,ty,pos,af,none⟩)::l):=by
 obtain⟨i0,KI,uF,l0,u9⟩:=info_parts hi;refine KO.wvE hk (F:=fun v'=>SL E sz cf v' (xs++ys)::R) (fun a w ha hw=>?_) ht h;have MQ:=hw.pick hp;obtain⟨sa,cap,rfl,hn,hc⟩:=hs w hw;cases sa with
 |none=>
  obtain rfl:=hn rfl;obtain⟨b,c2,rfl,jy⟩:∃b c2,v=.slice b xs.length c2/\xs.length<=c2:=by
   rcases MQ.cr with⟨h1,h2,_⟩|⟨g,cap,cur,h1,h2,_⟩
   ·exact⟨none,0,by rw[h1,h2],by omega⟩
   ·exact⟨_,cap,h1,h2⟩
  refine⟨.slice b xs.length c2,w,jA x y T T rfl _ _ (ha.eval hx) (ha.eval hy) (uZ (P:=P) w T ty E b _ c2 cap sz hT (by simp[Go.sizeOf,typeInfo,KI,l0]) jy),?_⟩;rw[List.append_nil];exact MQ
 |some ad=>
  have Gf:=hc ad rfl;have Zx:(xs.length+ys.length)*cV<=140737488355328:=by
   have :=Nat.mul_le_mul (show xs.length+ys.length<=1000000000 by omega) SX;omega
  obtain⟨v',w',hr,kO⟩:=p8 (P:=P) T ty E i0 z sz cV hT KI uF l0 u9 P7 MQ ad ys.length cap (ys.flatMap cf) (tS cj ys) Gf (xR (fun e u hu=>aG.1 (h1 e) u hu) ys) Ou Zx;refine⟨v',w',jA x y T T rfl v _ (ha.eval hx) (ha.eval hy) hr,?_⟩
  show St w0 (ie E sz v' (xs++ys).length ((xs++ys).flatMap cf)::R) w'
  rw[aQ,List.flatMap_append];exact kO
theorem sM.nil:∀(M:List HP),sM [] M
 |[]=>.refl
 |_::M=>.drop (sM.nil M)
theorem KO.Ux{s:ak}{b:UInt8}(hx:ev G x=some (.string s))(hy:ev G y=some (.int .i64 a))(hT:P.underlying T=some .string)(ha:a=(i:Int))(hc:s[i]? =some b)(ht:Nat.blt t n=true)(h:KO P ops d Q n D w0 ((t,.int .u8 (b.toNat:Nat))::G) L l):KO P ops d Q n D w0 G L ((k,⟨some t,.index T x y,ty,pos,af,none⟩)::l):=
 KO.val (fun a' w rJ=>by
  subst ha
  simp[execOp,rJ.eval hx,rJ.eval hy,Instr.index,asIntOf,run_underlying hT,hc]) ht h
def PK (u:Option TypeDesc):Bool:=match u with|some (.interface _)=>false|none=>false|some _=>true
theorem KO.taY(hx:ev G x=some (.iface T' v))(hu:PK (P.underlying T')=true)(ht:Nat.blt t n=true)(h:KO P ops d Q n D w0 ((t,.tuple #[v,.bool true])::G) L l):KO P ops d Q n D w0 G L ((k,⟨some t,.typeAssert x T T' true,ty,pos,af,none⟩)::l):=
 KO.val (fun a' w rJ=>by
  cases hd:P.underlying T' with
  |none=>rw[hd]at hu;cases hu
  |some dd=>
   rw[hd]at hu;simp only[execOp,rJ.eval hx,Instr.typeAssert,run_underlying hd,Sem.run_bind,Result.andThen_ok]
   cases dd<;>first|(cases hu;done)|simp) ht h
theorem KO.ada{T0:TypeId}(hx:ev G x=some (.iface T0 v))(hT:P.underlying T=some (.interface (P.methodsAt T)))(ht:Nat.blt t n=true)(h:KO P ops d Q n D w0 ((t,.bool true)::G) L l):
 KO P ops d Q n D w0 G L ((k,⟨some t,.binOp .neq T x (.const .nilIface) T',ty,pos,af,none⟩)::l):=
 KO.val (fun a w ha=>by
  simp only[execOp,ha.eval hx,show a.eval (.const .nilIface)=.nilIface from rfl]
  simp[run_neq_held_nil w T _ _ hT,eqGuard_at_iface]) ht h
theorem KO.aeY{T0:TypeId}(hx:ev G x=some (.iface T0 v))(hT:P.underlying T=some (.interface (P.methodsAt T)))(ht:Nat.blt t n=true)(h:KO P ops d Q n D w0 ((t,.bool false)::G) L l):
 KO P ops d Q n D w0 G L ((k,⟨some t,.binOp .eql T x (.const .nilIface) T',ty,pos,af,none⟩)::l):=
 KO.val (fun a w ha=>by
  simp only[execOp,ha.eval hx,show a.eval (.const .nilIface)=.nilIface from rfl]
  simp[run_eql_held_nil w T _ _ hT,eqGuard_at_iface]) ht h
theorem KO.adb(hx:ev G x=some .nilIface)(hT:P.underlying T=some (.interface (P.methodsAt T)))(ht:Nat.blt t n=true)(h:KO P ops d Q n D w0 ((t,.bool false)::G) L l):
 KO P ops d Q n D w0 G L ((k,⟨some t,.binOp .neq T x (.const .nilIface) T',ty,pos,af,none⟩)::l):=
 KO.val (fun a w ha=>by
  simp only[execOp,ha.eval hx,show a.eval (.const .nilIface)=.nilIface from rfl]
  simp[run_neq_nil_nil w T hT,eqGuard_nil_constR]) ht h
theorem KO.aeZ(hx:ev G x=some .nilIface)(hT:P.underlying T=some (.interface (P.methodsAt T)))(ht:Nat.blt t n=true)(h:KO P ops d Q n D w0 ((t,.bool true)::G) L l):
 KO P ops d Q n D w0 G L ((k,⟨some t,.binOp .eql T x (.const .nilIface) T',ty,pos,af,none⟩)::l):=
 KO.val (fun a w ha=>by
  simp only[execOp,ha.eval hx,show a.eval (.const .nilIface)=.nilIface from rfl]
  simp[run_eql_nil_nil w T hT,eqGuard_nil_constR]) ht h
end
section
variable {P:Program} {fn:Func} {R:Ending->World->Prop} {n:Nat} {w0:World} {G:Env} {L M:List HP} {v v1 v2 v3:Value} {t t1 t2 t3:Nat} {T E:TypeId} {b:Nat} {cs:List Value} {fz:Nat×Nat}
end
theorem KE.oI{P:Program}{f:FuncId}{args:Array Value}{w0:World}{L:List HP}{R R':Value->List HP->Prop}(h:KE P f args w0 L R)(hr:∀v M,R v M->∃M',R' v M'/\∀w,St w0 M w->St w0 M' w):KE P f args w0 L R':=fun w hw=>
 (h w hw).mono fun _ _ ⟨v,M,e,r,s,b⟩=>let⟨M',r',c⟩:=hr v M r;⟨v,M',e,r',c _ s,b⟩
end WB
namespace Go.Proofs.YtjhogocabcdjbabGreatDoor
open Tryz
open Go Go.RowKit WB
abbrev atB (b:Nat) (k p:Int):HP:=bD b (.cells [Value.int .i64 k,.int .i64 p].toArray 248 (0,0))
def atV (b:Nat):Value:=.iface 247 (.pointer (some ⟨b,0,none⟩))
end Go.Proofs.YtjhogocabcdjbabGreatDoor
namespace WB
open Go
def bH (n:Int):ak:=⟨(Lib.itoa n).toArray⟩
def cJ (xs:List ak) (sep:ak):ak:=⟨(Lib.join (xs.map (·.data.toList)) sep.data.toList).toArray⟩
def jG (n:Int):Prop:= -9223372036854775808<=n/\n<=9223372036854775807
def sp:ak:=⟨#[32]⟩
def oL (m:Ms):ak:=bH m.id++sp++bH m.pri++sp++m.body++sp++m.queue++sp++bH m.b9
def plus:ak:=⟨#[43]⟩
def bL (xs:List Ms):ak:=cJ (xs.map oL) plus
theorem jE(s:ak):s.size=s.data.toList.length:=rfl
theorem bJ{n:Int}(h:jG n):(bH n).size<=21:=by
 have :=Lib.itoa_length_le n h.1 h.2;simpa[bH,ByteArray.size]using this
theorem xB(x y:List UInt8)(r:List (List UInt8))(sep:List UInt8):Lib.join (x::y::r) sep=x++sep++Lib.join (y::r) sep:=by
 simp[Lib.join_cons,Lib.joinTail]
theorem Jr(l:List (List UInt8))(x sep:List UInt8)(h:l≠[]):Lib.join (l++[x]) sep=Lib.join l sep++sep++x:=by
 cases l with
 |nil=>exact absurd rfl h
 |cons a r=>rw[bn,Lib.join_cons,Lib.join_cons];simp[Lib.joinTail]
theorem FU(l:List ak)(x sep:ak)(h:l≠[]):cJ (l++[x]) sep=cJ l sep++sep++x:=by
 unfold cJ;rw[bu,aT,List.map_nil,Jr _ _ _ IF];apply ByteArray.ext;apply Array.ext';simp
theorem jT(x sep:ak):cJ [x] sep=x:=by
 unfold cJ;rw[aT,List.map_nil,Lib.join_one]
theorem zP(sep:ak):cJ [] sep=⟨#[]⟩:=rfl
theorem Js(x y sep:ak):cJ [x,y] sep=x++sep++y:=by
 have :=FU [x] y sep aj;rw[jT]at this;exact this
theorem fM(x y:ak)(r:List ak)(sep:ak):cJ (x::y::r) sep=x++sep++cJ (y::r) sep:=by
 unfold cJ;rw[aT,aT,xB];apply ByteArray.ext;apply Array.ext';simp
theorem eM(sep:ak)(c:Nat):∀(l:List ak),(∀x∈l,x.size<=c)->(cJ l sep).size<=l.length *(c+sep.size)
 |[],_=>by rw[zP];exact aR _
 |[x],h=>by
  have :=h x aj;rw[jT];simp;omega
 |x::y::r,h=>by
  have h1:=eM sep c (y::r) fun z hz=>h z (List.mem_cons_of_mem _ hz)
  have h2:=h x aj;rw[fM,aB,aB,List.length_cons,Nat.succ_mul];omega
theorem MF(l:List ak)(sep:ak):(Lib.join (l.map (·.data.toList)) sep.data.toList).length=(cJ l sep).size:=by simp[cJ,ByteArray.size]
theorem J7(a b c:ak):a++b++c=a++(b++c):=ByteArray.append_assoc
theorem zH{m:Ms}(h:bG m=true):(oL m).size<=100:=by
 obtain⟨h1,h2,h3,h4,h5,h6,h7,h8⟩:=bP h;have a1:=bJ (n:=m.id) ⟨by omega,by omega⟩;have a2:=bJ (n:=m.pri) ⟨by omega,by omega⟩;have a3:=bJ (n:=m.b9) ⟨by omega,by omega⟩;have a4:m.body.size<=12:=by unfold jN dh at h5;simp at h5;omega
 have a5:m.queue.size<=8:=by unfold cS dh at h6;simp at h6;omega
 have a6:sp.size=1:=rfl;unfold oL;simp only[aB,a6];omega
theorem gE{l:List Ms}(h:∀m∈l,bG m=true):(bL l).size<=l.length *101:=by
 unfold bL;have :=eM plus 100 (l.map oL) (fun x hx=>by obtain⟨m,hm,rfl⟩:=aD.1 hx;exact zH (h m hm));rw[aV]at this;exact this
def iX (xs:List Ms):Option Nat:=xs.findIdx? fun m=> !bG m
def acB (xs:List Ms):Int:=match iX xs with|none=>0|some _=>1
def acA (xs:List Ms):Int:=match iX xs with|none=> -1|some k=>(k:Int)
def acz (xs:List Ms):ak:=match iX xs with|none=>bL xs|some _=>⟨#[]⟩
theorem Ay{xs:List Ms}(h:∀(j:Nat) m,xs[j]? =some m->bG m=true):iX xs=none:=by
 unfold iX;rw[List.findIdx?_eq_none_iff];intro m hm;obtain⟨j,hj,rfl⟩:=List.getElem_of_mem hm;simp[h j _ (ao hj)]
theorem dm{xs:List Ms}(h:iX xs=none):∀m∈xs,bG m=true:=by
 unfold iX at h;intro m hm;simpa using List.findIdx?_eq_none_iff.1 h m hm
open Go Go.RowKit Go.ChangeShapes Go.WideShapes Go.Deep
section
variable {H:Type} {enc:TypeId×Value->H}
theorem wG{C:Checked}{os:Os}{f:FuncId}{fn:Func}{s:OpenSpec}{conds:List PathCond}{apart:Bool}{laid:List (String×DataW Unit)}(modest:Bool)(w0:World)(args:Array Value)(hos:w0.os=os)(hsh:(w0.forCall (fun _ _=>0) ⟨#[],args,[]⟩).Shaped C.prog)(ku:Input.okWideB C.prog (w0.forCall (fun _ _=>0) ⟨#[],args,[]⟩) f ⟨#[],args,[]⟩=true)(adH:s.preRow enc C.prog fn conds apart laid (w0.forCall (fun _ _=>0) ⟨#[],args,[]⟩).memory args):
 ∃(w:World) (tape:Tape) (i:Input),w.os=os/\(w.forCall tape i).Shaped C.prog/\i.vars=[]/\Input.okWide C.prog (w.forCall tape i) .any w.heap.size f i/\
  s.preRow enc C.prog fn conds apart laid (w.forCall tape i).memory i.args/\({modest:=modest}:Assume).holds C.prog (lone (Frame.enter C.prog f i.args .normal) [] (w.forCall tape i)):=
 ⟨w0,fun _ _=>0,⟨#[],args,[]⟩,hos,hsh,(Input.okWide_of_okWideB (base:=0) ku).1,(Input.okWide_of_okWideB ku).2,adH,by
  simp only[Assume.holds]
  exact⟨by simp,by simp,fun _=>Modest.zero,by simp,by simp⟩⟩
variable {P:Program}
theorem Db(hl:laidOutB P=true){W W':World}(hb:Below W.heap.size W W'):∀{ts:List TypeId} {vs:List Value} {ds:List (DataW H)} {ps:List MemPlace},(ts.all fun t=>P.readableRec t&&decide (t<P.types.size))=true->
 DataW.TrodAll enc P W 0 (fun _=>true) true ts vs ds ps->(∀x∈ps,x.block<W.heap.size)->DataW.TrodAll enc P W' 0 (fun b=>decide (b<W.heap.size)) true ts vs ds ps
 |[],[],[],_,_,h,_=>h
 |t::ts,v::vs,d::ds,ps,hr,⟨p,q,h1,h2,e⟩,dI=>by
  simp only[List.all_cons,aW,decide_eq_true_eq]at hr;exact⟨p,q,Below.trod hl hr.1.1 hr.1.2 h1 hb (fun x hx=>dI x (by rw[e];exact List.mem_append_left _ hx)),Db hl hb (by simpa using hr.2) h2 (fun x hx=>dI x (by rw[e];exact List.mem_append_right _ hx)),e⟩
def oS {α:Type} (W:World) (sz:Nat) (cf:α->List Value) (v:Value) (xs:List α):Prop:=
 ∃a cap,v=.slice a xs.length cap/\∀(i:Nat) (x:α),xs[i]? =some x->∃ad,a=some ad/\cU W (ad.add (i *sz)) (cf x)
end
section
variable {H:Type} {enc:TypeId×Value->H} {P:Program} {W:World} {base:Nat} {spare:Nat->Bool} {held:Bool}
end
open Go Go.RowKit
theorem sk{P:Program}{W:World}:∀{l:List (String×DataW Unit)} {ps:List MemPlace},DataW.LaidVars P W l ps->∀x∈l,∃g t cs fuel p,P.globalNamed x.1=some g/\(P.globals[g]?).map (·.type)=some t/\W.var? P x.1=some cs/\DataW.trod (fun _=>()) P W 0 (fun _=>true) false fuel t cs.toList=some (x.2,p)
 |[],_,_,x,hx=>by cases hx
 |(n,d)::r,ps,h,x,hx=>by
  obtain⟨g,t,cs,fuel,p,q,h1,h2,h3,h4,h5,_⟩:=h;rcases aJ.1 hx with rfl|hx
  ·exact⟨g,t,cs,fuel,p,h1,h2,h3,h4⟩
  ·exact sk h5 x hx
theorem Ct{P:Program}{W:World}{name:String}{k:IntKind}{zs:List Int}{l:List (String×DataW Unit)}{g:Nat}{t e:TypeId}{n:Nat}(h:laidMet P l W)(hm:(name,Lib.tabData k zs)∈l)(hg:P.globalNamed name=some g)(hty:(P.globals[g]?).map (·.type)=some t)(ht:P.underlying t=some (.array n e))(he:P.underlying e=some (.int k))(hce:P.cellsOf e=1)(Zs:P.cellsOf t=n):Lib.TabIs P W name k zs:=by
 obtain⟨ps,hv,_⟩:=h;obtain⟨g',t',cs,fuel,p,h1,h2,h3,h4⟩:=sk hv _ hm;obtain rfl:=Option.some.inj (hg.symm.trans h1);obtain rfl:=Option.some.inj (hty.symm.trans h2);unfold Lib.TabIs;rw[h3,<-Lib.cells_of_tab ht he hce Zs h4]
end WB
namespace Go.Proofs.YtjhogocabcdjbabGreatDoor
open Tryz
open Go Go.RowKit WB
def nI (w:World):Prop:=Lib.TabIs prog w "internal/strconv.uint64pow10" .u64 Lib.pow10Tab
theorem nI.ext{w w':World}(h:nI w)(e:Ext w w'):nI w':=by
 unfold nI Lib.TabIs World.var? at *;cases hg:prog.globalNamed "internal/strconv.uint64pow10" with
 |none=>rw[hg]at h;simp at h
 |some g=>
  rw[hg]at h;simp only[Option.bind_some]at h ⊢;cases hb:w.heap[g]? with
  |none=>rw[hb]at h;simp at h
  |some o=>rw[e.2 g (Array.getElem?_eq_some_iff.1 hb).1,hb];rw[hb]at h;exact h
theorem fF(w0:World)(L:List HP)(n:Int)(hT:nI w0)(hn:jG n):KE prog 59 #[.int .i64 n] w0 L (fun u M=>u=.string (bH n)/\M=L):=KE.bB fun w hw=>by
 refine(Tryz.strconv_Itoa n hn.1 hn.2 w (hT.ext (Ext.bB hw.below))).mono ?_;rintro e w' ⟨rfl,k,os,rfl⟩;exact⟨rfl,Lib.below_grow _ _ (aC _) _ _⟩
theorem xa{W W':World}{v:Value}{xs:List Ms}(h:oS W 5 dN v xs)(e:Ext W W'):oS W' 5 dN v xs:=by
 obtain⟨a,cap,rfl,hc⟩:=h;exact⟨a,cap,rfl,fun i x hx=>by obtain⟨ad,rfl,hh⟩:=hc i x hx;exact⟨ad,rfl,hh.ext e⟩⟩
def fI (s:ak):List Value:=[.string s]
abbrev iR (v:Value) (xs:List ak):HP:=SL 9 1 fI v xs
theorem kg:(prog.info? 9).map (fun i=>(i.zero,i.size,i.bytes))=some (some (Value.string ⟨#[]⟩),1,16):=by kernel_rfl
theorem ra(w0:World)(L R:List HP)(v:Value)(xs:List ak)(sep:ak)(hp:bC L (iR v xs) R)(hn:xs.length<=1000000)(hs:(cJ xs sep).size<=1000000000):KE prog 62 #[v,.string sep] w0 L (fun u M=>u=.string (cJ xs sep)/\M=L):=KE.bB fun w hw=>by
 rcases(hw.pick hp).cr with⟨h1,h2,_⟩|⟨g,cap,cur,h1,h2,h3,h4,h5,h6,h7⟩
 ·have hx:xs=[]:=List.eq_nil_of_length_eq_zero h2;subst hx;subst h1;refine(Tryz.strings_Join_none none 0 sep w).mono ?_;rintro e w' ⟨rfl,rfl⟩;exact⟨rfl,Below.refl _ _⟩
 ·subst h1;have hc:∀(j:Nat) x,xs[j]? =some x->w.cell? ⟨g,0+j,none⟩=some (.string x):=fun j x hx=>by
   have :=lW (cf:=fI) (sz:=1) (fun _=>rfl) (hw.pick hp) hx 0 ai;rw[Nat.zero_add];simpa[fI]using this
  refine(Tryz.strings_Join g 0 cap xs sep w hc h7.lt ae h2 (by rw[MF];omega)).mono ?_;rintro e w' ⟨rfl,hb⟩;exact⟨rfl,hb⟩
def inC (n:Int):List Value:=[.int .i64 n]
theorem Jf(w0:World)(L:List HP)(m:Ms)(hb:m.body.size<=maxLen)(hq:m.queue.size<=maxLen):KE prog 154 #[.agg (dN m).toArray] w0 L (fun u M=>u=.bool (!bG m)/\M=L):=by
 refine KE.mk (n:=6) func154 rfl ntmps154 aj ?_;intro w hw;refine Z2 ?_;refine KO.box rfl rfl aL rfl ?_;intro b1;refine qm ?_;refine EK ?_;refine KO.ce (cp:=[]) rfl rfl rfl call145 rfl (HD w _ m hb hq) ?_;rintro v' L' ⟨rfl,rfl⟩;refine oY ?_;refine fK ?_;refine KQ.a_ rfl rfl (fun w' hs=>⟨_,_,rfl,⟨rfl,rfl⟩,hw.aA hs.below,hs.below⟩)
theorem MN(w0:World)(L:List HP)(v:Value)(xs:List Ms)(f:FuncId)(cp:List Value)(pf:Ms->Bool)(hr:∀w,St w0 L w->oS w 5 dN v xs)(hlen:xs.length<1000000)(dx:∀args w,(callFunc f args).run prog w=.ok (.enter f args) w)(oG:∀e,e∈xs->KE prog f ([]++([Value.agg (dN e).toArray]++cp)).toArray w0 L (fun v L'=>v=.bool (pf e)/\L'=L)):
 KE prog 153 #[v,.func (.func f) [].toArray cp.toArray] w0 L (fun v L'=>v=.int .i64 (ot pf xs)/\L'=L):=by
 refine KE.mk (n:=19) func153 rfl ntmps153 aj ?_;intro w hw;obtain⟨a,cap,rfl,hc⟩:=hr w hw;refine iG ?_;refine EA ?_;refine K.loop (fun k:Nat=>[(0,.slice a xs.length cap),(1,.func (.func f) [].toArray cp.toArray),(7,.int .i64 (xs.length:Nat)),(8,.int .i64 (k:Nat))]) (fun _=>[]) (fun k=>k<=xs.length/\∀(j:Nat) (u:Ms),j<k->xs[j]? =some u->pf u=false) (fun k=>xs.length-k) 0 ⟨by omega,fun j u h=>by omega⟩ ⟨rfl,rfl,rfl,rfl,trivial⟩ (fun _ h=>h) ?_;rintro k ⟨hk,og⟩;refine gZ ?_;refine K.bI rfl (fun h=>?_) (fun h=>?_)
 ·have dI:k<xs.length:=by omega
  obtain⟨e,he⟩:∃e,xs[k]? =some e:=⟨xs[k],ao dI⟩;obtain⟨ad,rfl,hh⟩:=hc k e he;refine G5 ?_;refine jh ?_;refine KO.tA rfl rfl runUnderlying49 sizeOf44 aL ae rfl ?_;refine KO.Jp (cs:=(dN e).toArray) rfl rfl isAgg44 sizeOf44 rfl hh rfl ?_;refine KO.ce rfl rfl rfl dx rfl ((oG e (ax he)).jQ hw) ?_;rintro v L' ⟨rfl,rfl⟩;refine Z5 ?_;refine K.cond rfl (fun h1=>?_) (fun h1=>?_)
  ·refine gU ?_;refine nD ?_;refine KQ.a_ rfl rfl (fun w' hs=>⟨_,_,rfl,⟨?_,rfl⟩,hw.aA hs.below,hs.below⟩);rw[sw he h1 og]
  ·refine rA ?_;refine KQ.round (k+1) ⟨by omega,fun j u hj hu=>?_⟩ ae ⟨rfl,rfl,rfl,rfl,trivial⟩ (fun _ h=>h);by_cases E5:j=k
   ·subst E5;rw[he]at hu;simp only[ay]at hu;rw[<-hu];exact h1
   ·exact og j u ae hu
 ·refine wx ?_;refine Ex ?_;refine KQ.a_ rfl rfl (fun w' hs=>⟨_,_,rfl,⟨?_,rfl⟩,hw.aA hs.below,hs.below⟩);rw[pY fun j u hu=>og j u Y17 hu]
def K8 (L:List HP) (xs:List Ms) (u:Value) (M:List HP):Prop:=
 match iX xs with
 |none=>u=.tuple #[.string (bL xs),.nilIface]/\M=L
 |some k=> ∃b,u=.tuple #[.string ⟨#[]⟩,atV b]/\M=atB b 1 k::L
theorem jv(w0:World)(L:List HP)(v:Value)(xs:List Ms)(hr:∀w,St w0 L w->oS w 5 dN v xs)(hT:nI w0)(cj:∀m∈xs,m.body.size<=maxLen/\m.queue.size<=maxLen)(hl:xs.length<=100000):
 KE prog 60 #[v] w0 L (K8 L xs):=by
 refine KE.mk (n:=49) func60 rfl ntmps60 aj ?_;intro w hw;have hTw:=hT.ext (Ext.bB hw.below);have hrw:=hr w hw;obtain⟨sa,cap,rfl,hc⟩:=hrw;refine jX ?_;refine kQ ?_;refine KO.ce (cp:=[]) rfl rfl rfl call153 rfl (MN w _ _ xs 154 [] (fun m=> !bG m) (fun w' hw'=>xa ⟨sa,cap,rfl,hc⟩ (Ext.bB hw'.below)) ae call154 (fun e he=>Jf w _ e (cj e he).1 (cj e he).2)) ?_;rintro v' L' ⟨rfl,rfl⟩;refine kQ ?_;refine uh ?_;refine Z5 ?_;refine K.bI rfl (fun h=>?_) (fun h=>?_)
 ·obtain⟨k,m,hk,hm,hb,dI,U7⟩:=mf h;have fg:iX xs=some k:=U7;rw[hk];refine gU ?_;refine KO.VO (pl:=[(0,1),(1,1)]) [.int .i64 1,.int .i64 (k:Nat)] rfl zeroValue248 runUnderlying248 (by intro w;simp[sizeOf3,sizeOf70]) rfl rfl ?_;refine KO.box rfl rfl aL rfl ?_;intro b14;refine Z36 ?_;refine vx ?_;refine KQ.ef rfl rfl rfl (fun w' hs=>⟨_,_,rfl,?_,hw.stack hs,hs.below⟩);unfold K8;rw[fg];exact⟨_,rfl,rfl⟩
 ·have fg:iX xs=none:=su ae;have fZ:=dm fg;refine oR ?_;refine kQ ?_;refine EA ?_;refine K.loop (fun s:Nat×Value=>[(5,s.2),(16,.slice sa xs.length cap),(17,.int .i64 (xs.length:Nat)),(18,.int .i64 (s.1:Nat))]) (fun s=>[iR s.2 ((xs.take s.1).map oL)]) (fun s=>s.1<=xs.length) (fun s=>xs.length-s.1) (0,.slice none 0 0)
   (aR _) ⟨rfl,rfl,rfl,rfl,trivial⟩ (fun _ h=>cL h) ?_
  rintro⟨k,vo⟩ hk;dsimp only at hk ⊢;refine gZ ?_;refine K.bI rfl (fun h1=>?_) (fun h1=>?_)
  ·obtain⟨m,hm⟩:∃e,xs[k]? =some e:=⟨xs[k],ao ae⟩;obtain⟨ad,rfl,hh⟩:=hc k m hm;have h6:=fZ m (ax hm);have hrp:=bP h6;have i1:jG m.id:=⟨by omega,by omega⟩;have i2:jG m.pri:=⟨by omega,by omega⟩;have i3:jG m.b9:=⟨by omega,by omega⟩;have z1:=bJ i1;have z2:=bJ i2;have z3:=bJ i3;have z4:m.body.size<=12:=by have :=hrp.2.2.2.2.1;unfold jN dh at this;simp at this;omega
   have z5:m.queue.size<=8:=by have :=hrp.2.2.2.2.2.1;unfold cS dh at this;simp at this;omega
   have z6:(⟨#[32]⟩:ak).size=1:=rfl;have z7:sp.size=1:=rfl;have hlen:((xs.take k).map oL).length<1000000:=by simp;omega
   refine pE ?_;refine KO.tA rfl rfl runUnderlying49 sizeOf44 aL ae rfl ?_;refine KO.Jp (cs:=(dN m).toArray) rfl rfl isAgg44 sizeOf44 rfl hh rfl ?_;refine KO.alloc rfl zeroValue44 aL rfl ?_;intro b7;refine K2 ?_;refine Z5 ?_;refine K.draw [.pure,.pure,.read,.cx,.pure,.pure,.read,.cx,.pure,.pure,.pure,.read,.pure,.pure,.pure,.read,.pure,.pure,.pure,.read,.cx,.pure,.cx,.write,.pure] [0,1,2,5,6,10,11,14,15,18,19,3,4,7,8,9,12,13,16,17,20,21,22,23,24] bm bm ?_;refine Z1 ?_;refine Kl ?_;refine XA ?_;refine vG ?_;refine Oe ?_;refine qn ?_;refine Rq ?_;refine qn ?_;refine ER ?_;refine vG ?_;refine KO.ce (cp:=[]) rfl rfl rfl call59 rfl (fF w _ m.id hTw i1) ?_;rintro v' L' ⟨rfl,rfl⟩;refine EC ?_;refine KO.ce (cp:=[]) rfl rfl rfl call59 rfl (fF w _ m.pri hTw i2) ?_;rintro v' L' ⟨rfl,rfl⟩;refine EC ?_;refine EC ?_;refine EC ?_;refine EC ?_;refine EC ?_;refine EC ?_;refine KO.ce (cp:=[]) rfl rfl rfl call59 rfl (fF w _ m.b9 hTw i3) ?_;rintro v' L' ⟨rfl,rfl⟩;refine EC ?_;refine KO.iN (z:=(Value.string ⟨#[]⟩)) (sz:=1) (cV:=16) rfl rfl underlying115 bm aL aL ai ai rfl ?_;intro K1
   refine KO.app (z:=Value.string ⟨#[]⟩) (sz:=1) (cV:=16) rfl rfl rfl aX bE underlying115 kg rfl (oL m) aL aL aL ae ai rfl ?_;intro v';refine rz ?_;refine KQ.round (k+1,v') ji ji ⟨rfl,rfl,rfl,rfl,trivial⟩ (fun _ h=>?_);dsimp only;rw[bA hm,bu,aT,List.map_nil];exact(h.pick bE).OQ (sM.nil _)
  ·have oX:k=xs.length:=by omega
   rw[oX,List.take_length];have rG:=gE fZ;refine yu ?_;refine KO.ce (cp:=[]) rfl rfl rfl call62 rfl (ra w _ _ vo (xs.map oL) plus bE fV (by unfold bL at rG;omega)) ?_;rintro v' L' ⟨rfl,rfl⟩;refine nE ?_;refine KQ.ef rfl rfl rfl (fun w' hs=>⟨_,_,rfl,?_,hw.aA hs.below,hs.below⟩);unfold K8;rw[fg];exact⟨rfl,rfl⟩
end Go.Proofs.YtjhogocabcdjbabGreatDoor
namespace WB
open Go Go.RowKit
def kq (o:Oper):Bool:=match o.op with| .defer _=>false|_=>true
abbrev FR (l:Nat):Fence:=Fence.wide.inRound l
section
variable {P:Program} {ops:Array Oper} {Q:Exit->Act->World->Prop} {l:Nat}
theorem C4{o:Oper}(h:kq o=true):∀c,o.op≠ .defer c:=fun c e=>by unfold kq at h;rw[e]at h;cases h
theorem I4{row:String}{args:Array Value}{w:World}{R:Value->World->Prop}(h:Rows P row args w R):RowsIn (FR l) 0 P row args w R:=fun c cs _=>
 let⟨v,w',r,s⟩:=h c cs;⟨v,w',r,stepsIn_wide.2 s⟩
theorem IP{o:Oper}{a:Act}{N N':Act->World->Prop}{r:Result Next}(hn:∀a w,N a w->N' a w)(h:o.upon P a N Q r):o.uponIn (FR l) 0 P a N' Q r:=by
 cases r with
 |ok x w'=>
  cases x with
  |value v=>exact hn _ _ h
  |skip=>exact hn _ _ h
  |defer d=>exact hn _ _ h
  |enter f args=>
   refine⟨fun _=>by simp[Fence.wide]at *,CallsIn.inRound l (callsIn_wide.2 (h.mono fun e w hh=>?_))⟩;cases e with
   |returned v=>exact hn _ _ hh
   |panicked c=>exact hh
   |outgrown=>exact hh
  |row row args=>exact⟨fun _=>by simp[Fence.wide]at *,(I4 h).mono fun v w hh=>hn _ _ hh⟩
  |_=>exact h.elim
 |halt s w'=>
  cases s with
  |panic v=>exact h
  |_=>exact h.elim
theorem wD{o:Oper}{a:Act}{w:World}{N N':Act->World->Prop}(hd:kq o=true)(hn:∀a w,N a w->N' a w)(h:o.wp P a w N Q):o.wpIn (FR l) 0 P a w N' Q:=
 ⟨fun _ _=>trivial,by
  show o.uponIn (FR l) 0 P a N' Q ((o.semAt (some l) a.eval).run P w)
  rw[Oper.semAt_some l _ _ (C4 hd)]
  exact IP hn h⟩
theorem oZ(hQ:∀a w,¬Q .outgrown a w):∀{os:List Oper} (_:os.all kq=true) {a:Act} {w:World},wpList P ops Q os a w->wpListIn (FR l) 0 P ops Q os a w
 |[],_,_,_,h=>h
 |o::os,hd,a,w,h=>by
  simp only[List.all_cons,aW]at hd;unfold wpList at h;unfold wpListIn;split
  ·rename_i hw;rw[if_pos hw]at h;rcases h with h|⟨_,a0,w0,h⟩
   ·exact wD hd.1 (fun a w hh=>oZ hQ hd.2 hh) h
   ·exact absurd h (hQ _ _)
  ·rename_i hw;rw[if_neg hw]at h;exact⟨fun _ _=>trivial,oZ hQ hd.2 h⟩
theorem nN(hQ:∀a w,¬Q .outgrown a w)(hd:ops.toList.all kq=true):∀{s:List Nat} {a:Act} {w:World},wpOps P ops Q s a w->wpOpsIn (FR l) 0 P ops Q s a w
 |[],_,_,h=>h
 |i::s,a,w,h=>by
  unfold wpOps at h;unfold wpOpsIn;cases ho:ops[i]? with
  |none=>rw[ho]at h;exact nN hQ hd h
  |some o=>
   rw[ho]at h;simp only at h ⊢;split
   ·rename_i hw;rw[if_pos hw]at h;rcases h with h|⟨_,a0,w0,h⟩
    ·exact wD (aG.1 hd o (Array.mem_toList_iff.2 (Array.mem_of_getElem? ho))) (fun a w hh=>nN hQ hd hh) h
    ·exact absurd h (hQ _ _)
   ·rename_i hw;rw[if_neg hw]at h;exact⟨fun _ _=>trivial,nN hQ hd h⟩
theorem uV{id:Nat}{a:Act}{w:World}(ks:List Kd)(ord:List Nat)(pg:P.follows .mixedOrders=true)(ku:W6 ops ks ord=true)(hQ:∀a w,¬Q .outgrown a w)(hd:ops.toList.all kq=true)(h:ib P ops Q (ord.map (item ops ks)) a w.drew):(Code.region id ops true).wpIn (FR l) 0 P Q a w:=by
 simp only[W6,aW]at ku;obtain⟨hb,ha,fZ,dI,hp⟩:=ku;refine wpIn_region_draw fun t=>nN hQ hd ?_
 have hv:Valid ops (Region.schedule (P.follows .mixedOrders) ops t):=jm _ pg _ _ fun i o ho d hd=>by
  have hi:i<ops.size:=(Array.getElem?_eq_some_iff.1 ho).1
  have h1:=aG.1 (aG.1 hb i (bz.2 hi)) d (by
   have :ops.toList.getD i default=o:=by
    simp[Array.getElem?_eq_getElem hi]at ho ⊢;simp[ho]
   rw[this];exact hd)
  simpa[Nat.blt_eq]using h1
 generalize Region.schedule (P.follows .mixedOrders) ops t=l at hv ⊢;refine tt hb ha hv l [] ord rfl (fun x=>?_) hp a _ h;rw[hv.2.1 x];constructor
 ·intro hx;simpa[Nat.blt_eq]using aG.1 dI x hx
 ·intro hx;exact List.contains_iff_mem.1 (aG.1 fZ x (bz.2 hx))
end
def KR (l:Nat) (P:Program) (c:Code) (Q:Exit->Act->World->Prop) (n:Nat) (D:List Deferred) (w0:World) (G:Env) (L:List HP):Prop:=
 ∀a w,ct n D G a->St w0 L w->c.wpIn (FR l) 0 P Q a w
section
variable {P:Program} {ops:Array Oper} {Q:Exit->Act->World->Prop} {n l:Nat} {D:List Deferred} {w0:World} {G G':Env} {L L' R:List HP} {c x y:Code} {e:Exit}
theorem KR.FA{id:Nat}{os:List Oper}(hd:os.all kq=true)(hQ:∀a w,¬Q .outgrown a w)(h:KO P os.toArray false Q n D w0 G L (wr os)):KR l P (.region id os.toArray false) Q n D w0 G L:=fun a w ha hw=>by
 have :=h a w ha hw;simp only[Fh,Fa]at this;exact wpIn_region_lit (oZ hQ hd this)
theorem KR.draw{id:Nat}(ks:List Kd)(ord:List Nat)(pg:P.follows .mixedOrders=true)(ku:W6 ops ks ord=true)(hd:ops.toList.all kq=true)(hQ:∀a w,¬Q .outgrown a w)(h:KO P ops true Q n D w0 G L (ord.map (item ops ks))):KR l P (.region id ops true) Q n D w0 G L:=fun a _ ha hw=>
 uV ks ord pg ku hQ hd (h a _ ha hw.drew)
theorem KR.seq(h:KR l P x (Exit.then (y.wpIn (FR l) 0 P Q) Q) n D w0 G L):KR l P (.seq x y) Q n D w0 G L:=fun a w ha hw=>wpIn_seq (h a w ha hw)
theorem KR.block{id:Nat}(h:KR l P x (Exit.inBlock id Q) n D w0 G L):KR l P (.block id x) Q n D w0 G L:=fun a w ha hw=>wpIn_block (h a w ha hw)
theorem KR.ret(h:KQ Q .ret n D w0 G L):KR l P .ret Q n D w0 G L:=fun a w ha hw=>wpIn_ret (h a w ha hw)
theorem KR.skip(h:KQ Q .normal n D w0 G L):KR l P .skip Q n D w0 G L:=fun a w ha hw=>wpIn_skip (h a w ha hw)
theorem KR.exit{id:Nat}(h:KQ Q (.exit id) n D w0 G L):KR l P (.exit id) Q n D w0 G L:=fun a w ha hw=>wpIn_exit (h a w ha hw)
theorem KR.cond{cd:Operand}{b:Bool}(hc:ev G cd=some (.bool b))(ht:b=true->KR l P x Q n D w0 G L)(hf:b=false->KR l P y Q n D w0 G L):KR l P (.cond cd x y) Q n D w0 G L:=fun a w ha hw=>
 wpIn_cond_split (ha.eval hc) (fun e=>ht e a w ha hw) (fun e=>hf e a w ha hw)
theorem KR.cA{cd:Operand}{b:Bool}(hc:ev G cd=some (.bool b))(hb:b=true)(h:KR l P x Q n D w0 G L):KR l P (.cond cd x y) Q n D w0 G L:=
 KR.cond hc (fun _=>h) (fun e=>by rw[hb]at e;cases e)
theorem KR.cP{cd:Operand}{b:Bool}(hc:ev G cd=some (.bool b))(hb:b=false)(h:KR l P y Q n D w0 G L):KR l P (.cond cd x y) Q n D w0 G L:=
 KR.cond hc (fun e=>by rw[hb]at e;cases e) (fun _=>h)
theorem KQ.r_(h:KR l P y Q n D w0 G L):KQ (Exit.then (y.wpIn (FR l) 0 P Q) Q) .normal n D w0 G L:=h
theorem KR.conv(hs:∀w,St w0 L w->St w0 L' w)(h:KR l P c Q n D w0 G L'):KR l P c Q n D w0 G L:=fun a w ha hw=>h a w ha (hs w hw)
theorem KR.loop{α:Type}(E:α->Env)(H:α->List HP)(φ:α->Prop)(m:α->Nat)(x0:α)(h0:φ x0)(hG:BZ G (E x0))(hL:∀w,St w0 L w->St w0 (H x0) w)(round:∀x,φ x->KR l P c (Exit.then (OE n D w0 E H φ m x) Q) n D w0 (E x) (H x)):KR l P (.loop c) Q n D w0 G L:=fun a w ha hw=>by
 intro b k cs hro hb hr;have key:∀(N:Nat) (x:α) (a:Act) (w:World),m x<N->φ x->ct n D (E x) a->St w0 (H x) w->
  ∃e a' w',Q e a' w'/\ArrivesIn (Machine.fenced P (FR l)) P (lone (b.atR a (.code c::.inLoop c::k)) cs w) b k cs e a' w':=by
  intro N
  induction N with
  |zero=>intro x a w h;omega
  |succ N ih=>
   intro x a w dI hx ha hw;obtain⟨e,a₁,w₁,hq,DS⟩:=round x hx a w ha hw b (.inLoop c::k) cs hro hb hr;cases e with
   |normal=>
    obtain⟨y,hy,UU,rJ,hw'⟩:=hq;obtain⟨e₂,a₂,w₂,hq₂,Zz⟩:=ih y a₁ w₁ ae hy rJ hw';exact⟨e₂,a₂,w₂,hq₂,.of_steps (StepsIn.trans DS (.one (fenced_calm hb hr rfl) stepR_inLoop)) Zz⟩
   |exit id=>exact⟨_,a₁,w₁,hq,.pass (x:=.inLoop c) rfl (fun _ _=>.inl aj) DS⟩
   |goto l=>exact⟨_,a₁,w₁,hq,.pass (x:=.inLoop c) rfl (fun _ _=>.inl aj) DS⟩
   |ret=>exact⟨_,a₁,w₁,hq,.pass (x:=.inLoop c) rfl (fun _ _=>.inl aj) DS⟩
   |panic ch=>exact⟨_,a₁,w₁,hq,.pass (x:=.inLoop c) rfl (fun _ _=>.inl aj) DS⟩
   |outgrown=>exact⟨_,a₁,w₁,hq,.pass (x:=.inLoop c) rfl (fun _ _=>.inl aj) DS⟩
 obtain⟨e,a',w',hq,DS⟩:=key (m x0+1) x0 a w (Nat.lt_succ_self _) h0 (ha.sub hG) (hL w hw);exact⟨e,a',w',hq,.of_steps (.one (fenced_calm hb hr rfl) stepR_loop) DS⟩
end
def Kv (b:Nat):Deferred:={target:=.collected b,args:=#[]}
theorem St.put{w0 w:World}{L:List HP}{b:Nat}{o:Obj}(h:St w0 (bD b o::L) w)(o':Obj):St w0 (bD b o'::L) (w.putObj b o'):=
 h.upd rfl rfl rfl aj (World.putObj_heap_same h.lt) fun k hk=>World.putObj_heap_other hk
section
variable {P:Program} {f:FuncId} {args:Array Value} {w0:World} {L M M' KL:List HP} {R:Value->List HP->Prop} {fn:Func} {n:Nat} {G:Env} {RE:Ending->World->Prop} {v v1 v2:Value} {t1 t2:Nat} {T T' E E':TypeId} {b1 b2:Nat} {cs vp:List Value} {fz fz':Nat×Nat}
theorem KE.mkM{c:Code}(hf:P.funcs[f]? =some fn)(hb:fn.body=some c)(hn:fn.ntmps=n)(cj:args.size<=n)(h:∀w,St w0 L w->K P c (bodyPostM Fence.wide 0 P fn fun e w'=> ∃v L',e=.returned v/\R v L'/\St w0 L' w'/\Below w.heap.size w w') n [] w (jW 0 args.toList) []):KE P f args w0 L R:=fun w hw=>by
 subst hn;exact callsIn_wide.1 (callsIn_of_wp_marks (n:=0) hf hb trivial (wpIn_wide.2 (h w hw _ w (ct.enter cj) (St.init w))))
theorem KQ.aac(hr:∀a w,ct n [] G a->St w0 L w->(results fn a.tmps).run P w=.ok v w)(h:∀w,St w0 L w->RE (.returned v) w):KQ (bodyPostM Fence.wide 0 P fn RE) .ret n [] w0 G L:=fun a w ha hw=>by
 show LeavesInM _ _ _ _ _ _ a.defers _ _
 rw[ha.defers];exact⟨v,hr a w ha hw,h w hw⟩
theorem KQ.S5{b:Nat}(hp:bC L (bD b (.deferred (some []))) M)(hr:∀a w,ct n [Kv b] G a->St w0 M w->(results fn a.tmps).run P w=.ok v w)(h:∀w,St w0 M w->RE (.returned v) w):KQ (bodyPostM Fence.wide 0 P fn RE) .ret n [Kv b] w0 G L:=fun a w ha hw=>by
 show LeavesInM _ _ _ _ _ _ a.defers _ _
 rw[ha.defers];have h1:=hw.pick hp;have h2:=(h1.put (.deferred none)).drop;exact⟨by simp,.inl ⟨b,_,rfl,run_takeDeferred h1.look.2,v,hr a _ ha h2,h _ h2⟩⟩
theorem Sw{D:List Deferred}(hr:fn.results=#[.cell t1 T,.cell t2 T'])(h1:cF G t1=some (.pointer (some ⟨b1,0,none⟩)))(h2:cF G t2=some (.pointer (some ⟨b2,0,none⟩)))(hT:∀w,(isAgg T).run P w=.ok false w)(ZE:∀w,(isAgg T').run P w=.ok false w)(hp:bC L (bD b1 (.cells [v1].toArray E fz)) M)(E0:bC L (bD b2 (.cells [v2].toArray E' fz')) M')(a:Act)(w:World)(ha:ct n D G a)(hw:St w0 L w):
 (results fn a.tmps).run P w=.ok (.tuple #[v1,v2]) w:=by
 have l1:(loadVar T ⟨b1,0,none⟩).run P w=.ok v1 w:=fb (hT w) (by rw[World.cell?,(hw.lK hp).2];simp);have l2:(loadVar T' ⟨b2,0,none⟩).run P w=.ok v2 w:=fb (ZE w) (by rw[World.cell?,(hw.lK E0).2];simp);simp[results,hr,Array.getD_eq_getD_getElem?,ha.get _ _ h1,ha.get _ _ h2,asAddr,l1,l2]
theorem KQ.T6(hr:fn.results=#[.cell t1 T,.cell t2 T'])(h1:cF G t1=some (.pointer (some ⟨b1,0,none⟩)))(h2:cF G t2=some (.pointer (some ⟨b2,0,none⟩)))(hT:∀w,(isAgg T).run P w=.ok false w)(ZE:∀w,(isAgg T').run P w=.ok false w)(hp:bC L (bD b1 (.cells [v1].toArray E fz)) M)(E0:bC L (bD b2 (.cells [v2].toArray E' fz')) M')(h:∀w,St w0 L w->RE (.returned (.tuple #[v1,v2])) w):
 KQ (bodyPostM Fence.wide 0 P fn RE) .ret n [] w0 G L:=KQ.aac (fun a w ha hw=>Sw hr h1 h2 hT ZE hp E0 a w ha hw) h
theorem KQ.vS{b:Nat}(hd:bC L (bD b (.deferred (some []))) KL)(hr:fn.results=#[.cell t1 T,.cell t2 T'])(h1:cF G t1=some (.pointer (some ⟨b1,0,none⟩)))(h2:cF G t2=some (.pointer (some ⟨b2,0,none⟩)))(hT:∀w,(isAgg T).run P w=.ok false w)(ZE:∀w,(isAgg T').run P w=.ok false w)(hp:bC KL (bD b1 (.cells [v1].toArray E fz)) M)(E0:bC KL (bD b2 (.cells [v2].toArray E' fz')) M')(h:∀w,St w0 KL w->RE (.returned (.tuple #[v1,v2])) w):
 KQ (bodyPostM Fence.wide 0 P fn RE) .ret n [Kv b] w0 G L:=KQ.S5 hd (fun a w ha hw=>Sw hr h1 h2 hT ZE hp E0 a w ha hw) h
end
section
variable {P:Program} {Q:Exit->Act->World->Prop} {n:Nat} {D:List Deferred} {w0:World} {G:Env} {L M:List HP}
theorem K.rangeFunc{g:Operand}{ps:Array Tmp}{assign body:Code}{gf:Nat}{cap:Array Value}(hg:ev G g=some (.func (.func gf) #[] cap))(eg:∀args w,(callFunc gf args).run P w=.ok (.enter gf args) w)(h:∀(fn:FuncId) (tm:Array Value) (b l:Nat),ct n D G {tmps:=tm,defers:=D}->∀w,St w0 (bD l (.loop ⟨.ready,none,fn,tm,ps,assign,body,b⟩)::bD b (.deferred (some []))::L) w->
  Calls P gf (#[.func (.yield l) #[] #[]]++cap) w fun e w'=> ∃v L' st pe,e=.returned v/\st≠LoopState.busy/\St w0 (bD l (.loop ⟨st,pe,fn,tm,ps,assign,body,b⟩)::bD b (.deferred (some []))::L') w'/\
   (match pe with|none=>KQ Q .normal n (Kv b::D) w0 G (bD b (.deferred (some []))::L')|some c=>K P c Q n (Kv b::D) w0 G (bD b (.deferred (some []))::L'))):
 K P (.rangeFunc g ps assign body) Q n D w0 G L:=fun a w ha hw=>by
 refine wpIn_wide.1 (wpIn_rangeFunc (F:=Fence.wide) (n:=0) fun fn _=>?_);have h1:=(hw.alloc (.deferred (some []))).alloc (.loop {state:=.ready,pending:=none,fn,tmps:=a.tmps,params:=ps,assign,body,defers:=w.heap.size});rw[World.size_alloc]at h1;obtain⟨W1,Qz⟩:∃W1,(w.alloc (.deferred (some []))).alloc (.loop {state:=.ready,pending:=none,fn,tmps:=a.tmps,params:=ps,assign,body,defers:=w.heap.size})=W1:=⟨_,rfl⟩;rw[Qz]at h1;refine⟨w.heap.size+1,[Kv w.heap.size],W1,{target:=.fn (.func gf) cap,args:=#[.func (.yield (w.heap.size+1)) #[] #[]]},W1,gf,#[.func (.yield (w.heap.size+1)) #[] #[]]++cap,W1,by rw[<-Qz];exact run_enterLoop_outer _ _ _ _ _,?_,?_,?_,fun hh=>by simp[Fence.wide]at hh,?_⟩
 ·simp only[resolve,ha.eval hg];simp[go_sem]
 ·intro _ _;trivial
 ·simp[invoke,go_sem,eg]
 ·refine callsIn_wide.2 ((h fn a.tmps w.heap.size (w.heap.size+1) ⟨ha.size,rfl,ha.get⟩ _ h1).mono ?_);rintro e w' ⟨v,L',st,pe,rfl,kO,hs,hj⟩;have h2:=hs.put (.loop ⟨.exhausted,pe,fn,a.tmps,ps,assign,body,w.heap.size⟩);refine⟨pe,_,run_endLoop hs.look.2 kO,?_⟩;have ha2:ct n (Kv w.heap.size::D) G {a with defers:=[Kv w.heap.size]++a.defers}:=⟨ha.size,by rw[ha.defers];rfl,ha.get⟩;cases pe with
  |none=>exact hj _ _ ha2 h2.drop
  |some c=>exact wpIn_wide.2 (hj _ _ ha2 h2.drop)
end
def KY (P:Program) (l:Nat) (x:Value) (w0:World) (L:List HP) (Rt Rf:List HP->Prop):Prop:=
 ∀(N:List HP) (w:World),St w0 (L++N) w->YieldAt Fence.wide 0 P l #[x] w fun e w'=>(e=.returned (.bool true)/\∃L',Rt L'/\St w0 (L'++N) w')\/(e=.returned (.bool false)/\∃L',Rf L'/\St w0 (L'++N) w')
def OG (P:Program) (l:Nat) (body:Code) (R:Ending->World->Prop):Exit->Act->World->Prop:=
 Exit.then (fun a₁ w₁=> ∃w₂,(Instr.beginRound l).run P w₁=.ok () w₂/\body.wpIn (FR l) 0 P (roundPost P l R) a₁ w₂) (fun _ _ _=>False)
section
variable {P:Program} {Q:Exit->Act->World->Prop} {n l:Nat} {D:List Deferred} {w0:World} {G:Env} {L M:List HP} {x:Value} {Rt Rf:List HP->Prop} {R:Ending->World->Prop}
theorem ct.acL{tm:Array Value}{p:Nat}(h:ct n D G {tmps:=tm,defers:=D})(hp:Nat.blt p n=true)(v:Value):ct n [] ((p,v)::G) {tmps:=tm.setIfInBounds p v,defers:=[]}:=by
 have :=h.put p v (by simpa[Nat.blt_eq]using hp);exact⟨this.size,rfl,this.get⟩
theorem KY.mk{fn:FuncId}{tm:Array Value}{p b:Nat}{assign body:Code}(hk:ct n D G {tmps:=tm,defers:=D})(hp:Nat.blt p n=true)(h:∀N,KR l P assign (OG P l body fun e w'=>(e=.returned (.bool true)/\∃L',Rt L'/\St w0 (L'++N) w')\/(e=.returned (.bool false)/\∃L',Rf L'/\St w0 (L'++N) w')) n [] w0 ((p,x)::G)
  (bD l (.loop ⟨.ready,none,fn,tm,#[p],assign,body,b⟩)::(M++N))):
 KY P l x w0 (bD l (.loop ⟨.ready,none,fn,tm,#[p],assign,body,b⟩)::M) Rt Rf:=fun N w hw=>by
 refine⟨fn,_,assign,body,run_yield (args:=#[x]) hw.look.2 rfl,roundIn_of_wpIn (F:=Fence.wide) (n:=0) trivial ?_⟩;exact h N _ w (by simpa using hk.acL hp x) hw
theorem KQ.begin{rc:Loop}{body:Code}(hp:bC L (bD l (.loop rc)) M)(hs:rc.state=.ready)(h:KR l P body (roundPost P l R) n D w0 G (bD l (.loop {rc with state:=.busy})::M)):KQ (OG P l body R) .normal n D w0 G L:=fun a w ha hw=>
 have h1:=hw.pick hp
 ⟨_,run_beginRound h1.look.2 hs,h a _ ha (h1.put _)⟩
theorem KQ.goes{rc:Loop}(hp:bC L (bD l (.loop rc)) M)(h:∀w,St w0 (bD l (.loop {rc with state:=.ready,pending:=none})::M) w->R (.returned (.bool true)) w):KQ (roundPost P l R) .normal n D w0 G L:=fun a w ha hw=>
 have h1:=hw.pick hp
 ⟨_,_,run_endRound none h1.look.2,h _ (h1.put _)⟩
theorem KQ.leaves{rc:Loop}(hp:bC L (bD l (.loop rc)) M)(h:∀w,St w0 (bD l (.loop {rc with state:=.done,pending:=some .ret})::M) w->R (.returned (.bool false)) w):KQ (roundPost P l R) .ret n D w0 G L:=fun a w ha hw=>
 have h1:=hw.pick hp
 ⟨_,_,run_endRound (some .ret) h1.look.2,h _ (h1.put _)⟩
end
def oT (P:Program) (ops:Array Oper) (Q:Exit->Act->World->Prop) (n:Nat) (D:List Deferred) (w0:World) (G:Env) (L:List HP) (os:List Oper):Prop:=
 ∀a w,ct n D G a->St w0 L w->wpListIn Fence.wide 0 P ops Q os a w
section
variable {P:Program} {ops:Array Oper} {Q:Exit->Act->World->Prop} {n l t:Nat} {D:List Deferred} {w0:World} {G:Env} {L M N:List HP} {os:List Oper} {op:Op} {ty T T' E:TypeId} {pos:String} {af:Array Edge} {x y:Operand} {v:Value} {bb:Bool} {b off:Nat}
 {Rt Rf:List HP->Prop}
theorem K.Yk{id:Nat}{os:List Oper}(h:oT P os.toArray Q n D w0 G L os):K P (.region id os.toArray false) Q n D w0 G L:=fun a w ha hw=>wpIn_wide.1 (wpIn_region_lit (h a w ha hw))
theorem oT.nil(h:KQ Q .normal n D w0 G L):oT P ops Q n D w0 G L []:=h
theorem oT.val(hv:∀a w,ct n D G a->St w0 L w->(execOp a.eval ⟨some t,op,ty,pos,af,none⟩).run P w=.ok (.value v) w)(ht:Nat.blt t n=true)(h:oT P ops Q n D w0 ((t,v)::G) L os):oT P ops Q n D w0 G L (⟨some t,op,ty,pos,af,none⟩::os):=fun a w ha hw=>by
 refine wpListIn_plain rfl fun K hK=>⟨fun _ _=>trivial,?_⟩
 show Oper.uponIn _ _ _ _ _ _ _ ((execOp a.eval _).run P w)
 rw[hv a w ha hw];exact hK _ _ (h _ w (fQ ha v ht) hw)
theorem oT.mv(hx:ev G x=some v)(ht:Nat.blt t n=true)(h:oT P ops Q n D w0 ((t,v)::G) L os):oT P ops Q n D w0 G L (⟨some t,.move x,ty,pos,af,none⟩::os):=
 oT.val (fun a w ha _=>by simp[execOp,ha.eval hx]) ht h
theorem oT.not(hx:ev G x=some (.bool bb))(ht:Nat.blt t n=true)(h:oT P ops Q n D w0 ((t,.bool (!bb))::G) L os):oT P ops Q n D w0 G L (⟨some t,.unOp .not T x,ty,pos,af,none⟩::os):=
 oT.val (fun a w ha _=>by simp[execOp,ha.eval hx,Op.unary]) ht h
theorem oT.ld{cs:List Value}{fz:Nat×Nat}(hx:ev G x=some (.pointer (some ⟨b,off,none⟩)))(hT:∀w,(isAgg T).run P w=.ok false w)(hp:bC L (bD b (.cells cs.toArray E fz)) M)(hc:cs[off]? =some v)(ht:Nat.blt t n=true)(h:oT P ops Q n D w0 ((t,v)::G) L os):
 oT P ops Q n D w0 G L (⟨some t,.load T x,ty,pos,af,none⟩::os):=
 oT.val (fun a w ha hw=>by
  have iD:w.cell? ⟨b,off,none⟩=some v:=by rw[World.cell?,(hw.lK hp).2];simpa using hc
  simp[execOp,ha.eval hx,Instr.loadAt,Instr.sureAddr,fb (hT w) iD]) ht h
theorem oT.yield{ts:Array TypeId}{dst:Option Nat}(hx:ev G x=some (.func (.yield l) #[] #[]))(hy:ev G y=some v)(hY:KY P l v w0 M Rt Rf)(hs:∀w,St w0 L w->St w0 (M++N) w)(ht:∀L',Rt L'->∀a w,ct n D G a->St w0 (L'++N) w->wpListIn Fence.wide 0 P ops Q os (a.put dst (.bool true)) w)(hf:∀L',Rf L'->∀a w,ct n D G a->St w0 (L'++N) w->wpListIn Fence.wide 0 P ops Q os (a.put dst (.bool false)) w):
 oT P ops Q n D w0 G L (⟨dst,.call ⟨.value x,#[y],ts⟩,ty,pos,af,none⟩::os):=fun a w ha hw=>by
 refine wpListIn_plain rfl fun K hK=>⟨fun _ _=>trivial,?_⟩
 obtain⟨fn,tmps,assign,body,hy',hR⟩:=hY N w (hs w hw);have he:(execOp a.eval ⟨dst,.call ⟨.value x,#[y],ts⟩,ty,pos,af,none⟩).run P w=.ok (.round l fn tmps assign body) w:=by
  simp[execOp,resolve,ha.eval hx,ha.eval hy,Deferred.ofValue,invoke,hy']
 rw[show Oper.semAt Fence.wide.round a.eval ⟨dst,.call ⟨.value x,#[y],ts⟩,ty,pos,af,none⟩=execOp a.eval ⟨dst,.call ⟨.value x,#[y],ts⟩,ty,pos,af,none⟩from rfl,he];refine⟨fun hh=>by simp[Fence.wide]at hh,hR.mono ?_⟩;rintro e w' (⟨rfl,L',h1,h2⟩|⟨rfl,L',h1,h2⟩)
 ·exact hK _ _ (ht L' h1 a w' ha h2)
 ·exact hK _ _ (hf L' h1 a w' ha h2)
theorem oT.K_{ts:Array TypeId}(hx:ev G x=some (.func (.yield l) #[] #[]))(hy:ev G y=some v)(hY:KY P l v w0 M Rt Rf)(hs:∀w,St w0 L w->St w0 (M++N) w)(hb:Nat.blt t n=true)(ht:∀L',Rt L'->oT P ops Q n D w0 ((t,.bool true)::G) (L'++N) os)(hf:∀L',Rf L'->oT P ops Q n D w0 ((t,.bool false)::G) (L'++N) os):
 oT P ops Q n D w0 G L (⟨some t,.call ⟨.value x,#[y],ts⟩,ty,pos,af,none⟩::os):=
 oT.yield hx hy hY hs (fun L' h a w ha hw=>ht L' h _ w (fQ ha _ hb) hw) (fun L' h a w ha hw=>hf L' h _ w (fQ ha _ hb) hw)
end
open Go
def pieces (c:UInt8):List UInt8->List (List UInt8)
 |[]=>[[]]
 |b::l=>if b=c then[]::pieces c l else match pieces c l with|[]=>[[b]]|p::ps=>(b::p)::ps
theorem mX(c:UInt8):∀l,pieces c l≠[]
 |[]=>by simp[pieces]
 |b::l=>by
  unfold pieces;split
  ·simp
  ·split<;>simp
theorem pieces_eq(c:UInt8)(l:List UInt8):pieces c (c::l)=[]::pieces c l:=by rw[pieces,if_pos rfl]
theorem gJ{b c:UInt8}(h:b≠c){l p:List UInt8}{ps:List (List UInt8)}(e:pieces c l=p::ps):pieces c (b::l)=(b::p)::ps:=by rw[pieces,if_neg h,e]
theorem n5{c:UInt8}(r:List UInt8):∀{p:List UInt8},(∀b∈p,b≠c)->pieces c (p++c::r)=p::pieces c r
 |[],_=>pieces_eq c r
 |b::p,h=>gJ (h b aj) (n5 r (fun x hx=>h x sR))
theorem l7{c:UInt8}:∀{p:List UInt8},(∀b∈p,b≠c)->pieces c p=[p]
 |[],_=>rfl
 |b::p,h=>gJ (h b aj) (l7 (fun x hx=>h x sR))
theorem uw{c:UInt8}{l:List UInt8}(h:Lib.indexByte l c= -1):pieces c l=[l]:=l7 fun b hb e=>by
 subst e;obtain⟨i,hi,he⟩:=List.getElem_of_mem hb;exact Lib.indexByte_none h i (by rw[ao hi,he])
theorem qT{c:UInt8}{l:List UInt8}{i:Nat}(h:Lib.indexByte l c=i):pieces c l=l.take i::pieces c (l.drop (i+1)):=by
 obtain⟨h1,h2⟩:=Lib.indexByte_some h;obtain⟨dI,he⟩:=au.1 h1;have e:l=l.take i++c::l.drop (i+1):=by
  rw[<-he,List.getElem_cons_drop,List.take_append_drop]
 have :=n5 (c:=c) (l.drop (i+1)) (p:=l.take i) fun b hb e'=>by
  subst e';obtain⟨j,hj,hb⟩:=List.getElem_of_mem hb;rw[bp]at hj;have Xk:j<i:=by omega
  refine h2 j Xk ?_;rw[ao ae];simpa using hb
 rw[<-e]at this;exact this
theorem n4(c:UInt8):∀l,∀p∈pieces c l,∀b∈p,b≠c
 |[],p,hp,b,hb=>by simp[pieces]at hp;subst hp;simp at hb
 |a::l,p,hp,b,hb=>by
  by_cases h:a=c
  ·subst h;rw[pieces_eq]at hp;rcases aJ.1 hp with rfl|hp
   ·simp at hb
   ·exact n4 a l p hp b hb
  ·obtain⟨q,qs,e⟩:=List.exists_cons_of_ne_nil (mX c l);rw[gJ h e]at hp;rcases aJ.1 hp with rfl|hp
   ·rcases aJ.1 hb with rfl|hb
    ·exact h
    ·exact n4 c l q (by rw[e];simp) b hb
   ·exact n4 c l p (by rw[e];simp[hp]) b hb
theorem ux{c:UInt8}:∀{ps:List (List UInt8)},ps≠[]->(∀p∈ps,∀b∈p,b≠c)->pieces c (Lib.join ps [c])=ps
 |[],h,_=>absurd rfl h
 |[p],_,h=>by rw[Lib.join_one];exact l7 (h p aj)
 |p::q::r,_,h=>by
  rw[xB,aK]
  show pieces c (p++c::Lib.join (q::r) [c])=_
  rw[n5 _ (h p aj),ux aj (fun x hx=>h x (List.mem_cons_of_mem _ hx))]
theorem fR(c:UInt8):∀l,(pieces c l).length=l.count c+1
 |[]=>rfl
 |b::l=>by
  by_cases h:b=c
  ·subst h;rw[pieces_eq,List.length_cons,fR];simp
  ·obtain⟨q,qs,e⟩:=List.exists_cons_of_ne_nil (mX c l);have :=fR c l;rw[gJ h e];rw[e]at this;rw[List.count_cons_of_ne h];simpa using this
theorem qt(c:UInt8):∀(k:Nat) (l:List UInt8),l.count c=k->Lib.splitK [c] 0 k l=pieces c l
 |0,l,h=>by
  have :Lib.indexByte l c= -1:=by
   rcases Int.lt_or_le (Lib.indexByte l c) 0 with h1|h1
   ·have :=Lib.indexByte_ge l c;omega
   ·obtain⟨i,hi⟩:=Int.eq_ofNat_of_zero_le h1;have :=(Lib.indexByte_some hi).1;exact absurd (ax this) (List.count_eq_zero.1 h)
  rw[uw this];rfl
 |k+1,l,h=>by
  have hm:c∈l:=by
   rcases Decidable.em (c∈l)with hm|hm
   ·exact hm
   ·rw[List.count_eq_zero.2 hm]at h;cases h
  obtain⟨i,hi⟩:∃i:Nat,Lib.indexByte l c=i:=by
   rcases Int.lt_or_le (Lib.indexByte l c) 0 with h1|h1
   ·exfalso;have h2:Lib.indexByte l c= -1:=by have :=Lib.indexByte_ge l c;omega
    obtain⟨j,hj,he⟩:=List.getElem_of_mem hm;exact Lib.indexByte_none h2 j (by rw[ao hj,he])
   ·obtain⟨i,hi⟩:=Int.eq_ofNat_of_zero_le h1;exact⟨i,hi⟩
  have hx:Lib.index l [c]=i:=by rw[Lib.index_one];exact hi
  have kF:¬(Lib.index l [c]== -1)=true:=fun e=>by have :=beq_iff_eq.1 e;omega
  have hc:(l.drop (i+1)).count c=k:=by
   have h1:=fR c l;have h2:=qT hi;rw[h2]at h1;have h3:=fR c (l.drop (i+1));simp at h1;omega
  unfold Lib.splitK;rw[if_neg kF,hx,qT hi];simp only[aM,Nat.add_zero,List.length_cons,List.length_nil,Nat.zero_add];rw[qt c k _ hc]
def toB (l:List UInt8):ak:=⟨l.toArray⟩
theorem D7(l:List UInt8):(toB l).data.toList=l:=rfl
def cH (c:UInt8) (s:ak):List ak:=(pieces c s.data.toList).map toB
theorem VP{a b:ak}(h:a.data.toList=b.data.toList):a=b:=by
 apply ByteArray.ext;exact Array.ext' h
theorem CR(c:UInt8)(s:ak):(cH c s).map (·.data.toList)=pieces c s.data.toList:=by
 unfold cH;rw[List.map_map];conv=>rhs;rw[<-List.map_id (pieces c s.data.toList)]
 rfl
theorem C8{xs ys:List ak}(h:xs.map (·.data.toList)=ys.map (·.data.toList)):xs=ys:=by
 have h2:=congrArg (List.map toB) h;rw[List.map_map,List.map_map]at h2;have e:(toB∘fun x:ak=>x.data.toList)=id:=rfl;rw[e,List.map_id,List.map_id]at h2;exact h2
theorem I_(c:UInt8)(s:ak):Lib.splitB ⟨#[c]⟩ 0 (Lib.countB s ⟨#[c]⟩) s=cH c s:=by
 refine C8 ?_;rw[Lib.splitB_data,CR];have :Lib.countB s ⟨#[c]⟩=s.data.toList.count c:=Lib.count_one c s.data.toList;rw[this];exact qt c _ _ rfl
theorem PD(c:UInt8)(s:ak):(cH c s).length=Lib.countB s ⟨#[c]⟩+1:=by
 have :Lib.countB s ⟨#[c]⟩=s.data.toList.count c:=Lib.count_one c s.data.toList;rw[this];unfold cH;rw[aV,fR]
theorem Mb{c:UInt8}{s:ak}(h:Lib.indexByte s.data.toList c= -1):cH c s=[s]:=by
 unfold cH;rw[uw h];rfl
theorem PE{c:UInt8}{s:ak}{i:Nat}(h:Lib.indexByte s.data.toList c=i):cH c s=s.extract 0 i::cH c (s.extract (i+1) s.size):=by
 unfold cH;rw[qT h,aT];congr 1
 ·exact VP (Lib.extract_from_zero s i).symm
 ·rw[Lib.extract_to_end]
theorem xg{c:UInt8}{xs:List ak}(h0:xs≠[])(h:∀x∈xs,∀b∈x.data.toList,b≠c):cH c (cJ xs ⟨#[c]⟩)=xs:=by
 refine C8 ?_;rw[CR]
 show pieces c (Lib.join (xs.map (·.data.toList)) [c])=_
 exact ux XG (fun p hp b hb=>by obtain⟨x,hx,rfl⟩:=aD.1 hp;exact h x hx b hb)
theorem A3{c:UInt8}{s:ak}{i:Nat}(h:Lib.indexByte s.data.toList c=i):i<s.size:=by
 have :=(au.1 (Lib.indexByte_some h).1).1;rw[jE];exact this
theorem zC(c:UInt8):∀(l:List UInt8) (acc a:Nat),Lib.parseUint10 acc l=.ok a->Lib.parseUint10 acc (l++[c])=Lib.parseUint10 a [c]
 |[],acc,a,h=>by simp only[Lib.parseUint10]at h;injection h with h;subst h;rfl
 |b::l,acc,a,h=>by
  simp only[Lib.parseUint10,bn]at h ⊢;split at h
  ·rename_i h1;split at h
   ·cases h
   ·rename_i h2;split at h
    ·cases h
    ·rename_i h3;rw[if_pos h1,if_neg h2,if_neg h3,zC c l _ a h];rfl
  ·cases h
theorem pZ{d:Nat}(h:d<10):(UInt8.ofNat (48+d)).toNat=48+d:=by simp[UInt8.toNat_ofNat'];omega
theorem zB:∀(u:Nat),u<18446744073709551616->Lib.parseUint10 0 (Lib.decDigits u)=.ok u:=by
 intro u
 induction u using Nat.strongRecOn with
 |_ u ih=>
  intro hu;rw[Lib.decDigits];split
  ·rename_i h;have e:=pZ h;simp only[Lib.parseUint10,e];rw[if_pos ae,if_neg ae,if_neg ae];simp only[Lib.NumEnd.ok.injEq];omega
  ·rename_i h;have e:=pZ (d:=u%10) ae;rw[zC _ _ _ _ (ih (u/10) ae ae)];simp only[Lib.parseUint10,e];rw[if_pos ae,if_neg ae,if_neg ae];simp only[Lib.NumEnd.ok.injEq];omega
theorem Bp:∀(u:Nat),∀b∈Lib.decDigits u,48<=b.toNat/\b.toNat<=57:=by
 intro u
 induction u using Nat.strongRecOn with
 |_ u ih=>
  intro b hb;rw[Lib.decDigits]at hb;split at hb
  ·rename_i h;rw[List.mem_singleton.1 hb];have :=pZ h;omega
  ·rename_i h;rcases aP.1 hb with hb|hb
   ·exact ih (u/10) ae b hb
   ·rw[List.mem_singleton.1 hb];have :=pZ (d:=u%10) ae;omega
theorem Gy(u:Nat):Lib.decDigits u≠[]:=by
 rw[Lib.decDigits];split<;>simp
theorem Kf{n:Int}(h:jG n):Lib.atoiAll (bH n).data.toList=.ok n:=by
 obtain⟨h1,h2⟩:=h
 show Lib.atoiAll (Lib.itoa n)=_
 rcases Int.lt_or_le n 0 with h0|h0
 ·obtain⟨u,rfl⟩:∃u:Nat,n= -(u:Int):=⟨n.natAbs,by omega⟩;rw[Lib.itoa_neg u ae];have hp:Lib.parseMag (Lib.decDigits u)=.ok u:=by unfold Lib.parseMag;rw[if_neg (Gy u)];exact zB u ae
  simp only[Lib.atoiAll];rw[if_pos ai,hp];simp;omega
 ·obtain⟨u,rfl⟩:∃u:Nat,n=(u:Int):=⟨n.toNat,by omega⟩;rw[Lib.itoa_nonneg u];have hp:Lib.parseMag (Lib.decDigits u)=.ok u:=by unfold Lib.parseMag;rw[if_neg (Gy u)];exact zB u ae
  have hm:=Bp u;have kF:=Gy u
  revert hp hm kF
  cases Lib.decDigits u with
  |nil=>intro _ _ h;exact absurd rfl h
  |cons c r=>
   intro hp hm _;have hc:=hm c aj;simp only[Lib.atoiAll];rw[if_neg ae,hp];have :¬c.toNat=45:=by omega
   simp[this];omega
theorem xC{n:Int}:∀b∈(bH n).data.toList,b.toNat=45\/(48<=b.toNat/\b.toNat<=57):=fun b hb=>by
 have hb:b∈Lib.itoa n:=hb;unfold Lib.itoa at hb;split at hb
 ·rcases aJ.1 hb with rfl|hb
  ·exact .inl rfl
  ·exact .inr (Bp _ b hb)
 ·exact .inr (Bp _ b hb)
section
variable {P:Program} {ops:Array Oper} {d:Bool} {Q:Exit->Act->World->Prop} {n:Nat} {D:List Deferred} {w0:World} {G:Env} {L R:List HP} {l:List (Kd×Oper)} {k:Kd}
 {t:Nat} {ty T:TypeId} {pos:String} {af:Array Edge} {x y z:Operand} {s:ak} {i j:Nat} {a c:Int} {kk kk':IntKind}
theorem KO.LA(hx:ev G x=some (.string s))(hy:ev G y=some (.int kk a))(hT:P.underlying T=some .string)(ha:a=(i:Int))(hi:i<=s.size)(ht:Nat.blt t n=true)(h:KO P ops d Q n D w0 ((t,.string (s.extract 0 i))::G) L l):
 KO P ops d Q n D w0 G L ((k,⟨some t,.slice T x none (some y) none,ty,pos,af,none⟩)::l):=
 KO.val (fun a' w rJ=>by
  subst ha;have :=run_slice_string_to_if (P:=P) w T s kk (i:Int) hT;rw[if_pos ae]at this
  simp[execOp,rJ.eval hx,rJ.eval hy,run_sliceAt_string w T _ _ _ _ hT,this]) ht h
theorem KO.Pc(hx:ev G x=some (.string s))(hy:ev G y=some (.int kk a))(hT:P.underlying T=some .string)(ha:a=(i:Int))(hi:i<=s.size)(ht:Nat.blt t n=true)(h:KO P ops d Q n D w0 ((t,.string (s.extract i s.size))::G) L l):
 KO P ops d Q n D w0 G L ((k,⟨some t,.slice T x (some y) none none,ty,pos,af,none⟩)::l):=
 KO.val (fun a' w rJ=>by
  subst ha;have :=run_slice_string_from_if (P:=P) w T s kk (i:Int) hT;rw[if_pos ae]at this
  simp[execOp,rJ.eval hx,rJ.eval hy,run_sliceAt_string w T _ _ _ _ hT,this]) ht h
theorem KO.MO{cs:List Value}{len:Nat}{E:TypeId}{v:Value}(hx:ev G x=some (.agg cs.toArray))(hy:ev G y=some (.int kk a))(hT:P.underlying T=some (.array len E))(hA:∀w,(isAgg E).run P w=.ok false w)(hs:∀w,(Go.sizeOf E).run P w=.ok 1 w)(ha:a=(i:Int))(hi:i<len)(hv:cs[i]? =some v)(ht:Nat.blt t n=true)(h:KO P ops d Q n D w0 ((t,v)::G) L l):KO P ops d Q n D w0 G L ((k,⟨some t,.index T x y,ty,pos,af,none⟩)::l):=
 KO.val (fun a' w rJ=>by
  subst ha;have h1:(0:Int)<=(i:Int)/\(i:Int)<(len:Int):=⟨by omega,by omega⟩;have h2:cs.toArray[i]? =some v:=by simpa using hv
  simp[execOp,rJ.eval hx,rJ.eval hy,Instr.index,asIntOf,run_underlying hT,h1,hs w,part,hA w,hi,hv]
  ) ht h
end
theorem oS.tf{α:Type}{w0 w:World}{L R:List HP}{E:TypeId}{cf:α->List Value}{sz:Nat}{xs:List α}{v:Value}(cj:∀e,(cf e).length=sz)(hp:bC L (SL E sz cf v xs) R)(hw:St w0 L w):oS w sz cf v xs:=by
 obtain⟨a,cap,h1,h2,h3⟩:=B2.of cj hp w hw;refine⟨a,cap,h1,fun i x hx=>?_⟩;have hl:=(au.1 hx).1;obtain⟨g,rfl⟩:=h2 ae;exact⟨_,rfl,by rw[Addr.add_lit,Nat.zero_add];exact h3 g rfl i x hx⟩
end WB
namespace Go.Proofs.YtjhogocabcdjbabGreatDoor
open Tryz
open Go Go.RowKit WB
theorem St.pH{w0 w:World}{A B:List HP}(h:St w0 (A++B) w):St w0 (B++A) w:=h.jw fun _ x=>dD.2 (Cz (dD.1 x))
def itV (b4 b3 b5:Nat):Value:=.func (.func 274) #[] #[.pointer (some ⟨b4,0,none⟩),.pointer (some ⟨b3,0,none⟩),.pointer (some ⟨b5,0,none⟩)]
def uE (b4 b3 b5:Nat) (s sep:ak):List HP:=[bD b3 (.cells [.string s].toArray 9 (0,0)),bD b4 (.cells [.string sep].toArray 9 (0,0)),bD b5 (.cells [.int .i64 0].toArray 3 (0,0))]
theorem TN(w0:World)(L:List HP)(s sep:ak):KE prog 199 #[.string s,.string sep,.int .i64 0] w0 L (fun u M=> ∃b4 b3 b5,u=itV b4 b3 b5/\M=uE b4 b3 b5 s sep++L):=by
 refine KE.mk (n:=8) func199 rfl ntmps199 aj ?_;intro w hw;refine Z2 ?_;refine KO.box rfl rfl aL rfl ?_;intro b3;refine KO.box rfl rfl aL rfl ?_;intro b4;refine KO.box rfl rfl aL rfl ?_;intro b5;refine qm ?_;refine Ep ?_;refine fK ?_;refine KQ.a_ rfl rfl (fun w' hs=>⟨_,_,rfl,⟨_,_,_,rfl,rfl⟩,hw.stack (M:=uE b4 b3 b5 s sep) (by unfold uE;exact hs.all Y3),hs.below⟩)
theorem Sg(w0:World)(L:List HP)(s sep:ak):KE prog 113 #[.string s,.string sep] w0 L (fun u M=> ∃b4 b3 b5,u=itV b4 b3 b5/\M=uE b4 b3 b5 s sep++L):=by
 refine KE.mk (n:=8) func113 rfl ntmps113 aj ?_;intro w hw;refine BI ?_;refine KO.ce (cp:=[]) rfl rfl rfl call199 rfl (TN w _ s sep) ?_;rintro v' L' ⟨b4,b3,b5,rfl,rfl⟩;refine fK ?_;refine KQ.a_ rfl rfl (fun w' hs=>⟨_,_,rfl,⟨_,_,_,rfl,rfl⟩,hw.stack (M:=uE b4 b3 b5 s sep) (by simpa using hs),hs.below⟩)
theorem P5(w0:World)(L:List HP)(s:ak)(c:UInt8):KE prog 276 #[.string s,.string ⟨#[c]⟩] w0 L (fun u M=>u=.int .i64 (Lib.indexByte s.data.toList c)/\M=L):=
 KE.bB fun w hw=>(Tryz.strings_Index_one s c w).mono fun e w' h=>⟨h.1,by rw[h.2];exact Below.refl _ _⟩
theorem Ut(w0:World)(l:Nat)(c:UInt8)(s:ak)(cj:s.size<=4294967280)(b4 b3 b5:Nat)(J:Nat->List HP->Prop)(X:List HP->Prop)(hY:∀k p L,(cH c s)[k]? =some p->J k L->KY prog l (.string p) w0 L (J (k+1)) X)(L:List HP)(h0:J 0 L):
 KC prog 274 #[.func (.yield l) #[] #[],.pointer (some ⟨b4,0,none⟩),.pointer (some ⟨b3,0,none⟩),.pointer (some ⟨b5,0,none⟩)] w0 (uE b4 b3 b5 s ⟨#[c]⟩++L) (fun v M=> ∃s' M',M=uE b4 b3 b5 s' ⟨#[c]⟩++M'/\(J (cH c s).length M'\/X M')):=by
 unfold uE;refine KC.mk (n:=52) func274 rfl ntmps274 aj ?_;refine oQ ?_;simp only[bn,List.nil_append];refine dC ?_;refine rE ?_;refine ze ?_;refine sI ?_;refine K.cP rfl (by rfl) ?_;refine K.skip ?_
 repeat with_reducible refine KQ.next ?_
 refine K.seq ?_;have iW:∀r k,(cH c s).drop k=cH c r->Lib.indexByte r.data.toList c= -1->(cH c s)[k]? =some r/\k+1=(cH c s).length:=fun r k h1 h2=>by
  rw[Mb h2]at h1;have h3:(cH c s)[k]? =some r:=by
   have :=congrArg (fun l=>l[0]?) h1;simpa using this
  have h4:=congrArg List.length h1;have h5:=(au.1 h3).1;simp at h4;exact⟨h3,by omega⟩
 refine K.cut (fun y:Nat×ak×List HP=>[(0,.func (.yield l) #[] #[]),(2,.pointer (some ⟨b3,0,none⟩))]) (fun y=>uE b4 b3 b5 y.2.1 ⟨#[c]⟩++y.2.2) (fun y=>J y.1 y.2.2/\(cH c s)[y.1]? =some y.2.1/\y.1+1=(cH c s).length) ?_ ?_
 ·refine K.block ?_;refine K.loop (fun y:Nat×ak×List HP=>[(0,.func (.yield l) #[] #[]),(1,.pointer (some ⟨b4,0,none⟩)),(2,.pointer (some ⟨b3,0,none⟩)),(3,.pointer (some ⟨b5,0,none⟩))]) (fun y=>uE b4 b3 b5 y.2.1 ⟨#[c]⟩++y.2.2)
   (fun y=>J y.1 y.2.2/\(cH c s).drop y.1=cH c y.2.1/\y.2.1.size<=4294967280) (fun y=>y.2.1.size) (0,s,L) ⟨h0,rfl,cj⟩ ⟨rfl,rfl,rfl,rfl,trivial⟩ (fun _ h=>h) ?_
  rintro⟨k,r,M⟩ ⟨hJ,hd,UM⟩;dsimp only at hJ hd UM ⊢;simp only[uE,bn,List.nil_append]
  repeat(first|(with_reducible refine K.seq ?_)|(with_reducible refine K.block ?_))
  refine dC ?_;refine qn ?_;refine rE ?_;refine KO.ce (cp:=[]) rfl rfl rfl call276 rfl (P5 w0 _ r c) ?_;rintro v' L' ⟨rfl,rfl⟩;refine kQ ?_;refine Eo ?_;refine K.bI rfl (fun h1=>?_) (fun h1=>?_)
  ·have h2:Lib.indexByte r.data.toList c= -1:=by have :=Lib.indexByte_ge r.data.toList c;omega
   obtain⟨h3,h4⟩:=iW r k hd h2
   repeat(first|(with_reducible refine KQ.iZ ?_)|(with_reducible refine KQ.kD ?_)|(refine KQ.Ec rfl ?_)|(with_reducible refine K.exit ?_))
   exact KQ.qc (k,r,M) ⟨hJ,h3,h4⟩ ⟨rfl,rfl,trivial⟩ (fun _ h=>by simpa[uE]using h)
  ·obtain⟨i,hi⟩:∃i:Nat,Lib.indexByte r.data.toList c=i:=⟨(Lib.indexByte r.data.toList c).toNat,by omega⟩;have dI:=A3 hi;have hp:=PE hi;rw[hp]at hd;have hk:(cH c s)[k]? =some (r.extract 0 i):=by
    have :=congrArg (fun l=>l[0]?) hd;simpa using this
   have U9:(cH c s).drop (k+1)=cH c (r.extract (i+1) r.size):=by
    rw[<-List.drop_drop,hd];rfl
   have tM:(⟨#[c]⟩:ak).size=1:=rfl;rw[hi];refine oR ?_;refine qn ?_;refine Z1 ?_;refine E8 ?_;refine uS ?_;refine KO.LA (i:=i) rfl rfl underlying9 aj ae rfl ?_;refine jH ?_;refine K.Yk ?_;refine oT.mv rfl rfl ?_;refine oT.mv rfl rfl ?_;refine oT.K_ (N:=uE b4 b3 b5 r ⟨#[c]⟩) rfl rfl (hY k _ M hk hJ) (fun w hw=>St.pH hw) rfl (fun L' hL=>?_) (fun L' hL=>?_)
   ·refine oT.not rfl rfl ?_;refine oT.nil ?_;refine KQ.next ?_
    refine uj ?_;refine ES ?_;refine K.conv (fun w hw=>(St.pH hw:St w0 (uE b4 b3 b5 r ⟨#[c]⟩++L') w)) ?_
    simp only[uE,bn,List.nil_append];refine dC ?_;refine qn ?_;refine Z1 ?_;refine rE ?_;refine ze ?_;refine KO.add rfl rfl (show(i:Int)+(⟨#[c]⟩:ak).size=(i+1:Nat)by rw[tM];rfl) ae rfl ?_;refine KO.Pc (i:=i+1) rfl rfl underlying9 rfl ae rfl ?_;refine KO.lC rfl rfl rfl aL WL aL bE aL ?_;refine yD ?_;refine KQ.round (k+1,r.extract (i+1) r.size,L') ⟨hL,U9,by simp;omega⟩ fV ⟨rfl,rfl,rfl,rfl,trivial⟩ (fun _ h=>by simpa[uE]using h)
   ·refine oT.not rfl rfl ?_;refine oT.nil ?_;refine KQ.next ?_
    refine sH ?_
    repeat(first|(with_reducible refine KQ.mQ ?_)|(with_reducible refine KQ.wo ?_)|(with_reducible refine K.ret ?_))
    exact KQ.T7 rfl (fun w' hs=>⟨_,_,rfl,⟨r,L',rfl,.inr hL⟩,St.pH hs⟩)
 ·rintro⟨k,r,M⟩ ⟨hJ,hk,qB⟩;dsimp only at hJ hk qB ⊢;refine K.Yk ?_;refine oT.mv rfl rfl ?_;refine oT.ld (b:=b3) (off:=0) (cs:=[.string r]) rfl isAgg9 (by unfold uE;exact .head) rfl rfl ?_;refine oT.K_ (N:=uE b4 b3 b5 r ⟨#[c]⟩) rfl rfl (hY k _ M hk hJ) (fun w hw=>St.pH hw) rfl (fun L' hL=>?_) (fun L' hL=>?_)
  ·refine oT.nil ?_;rw[qB]at hL;exact KQ.tU rfl (fun w' hs=>⟨_,_,rfl,⟨r,L',rfl,.inl hL⟩,St.pH hs⟩)
  ·refine oT.nil ?_;exact KQ.tU rfl (fun w' hs=>⟨_,_,rfl,⟨r,L',rfl,.inr hL⟩,St.pH hs⟩)
theorem St.wL{w0 w:World}{A B C:List HP}(h:St w0 (A++(B++C)) w):St w0 (B++(A++C)) w:=h.jw fun _ x=>
 dD.2 (fY (fun _ x=>x) (fun _ x=>dD.2 x) (wU (fY (fun _ x=>x) (fun _ x=>dD.1 x) (dD.1 x))))
theorem St.Iw{w0 w:World}{A B:List HP}(h:St w0 (A++B) w):St w0 B w:=(St.zO h).drop
theorem K.CJ{Q:Exit->Act->World->Prop}{n:Nat}{D:List Deferred}{w0:World}{G2:ak->Env}{G0:Env}{g:Operand}{p:Nat}{assign body:Code}{b4 b3 b5:Nat}{c:UInt8}{s:ak}{L:List HP}(C:Nat->List HP->Prop)(X:List HP->Prop)(hg:ev G0 g=some (itV b4 b3 b5))(hp:Nat.blt p n=true)(cj:s.size<=4294967280)(h0:C 0 L)(ha:∀(l:Nat) (N:List HP) q,KR l prog assign (Exit.then (WS n [] w0 (fun _:Unit=>G2 q) (fun _=>N) (fun _=>True)) (fun _ _ _=>False)) n [] w0 ((p,.string q)::G0) N)(hb:∀k q M (l:Nat) (N:List HP) (RQ:Exit->Act->World->Prop),(cH c s)[k]? =some q->C k M->(∀a w,¬RQ .outgrown a w)->(∀M' G',C (k+1) M'->KQ RQ .normal n [] w0 G' (M'++N))->(∀M' G',X M'->KQ RQ .ret n [] w0 G' (M'++N))->
  KR l prog body RQ n [] w0 (G2 q) (M++N))(Zq:∀b M,C (cH c s).length M->KQ Q .normal n (Kv b::D) w0 G0 (bD b (.deferred (some []))::M))(YN:∀b M,X M->KQ Q .ret n (Kv b::D) w0 G0 (bD b (.deferred (some []))::M)):
 K prog (.rangeFunc g #[p] assign body) Q n D w0 G0 (uE b4 b3 b5 s ⟨#[c]⟩++L):=by
 refine K.rangeFunc hg call274 fun fn tm b l hk w hw=>?_
 have hY:∀k q L',(cH c s)[k]? =some q->(∃M,C k M/\L'=bD l (.loop ⟨.ready,none,fn,tm,#[p],assign,body,b⟩)::bD b (.deferred (some []))::M)->
  KY prog l (.string q) w0 L' (fun L'=> ∃M,C (k+1) M/\L'=bD l (.loop ⟨.ready,none,fn,tm,#[p],assign,body,b⟩)::bD b (.deferred (some []))::M)
   (fun L'=> ∃M,X M/\L'=bD l (.loop ⟨.done,some .ret,fn,tm,#[p],assign,body,b⟩)::bD b (.deferred (some []))::M):=by
  rintro k q _ hq ⟨M,hM,rfl⟩;refine KY.mk hk hp fun N=>?_
  intro a w' rJ hw';refine Go.wpIn_mono (ha l _ q a w' rJ hw') ?_;rintro e a2 w2 hh;cases e with
  |normal=>
   obtain⟨_,_,ha2,MQ⟩:=hh;refine KQ.begin (G:=G2 q) .head rfl ?_ a2 w2 ha2 MQ;refine KR.conv (L':=M++(bD l (.loop ⟨.busy,none,fn,tm,#[p],assign,body,b⟩)::bD b (.deferred (some []))::N)) (fun w hw=>St.wL (A:=[bD l (.loop ⟨.busy,none,fn,tm,#[p],assign,body,b⟩),bD b (.deferred (some []))]) hw) ?_
   refine hb k q M l _ _ hq hM (fun _ _ h=>h) (fun M' G' hM'=>?_) (fun M' G' hM'=>?_)
   ·refine aa1 ?_;refine KQ.goes .head fun w hw=>.inl ⟨rfl,_,⟨M',hM',rfl⟩,hw⟩
   ·refine aa1 ?_;refine KQ.leaves .head fun w hw=>.inr ⟨rfl,_,⟨M',hM',rfl⟩,hw⟩
  |_=>exact hh.elim
 have MQ:=St.wL (A:=[bD l (.loop ⟨.ready,none,fn,tm,#[p],assign,body,b⟩),bD b (.deferred (some []))]) (B:=uE b4 b3 b5 s ⟨#[c]⟩) (C:=L) hw
 refine((Ut w0 l c s cj b4 b3 b5 (fun k L'=> ∃M,C k M/\L'=bD l (.loop ⟨.ready,none,fn,tm,#[p],assign,body,b⟩)::bD b (.deferred (some []))::M)
  (fun L'=> ∃M,X M/\L'=bD l (.loop ⟨.done,some .ret,fn,tm,#[p],assign,body,b⟩)::bD b (.deferred (some []))::M) hY _ ⟨L,h0,rfl⟩) w MQ).mono ?_
 rintro e w' ⟨v,L',rfl,⟨s',M',rfl,(⟨M,hM,rfl⟩|⟨M,hM,rfl⟩)⟩,hs⟩
 ·refine⟨_,uE b4 b3 b5 s' ⟨#[c]⟩++M,.ready,none,rfl,ai,St.wL (B:=[bD l (.loop ⟨.ready,none,fn,tm,#[p],assign,body,b⟩),bD b (.deferred (some []))]) hs,?_⟩;exact KQ.conv (fun w hw=>St.Iw (St.wL (A:=[bD b (.deferred (some []))]) (B:=uE b4 b3 b5 s' ⟨#[c]⟩) hw)) (Zq b M hM)
 ·refine⟨_,uE b4 b3 b5 s' ⟨#[c]⟩++M,.done,some .ret,rfl,ai,St.wL (B:=[bD l (.loop ⟨.done,some .ret,fn,tm,#[p],assign,body,b⟩),bD b (.deferred (some []))]) hs,?_⟩;exact K.ret (KQ.conv (fun w hw=>St.Iw (St.wL (A:=[bD b (.deferred (some []))]) (B:=uE b4 b3 b5 s' ⟨#[c]⟩) hw)) (YN b M hM))
end Go.Proofs.YtjhogocabcdjbabGreatDoor
namespace WB
open Go
def dM (s:ak):Option Int:=match Lib.atoiAll s.data.toList with| .ok v=>some v|_=>none
def fB (p:ak):Option Ms:=
 match cH 32 p with
 |[a,b,c,d,e]=>match dM a,dM b,dM e with|some x,some y,some z=>some ⟨x,y,c,d,z⟩|_,_,_=>none
 |_=>none
def ei:List ak->Option (List Ms)
 |[]=>some []
 |p::ps=>match fB p,ei ps with|some m,some ms=>some (m::ms)|_,_=>none
def qZ (s:ak):Option (List Ms):=
 if s=⟨#[]⟩then some []else match ei (cH 43 s)with|none=>none|some xs=>if iX xs=none/\bL xs=s then some xs else none
theorem uy{p:ak}:∀{ps:List ak} {xs:List Ms},ei ps=some xs->ei (ps++[p])=(fB p).map fun m=>xs++[m]
 |[],xs,h=>by
  simp only[ei,ay]at h;subst h;simp only[List.nil_append,ei];cases fB p<;>rfl
 |q::ps,xs,h=>by
  simp only[ei]at h;cases h1:fB q with
  |none=>rw[h1]at h;simp at h
  |some m=>
   rw[h1]at h;cases h2:ei ps with
   |none=>rw[h2]at h;simp at h
   |some ms=>
    rw[h2]at h;simp only[ay]at h;subst h;have ih:=uy (p:=p) h2;simp only[bn,ei,h1,ih];cases fB p<;>rfl
theorem ko{p:ak}(hp:fB p=none):∀{ps:List ak},p∈ps->ei ps=none
 |[],h=>by cases h
 |q::ps,h=>by
  rcases aJ.1 h with rfl|h
  ·simp only[ei,hp]
  ·simp only[ei,ko hp h];cases fB q<;>rfl
theorem xj:∀{xs:List Ms} {f:Ms->ak},(∀m∈xs,fB (f m)=some m)->ei (xs.map f)=some xs
 |[],_,_=>rfl
 |m::xs,f,h=>by
  simp only[aT,ei,h m aj,xj (fun x hx=>h x (List.mem_cons_of_mem _ hx))]
theorem qV:∀{ps:List ak} {xs:List Ms},ei ps=some xs->xs.length=ps.length
 |[],xs,h=>by simp only[ei,ay]at h;subst h;rfl
 |q::ps,xs,h=>by
  simp only[ei]at h;cases h1:fB q with
  |none=>rw[h1]at h;simp at h
  |some m=>
   rw[h1]at h;cases h2:ei ps with
   |none=>rw[h2]at h;simp at h
   |some ms=>
    rw[h2]at h;simp only[ay]at h;subst h;simp[qV h2]
theorem sh{s:ak}(h:gT s=true):∀b∈s.data.toList,b≠32/\b≠43:=fun b hb=>by
 unfold gT at h;have :=aG.1 h b hb;constructor<;>(rintro rfl;revert this;decide)
theorem lp{n:Int}:∀b∈(bH n).data.toList,b≠32/\b≠43:=fun b hb=>by
 have :=xC b hb;constructor<;>(rintro rfl;revert this;decide)
theorem sD{s:ak}(h:jN s=true):gT s=true:=by unfold jN dh at h;simp at h;exact h.2.2
theorem gF{s:ak}(h:cS s=true):gT s=true:=by unfold cS dh at h;simp at h;exact h.2.2
theorem pO(m:Ms):oL m=cJ [bH m.id,bH m.pri,m.body,m.queue,bH m.b9] sp:=by
 rw[fM,fM,fM,Js];unfold oL;simp only[J7]
theorem gW{n:Int}(h:jG n):dM (bH n)=some n:=by unfold dM;rw[Kf h]
theorem Jb{m:Ms}(h:bG m=true):fB (oL m)=some m:=by
 obtain⟨h1,h2,h3,h4,h5,h6,h7,h8⟩:=bP h;have hb:=sh (sD h5);have hq:=sh (gF h6);have :cH 32 (oL m)=[bH m.id,bH m.pri,m.body,m.queue,bH m.b9]:=by
  rw[pO];refine xg aj fun x hx b Vg=>?_
  simp only[aJ,List.not_mem_nil,or_false]at hx;rcases hx with rfl|rfl|rfl|rfl|rfl
  ·exact(lp b Vg).1
  ·exact(lp b Vg).1
  ·exact(hb b Vg).1
  ·exact(hq b Vg).1
  ·exact(lp b Vg).1
 unfold fB;rw[this];simp only[gW (n:=m.id) ⟨by omega,by omega⟩,gW (n:=m.pri) ⟨by omega,by omega⟩,gW (n:=m.b9) ⟨by omega,by omega⟩]
theorem jc{sep:ak}:∀{l:List ak} {b:UInt8},b∈(cJ l sep).data.toList->b∈sep.data.toList\/∃x∈l,b∈x.data.toList
 |[],b,h=>by rw[zP]at h;simp at h
 |[x],b,h=>by rw[jT]at h;exact .inr ⟨x,by simp,h⟩
 |x::y::r,b,h=>by
  rw[fM]at h;simp only[ByteArray.data_append,Array.toList_append,aP]at h;rcases h with(h|h)|h
  ·exact .inr ⟨x,by simp,h⟩
  ·exact .inl h
  ·rcases jc h with h|⟨z,hz,h⟩
   ·exact .inl h
   ·exact .inr ⟨z,List.mem_cons_of_mem _ hz,h⟩
theorem Mt{m:Ms}(h:bG m=true):∀b∈(oL m).data.toList,b≠43:=fun b hb=>by
 obtain⟨h1,h2,h3,h4,h5,h6,h7,h8⟩:=bP h;rw[pO]at hb;rcases jc hb with hb|⟨x,hx,hb⟩
 ·have :b=32:=by simpa[sp]using hb
  subst this;decide
 ·simp only[aJ,List.not_mem_nil,or_false]at hx;rcases hx with rfl|rfl|rfl|rfl|rfl
  ·exact(lp b hb).2
  ·exact(lp b hb).2
  ·exact(sh (sD h5) b hb).2
  ·exact(sh (gF h6) b hb).2
  ·exact(lp b hb).2
theorem CS{xs:List Ms}(h:iX xs=none)(h0:xs≠[]):ei (cH 43 (bL xs))=some xs:=by
 have hr:=dm h;have :cH 43 (bL xs)=xs.map oL:=by
  unfold bL;refine xg XG fun x hx=>?_
  obtain⟨m,hm,rfl⟩:=aD.1 hx;exact Mt (hr m hm)
 rw[this];exact xj fun m hm=>Jb (hr m hm)
theorem PQ(m:Ms):1<=(oL m).size:=by
 unfold oL;simp only[aB];have :sp.size=1:=rfl;omega
theorem IK{xs:List Ms}(h0:xs≠[]):bL xs≠⟨#[]⟩:=by
 cases xs with
 |nil=>exact absurd rfl h0
 |cons m r=>
  intro h;have h1:=congrArg ByteArray.size h;have h2:=PQ m;unfold bL at h1;rw[aT]at h1;cases r with
  |nil=>rw[List.map_nil,jT]at h1;have :(⟨#[]⟩:ak).size=0:=rfl;omega
  |cons m' r=>rw[aT,fM]at h1;simp only[aB]at h1;have :(⟨#[]⟩:ak).size=0:=rfl;omega
theorem pP{xs:List Ms}(h:iX xs=none):qZ (bL xs)=some xs:=by
 unfold qZ;by_cases h0:xs=[]
 ·subst h0;rfl
 ·rw[if_neg (IK h0),CS h h0];simp[h]
theorem mY{s:ak}{xs:List Ms}(h:qZ s=some xs):iX xs=none/\bL xs=s:=by
 unfold qZ at h;split at h
 ·rename_i h0;simp only[ay]at h;subst h;exact⟨rfl,h0.symm⟩
 ·split at h
  ·cases h
  ·split at h
   ·rename_i h1;simp only[ay]at h;subst h;exact h1
   ·cases h
theorem l6(c:UInt8):∀l,∀p∈pieces c l,p.length<=l.length
 |[],p,hp=>by simp[pieces]at hp;subst hp;exact aC _
 |a::l,p,hp=>by
  by_cases h:a=c
  ·subst h;rw[pieces_eq]at hp;rcases aJ.1 hp with rfl|hp
   ·simp
   ·have :=l6 a l p hp;simp;omega
  ·obtain⟨q,qs,e⟩:=List.exists_cons_of_ne_nil (mX c l);rw[gJ h e]at hp;rcases aJ.1 hp with rfl|hp
   ·have :=l6 c l q (by rw[e];simp);simp;omega
   ·have :=l6 c l p (by rw[e];simp[hp]);simp;omega
theorem gK{c:UInt8}{s p:ak}(h:p∈cH c s):p.size<=s.size:=by
 unfold cH at h;obtain⟨q,hq,rfl⟩:=aD.1 h;have :=l6 c _ q hq;rw[jE,jE,D7];exact this
theorem CT{p:ak}{m:Ms}(h:fB p=some m):m.body.size<=p.size/\m.queue.size<=p.size:=by
 unfold fB at h;split at h
 ·rename_i a b c d e hp;split at h
  ·simp only[ay]at h;subst h;exact⟨gK (c:=32) (by rw[hp];simp),gK (c:=32) (by rw[hp];simp)⟩
  ·cases h
 ·cases h
theorem uz{B:Nat}:∀{ps:List ak} {xs:List Ms},ei ps=some xs->(∀p∈ps,p.size<=B)->∀m∈xs,m.body.size<=B/\m.queue.size<=B
 |[],xs,h,_,m,hm=>by simp only[ei,ay]at h;subst h;cases hm
 |q::ps,xs,h,hB,m,hm=>by
  simp only[ei]at h;cases h1:fB q with
  |none=>rw[h1]at h;simp at h
  |some m'=>
   rw[h1]at h;cases h2:ei ps with
   |none=>rw[h2]at h;simp at h
   |some ms=>
    rw[h2]at h;simp only[ay]at h;subst h;rcases aJ.1 hm with rfl|hm
    ·have :=CT h1;have :=hB q aj;omega
    ·exact uz h2 (fun p hp=>hB p (List.mem_cons_of_mem _ hp)) m hm
theorem qU(c:UInt8)(s:ak):(cH c s).length<=s.size+1:=by
 unfold cH;rw[aV,fR];have :=List.count_le_length (a:=c) (l:=s.data.toList);rw[jE];omega
theorem lE{m:Ms}(h:bG m=true):m.body.size<=maxLen/\m.queue.size<=maxLen:=by
 obtain⟨h1,h2,h3,h4,h5,h6,h7,h8⟩:=bP h;have a4:m.body.size<=12:=by unfold jN dh at h5;simp at h5;omega
 have a5:m.queue.size<=8:=by unfold cS dh at h6;simp at h6;omega
 unfold maxLen;omega
end WB
namespace Go.Proofs.YtjhogocabcdjbabGreatDoor
open Tryz
open Go Go.RowKit WB
def oB (w:World):Prop:=(∃m,w.cell? ⟨1,0,none⟩=some (.int .i64 m))/\(∃t p,w.cell? ⟨2,0,none⟩=some (.iface t p))/\(∃t p,w.cell? ⟨3,0,none⟩=some (.iface t p))
theorem oB.ext{w w':World}(h:oB w)(e:Ext w w'):oB w':=by
 obtain⟨⟨m,h1⟩,⟨t,p,h2⟩,⟨t',p',h3⟩⟩:=h;exact⟨⟨m,e.cell h1⟩,⟨t,p,e.cell h2⟩,⟨t',p',e.cell h3⟩⟩
theorem zn{w0 w:World}{L:List HP}{b k:Nat}{xs:List ak}{vs:List Value}(h:St w0 (bD b (.cells vs.toArray 9 (0,0))::L) w)(MR:vs=xs.map Value.string)(hk:xs.length=k)(hle:k<=1000000000):St w0 (iR (.slice (some ⟨b,0,none⟩) k k) xs::L) w:=by
 subst hk;have hf:xs.flatMap fI=vs:=by rw[MR];clear MR h hle;induction xs with
  |nil=>rfl
  |cons a l ih=>rw[aO,ih];rfl
 refine h.ju (aC _) Ou ?_ ?_
 ·rw[MR];simp
 ·rw[hf,MR,Nat.mul_one];exact List.take_of_length_le aj
theorem kS(w0:World)(L:List HP)(s:ak)(c:UInt8)(hs:s.size<=100000000)(hM:oB w0):KE prog 133 #[.string s,.string ⟨#[c]⟩] w0 L (fun u M=> ∃b,u=.slice (some ⟨b,0,none⟩) (cH c s).length (cH c s).length/\M=iR (.slice (some ⟨b,0,none⟩) (cH c s).length (cH c s).length) (cH c s)::L):=fun w hw=>by
 obtain⟨⟨m,hm⟩,_⟩:=hM.ext (Ext.bB hw.below);refine(Tryz.strings_Split s ⟨#[c]⟩ m w ae hm (aC _)).mono ?_;rintro e w' ⟨rfl,rfl⟩;rw[I_,<-PD];have hl:(cH c s).length<=s.size+1:=by unfold cH;rw[aV,fR];have :=List.count_le_length (a:=c) (l:=s.data.toList);rw[jE];omega
 exact⟨_,_,rfl,⟨w.heap.size,rfl,rfl⟩,zn (hw.alloc _) rfl rfl ae,Below.alloc (Below.refl _ w) (aC _) _⟩
def ia (s:ak) (u:Value):Prop:=match dM s with|some v=>u=.tuple #[.int .i64 v,.nilIface]|none=> ∃x T y,u=.tuple #[.int .i64 x,.iface T y]
theorem fH(w0:World)(L:List HP)(s:ak)(hs:s.size<=100000000)(hM:oB w0):KE prog 136 #[.string s] w0 L (fun u M=>ia s u/\M=L):=fun w hw=>by
 obtain⟨_,⟨t,p,h2⟩,⟨t',p',h3⟩⟩:=hM.ext (Ext.bB hw.below);unfold ia;rcases h:Lib.atoiAll s.data.toList with v|_|_
 ·have hn:dM s=some v:=by unfold dM;rw[h]
  refine(Tryz.strconv_Atoi_ok s ae v h w).mono ?_;rintro e w' ⟨rfl,hw'⟩;have hb:Below w.heap.size w w':=by
   rcases hw' with rfl|⟨t,rfl⟩
   ·exact Below.refl _ _
   ·exact Lib.bytesWorld_below _ _ _
  exact⟨_,_,rfl,⟨by rw[hn],rfl⟩,hw.aA hb,hb⟩
 ·have hn:dM s=none:=by unfold dM;rw[h]
  refine(Tryz.strconv_Atoi_syntax s ae h _ w h2 (.inr ⟨t,p,rfl⟩)).mono ?_;rintro e w' ⟨N,rfl,_,_,hb⟩;exact⟨_,_,rfl,⟨by rw[hn];exact⟨_,_,_,rfl⟩,rfl⟩,hw.aA hb,hb⟩
 ·have hn:dM s=none:=by unfold dM;rw[h]
  refine(Tryz.strconv_Atoi_range s ae h _ w h3 (.inr ⟨t',p',rfl⟩)).mono ?_;rintro e w' ⟨N,rfl,_,_,hb⟩;exact⟨_,_,rfl,⟨by rw[hn];exact⟨_,_,_,rfl⟩,rfl⟩,hw.aA hb,hb⟩
end Go.Proofs.YtjhogocabcdjbabGreatDoor
