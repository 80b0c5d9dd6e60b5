import Derived.Great.BuildSlice
import Derived.WideLaws
import Derived.Stop.Asserts
import Derived.Lib.ItoaLen
import Derived.Lib.Join
import Derived.ProofKit
import Derived.OpenShut
import Derived.Deep.DeepHandedRow
import Derived.Deep.Slices
import Derived.Lay
import Derived.LaidHandle
import Derived.Lib.LaidTab
import Derived.Lib.AppendIntMem
import Derived.RangeFuncRecord
import Derived.RangeFuncCalls
import Derived.RangeFuncBound
import Derived.OrdersIn
import Derived.Lib.SplitLaws
import Derived.Lib.AtoiAll
import Derived.Lib.IndexLaws
import Derived.Lib.IndexBytes
import Derived.Lib.ItoaMem
import Derived.Laws.Strings3
import Derived.Laws.Slices
import Derived.Test.YtjhogocabcdjbabGreatDoorShelf
import Derived.Lib.AtoiErrMem
import Derived.Maps.OwnOps
import Derived.Test.YtjhogocabcdjbabGreatDoorB0
set_option linter.unusedSimpArgs false
set_option linter.unusedVariables false
set_option maxRecDepth 100000
set_option maxHeartbeats 8000000
namespace WB
open Go Go.RowKit
section
variable {P:Program} {ops:Array Oper} {d:Bool} {Q:Exit->Act->World->Prop} {n:Nat} {D:List Deferred} {w0:World} {G:Env} {L R N:List HP} {l:List (Kd×Oper)} {k:Kd}
 {t:Nat} {op:Op} {ty T T' E:TypeId} {pos:String} {af:Array Edge} {x y z:Operand} {v u:Value} {i j:Nat} {a c r:Int} {α:Type} {cf:α->List Value} {sz:Nat} {xs ys:List α} {e:α}
theorem KO.wv(hk:(!d||k== .write)=true)(hr:∀a w,cX n D G a->St w0 L w->∃w',(execOp a.eval ⟨some t,op,ty,pos,af,none⟩).run P w=.ok (.value v) w'/\St w0 N w')(ht:Nat.blt t n=true)(h:KO P ops d Q n D w0 ((t,v)::G) N l):KO P ops d Q n D w0 G L ((k,⟨some t,op,ty,pos,af,none⟩)::l):=fun a w ha hw=>by
 obtain⟨w',hr,hs⟩:=hr a w ha hw
 refine mD hk rfl ?_
 unfold Oper.wp
 rw[hr]
 exact h _ w' (iO ha _ ht) hs
theorem KO.wn(hk:(!d||k== .write)=true)(hr:∀a w,cX n D G a->St w0 L w->∃w' u,(execOp a.eval ⟨none,op,ty,pos,af,none⟩).run P w=.ok (.value u) w'/\St w0 N w')(h:KO P ops d Q n D w0 G N l):KO P ops d Q n D w0 G L ((k,⟨none,op,ty,pos,af,none⟩)::l):=fun a w ha hw=>by
 obtain⟨w',u,hr,hs⟩:=hr a w ha hw
 refine mD hk rfl ?_
 unfold Oper.wp
 rw[hr]
 exact h _ w' ha hs
theorem KO.wvE(hk:(!d||k== .write)=true){F:Value->List HP}(hr:∀a w,cX n D G a->St w0 L w->∃v w',(execOp a.eval ⟨some t,op,ty,pos,af,none⟩).run P w=.ok (.value v) w'/\St w0 (F v) w')(ht:Nat.blt t n=true)(h:∀v,KO P ops d Q n D w0 ((t,v)::G) (F v) l):KO P ops d Q n D w0 G L ((k,⟨some t,op,ty,pos,af,none⟩)::l):=fun a w ha hw=>by
 obtain⟨v,w',hr,hs⟩:=hr a w ha hw
 refine mD hk rfl ?_
 unfold Oper.wp
 rw[hr]
 exact h v _ w' (iO ha _ ht) hs
theorem yP{w:World}{bs:Option Addr}{len cap lo hi mx:Nat}{l h m:Option Value}(hT:P.underlying T=some (.slice E))(hs:(Go.sizeOf E).run P w=.ok sz w)(hm:match m with|none=>mx=cap|some v=>v=.int .i64 (mx:Nat))(hh:match h with|none=>hi=len/\m=none|some v=>v=.int .i64 (hi:Nat))(hl:match l with|none=>lo=0|some v=>v=.int .i64 (lo:Nat))(h1:lo<=hi)(h2:hi<=mx)(h3:mx<=cap):
 (Instr.sliceAt T (.slice bs len cap) l h m).run P w=.ok (.slice (if mx=lo then bs else bs.map (·.add (lo *sz))) (hi-lo) (mx-lo)) w:=by
 have e1:∀(i y:Nat) (code:BoundsCode),i<=y->(Instr.sliceBound (.int .i64 (i:Nat)) y code).run P w=.ok i w:=fun i y code h=>by
  simp[Instr.sliceBound,asIntOf,h]
 cases m with
 |none=>
  cases h with
  |none=>
   obtain⟨rfl,_⟩:=hh
   cases l with
   |none=>simp only at hm hl;subst hm;subst hl;simp[Instr.sliceAt,run_underlying hT,Instr.slice,Instr.sliceBounds,hs]
   |some v=>simp only at hm hl;subst hm;subst hl;simp[Instr.sliceAt,run_underlying hT,Instr.slice,Instr.sliceBounds,hs,e1 _ _ _ h1]
  |some v=>
   simp only at hh;subst hh
   cases l with
   |none=>simp only at hm hl;subst hm;subst hl;simp[Instr.sliceAt,run_underlying hT,Instr.slice,Instr.sliceBounds,hs,e1 _ _ _ h2]
   |some v=>simp only at hm hl;subst hm;subst hl;simp[Instr.sliceAt,run_underlying hT,Instr.slice,Instr.sliceBounds,hs,e1 _ _ _ h1,e1 _ _ _ h2]
 |some vm=>
  simp only at hm;subst hm
  cases h with
  |none=>simp at hh
  |some v=>
   simp only at hh;subst hh
   cases l with
   |none=>simp only at hl;subst hl;simp[Instr.sliceAt,run_underlying hT,Instr.slice,Instr.sliceBounds,hs,e1 _ _ _ h2,e1 _ _ _ h3]
   |some v=>simp only at hl;subst hl;simp[Instr.sliceAt,run_underlying hT,Instr.slice,Instr.sliceBounds,hs,e1 _ _ _ h1,e1 _ _ _ h2,e1 _ _ _ h3]
def cutAt (g:Nat) (lo sz mx:Nat):Addr:=⟨g,if mx=lo then 0 else lo *sz,none⟩
theorem GQ(g lo sz mx:Nat):(if mx=lo then(some ⟨g,0,none⟩:Option Addr)else(some (⟨g,0,none⟩:Addr)).map (·.add (lo *sz)))=some (cutAt g lo sz mx):=by
 unfold cutAt
 by_cases h:mx=lo
 ·simp[h]
 ·simp[h,Addr.add_lit]
theorem KO.CS{bs:Option Addr}{len cap hi:Nat}(hx:ev G x=some (.slice bs len cap))(hy:ev G y=some (.int .i64 c))(hT:P.underlying T=some (.slice E))(hs:∀w,(Go.sizeOf E).run P w=.ok sz w)(hc:c=(hi:Int))(h2:hi<=cap)(ht:Nat.blt t n=true)(h:KO P ops d Q n D w0 ((t,.slice bs hi cap)::G) L l):KO P ops d Q n D w0 G L ((k,⟨some t,.slice T x none (some y) none,ty,pos,af,none⟩)::l):=
 KO.val (fun a w ha=>by
  subst hc
  have :=yP (P:=P) (w:=w) (bs:=bs) (len:=len) (cap:=cap) (lo:=0) (hi:=hi) (mx:=cap) (l:=none) (h:=some (.int .i64 (hi:Nat))) (m:=none) hT (hs w) rfl rfl rfl (aV _) h2 (aD _)
  have e:(if cap=0 then bs else bs.map (·.add (0*sz)))=bs:=by
   split
   ·rfl
   ·cases bs<;>simp[Addr.add_zero']
  simp only[e,Nat.sub_zero]at this
  simp[execOp,ha.eval hx,ha.eval hy,this]) ht h
theorem KO.cutFrom{g len cap lo:Nat}(hx:ev G x=some (.slice (some ⟨g,0,none⟩) len cap))(hy:ev G y=some (.int .i64 c))(hT:P.underlying T=some (.slice E))(hs:∀w,(Go.sizeOf E).run P w=.ok sz w)(hc:c=(lo:Int))(h1:lo<=len)(h2:len<=cap)(ht:Nat.blt t n=true)(h:KO P ops d Q n D w0 ((t,.slice (some (cutAt g lo sz cap)) (len-lo) (cap-lo))::G) L l):KO P ops d Q n D w0 G L ((k,⟨some t,.slice T x (some y) none none,ty,pos,af,none⟩)::l):=
 KO.val (fun a w ha=>by
  subst hc
  have :=yP (P:=P) (w:=w) (bs:=some ⟨g,0,none⟩) (len:=len) (cap:=cap) (lo:=lo) (hi:=len) (mx:=cap) (l:=some (.int .i64 (lo:Nat))) (h:=none) (m:=none) hT (hs w) rfl ⟨rfl,rfl⟩ rfl h1 h2 (aD _)
  rw[GQ]at this
  simp[execOp,ha.eval hx,ha.eval hy,this]) ht h
theorem KO.Jg{g len cap lo hi:Nat}{b:Int}(hx:ev G x=some (.slice (some ⟨g,0,none⟩) len cap))(hy:ev G y=some (.int .i64 c))(hz:ev G z=some (.int .i64 b))(hT:P.underlying T=some (.slice E))(hs:∀w,(Go.sizeOf E).run P w=.ok sz w)(hc:c=(lo:Int))(hb:b=(hi:Int))(h1:lo<=hi)(h2:hi<=cap)(ht:Nat.blt t n=true)(h:KO P ops d Q n D w0 ((t,.slice (some (cutAt g lo sz cap)) (hi-lo) (cap-lo))::G) L l):KO P ops d Q n D w0 G L ((k,⟨some t,.slice T x (some y) (some z) none,ty,pos,af,none⟩)::l):=
 KO.val (fun a w ha=>by
  subst hc;subst hb
  have :=yP (P:=P) (w:=w) (bs:=some ⟨g,0,none⟩) (len:=len) (cap:=cap) (lo:=lo) (hi:=hi) (mx:=cap) (l:=some (.int .i64 (lo:Nat))) (h:=some (.int .i64 (hi:Nat))) (m:=none) hT (hs w) rfl rfl rfl h1 h2 (aD _)
  rw[GQ]at this
  simp[execOp,ha.eval hx,ha.eval hy,ha.eval hz,this]) ht h
theorem KO.Jh{u:Operand}{bs:Option Addr}{len cap lo hi mx:Nat}{b m:Int}(hx:ev G x=some (.slice bs len cap))(hy:ev G y=some (.int .i64 c))(hz:ev G z=some (.int .i64 b))(hu:ev G u=some (.int .i64 m))(hT:P.underlying T=some (.slice E))(hs:∀w,(Go.sizeOf E).run P w=.ok sz w)(hc:c=(lo:Int))(hb:b=(hi:Int))(hm:m=(mx:Int))(h1:lo<=hi)(h2:hi<=mx)(h3:mx<=cap)(ht:Nat.blt t n=true)(h:∀q,KO P ops d Q n D w0 ((t,.slice q (hi-lo) (mx-lo))::G) L l):KO P ops d Q n D w0 G L ((k,⟨some t,.slice T x (some y) (some z) (some u),ty,pos,af,none⟩)::l):=
 KO.val (v:=.slice (if mx=lo then bs else bs.map (·.add (lo *sz))) (hi-lo) (mx-lo)) (fun a w ha=>by
  subst hc;subst hb;subst hm
  have :=yP (P:=P) (w:=w) (bs:=bs) (len:=len) (cap:=cap) (lo:=lo) (hi:=hi) (mx:=mx) (l:=some (.int .i64 (lo:Nat))) (h:=some (.int .i64 (hi:Nat))) (m:=some (.int .i64 (mx:Nat))) hT (hs w) rfl rfl rfl h1 h2 h3
  simp[execOp,ha.eval hx,ha.eval hy,ha.eval hz,ha.eval hu,this]) ht (h _)
end
theorem Au{α:Type}{cf:α->List Value}(h1:∀e,∀u∈cf e,u.oneCell'=true)(xs:List α):∀u∈xs.flatMap cf,u.oneCell'=true:=fun u hu=>by
 obtain⟨e,_,hu⟩:=List.mem_flatMap.1 hu
 exact h1 e u hu
section
variable {P:Program} {w0 w:World} {L:List HP} {E T ty:TypeId} {α:Type} {cf:α->List Value} {sz g cap n:Nat} {xs:List α}
theorem gF(h:St w0 (SL E sz cf (.slice (some ⟨g,0,none⟩) n cap) xs::L) w):n=xs.length/\n<=cap/\cap<=maxLen/\∃cur:Array Value,cur.size=cap *sz/\cur.toList.take (xs.length *sz)=xs.flatMap cf/\St w0 (bP g (.cells cur E (0,0))::L) w:=by
 rcases h.cU with⟨h1,_⟩|⟨g',o5,cur,hv,h1,h2,h3,h4,_,h5⟩
 ·simp at h1
 ·simp only[Value.slice.injEq,az,Addr.mk.injEq,and_true,true_and]at hv
  obtain⟨rfl,rfl,rfl⟩:=hv
  exact⟨rfl,h1,h2,cur,h3,h4,h5⟩
theorem C6{cur:Array Value}(h:St w0 (bP g (.cells cur E (0,0))::L) w)(hn:xs.length<=cap)(hc:cap<=maxLen)(hs:cur.size=cap *sz)(ht:cur.toList.take (xs.length *sz)=xs.flatMap cf):
 St w0 (SL E sz cf (.slice (some ⟨g,0,none⟩) xs.length cap) xs::L) w:=h.lO hn hc hs ht
theorem Uz(dK:∀e,(cf e).length=sz)(h1:∀e,∀u∈cf e,u.oneCell'=true){i:TypeInfo}(hT:P.underlying T=some (.slice E))(hi:P.info? E=some i)(aft:i.size=sz){n j k c o:Nat}(h:St w0 (SL E sz cf (.slice (some ⟨g,0,none⟩) n cap) xs::L) w)(hk:k<=j)(hj:j<=xs.length)(ho:xs.length-j=0\/o=j *sz):
 ∃w',(Builtin.append_ #[T,T] ty #[.slice (some ⟨g,0,none⟩) k cap,.slice (some ⟨g,o,none⟩) (xs.length-j) c]).run P w=.ok (.slice (some ⟨g,0,none⟩) (k+(xs.length-j)) cap) w'/\
  St w0 (SL E sz cf (.slice (some ⟨g,0,none⟩) xs.length cap) (xs.take k++xs.drop j++xs.drop (k+(xs.length-j)))::L) w':=by
 obtain⟨rfl,xX,rh,cur,lW,fL,hb⟩:=gF h
 subst aft
 have Nc:∀l:List α,(l.flatMap cf).length=l.length *i.size:=lD cf i.size dK
 have qP:cur.toList.length=cap *i.size:=by simpa using lW
 have iX:∀(q:Nat) (u:Value),(xs.flatMap cf)[q]? =some u->cur[q]? =some u:=fun q u hq=>by
  rw[<-fL,List.getElem?_take]at hq
  split at hq
  ·simpa using hq
  ·simp at hq
 have qZ:∀(q:Nat) (u:Value),((xs.drop j).flatMap cf)[q]? =some u->w.cell? ((⟨g,o,none⟩:Addr).add q)=some u:=fun q u hq=>by
  have dS:=(au.1 hq).1
  rw[Nc,bC]at dS
  rcases ho with ho|ho
  ·rw[ho,Nat.zero_mul]at dS;omega
  ·rw[<-mL cf i.size dK xs j hj,List.getElem?_drop]at hq
   rw[Addr.add_lit,World.cell?,hb.look.2,ho]
   exact iX _ u hq
 have hle:(k+(xs.length-j))*i.size<=cap *i.size:=Nat.mul_le_mul_right _ ae
 have hr:=run_append_room (P:=P) w T ty E i hT hi g k cap cur hb.look.2 ⟨g,o,none⟩ (xs.length-j) c ((xs.drop j).flatMap cf) (by rw[Nc,bC]) qZ (Au h1 _) ae
  (by rw[Nc,bC,<-Nat.add_mul,lW];exact hle)
 refine⟨_,hr,?_⟩
 have e1:(xs.take k++xs.drop j++xs.drop (k+(xs.length-j))).length=xs.length:=by simp;omega
 have jq:=hb.setRow (c':=(cur.toList.take (k *i.size)++(xs.drop j).flatMap cf++cur.toList.drop (k *i.size+((xs.drop j).flatMap cf).length)).toArray)
 have :=C6 (xs:=xs.take k++xs.drop j++xs.drop (k+(xs.length-j))) (cf:=cf) (sz:=i.size) (cap:=cap) jq ae rh ?_ ?_
 ·rw[e1]at this;exact this
 ·simp only[List.size_toArray,aP,bL,bC,Nc,qP,Nat.min_def]
  have :=Nat.mul_le_mul_right i.size (show k<=cap by omega)
  rw[if_pos this,<-Nat.add_mul];omega
 ·rw[e1]
  simp only[List.flatMap_append,Nc,bC]
  have k9:cur.toList.take (k *i.size)=(xs.take k).flatMap cf:=by
   rw[<-mK cf i.size dK xs k ae,<-fL,List.take_take,Nat.min_eq_left (Nat.mul_le_mul_right _ ae)]
  rw[k9,<-mL cf i.size dK xs (k+(xs.length-j)) ae,<-fL]
  have hlA:((xs.take k).flatMap cf++(xs.drop j).flatMap cf).length=(k+(xs.length-j))*i.size:=by
   rw[aP,Nc,Nc,bL,bC,Nat.min_eq_left ae,Nat.add_mul]
  rw[List.take_append,hlA,List.take_of_length_le (by rw[hlA];exact Nat.mul_le_mul_right _ ae)]
  congr 1
  rw[<-Nat.add_mul,List.take_drop,show(k+(xs.length-j))*i.size+(xs.length *i.size-(k+(xs.length-j))*i.size)=xs.length *i.size by
   have :=Nat.mul_le_mul_right i.size (show k+(xs.length-j)<=xs.length by omega);omega]
theorem QJ(dK:∀e,(cf e).length=sz){i:TypeInfo}{z:Value}(hT:P.underlying T=some (.slice E))(hi:P.info? E=some i)(hz:i.zero=some z)(n0:∀u∈z.cells.toList,u.oneCell'=true)(SN:z.cells.size=sz){n m c o q:Nat}(h:St w0 (SL E sz cf (.slice (some ⟨g,0,none⟩) n cap) xs::L) w)(hq:q+m<=xs.length)(ho:m=0\/o=q *sz):
 ∃w' u,(Builtin.clear_ #[T] ty #[.slice (some ⟨g,o,none⟩) m c]).run P w=.ok u w'/\St w0 (SL E sz cf (.slice (some ⟨g,0,none⟩) q cap) (xs.take q)::L) w':=by
 obtain⟨rfl,xX,rh,cur,lW,fL,hb⟩:=gF h
 have F7:(xs.take q).length=q:=by simp;omega
 have hqt:cur.toList.take (q *sz)=(xs.take q).flatMap cf:=by
  rw[<-mK cf sz dK xs q ae,<-fL,List.take_take,Nat.min_eq_left (Nat.mul_le_mul_right _ ae)]
 by_cases hm:m=0
 ·subst hm
  refine⟨w,.tuple #[],by simp[Builtin.clear_,run_underlying hT],?_⟩
  have :=C6 (xs:=xs.take q) (cf:=cf) (sz:=sz) (cap:=cap) hb ae rh lW (by rw[F7];exact hqt)
  rw[F7]at this;exact this
 ·have ho:=ho.resolve_left hm
  subst ho
  have Md:(Builtin.zeroCells z.cells m).toList.length=m *sz:=by simp[size_zeroCells,SN]
  have afd:∀u∈(Builtin.zeroCells z.cells m).toList,u.oneCell'=true:=fun u hu=>by
   simp only[Builtin.zeroCells,Array.toList_map,ay]at hu
   obtain⟨j,hj,rfl⟩:=hu
   have hp:0<z.cells.size:=by
    rcases Nat.eq_zero_or_pos z.cells.size with h0|h0
    ·simp[h0]at hj
    ·exact h0
   have :j%z.cells.size<z.cells.size:=Nat.mod_lt _ hp
   rw[getElem!_pos z.cells _ this]
   exact n0 _ (Array.mem_toList_iff.2 (Array.getElem_mem this))
  have oV:q *sz+0+(Builtin.zeroCells z.cells m).toList.length<=cur.size:=by
   rw[Md,lW,Nat.add_zero,<-Nat.add_mul];exact Nat.mul_le_mul_right _ ae
  have kt:=run_storeCells_at P g (q *sz) E (Builtin.zeroCells z.cells m).toList 0 cur w hb.look.2 oV afd
  simp only[Nat.add_zero]at kt
  have IV:∃m',m=m'+1:=⟨m-1,by omega⟩
  obtain⟨m',rfl⟩:=IV
  refine⟨w.setRow g (cur.toList.take (q *sz)++(Builtin.zeroCells z.cells (m'+1)).toList++cur.toList.drop (q *sz+(Builtin.zeroCells z.cells (m'+1)).toList.length)).toArray,.tuple #[],by simp[Builtin.clear_,run_underlying hT,zeroValue,typeInfo,hi,hz,kt],?_⟩
  have :=C6 (xs:=xs.take q) (cf:=cf) (sz:=sz) (cap:=cap) (hb.setRow (c':=(cur.toList.take (q *sz)++(Builtin.zeroCells z.cells (m'+1)).toList++cur.toList.drop (q *sz+(Builtin.zeroCells z.cells (m'+1)).toList.length)).toArray)) ae rh ?_ ?_
  ·rw[F7]at this;exact this
  ·have qP:cur.toList.length=cap *sz:=by simpa using lW
   simp only[List.size_toArray,aP,bL,bC,qP,Md,Nat.min_def]
   have :=Nat.mul_le_mul_right sz (show q<=cap by omega)
   have h3:=Nat.mul_le_mul_right sz (show q+(m'+1)<=cap by omega)
   rw[Nat.add_mul]at h3
   rw[if_pos this];omega
  ·rw[F7,aH,List.take_append_of_le_length]
   ·rw[List.take_take,Nat.min_self];exact hqt
   ·have qP:cur.toList.length=cap *sz:=by simpa using lW
    rw[bL,qP,Nat.min_eq_left (Nat.mul_le_mul_right _ ae)];exact aD _
end
theorem St.UH{w0 w:World}{A B:HP}{R R':List HP}(h:St w0 (A::R) w)(hq:bQ R B R'):St w0 (A::B::R') w:=by
 have :=h.pick (.tail hq)
 exact this.pick (.tail .head)
theorem St.Vm{w0 w:World}{A B:HP}{R:List HP}(h:St w0 (A::B::R) w):St w0 (A::R) w:=(h.pick (.tail .head)).drop
section
variable {P:Program} {ops:Array Oper} {d:Bool} {Q:Exit->Act->World->Prop} {n:Nat} {D:List Deferred} {w0:World} {G:Env} {L R R' N:List HP} {l:List (Kd×Oper)} {k:Kd}
 {t:Nat} {op:Op} {ty T T' E E':TypeId} {pos:String} {af:Array Edge} {x y:Operand} {v u z:Value} {i j:Nat} {a c r:Int} {α:Type} {cf:α->List Value} {sz dP:Nat} {xs ys:List α} {e e':α}
theorem KO.bs(hk:(!d||(k== .dm||k== .write))=true){len:Nat}{parts:Array (Nat×Operand)}(os:List Operand){vs cs:List Value}(hp:parts.toList=(os.zipIdx 0).map fun x=>(x.2,x.1))(hv:Jc G os=some vs)(hT:P.underlying T=some (.slice E))(hi:(P.info? E).map (fun i=>(i.zero,i.size,i.bytes))=some (some z,sz,dP))(dK:vs.all (fun v=>v.cells.size==sz)=true)(hlen:vs.length=len)(hs:¬len *sz>2^24)(DM:¬len *sz=0)(lW:(vs.flatMap fun v=>v.cells.toList)=cs)(ht:Nat.blt t n=true)(h:∀bb,KO P ops d Q n D w0 ((t,.slice (some ⟨bb,0,none⟩) len len)::G) (bP bb (.cells cs.toArray E (0,0))::L) l):KO P ops d Q n D w0 G L ((k,⟨some t,.buildSlice T len parts,ty,pos,af,none⟩)::l):=by
 obtain⟨i0,Ko,xU,n0,_⟩:=info_parts hi
 refine KO.pU hk (F:=fun bb=>.slice (some ⟨bb,0,none⟩) len len) (N:=fun bb=>bP bb (.cells cs.toArray E (0,0))::L) (fun a w ha hw=>⟨w.heap.size,w.alloc (.cells cs.toArray E),?_,Ext.alloc w _,hw.alloc _⟩) ht h
 have WS:(parts.map fun(i,x)=>(i,a.eval x)).toList=(vs.zipIdx 0).map fun x=>(x.2,x.1):=by
  have key:∀(os:List Operand) (vs:List Value) (q:Nat),os.map (ev G)=vs.map some->((os.zipIdx q).map fun x=>(x.2,x.1)).map (fun(p:Nat×Operand)=>(p.1,a.eval p.2))=(vs.zipIdx q).map fun x=>(x.2,x.1):=by
   intro os
   induction os with
   |nil=>intro vs q h;cases vs with|nil=>rfl|cons _ _=>simp at h
   |cons o os ih=>intro vs q h;cases vs with
    |nil=>simp at h
    |cons v vs=>
     simp only[aL,List.cons.injEq]at h
     simp only[List.zipIdx_cons,aL,ha.eval h.1]
     rw[ih vs (q+1) h.2]
  rw[Array.toList_map,hp]
  exact key os vs 0 (p8 hv)
 have hsp:0<sz:=Nat.pos_of_ne_zero fun e=>DM (by rw[e,Nat.mul_zero])
 have hf:=Great.fill_whole hsp vs ((Array.range (len *sz)).map (z.cells[· %z.cells.size]!)) (fun v hv=>by simpa using aJ.1 dK v hv) (by simp[hlen])
 rw[<-n0]at hf hs DM
 have hr:=run_buildSlice (P:=P) w T E len (parts.map fun(i,x)=>(i,a.eval x)) _ i0 z hT Ko xU hs DM (by rw[WS];exact hf)
 simp only[lW]at hr
 simp only[execOp,hr,Sem.run_bind,Sem.run_pure,Result.andThen_ok]
theorem KO.app(hk:(!d||k== .write)=true){bv cp:Nat}{us:List Value}(hx:ev G x=some v)(hy:ev G y=some (.slice (some ⟨bv,0,none⟩) 1 cp))(hp:bQ L (SL E sz cf v xs) R)(hq:bQ R (bP bv (.cells us.toArray E' (0,0))) R')(hT:P.underlying T=some (.slice E))(hi:(P.info? E).map (fun i=>(i.zero,i.size,i.bytes))=some (some z,sz,dP))(SN:z.cells.size=sz)(e:α)(he:cf e=us)(si:us.length=sz)(h1:us.all Value.oneCell'=true)(hb:xs.length<1000000000)(hby:dP<=10000)(ht:Nat.blt t n=true)(h:∀v',KO P ops d Q n D w0 ((t,v')::G) (SL E sz cf v' (xs++[e])::R') l):KO P ops d Q n D w0 G L ((k,⟨some t,.call ⟨.builtin .append,#[x,y],#[T,T]⟩,ty,pos,af,none⟩)::l):=by
 obtain⟨i0,Ko,xU,n0,qN⟩:=info_parts hi
 refine KO.wvE hk (F:=fun v'=>SL E sz cf v' (xs++[e])::R') (fun a w ha hw=>?_) ht h
 have hs:=hw.pick hp
 have I2:dr w ⟨bv,0,none⟩ us:=by
  have :=hs.drop.pick hq
  exact this.fu fun j c hj=>by simpa using hj
 have hbb:(xs.length+1)*dP<=140737488355328:=by
  have :=Nat.mul_le_mul (show xs.length+1<=1000000000 by omega) hby;omega
 obtain⟨v',w',hr,kt⟩:=sb (P:=P) T ty E i0 z sz dP hT Ko xU n0 qN SN hs ⟨bv,0,none⟩ 1 cp us (by rw[si,Nat.one_mul]) I2 (fun u hu=>aJ.1 h1 u hu) Ux hbb
 refine⟨v',w',mj x y T T rfl v _ (ha.eval hx) (ha.eval hy) hr,?_⟩
 have jr:=(kt.UH hq).Vm
 show St w0 (lu E sz v' (xs++[e]).length ((xs++[e]).flatMap cf)::R') w'
 rw[show(xs++[e]).length=xs.length+1 by simp,show(xs++[e]).flatMap cf=xs.flatMap cf++us by simp[he]]
 exact jr
theorem KO.move(hk:(!d||k== .write)=true){g n' cap kk c:Nat}(hx:ev G x=some (.slice (some ⟨g,0,none⟩) kk cap))(hy:ev G y=some (.slice (some (cutAt g j sz cap)) (n'-j) c))(hp:bQ L (SL E sz cf (.slice (some ⟨g,0,none⟩) n' cap) xs) R)(hn:n'=xs.length)(xX:n'<=cap)(hT:P.underlying T=some (.slice E))(hi:(P.info? E).map (fun i=>(i.zero,i.size,i.bytes))=some (some z,sz,dP))(dK:∀e,(cf e).length=sz)(h1:∀e,(cf e).all Value.oneCell'=true)(hkj:kk<=j)(hj:j<=xs.length)(ht:Nat.blt t n=true)(h:KO P ops d Q n D w0 ((t,.slice (some ⟨g,0,none⟩) (kk+(n'-j)) cap)::G) (SL E sz cf (.slice (some ⟨g,0,none⟩) n' cap) (xs.take kk++xs.drop j++xs.drop (kk+(n'-j)))::R) l):
 KO P ops d Q n D w0 G L ((k,⟨some t,.call ⟨.builtin .append,#[x,y],#[T,T]⟩,ty,pos,af,none⟩)::l):=by
 obtain⟨i0,Ko,xU,n0,_⟩:=info_parts hi
 subst hn
 refine KO.wv hk (fun a w ha hw=>?_) ht h
 obtain⟨w',hr,hs⟩:=Uz (P:=P) (ty:=ty) dK (fun e u hu=>aJ.1 (h1 e) u hu) hT Ko n0 (c:=c) (o:=(cutAt g j sz cap).off) (hw.pick hp) hkj hj (by
  by_cases hc:cap=j
  ·left;omega
  ·right;simp[cutAt,hc])
 exact⟨w',mj x y T T rfl _ _ (ha.eval hx) (ha.eval hy) hr,hs⟩
theorem KO.clear(hk:(!d||k== .write)=true){g n' cap q m c:Nat}(hx:ev G x=some (.slice (some (cutAt g q sz cap)) m c))(hp:bQ L (SL E sz cf (.slice (some ⟨g,0,none⟩) n' cap) xs) R)(xX:n'<=cap)(hn:n'=xs.length)(hq:q+m<=xs.length)(hT:P.underlying T=some (.slice E))(hi:(P.info? E).map (fun i=>(i.zero,i.size,i.bytes))=some (some z,sz,dP))(dK:∀e,(cf e).length=sz)(n0:z.cells.toList.all Value.oneCell'=true)(SN:z.cells.size=sz)(h:KO P ops d Q n D w0 G (SL E sz cf (.slice (some ⟨g,0,none⟩) q cap) (xs.take q)::R) l):
 KO P ops d Q n D w0 G L ((k,⟨none,.call ⟨.builtin .clear,#[x],#[T]⟩,ty,pos,af,none⟩)::l):=by
 obtain⟨i0,Ko,xU,_,_⟩:=info_parts hi
 refine KO.wn hk (fun a w ha hw=>?_) h
 obtain⟨w',u,hr,hs⟩:=QJ (P:=P) (ty:=ty) dK hT Ko xU (fun u hu=>aJ.1 n0 u hu) SN (m:=m) (c:=c) (o:=(cutAt g q sz cap).off) (hw.pick hp) hq (by
  by_cases hc:cap=q
  ·left;omega
  ·right;simp[cutAt,hc])
 refine⟨w',u,?_,hs⟩
 have e:a.eval x=.slice (some ⟨g,(cutAt g q sz cap).off,none⟩) m c:=ha.eval hx
 simp[execOp,resolve,invoke,builtin,e,hr]
theorem QI{w:World}{g cap n':Nat}{us:List Value}{o:Nat}(dK:∀e,(cf e).length=sz)(hw:St w0 (SL E sz cf (.slice (some ⟨g,0,none⟩) n' cap) xs::R) w)(he:xs[i]? =some e)(oV:j+us.length<=sz)(hu:l9 j us (cf e)=cf e')(ho:o=i *sz+j)(hn:(Go.sizeOf T).run P w=.ok us.length w)(h1:∀u∈us,u.oneCell'=true)(hv:v.cells=us.toArray):
 ∃w',(storeVar T ⟨g,o,none⟩ v).run P w=.ok () w'/\St w0 (SL E sz cf (.slice (some ⟨g,0,none⟩) n' cap) (xs.set i e')::R) w':=by
 obtain⟨rfl,xX,rh,cur,lW,fL,hb⟩:=gF hw
 have hi:=(au.1 he).1
 have Zn:=(au.1 he).2
 have afw:(i+1)*sz<=xs.length *sz:=Nat.mul_le_mul_right _ hi
 have ah5:xs.length *sz<=cap *sz:=Nat.mul_le_mul_right _ xX
 rw[Nat.succ_mul]at afw
 have qP:cur.toList.length=cap *sz:=by simpa using lW
 have kt:=kW (P:=P) (T:=T) (off:=o) (v:=v) hb (by simpa[hv]using hn) (by simp[hv,lW];omega) (by simpa[hv]using h1)
 simp only[hv]at kt
 refine⟨_,kt,?_⟩
 have hlen:(xs.set i e').length=xs.length:=by simp
 have :=C6 (xs:=xs.set i e') (cf:=cf) (sz:=sz) (cap:=cap) (hb.setRow (c':=(cur.toList.take o++us++cur.toList.drop (o+us.length)).toArray)) ae rh ?_ ?_
 ·rw[hlen]at this;exact this
 ·simp only[List.size_toArray,aP,bL,bC,qP,Nat.min_def]
  rw[if_pos ae];omega
 ·rw[hlen]
  have jq:(xs.set i e').flatMap cf=(xs.take i).flatMap cf++cf e'++(xs.drop (i+1)).flatMap cf:=by
   rw[List.set_eq_take_append_cons_drop,if_pos hi];simp
  have hold:xs.flatMap cf=(xs.take i).flatMap cf++cf e++(xs.drop (i+1)).flatMap cf:=by
   have OP:xs=xs.take i++e::xs.drop (i+1):=by
    rw[<-Zn,List.getElem_cons_drop,List.take_append_drop]
   conv=>lhs;rw[OP]
   simp
  have Zf:((xs.take i).flatMap cf).length=i *sz:=by rw[lD cf sz dK,bL,Nat.min_eq_left ae]
  rw[jq,<-hu,<-rP j us (cf e) (by rw[dK];exact oV)]
  obtain⟨tl,IN⟩:∃tl,cur.toList=xs.flatMap cf++tl:=⟨cur.toList.drop (xs.length *sz),by rw[<-fL,List.take_append_drop]⟩
  rw[IN,hold,ho]
  have afS:=dK e
  generalize (xs.take i).flatMap cf=A at Zf
  generalize hC:(xs.drop (i+1)).flatMap cf=C
  have hCl:C.length=(xs.length-(i+1))*sz:=by rw[<-hC,lD cf sz dK,bC]
  have ajR:i *sz+sz+(xs.length-(i+1))*sz=xs.length *sz:=by
   have :(i+1)*sz+(xs.length-(i+1))*sz=xs.length *sz:=by rw[<-Nat.add_mul];congr 1;omega
   rw[Nat.succ_mul]at this;omega
  generalize cf e=B at afS
  clear kt jq hold IN hu dK fL
  have h1:(A++B++C++tl).take (i *sz+j)=A++B.take j:=by
   rw[aH,aH,<-Zf,List.take_length_add_append,List.take_append_of_le_length ae]
  have h2:(A++B++C++tl).drop (i *sz+j+us.length)=B.drop (j+us.length)++C++tl:=by
   rw[aH,aH,<-Zf,Nat.add_assoc,List.drop_length_add_append,List.drop_append_of_le_length ae,aH]
  rw[h1,h2]
  have e1:A++List.take j B++us++(List.drop (j+us.length) B++C++tl)=(A++(List.take j B++us++List.drop (j+us.length) B)++C)++tl:=by simp
  rw[e1,List.take_append_of_le_length ga,List.take_of_length_le ga]
theorem KO.Y_(hk:(!d||k== .write)=true){g n' cap:Nat}{us:List Value}(hx:ev G x=some (.pointer (some ⟨g,i *sz+j,none⟩)))(hy:ev G y=some v)(hv:v.cells=us.toArray)(hn:∀w,(Go.sizeOf T).run P w=.ok us.length w)(h1:us.all Value.oneCell'=true)(hp:bQ L (SL E sz cf (.slice (some ⟨g,0,none⟩) n' cap) xs) R)(dK:∀e,(cf e).length=sz)(he:xs[i]? =some e)(oV:Nat.ble (j+us.length) sz=true)(e':α)(hu:l9 j us (cf e)=cf e')(h:KO P ops d Q n D w0 G (SL E sz cf (.slice (some ⟨g,0,none⟩) n' cap) (xs.set i e')::R) l):KO P ops d Q n D w0 G L ((k,⟨none,.store T x y,ty,pos,af,none⟩)::l):=
 KO.EP hk (fun a w ha hw=>by
  obtain⟨w',hr,hs⟩:=QI (P:=P) (T:=T) (v:=v) dK (hw.pick hp) he (by simpa[Nat.ble_eq]using oV) hu rfl (hn w) (fun u hu=>aJ.1 h1 u hu) hv
  exact⟨w',by simp[execOp,ha.eval hx,ha.eval hy,Instr.storeAt,Instr.sureAddr,hr],hs⟩) h
theorem KO.aei(hk:(!d||k== .write)=true){g n' cap:Nat}(hx:ev G x=some (.pointer (some ⟨g,i *sz,none⟩)))(e':α)(hy:ev G y=some (.agg (cf e').toArray))(hn:∀w,(Go.sizeOf T).run P w=.ok sz w)(h1:∀e,(cf e).all Value.oneCell'=true)(hp:bQ L (SL E sz cf (.slice (some ⟨g,0,none⟩) n' cap) xs) R)(dK:∀e,(cf e).length=sz)(he:xs[i]? =some e)(h:KO P ops d Q n D w0 G (SL E sz cf (.slice (some ⟨g,0,none⟩) n' cap) (xs.set i e')::R) l):KO P ops d Q n D w0 G L ((k,⟨none,.store T x y,ty,pos,af,none⟩)::l):=
 KO.EP hk (fun a w ha hw=>by
  obtain⟨w',hr,hs⟩:=QI (P:=P) (T:=T) (v:=.agg (cf e').toArray) (us:=cf e') (o:=i *sz) (j:=0) (e':=e') dK (hw.pick hp) he (by rw[dK];omega) (by simp[l9,dK,List.drop_of_length_le]) rfl (by rw[dK];exact hn w) (fun u hu=>aJ.1 (h1 e') u hu) rfl
  exact⟨w',by simp[execOp,ha.eval hx,ha.eval hy,Instr.storeAt,Instr.sureAddr,hr],hs⟩) h
end
section
variable {P:Program} {f:FuncId} {args:Array Value} {w0:World} {L R1 R2 R3:List HP} {A B C:HP} {R:Value->List HP->Prop}
theorem KC.qv(p1:bQ L A R1)(h:KC P f args w0 (A::R1) R):KC P f args w0 L R:=fun w hw=>h w (hw.pick p1)
theorem St.gk{w:World}(hw:St w0 L w)(p1:bQ L A R1)(p2:bQ R1 B R2):St w0 (A::B::R2) w:=(hw.pick p1).UH p2
theorem St.UR{w:World}(hw:St w0 L w)(p1:bQ L A R1)(p2:bQ R1 B R2)(p3:bQ R2 C R3):St w0 (A::B::C::R3) w:=by
 have h1:=hw.gk p1 p2
 have h2:=h1.pick (.tail (.tail p3))
 exact(h2.pick (.tail .head)).pick (.tail (.tail .head)) |>.pick (.tail .head)
theorem KC.QV(p1:bQ L A R1)(p2:bQ R1 B R2)(h:KC P f args w0 (A::B::R2) R):KC P f args w0 L R:=fun w hw=>h w (hw.gk p1 p2)
end
section
variable {P:Program} {ops:Array Oper} {d:Bool} {Q:Exit->Act->World->Prop} {n:Nat} {D:List Deferred} {w0:World} {G:Env} {L R:List HP} {A:HP} {l:List (Kd×Oper)} {k:Kd}
 {t:Nat} {ty T:TypeId} {pos:String} {af:Array Edge} {v:Value} {c:Code} {e:Exit}
theorem K.pk(hp:bQ L A R)(h:K P c Q n D w0 G (A::R)):K P c Q n D w0 G L:=K.conv (fun _ hw=>hw.pick hp) h
theorem KO.bld{parts:Array (Nat×Operand)}{vs:List Value}(hv:Jc G (parts.toList.map (·.2))=some vs)(hr:∀w,(Instr.build T ((parts.toList.map (·.1)).zip vs).toArray).run P w=.ok v w)(ht:Nat.blt t n=true)(h:KO P ops d Q n D w0 ((t,v)::G) L l):KO P ops d Q n D w0 G L ((k,⟨some t,.build T parts,ty,pos,af,none⟩)::l):=
 KO.val (fun a w ha=>by
  have key:∀(ps:List (Nat×Operand)) (vs:List Value),(ps.map (·.2)).map (ev G)=vs.map some->ps.map (fun(p:Nat×Operand)=>(p.1,a.eval p.2))=(ps.map (·.1)).zip vs:=by
   intro ps
   induction ps with
   |nil=>intro vs h;cases vs with|nil=>rfl|cons _ _=>simp at h
   |cons p ps ih=>intro vs h;cases vs with
    |nil=>simp at h
    |cons v vs=>
     simp only[aL,List.cons.injEq]at h
     simp only[aL,List.zip_cons_cons,ha.eval h.1,ih vs h.2]
  have e:parts.map (fun(i,x)=>(i,a.eval x))=((parts.toList.map (·.1)).zip vs).toArray:=by
   apply Array.ext'
   rw[Array.toList_map]
   exact key _ _ (p8 hv)
  simp only[execOp,e,hr w,Sem.run_bind,Sem.run_pure,Result.andThen_ok]) ht h
end
def MM (pl:List (Nat×Nat)):List Value->List (Nat×Value)->Option (List Value)
 |cs,[]=>some cs
 |cs,(i,v)::rest=>match pl[i]? with
  |some (off,size)=>match (Nat.beq v.cells.toList.length size&&Nat.ble (off+v.cells.toList.length) cs.length)with|true=>MM pl (l9 off v.cells.toList cs) rest|false=>none
  |none=>none
theorem CM(pl:List (Nat×Nat))(place:Nat->Option (Nat×Nat))(qk:∀i,place i=pl[i]?):∀(parts:List (Nat×Value)) (cs EG:List Value),MM pl cs parts=some EG->Instr.fill place cs.toArray parts=some EG.toArray
 |[],cs,EG,h=>by simp only[MM,az]at h;subst h;rfl
 |(i,v)::rest,cs,EG,h=>by
  unfold MM at h
  cases hp:pl[i]? with
  |none=>rw[hp]at h;simp at h
  |some os=>
   obtain⟨off,size⟩:=os
   rw[hp]at h
   simp only at h
   cases hb:(Nat.beq v.cells.toList.length size&&Nat.ble (off+v.cells.toList.length) cs.length)with
   |false=>rw[hb]at h;simp at h
   |true=>
    rw[hb]at h
    simp only at h
    simp only[bn]at hb
    have h1:v.cells.toList.length=size:=Nat.eq_of_beq_eq_true hb.1
    have h2:off+v.cells.toList.length<=cs.length:=Nat.le_of_ble_eq_true hb.2
    unfold Instr.fill
    rw[qk i,hp]
    simp only
    rw[if_neg (by simp only[Array.length_toList]at h1 h2;simp;omega)]
    have jq:(v.cells.zipIdx.foldl (fun cs (x:Value×Nat)=>cs.setIfInBounds (off+x.2) x.1) cs.toArray)=(l9 off v.cells.toList cs).toArray:=by
     have e0:v.cells.zipIdx.foldl (fun cs (x:Value×Nat)=>cs.setIfInBounds (off+x.2) x.1) cs.toArray=(v.cells.toList.zipIdx 0).foldl (fun cs (x:Value×Nat)=>cs.setIfInBounds (off+x.2) x.1) cs.toArray:=by
      rw[<-Array.foldl_toList];simp
     obtain⟨g1,g2⟩:=Great.foldl_set off v.cells.toList 0 cs.toArray
     rw[e0]
     apply Array.ext_getElem?
     intro q
     rw[g2 q]
     simp only[List.getElem?_toArray,List.size_toArray,Nat.add_zero]
     rw[<-rP off _ cs h2]
     by_cases hq:off<=q/\q<off+v.cells.toList.length/\q<cs.length
     ·rw[if_pos hq,aH,bf Y33,bL,Nat.min_eq_left ae,List.getElem?_append_left ae]
     ·rw[if_neg hq,aH]
      by_cases hq1:q<off
      ·rw[List.getElem?_append_left Y33,List.getElem?_take,if_pos hq1]
      ·rw[bf Y33,bL,Nat.min_eq_left ae]
       by_cases Zh:q<cs.length
       ·have h3:off+v.cells.toList.length<=q:=Nat.not_lt.1 fun h4=>hq ⟨by omega,h4,Zh⟩
        rw[bf ae,List.getElem?_drop]
        congr 1;omega
       ·rw[br ae,bf ae,br (by rw[bC];omega)]
    show Instr.fill place (v.cells.zipIdx.foldl (fun cs (x:Value×Nat)=>cs.setIfInBounds (off+x.2) x.1) cs.toArray) rest=_
    rw[jq]
    exact CM pl place qk rest _ _ h
section
variable {P:Program} {ops:Array Oper} {d:Bool} {Q:Exit->Act->World->Prop} {n:Nat} {D:List Deferred} {w0:World} {G:Env} {L R:List HP} {l:List (Kd×Oper)} {k:Kd} {t:Nat} {ty T:TypeId} {pos:String} {af:Array Edge} {v z:Value}
theorem KO.XX{parts:Array (Nat×Operand)}{vs:List Value}{fs:Array Field}{pl:List (Nat×Nat)}(cs:List Value)(hv:Jc G (parts.toList.map (·.2))=some vs)(hz:∀w,(zeroValue T).run P w=.ok z w)(hu:∀w,(underlying T).run P w=.ok (.struct fs) w)(qk:∀w,(fs.mapM fun(f:Field)=>(do pure (f.offset,<-Go.sizeOf f.type):Sem (Nat×Nat))).run P w=.ok pl.toArray w)(hb:MM pl z.cells.toList ((parts.toList.map (·.1)).zip vs)=some cs)(ht:Nat.blt t n=true)(h:KO P ops d Q n D w0 ((t,.agg cs.toArray)::G) L l):KO P ops d Q n D w0 G L ((k,⟨some t,.build T parts,ty,pos,af,none⟩)::l):=
 KO.bld hv (fun w=>by
  have :=CM pl (fun x=>pl[x]?) (fun i=>rfl) _ _ _ hb
  simp only[Array.toArray_toList]at this
  simp only[Instr.build,hz w,hu w,Sem.run_bind,Result.andThen_ok]
  rw[qk w]
  simp[this]) ht h
end
section
variable {P:Program} {ops:Array Oper} {d:Bool} {Q:Exit->Act->World->Prop} {n:Nat} {D:List Deferred} {w0:World} {G:Env} {L R:List HP} {l:List (Kd×Oper)} {k:Kd} {t:Nat} {ty T:TypeId} {pos:String} {af:Array Edge} {v z:Value}
theorem KO.xe{parts:Array (Nat×Operand)}{vs:List Value}{fs:Array Field}{pl:List (Nat×Nat)}{cs:List Value}(hv:Jc G (parts.toList.map (·.2))=some vs)(hz:∀w,(zeroValue T).run P w=.ok z w)(hu:∀w,(underlying T).run P w=.ok (.struct fs) w)(qk:∀w,(fs.mapM fun(f:Field)=>(do pure (f.offset,<-Go.sizeOf f.type):Sem (Nat×Nat))).run P w=.ok pl.toArray w)(hb:MM pl z.cells.toList ((parts.toList.map (·.1)).zip vs)=some cs)(ht:Nat.blt t n=true)(h:KO P ops d Q n D w0 ((t,.agg cs.toArray)::G) L l):KO P ops d Q n D w0 G L ((k,⟨some t,.build T parts,ty,pos,af,none⟩)::l):=KO.XX cs hv hz hu qk hb ht h
end
section
variable {P:Program} {ops:Array Oper} {d:Bool} {Q:Exit->Act->World->Prop} {n:Nat} {D:List Deferred} {w0:World} {G:Env} {L R:List HP} {l:List (Kd×Oper)} {k:Kd} {t:Nat} {ty T E:TypeId} {pos:String} {af:Array Edge} {v:Value} {x y:Operand}
theorem KO.pD{b:Nat}{cs us:List Value}(hk:(!d||k== .write)=true)(hx:ev G x=some (.pointer (some ⟨b,0,none⟩)))(hy:ev G y=some v)(hv:v.cells=us.toArray)(hn:∀w,(Go.sizeOf T).run P w=.ok us.length w)(h1:us.all Value.oneCell'=true)(hp:bQ L (bP b (.cells cs.toArray E (0,0))) R)(oV:Nat.beq us.length cs.length=true)(h:KO P ops d Q n D w0 G (bP b (.cells us.toArray E (0,0))::R) l):
 KO P ops d Q n D w0 G L ((k,⟨none,.store T x y,ty,pos,af,none⟩)::l):=
 have e:us.length=cs.length:=Nat.eq_of_beq_eq_true oV
 KO.JV hk hx hy hv hn h1 hp (Nat.ble_eq_true_of_le ae) (by rw[l9,e,List.drop_length,List.append_nil]) h
end
section
variable {P:Program} {ops:Array Oper} {d:Bool} {Q:Exit->Act->World->Prop} {n:Nat} {D:List Deferred} {w0:World} {G:Env} {L R:List HP} {l:List (Kd×Oper)} {k:Kd} {t:Nat} {ty T E:TypeId} {pos:String} {af:Array Edge} {v z:Value} {x y:Operand} {sz dP:Nat}
theorem KO.lY(hk:(!d||(k== .dm||k== .write))=true){cs:List Value}(hv:ev G x=some v)(hT:P.underlying T=some (.slice E))(hi:(P.info? E).map (fun i=>(i.zero,i.size,i.bytes))=some (some z,sz,dP))(hc:v.cells=cs.toArray)(dK:cs.length=sz)(hs:¬1*sz>2^24)(DM:¬1*sz=0)(ht:Nat.blt t n=true)(h:∀bb,KO P ops d Q n D w0 ((t,.slice (some ⟨bb,0,none⟩) 1 1)::G) (bP bb (.cells cs.toArray E (0,0))::L) l):KO P ops d Q n D w0 G L ((k,⟨some t,.buildSlice T 1 #[(0,x)],ty,pos,af,none⟩)::l):=
 KO.bs hk [x] rfl (vs:=[v]) (by simp[Jc,hv]) hT hi (by simp[hc,dK]) rfl hs DM (by simp[hc]) ht h
theorem KO.bsF(hk:(!d||(k== .dm||k== .write))=true){len:Nat}{parts:Array (Nat×Operand)}(os:List Operand){vs:List Value}(hp:parts.toList=(os.zipIdx 0).map fun x=>(x.2,x.1))(hv:Jc G os=some vs)(hT:P.underlying T=some (.slice E))(hi:(P.info? E).map (fun i=>(i.zero,i.size,i.bytes))=some (some z,1,dP))(dK:vs.all (fun v=>v.cells.size==1)=true)(hlen:vs.length=len)(hs:¬len *1>2^24)(DM:¬len *1=0)(lW:(vs.flatMap fun v=>v.cells.toList)=vs)(ht:Nat.blt t n=true)(h:∀bb,KO P ops d Q n D w0 ((t,.slice (some ⟨bb,0,none⟩) len len)::G) (bP bb (.cells vs.toArray E (0,0))::L) l):KO P ops d Q n D w0 G L ((k,⟨some t,.buildSlice T len parts,ty,pos,af,none⟩)::l):=
 KO.bs hk os hp hv hT hi dK hlen hs DM lW ht h
end
open Go
inductive vF:List HP->List HP->Prop
 |refl {L:List HP}:vF L L
 |drop {A:HP} {L M:List HP}:vF L M->vF L (A::M)
theorem St.Sx{w0 w:World}{A:HP}{L M:List HP}(f:∀h,ij M h->∃h1 h2,vG h1 h2/\h=qe h1 h2/\ij L h2)(h:St w0 (A::M) w):St w0 (A::L) w:=by
 obtain⟨x,hx,h1,h2,d,rfl,a,b⟩:=h.own
 obtain⟨g1,g2,d2,rfl,c⟩:=f h2 b
 rw[mN]at d
 refine {h with own:=⟨qe h1 g2,fun k o hk=>hx k o ?_,h1,g2,d.2,rfl,a,c⟩}
 simp only[qe]at hk ⊢
 cases e1:h1 k with
 |some v=>rw[e1]at hk;simpa using hk
 |none=>
  rw[e1]at hk
  simp only[Option.none_or]at hk ⊢
  rcases d2 k with e|e
  ·rw[e];simpa using hk
  ·rw[e]at hk;simp at hk
theorem vF.ij{L M:List HP}(hs:vF L M):∀h,WB.ij M h->∃h1 h2,vG h1 h2/\h=qe h1 h2/\WB.ij L h2:=by
 induction hs with
 |refl=>exact fun h hh=>⟨fun _=>none,h,fun _=>.inl rfl,(yN fun _=>rfl).symm,hh⟩
 |drop _ ih=>
  rintro h ⟨h1,h2,d,rfl,_,b⟩
  obtain⟨g1,g2,d2,rfl,c⟩:=ih h2 b
  rw[mN]at d
  refine⟨qe h1 g1,g2,oY.2 ⟨d.2,d2⟩,(oD _ _ _).symm,c⟩
theorem St.Rm{w0 w:World}{A:HP}{L M:List HP}(h:St w0 (A::M) w)(hs:vF L M):St w0 (A::L) w:=h.Sx hs.ij
theorem St.Rl{w0 w:World}{A B:HP}{L M:List HP}(h:St w0 (A::B::M) w)(hs:vF L M):St w0 (A::B::L) w:=((h.join).Rm hs).split
theorem St.gc3{w0 w:World}{A B C:HP}{L M:List HP}(h:St w0 (A::B::C::M) w)(hs:vF L M):St w0 (A::B::C::L) w:=((h.join).Rl hs).split
end WB
namespace Go.Proofs.YtjhogocabcdjbabGreatDoor
open Tryz
open Go Go.RowKit WB
theorem DF:(prog.info? 243).map (fun i=>(i.zero,i.size,i.bytes))=some (some (Value.agg #[.int .i64 0,.int .i64 0,.string ⟨#[]⟩,.string ⟨#[]⟩,.int .i64 0,.int .i64 0,.int .i64 0,.int .i64 0]),8,80):=by kernel_rfl
theorem rV(x:It):(nJ x).all Value.oneCell'=true:=rfl
theorem FQ(xs:List It):∀u∈xs.flatMap nJ,u.oneCell'=true:=Au (fun e u hu=>aJ.1 (rV e) u hu) xs
theorem SE(w0:World)(L:List HP)(v:Value)(xs:List It)(x:It)(k bv:Nat)(hk:k<=xs.length)(hn:xs.length<1000000):
 KC prog 246 #[v,.int .i64 (k:Nat),.slice (some ⟨bv,0,none⟩) 1 1] w0 (Kf v xs::bP bv (.cells (nJ x).toArray 243 (0,0))::L) (fun v' L'=>L'=Kf v' (xs.take k++x::xs.drop k)::L):=fun w h=>by
 have fin:∀{w':World} {v':Value},St w0 (lu 243 8 v' (xs.length+1) (xs.flatMap nJ |>.take (k *8))::L) w'->True:=fun _=>trivial
 have e1:(xs.take k++x::xs.drop k).length=xs.length+1:=by simp;omega
 have e2:(xs.flatMap nJ).take (k *8)++nJ x++(xs.flatMap nJ).drop (k *8)=(xs.take k++x::xs.drop k).flatMap nJ:=by
  rw[mK nJ 8 (fun _=>rfl) xs k hk,mL nJ 8 (fun _=>rfl) xs k hk];simp
 by_cases np:k=xs.length
 ·subst np
  refine(IE w w0 L v xs.length (xs.flatMap nJ) (nJ x) bv h rfl (fun u hu=>aJ.1 (rV x) u hu) hn).mono ?_
  rintro e w' ⟨v',he,hs⟩
  refine⟨v',_,he,rfl,?_⟩
  show St w0 (lu 243 8 v' _ _::L) w'
  rw[e1,show(xs.take xs.length++x::xs.drop xs.length).flatMap nJ=xs.flatMap nJ++nJ x by simp]
  exact hs
 ·have dS:k<xs.length:=by omega
  have key:Calls prog 246 #[v,.int .i64 (k:Nat),.slice (some ⟨bv,0,none⟩) 1 1] w fun e w'=> ∃v',e=.returned v'/\St w0 (lu 243 8 v' (xs.length+1) ((xs.flatMap nJ).take (k *8)++nJ x++(xs.flatMap nJ).drop (k *8))::L) w':=by
   obtain⟨g,cap,rfl⟩:=sd h dS
   by_cases hr:xs.length+1<=cap
   ·exact FN w w0 L g xs.length cap k _ (nJ x) bv h rfl (fun u hu=>aJ.1 (rV x) u hu) (FQ xs) hn dS hr
   ·exact FP w w0 L g xs.length k cap _ (nJ x) bv h rfl (fun u hu=>aJ.1 (rV x) u hu) (FQ xs) hn dS ae
  refine key.mono ?_
  rintro e w' ⟨v',he,hs⟩
  refine⟨v',_,he,rfl,?_⟩
  show St w0 (lu 243 8 v' _ _::L) w'
  rw[e1,<-e2];exact hs
theorem Vn(w0:World)(L:List HP)(v:Value)(xs:List It)(k:Nat)(hk:k<xs.length)(hn:xs.length<1000000):
 KC prog 151 #[v,.int .i64 (k:Nat),.int .i64 ((k:Int)+1)] w0 (Kf v xs::L) (fun v' L'=>L'=Kf v' (xs.eraseIdx k)::L):=by
 refine KC.pre (fun w hw=>sd hw hk) ?_
 rintro⟨g,cap,rfl⟩
 refine KC.pre (fun w hw=>(gF hw).2.1) fun xX=>?_
 refine KC.mk (n:=33) func151 rfl ntmps151 aj ?_
 refine qE ?_
 refine qG ?_
 refine Ba ?_
 refine KO.Jh (lo:=k) (hi:=k+1) (mx:=xs.length) rfl rfl rfl rfl underlying120 sizeOf243 rfl ae rfl ae ae ae rfl (fun q13=>?_)
 refine Z0 ?_
 refine ji ?_
 refine tJ ?_
 refine K.dp rfl ga ?_
 refine xv ?_
 refine Ba ?_
 refine YB ?_
 refine nB ?_
 refine KO.CS rfl rfl underlying120 sizeOf243 aQ ae rfl ?_
 refine nB ?_
 refine KO.cutFrom (lo:=k+1) rfl rfl underlying120 sizeOf243 ae ae ae rfl ?_
 refine KO.move (j:=k+1) rfl rfl rfl bQ.head rfl xX underlying120 DF (fun _=>rfl) rV ae ae rfl ?_
 refine mS ?_
 refine Z1 ?_
 refine Ba ?_
 refine Z1 ?_
 refine KO.Jg (lo:=k+(xs.length-(k+1))) (hi:=xs.length) rfl rfl rfl underlying120 sizeOf243 rfl rfl ae ae rfl ?_
 refine KO.clear rfl rfl bQ.head xX ga ga underlying120 DF (fun _=>rfl) rfl rfl ?_
 refine G4 ?_
 refine jH ?_
 refine KQ.bG rfl rfl (fun w' hs=>⟨_,_,rfl,rfl,?_⟩)
 have e:(List.take (k+(xs.length-(k+1))) (List.take k xs++List.drop (k+1) xs++List.drop (k+(xs.length-(k+1))) xs))=xs.eraseIdx k:=by
  rw[List.take_append_of_le_length ga,List.take_of_length_le ga,List.eraseIdx_eq_take_drop_succ]
 rw[e]at hs
 exact hs
theorem XF(w0:World)(L:List HP)(v:Value)(xs:List It)(f:FuncId)(cp:List Value)(pf:It->Bool)(hn:xs.length<1000000)(gZ:∀args w,(callFunc f args).run prog w=.ok (.enter f args) w)(qP:∀e v ys,e∈xs->KE prog f ([]++([Value.agg (nJ e).toArray]++cp)).toArray w0 (Kf v ys::L) (fun u L'=>u=.bool (pf e)/\L'=Kf v ys::L)):
 KC prog 158 #[v,.func (.func f) [].toArray cp.toArray] w0 (Kf v xs::L) (fun v' L'=>L'=Kf v' (xs.filter fun e=> !pf e)::L):=by
 refine KC.pre (fun w hw=>aY hw) ?_
 rintro⟨sa,cap,rfl,F6⟩
 refine KC.mk (n:=42) func158 rfl ntmps158 aj ?_
 refine Jx ?_
 refine KO.ce rfl rfl rfl call149 rfl (DI w0 _ _ xs f cp pf (Eu.of (fun _=>rfl) bQ.head) hn gZ (fun e he=>qP e _ xs he)) ?_;rintro v L' ⟨rfl,rfl⟩
 refine mS ?_
 refine tJ ?_
 refine K.bz rfl (fun h=>?_) (fun h=>?_)
 ·refine G9 ?_
  refine KQ.bG rfl rfl (fun w' hs=>⟨_,_,rfl,rfl,?_⟩)
  rw[aT.2 (fun a ha=>by
   have :=List.findIdx?_eq_none_iff.1 (u9 (by omega :qC pf xs<0)) a ha
   simp[this])]
  exact hs
 ·obtain⟨i0,e0,hi0,Kr,OX,Ml,Nd⟩:=oc (p:=pf) (l:=xs) (by unfold qC at h ⊢;split at h<;>simp_all)
  obtain⟨g,rfl⟩:=F6 ae
  refine K.fact (fun w hw=>(gF hw).2.1) fun xX=>?_
  refine xv ?_
  rw[hi0];refine KO.add rfl rfl rfl ae rfl ?_
  refine Z7 ?_
  refine K8 ?_
  refine K.loop (fun k:Nat×Nat×List It=>[(0,.slice (some ⟨g,0,none⟩) xs.length cap),(1,.func (.func f) [].toArray cp.toArray),(5,.int .i64 (k.1:Nat)),(6,.int .i64 (k.2.1:Nat))]) (fun k=>Kf (.slice (some ⟨g,0,none⟩) xs.length cap) k.2.2::L)
   (fun k=>k.2.2.length=xs.length/\k.1<k.2.1/\k.2.1<=xs.length/\k.2.2.take k.1=(xs.take k.2.1).filter (fun e=> !pf e)/\k.2.2.drop k.2.1=xs.drop k.2.1) (fun k=>xs.length-k.2.1) (i0,i0+1,xs) ⟨rfl,by dsimp only;omega,by dsimp only;omega,(jM Nd).symm,rfl⟩ ⟨rfl,rfl,rfl,rfl,trivial⟩ (fun _ h=>h) ?_
  rintro⟨i,j,ys⟩ ⟨hyl,hij,U6,UW,hyd⟩
  dsimp only at hyl hij U6 UW hyd ⊢
  refine sy ?_
  refine Ba ?_
  refine rD ?_
  refine K.bz rfl (fun h1=>?_) (fun h1=>?_)
  ·obtain⟨e,he⟩:∃e,xs[j]? =some e:=⟨xs[j],ao ae⟩
   have hye:ys[j]? =some e:=by rw[<-he];have :=congrArg (fun l=>l[0]?) hyd;simpa using this
   refine HU ?_
   refine ji ?_
   refine Vx ?_
   refine KO.wC rfl rfl isAgg243 sizeOf243 bZ (fun _=>rfl) xG rfl ?_
   refine KO.alloc rfl zeroValue243 aQ rfl ?_;intro b7
   refine Ua ?_
   refine Z8 ?_
   refine Ud ?_
   refine KO.ce rfl rfl rfl gZ rfl ((qP e _ ys (ax he)).only (fun w h=>h.drop)) ?_;rintro v L' ⟨rfl,rfl⟩
   refine qp ?_
   refine Z2 ?_
   refine K.cond rfl (fun h2=>?_) (fun h2=>?_)
   ·obtain⟨u,hu⟩:∃u,ys[i]? =some u:=⟨ys[i],ao ae⟩
    refine sy ?_
    refine Ud ?_
    refine KO.eX rfl rfl runUnderlying120 sizeOf243 rfl ae rfl ?_
    refine KO.aei rfl rfl e rfl sizeOf243 rV bo (fun _=>rfl) hu ?_
    refine Z2 ?_
    refine Um ?_
    refine Z7 ?_
    refine VB ?_
    refine He ?_
    refine KQ.round (i+1,j+1,ys.set i e) ⟨by simp;omega,by dsimp only;omega,by dsimp only;omega,?_,?_⟩ iK ⟨rfl,rfl,rfl,rfl,trivial⟩ (fun _ h=>h.Vm)
    ·dsimp only
     rw[bJ he,bB,<-UW,bJ (e:=e) (by rw[List.getElem?_set_self ae])]
     rw[List.take_set_of_le (aD _)]
     simp only[bE,h2,if_true,List.filter_nil]
    ·dsimp only
     rw[List.drop_set_of_lt ae]
     have :=congrArg (List.drop 1) hyd
     simpa[List.drop_drop,Nat.add_comm]using this
   ·refine JB ?_
    refine KQ.round (i,j+1,ys) ⟨hyl,by dsimp only;omega,by dsimp only;omega,?_,?_⟩ iK ⟨rfl,rfl,rfl,rfl,trivial⟩ (fun _ h=>h.drop)
    ·dsimp only
     rw[bJ he,bB,<-UW]
     simp only[bE,h2,List.filter_nil,List.append_nil,Bool.false_eq_true,if_false]
    ·dsimp only
     have :=congrArg (List.drop 1) hyd
     simpa[List.drop_drop,Nat.add_comm]using this
  ·have hjx:j=xs.length:=by omega
   subst hjx
   have UW:ys.take i=xs.filter (fun e=> !pf e):=by rw[UW,List.take_length]
   refine Z9 ?_
   refine ji ?_
   refine KO.cutFrom (lo:=i) rfl rfl underlying120 sizeOf243 rfl ae ae rfl ?_
   refine KO.clear rfl rfl bQ.head xX hyl.symm ae underlying120 DF (fun _=>rfl) rfl rfl ?_
   refine Z0 ?_
   refine ji ?_
   refine KO.CS (hi:=i) rfl rfl underlying120 sizeOf243 rfl ae rfl ?_
   refine jH ?_
   refine KQ.bG rfl rfl (fun w' hs=>⟨_,_,rfl,rfl,?_⟩)
   rw[<-UW];exact hs
theorem J5(w0:World)(L:List HP)(a b:It)(ha:pF a)(hb:pF b):
 KE prog 244 #[.agg (nJ a).toArray,.agg (nJ b).toArray] w0 L (fun v L'=>v=.int .i64 (iY a b)/\L'=L):=by
 refine KE.mk (n:=14) func244 rfl ntmps244 aj ?_
 intro w hw
 refine Z3 ?_
 refine KO.box rfl rfl aQ rfl ?_;intro b2
 refine KO.box rfl rfl aQ rfl ?_;intro b3
 refine mB ?_
 refine MY ?_
 (refine KO.Wp rfl rfl isAgg44 sizeOf44 bo Y9 aQ rfl ?_)
 refine MY ?_
 (refine KO.Wp rfl rfl isAgg44 sizeOf44 bZ Y9 aQ rfl ?_)
 refine KO.gd (off:=5) rfl runUnderlying243 rfl rfl sizeOf3 rfl ?_
 refine vy ?_
 refine KO.gd (off:=5) rfl runUnderlying243 rfl rfl sizeOf3 rfl ?_
 refine tL ?_
 refine KO.ce rfl rfl rfl call245 rfl (ab7 w _ a.m b.m a.line b.line ha.1 hb.1 ha.2 hb.2) ?_;rintro v L' ⟨rfl,rfl⟩
 refine jH ?_
 refine KQ.bG rfl rfl (fun w' hs=>⟨_,_,rfl,⟨rfl,rfl⟩,hw.aE hs.below,hs.below⟩)
theorem XW(w0:World)(L:List HP)(v:Value)(xs:List It)(x:It)(hr:∀w,St w0 L w->Eu w 8 nJ v xs)(hlen:xs.length<1000000)(hm:QO xs x)(hx:pF x)(tP:∀e∈xs,pF e):
 KE prog 243 #[v,.agg (nJ x).toArray,.func (.func 244) #[] #[]] w0 L (fun v L'=> ∃k,JL xs x k/\v=.tuple #[.int .i64 (k:Nat),.bool (O9 xs x k)]/\L'=L):=by
 refine KE.mk (n:=49) func243 rfl ntmps243 aj ?_
 intro w hw
 obtain⟨sa,cap,rfl,F6,hc⟩:=hr w hw
 refine Z3 ?_
 refine KO.box rfl rfl aQ rfl ?_;intro b4
 refine Z7 ?_
 refine mS ?_
 refine Ba ?_
 refine mS ?_
 refine nQ ?_
 refine Qe ?_
 refine K.loop (fun k:Nat×Nat=>[(0,.slice sa xs.length cap),(2,.func (.func 244) #[] #[]),(4,.pointer (some ⟨b4,0,none⟩)),(8,.int .i64 (xs.length:Nat)),(9,.int .i64 (k.1:Nat)),(10,.int .i64 (k.2:Nat))]) (fun _=>[bP b4 (.cells (nJ x).toArray 243 (0,0))])
  (fun k=>k.1<=k.2/\k.2<=xs.length/\(∀(p:Nat) (a:It),p<k.1->xs[p]? =some a->iY a x<0)/\(∀(p:Nat) (a:It),k.2<=p->xs[p]? =some a->0<=iY a x)) (fun k=>k.2-k.1) (0,xs.length)
  ⟨aV _,aD _,fun p a h=>absurd h (Nat.not_lt_zero _),fun p a h ha=>by have :=(au.1 ha).1;omega⟩ ⟨rfl,rfl,rfl,rfl,rfl,rfl,trivial⟩ (fun _ h=>h) ?_
 rintro⟨p,q⟩ ⟨Q5,hq,h1,h2⟩
 dsimp only at Q5 hq h1 h2 ⊢
 refine sy ?_
 refine rD ?_
 refine K.bz rfl (fun h=>?_) (fun h=>?_)
 ·obtain⟨g,rfl⟩:=F6 ae
  have DP:((p:Int)+(q:Int))/2=(((p+q)/2:Nat):Int):=by omega
  obtain⟨e,he⟩:∃e,xs[(p+q)/2]? =some e:=⟨xs[(p+q)/2],ao ae⟩
  refine HU ?_
  refine ji ?_
  refine vP ?_
  refine KO.i2u rfl (by rw[underlying3];rfl) underlying73 ae rfl ?_
  refine KO.aek rfl rfl rfl rfl ?_
  refine KO.u2i rfl (by rw[underlying73];rfl) underlying3 ae rfl ?_
  refine lK ?_
  rw[DP]
  refine K.draw [.pure,.pure,.pure,.pure,.read,.read,.write,.pure] [0,1,2,3,4,5,6,7] bH bH ?_
  refine qG ?_
  refine Vx ?_
  refine KO.L3 (cs:=(nJ e).toArray) rfl rfl isAgg243 sizeOf243 rfl (hc g rfl _ e he) rfl ?_
  refine Ud ?_
  refine KO.ce rfl rfl rfl call244 rfl (J5 w _ e x (tP e (ax he)) hx) ?_;rintro v L' ⟨rfl,rfl⟩
  refine rD ?_
  refine K.bz rfl (fun h3=>?_) (fun h3=>?_)
  ·(skip)
   refine Um ?_
   refine Z7 ?_
   refine BB ?_
   refine KQ.round ((p+q)/2+1,q) ⟨by dsimp only;omega,hq,fun r a hr ha=>hm r _ a e ae ha he h3,h2⟩ iK ⟨rfl,rfl,rfl,rfl,rfl,rfl,trivial⟩ (fun _ h=>h)
  ·(skip)
   refine Z8 ?_
   refine Z7 ?_
   refine BB ?_
   refine KQ.round (p,(p+q)/2) ⟨by dsimp only;omega,by dsimp only;omega,h1,fun r a hr ha=>Int.not_lt.1 fun hl=>h3 (hm _ r e a hr he ha hl)⟩ iK ⟨rfl,rfl,rfl,rfl,rfl,rfl,trivial⟩ (fun _ h=>h)
 ·obtain rfl:p=q:=by omega
  by_cases dS:p<xs.length
  ·obtain⟨g,rfl⟩:=F6 ae
   obtain⟨e,he⟩:∃e,xs[p]? =some e:=⟨xs[p],ao ae⟩
   refine Z9 ?_
   refine acG ?_
   refine yz ?_
   refine tN ?_
   refine tN ?_
   refine Vx ?_
   refine KO.on rfl rfl ga ?_;refine KO.L3 (cs:=(nJ e).toArray) rfl rfl isAgg243 sizeOf243 rfl (hc g rfl _ e he) rfl ?_
   refine lL ?_
   refine Ud ?_
   refine KO.on rfl rfl ga ?_;refine KO.ce rfl rfl rfl call244 rfl (J5 w _ e x (tP e (ax he)) hx) ?_;rintro v L' ⟨rfl,rfl⟩
   refine lL ?_
   refine D_ ?_
   refine sO ?_
   refine rC ?_
   refine KQ.fp rfl rfl rfl (fun w' hs=>⟨_,_,rfl,⟨p,⟨hq,h1,h2⟩,?_,rfl⟩,hw.aE hs.below,hs.below⟩)
   simp[O9,he]
  ·refine Z9 ?_
   refine acG ?_
   refine yz ?_
   refine G8 ?_
   refine VA ?_
   refine x8 ?_
   refine rC ?_
   refine KQ.fp rfl rfl rfl (fun w' hs=>⟨_,_,rfl,⟨p,⟨hq,h1,h2⟩,?_,rfl⟩,hw.aE hs.below,hs.below⟩)
   have :xs[p]? =none:=br ae
   simp[O9,this,dS]
abbrev quB (b:Nat) (v:Value) (next:Int):HP:=bP b (.cells [v,.int .i64 next].toArray 122 (0,0))
def jz (b:Nat) (q:Qu):HP:=ex fun v=>sep (quB b v q.next) (Kf v q.l)
theorem jT{w0 w:World}{b:Nat}{q:Qu}{L:List HP}(h:St w0 (jz b q::L) w):∃v,St w0 (quB b v q.next::Kf v q.l::L) w:=by
 obtain⟨v,h⟩:=h.CN
 exact⟨v,h.split⟩
theorem kF{w0 w:World}{b:Nat}{l:List It}{next:Int}{v:Value}{L:List HP}(h:St w0 (quB b v next::Kf v l::L) w):St w0 (jz b ⟨l,next⟩::L) w:=St.Bv (F:=fun v=>sep (quB b v next) (Kf v l)) v h.join
theorem Dp(w0:World)(L:List HP)(b:Nat)(q:Qu)(m:Ms)(u:Int)(hq:YO q)(hm:small m.pri):
 KC prog 147 #[.pointer (some ⟨b,0,none⟩),.agg (du m).toArray,.int .i64 u] w0 (jz b q::L) (fun v L'=>v=.tuple #[]/\L'=jz b (db q m u)::L):=by
 have hx:pF (er q m u):=⟨hm,by have :=hq.next;unfold er small;dsimp only;omega⟩
 have hk:=BX q.l (er q m u)
 have h1:=hq.next
 have h2:=hq.len
 refine KC.mk (n:=44) func147 rfl ntmps147 aj ?_
 refine qq ?_
 refine K.cx (fun _ h=>jT h) fun v=>?_
 refine dR ?_
 refine KO.box rfl rfl aQ rfl ?_;intro b4
 refine Z0 ?_
 refine K.draw [.read,.pure,.pure,.pure,.read,.pure,.pure,.pure,.dm,.write] [0,1,2,3,4,5,6,7,8,9] bH bH ?_
 refine Eo ?_
 refine mA ?_
 refine Yg ?_
 refine vy ?_
 refine Z1 ?_
 refine KO.max2 rfl rfl rfl rfl ?_
 refine KO.XX (pl:=[(0,5),(5,1),(6,1),(7,1)]) (nJ (er q m u)) rfl zeroValue243 runUnderlying243 (by intro w;simp[sizeOf3,sizeOf44]) rfl rfl ?_
 refine KO.alloc rfl zeroValue243 aQ rfl ?_;intro b6
 refine Ua ?_
 refine kp ?_
 refine Yg ?_
 refine vy ?_
 refine Jw ?_
 refine Yg ?_
 (refine KO.JV rfl rfl rfl aQ za aQ bo aQ Y0 ?_)
 refine Z0 ?_
 refine K.draw [.pure,.pure,.pure,.read,.read,.write,.pure,.pure,.pure,.pure,.pure] [0,1,2,3,4,5,6,7,8,9,10] bH bH ?_
 refine mA ?_
 refine Uc ?_
 refine KO.uS rfl rfl isAgg243 sizeOf243 bo aQ rfl ?_
 refine KO.ce rfl rfl rfl call243 rfl (XW w0 _ v q.l (er q m u) (Eu.of (fun _=>rfl) bo) ae (hq.mono m u) hx hq.small) ?_;rintro v30 L' ⟨k,hsr,rfl,rfl⟩;obtain rfl:=BY hsr
 refine Qc ?_
 refine sx ?_
 refine K.draw [.pure,.pure,.pure,.pure,.read,.pure,.read,.dm,.write,.pure,.pure,.write] [0,1,2,3,4,5,6,7,8,9,10,11] bH bH ?_
 refine tI ?_
 refine Uc ?_
 refine Z1 ?_
 refine KO.uS rfl rfl isAgg243 sizeOf243 bo aQ rfl ?_
 refine KO.lY (z:=(Value.agg #[.int .i64 0,.int .i64 0,.string ⟨#[]⟩,.string ⟨#[]⟩,.int .i64 0,.int .i64 0,.int .i64 0,.int .i64 0])) (sz:=8) (dP:=80) rfl rfl underlying120 bH aQ aQ ai ai rfl ?_;intro b40
 refine KO.cl rfl rfl rfl call246 rfl (KC.QV bo bZ (SE w0 _ v q.l (er q m u) _ _ hk ae)) ?_;rintro v' L' rfl;refine KO.fact (fun _ hs=>aY hs) ?_;rintro⟨a',c',rfl,-⟩
 refine lJ ?_
 refine X5 ?_
 (refine KO.JV rfl rfl rfl aQ Y48 aQ bo aQ Y0 ?_)
 refine KO.nil ?_
 refine KQ.j9 rfl (fun w' hs=>⟨_,_,rfl,⟨rfl,rfl⟩,?_⟩)
 exact kF ((hs.gk bZ bZ).Rl EL)
theorem Wh(w0:World)(L R:List HP)(b:Nat)(q:Qu)(hp:bQ L (jz b q) R):
 KE prog 192 #[.pointer (some ⟨b,0,none⟩)] w0 L (fun v L'=>v=.int .i64 (q.l.length:Nat)/\L'=L):=by
 refine KE.mk (n:=8) func192 rfl ntmps192 aj ?_
 intro w qj
 obtain⟨v,hw⟩:=jT (qj.pick hp)
 obtain⟨sa,cap,rfl,F6⟩:=aY hw.drop
 refine qE ?_
 refine lJ ?_
 refine Ue ?_
 refine Ba ?_
 refine jH ?_
 refine KQ.bG rfl rfl (fun w' hs=>⟨_,_,rfl,⟨rfl,rfl⟩,qj.aE hs.below,hs.below⟩)
theorem Xl(w0:World)(L R:List HP)(e:It)(b:Nat)(id:Int)(E:TypeId)(hp:bQ L (bP b (.cells [Value.int .i64 id].toArray E (0,0))) R):
 KE prog 242 #[.agg (nJ e).toArray,.pointer (some ⟨b,0,none⟩)] w0 L (fun v L'=>v=.bool (DJ id e)/\L'=L):=by
 refine KE.mk (n:=9) func242 rfl ntmps242 aj ?_
 intro w hw
 have hw:=hw.pick hp
 refine Z3 ?_
 refine KO.box rfl rfl aQ rfl ?_;intro b2
 refine mB ?_
 refine MY ?_
 refine JH ?_
 refine Yc ?_
 refine jH ?_
 refine KQ.bG rfl rfl (fun w' hs=>⟨_,_,rfl,⟨rfl,rfl⟩,(hw.zl hp).aE hs.below,hs.below⟩)
theorem Ve(w0:World)(L R:List HP)(b:Nat)(q:Qu)(id:Int)(hp:bQ L (jz b q) R)(hq:q.l.length<900000):
 KE prog 146 #[.pointer (some ⟨b,0,none⟩),.int .i64 id] w0 L (fun v L'=>v=.bool (Dm q id)/\L'=L):=by
 refine KE.mk (n:=11) func146 rfl ntmps146 aj ?_
 intro w qj
 obtain⟨v,hw⟩:=jT (qj.pick hp)
 refine Z3 ?_
 refine KO.box rfl rfl aQ rfl ?_;intro b3
 refine xC ?_
 refine Ue ?_
 refine KO.Zc rfl rfl rfl ?_
 refine KO.ce rfl rfl rfl call241 rfl (XK w _ v q.l 242 [.pointer (some ⟨b3,0,none⟩)] (DJ id) (Eu.of (E:=243) (sz:=8) (cf:=nJ) (fun _=>rfl) bQ.head w hw.drop).base ae call242 (fun e _=>Xl _ _ _ e b3 id _ bZ)) ?_;rintro v L' ⟨rfl,rfl⟩
 refine jH ?_
 refine KQ.bG rfl rfl (fun w' hs=>⟨_,_,rfl,⟨rfl,rfl⟩,qj.aE hs.below,hs.below⟩)
end Go.Proofs.YtjhogocabcdjbabGreatDoor
namespace WB
open Go Go.RowKit
section
variable {P:Program} {fn:Func} {R:Ending->World->Prop} {n:Nat} {w0:World} {G:Env} {L M:List HP} {v v1 v2 v3:Value} {t t1 t2 t3:Nat} {T E:TypeId} {b:Nat} {cs:List Value} {fz:Nat×Nat}
theorem aet(h1:c_ G t1=some (.pointer (some ⟨b,0,none⟩)))(hT:∀w,(isAgg T).run P w=.ok true w)(hn:∀w,(Go.sizeOf T).run P w=.ok cs.length w)(hp:bQ L (bP b (.cells cs.toArray E fz)) M)(a:Act)(w:World)(ha:cX n [] G a)(hw:St w0 L w):
 (loadVar T ⟨b,0,none⟩).run P w=.ok (.agg cs.toArray) w:=by
 refine pJ (hT w) (hn w) fun j c hj=>?_
 rw[Addr.add_lit,World.cell?,(hw.qh hp).2]
 simpa using hj
theorem KQ.jR(hr:fn.results=#[.cell t1 T,.tmp t2])(h1:c_ G t1=some (.pointer (some ⟨b,0,none⟩)))(hT:∀w,(isAgg T).run P w=.ok true w)(hp:bQ L (bP b (.cells cs.toArray E fz)) M)(hn:∀w,(Go.sizeOf T).run P w=.ok cs.length w)(h2:c_ G t2=some v2)(h:∀w,St w0 L w->R (.returned (.tuple #[.agg cs.toArray,v2])) w):KQ (bodyPost P fn R) .ret n [] w0 G L:=
 KQ.fin (fun a w ha hw=>by
  have hl:=aet (P:=P) h1 hT hn hp a w ha hw
  simp[results,hr,Array.getD_eq_getD_getElem?,ha.get _ _ h1,ha.get _ _ h2,asAddr,hl]) h
end
theorem St.stack{w0 w w':World}{L M:List HP}(hw:St w0 L w)(hs:St w M w'):St w0 (M++L) w':=by
 refine⟨hs.os.trans hw.os,hs.tape.trans hw.tape,hs.output.trans hw.output,Nat.le_trans hw.size hs.size,fun k hk=>?_,?_⟩
 ·rw[hs.block k (Nat.lt_of_lt_of_le hk hw.size)];exact hw.block k hk
 ·obtain⟨h1,hh1,s1⟩:=hw.own
  obtain⟨h2,Tf,s2⟩:=hs.own
  have dS:∀k o,h1 k=some o->k<w.heap.size:=fun k o hk=>(Array.getElem?_eq_some_iff.1 (hh1 k o hk).2).1
  refine⟨qe h2 h1,fun k o hk=>?_,dU.2 ⟨h2,h1,fun k=>?_,rfl,s2,s1⟩⟩
  ·simp only[qe]at hk
   cases e2:h2 k with
   |some v=>
    rw[e2]at hk;simp only[Option.some_or,az]at hk;subst hk
    exact⟨Nat.le_trans hw.size (Tf k v e2).1,(Tf k v e2).2⟩
   |none=>
    rw[e2]at hk;simp only[Option.none_or]at hk
    exact⟨(hh1 k o hk).1,by rw[hs.block k (dS k o hk)];exact(hh1 k o hk).2⟩
  ·cases e1:h1 k with
   |none=>exact .inr rfl
   |some o=>
    left
    cases e2:h2 k with
    |none=>rfl
    |some v=>have h3:=(Tf k v e2).1;have h4:=dS k o e1;omega
theorem cM{w0 w:World}{L:List HP}{α:Type}{E:TypeId}{sz:Nat}{cf:α->List Value}(h:St w0 L w):St w0 (SL E sz cf (.slice none 0 0) ([]:List α)::L) w:=h.Ds
end WB
namespace Go.Proofs.YtjhogocabcdjbabGreatDoor
open Tryz
open Go Go.RowKit WB
theorem NG(w0:World)(L:List HP)(b:Nat)(q:Qu)(id:Int)(hq:q.l.length<900000):
 KC prog 161 #[.pointer (some ⟨b,0,none⟩),.int .i64 id] w0 (jz b q::L) (fun v L'=>v=.tuple #[.agg (du (sX q id)).toArray,cS 70 (mW q id)]/\L'=jz b (eA q id)::L):=by
 refine KC.mk (n:=38) func161 rfl ntmps161 aj ?_
 refine qq ?_
 refine K.cx (fun _ h=>jT h) fun v=>?_
 refine dR ?_
 refine KO.box rfl rfl aQ rfl ?_;intro b3
 refine KO.alloc rfl zeroValue44 aQ rfl ?_;intro b4
 refine xC ?_
 refine Ep ?_
 refine KO.Zc rfl rfl rfl ?_
 refine KO.ce rfl rfl rfl call149 rfl (DI w0 _ v q.l 252 [.pointer (some ⟨b3,0,none⟩)] (DJ id) (Eu.of (fun _=>rfl) bo) ae call252 (fun e _=>RR w0 _ _ e b3 id _ bo)) ?_;rintro v12 L' ⟨rfl,rfl⟩
 refine mS ?_
 refine rD ?_
 refine K.bz rfl (fun h=>?_) (fun h=>?_)
 ·have hn:om q id=none:=u9 h
  refine Jv ?_
  refine K7 ?_
  refine sN ?_
  refine KQ.jR rfl rfl isAgg44 bZ K9 rfl (fun w' hs=>⟨_,_,rfl,⟨?_,rfl⟩,?_⟩)
  ·simp only[sX,mW,hn];rfl
  ·rw[show eA q id=q by simp only[eA,hn]]
   exact kF ((hs.gk bo bo).Rl EL)
 ·obtain⟨i0,e0,hi0,Kr,OX,Ml,Nd⟩:=oc (Int.not_lt.1 h)
  have hn:om q id=some i0:=Nd
  refine K.fact (fun w hw=>sd (hw.pick bo) Ml) ?_
  rintro⟨g,cap,rfl⟩
  rw[hi0]
  refine Z6 ?_
  refine kp ?_
  refine Ep ?_
  refine Z1 ?_
  refine Vx ?_
  refine KO.fo (off:=0) rfl runUnderlying243 rfl rfl sizeOf44 rfl ?_
  (refine KO.aao rfl rfl isAgg44 sizeOf44 bo (fun _=>rfl) xG Y9 aQ rfl ?_)
  refine KO.alloc rfl zeroValue44 aQ rfl ?_;intro b7
  refine yB ?_
  refine o8 ?_
  refine Ep ?_
  refine nB ?_
  refine vP ?_
  refine KO.cl rfl rfl rfl call151 rfl (KC.qv bo (Vn w0 _ _ q.l i0 Ml ae)) ?_;rintro v' L' rfl;refine KO.fact (fun _ hs=>aY hs) ?_;rintro⟨a',c',rfl,-⟩
  refine lJ ?_
  refine X5 ?_
  (refine KO.JV rfl rfl rfl aQ Y48 aQ bo aQ Y0 ?_)
  refine yF ?_
  refine BM ?_
  refine MW ?_
  refine jH ?_
  refine KQ.jR rfl rfl isAgg44 bZ K9 rfl (fun w' hs=>⟨_,_,rfl,⟨?_,rfl⟩,?_⟩)
  ·simp only[sX,mW,hn,pW Kr];rfl
  ·rw[show eA q id=⟨q.l.eraseIdx i0,q.next⟩by simp only[eA,hn]]
   exact kF ((hs.gk bo bo).Rl EL)
theorem abU(w0:World)(L:List HP)(b:Nat)(q:Qu)(u:Int)(hq:q.l.length<900000):
 KC prog 58 #[.pointer (some ⟨b,0,none⟩),.int .i64 u] w0 (jz b q::L) (fun v L'=>v=.tuple #[.agg (du (mX q)).toArray,cS 70 (nV q)]/\L'=jz b (oM q u)::L):=by
 refine KC.mk (n:=47) func58 rfl ntmps58 aj ?_
 refine qq ?_
 refine K.cx (fun _ h=>jT h) fun v=>?_
 refine dR ?_
 refine KO.alloc rfl zeroValue44 aQ rfl ?_;intro b4
 refine xC ?_
 refine Ep ?_
 refine KO.ce (cp:=[]) rfl rfl rfl call149 rfl (DI w0 _ v q.l 150 [] f_ (Eu.of (fun _=>rfl) bo) ae call150 (fun e _=>Xy w0 _ e)) ?_;rintro v12 L' ⟨rfl,rfl⟩
 refine mS ?_
 refine rD ?_
 refine K.bz rfl (fun h=>?_) (fun h=>?_)
 ·have hn:zI q=none:=u9 h
  refine Jv ?_
  refine K7 ?_
  refine sN ?_
  refine KQ.jR rfl rfl isAgg44 bZ K9 rfl (fun w' hs=>⟨_,_,rfl,⟨?_,rfl⟩,?_⟩)
  ·simp only[mX,nV,hn];rfl
  ·rw[show oM q u=q by simp only[oM,hn]]
   exact kF ((hs.gk bo bo).Rl EL)
 ·obtain⟨i0,e0,hi0,Kr,OX,Ml,Nd⟩:=oc (Int.not_lt.1 h)
  have hn:zI q=some i0:=Nd
  refine K.fact (fun w hw=>sd (hw.pick bo) Ml) ?_
  rintro⟨g,cap,rfl⟩
  rw[hi0]
  refine Z6 ?_
  refine kp ?_
  refine Ep ?_
  refine Z1 ?_
  refine Vx ?_
  refine KO.fo (off:=0) rfl runUnderlying243 rfl rfl sizeOf44 rfl ?_
  (refine KO.aao rfl rfl isAgg44 sizeOf44 bo (fun _=>rfl) xG Y9 aQ rfl ?_)
  refine KO.alloc rfl zeroValue44 aQ rfl ?_;intro b7
  refine yB ?_
  refine yI ?_
  refine Z2 ?_
  refine K.bz rfl (fun h2=>?_) (fun h2=>?_)
  ·(skip)
   refine o8 ?_
   refine Ep ?_
   refine nB ?_
   refine vP ?_
   refine KO.cl rfl rfl rfl call151 rfl (KC.qv bo (Vn w0 _ _ q.l i0 Ml ae)) ?_;rintro v' L' rfl;refine KO.fact (fun _ hs=>aY hs) ?_;rintro⟨a',c',rfl,-⟩
   refine lJ ?_
   refine X5 ?_
   (refine KO.JV rfl rfl rfl aQ Y48 aQ bo aQ Y0 ?_)
   refine yF ?_
   refine BM ?_
   refine MW ?_
   refine jH ?_
   refine KQ.jR rfl rfl isAgg44 bZ K9 rfl (fun w' hs=>⟨_,_,rfl,⟨?_,rfl⟩,?_⟩)
   ·simp only[mX,nV,hn,pW Kr];rfl
   ·rw[show oM q u=⟨q.l.eraseIdx i0,q.next⟩by simp only[oM,hn,h2,if_true]]
    exact kF ((hs.gk bo bo).Rl EL)
  ·(skip)
   refine kp ?_
   refine Ep ?_
   refine nB ?_
   refine Vx ?_
   refine Qr ?_
   refine KO.Y_ rfl rfl rfl aQ za aQ bo (fun _=>rfl) Kr rfl {e0 with iS:=u} rfl ?_
   refine yF ?_
   refine BM ?_
   refine MW ?_
   refine jH ?_
   refine KQ.jR rfl rfl isAgg44 bZ K9 rfl (fun w' hs=>⟨_,_,rfl,⟨?_,rfl⟩,?_⟩)
   ·simp only[mX,nV,hn,pW Kr];rfl
   ·rw[show oM q u=⟨q.l.set i0 {e0 with iS:=u},q.next⟩by simp only[oM,hn,h2,if_false,pW Kr]]
    exact kF ((hs.gk bo bo).Rl EL)
abbrev LY (v:Value) (xs:List Ms):HP:=SL 44 5 du v xs
theorem J8:(prog.info? 44).map (fun i=>(i.zero,i.size,i.bytes))=some (some (Value.agg #[.int .i64 0,.int .i64 0,.string ⟨#[]⟩,.string ⟨#[]⟩,.int .i64 0]),5,56):=by kernel_rfl
theorem JT(w0:World)(L R:List HP)(b:Nat)(q:Qu)(hp:bQ L (jz b q) R)(hq:q.l.length<900000):
 KE prog 80 #[.pointer (some ⟨b,0,none⟩)] w0 L (fun v L'=>L'=LY v (dF q)::L):=by
 refine KE.mk (n:=30) func80 rfl ntmps80 aj ?_
 intro w qj
 obtain⟨v,hw⟩:=jT (qj.pick hp)
 obtain⟨sa,cap,rfl,F6,hc⟩:=Eu.of (E:=243) (sz:=8) (cf:=nJ) (fun _=>rfl) bQ.head w hw.drop
 refine Z3 ?_
 refine mB ?_
 refine xC ?_
 refine Ue ?_
 refine Ba ?_
 refine ox ?_
 refine K.loop (fun k:Nat×Value=>[(3,k.2),(9,.slice sa q.l.length cap),(10,.int .i64 (q.l.length:Nat)),(11,.int .i64 (k.1:Nat))]) (fun k=>[LY k.2 (((q.l.take k.1).filter f_).map (·.m))]) (fun k=>k.1<=q.l.length) (fun k=>q.l.length-k.1) (0,.slice none 0 0)
  (aV _) ⟨rfl,rfl,rfl,rfl,trivial⟩ (fun _ h=>cM h) ?_
 rintro⟨k,vo⟩ hk
 dsimp only at hk ⊢
 refine iJ ?_
 refine K.bz rfl (fun h=>?_) (fun h=>?_)
 ·obtain⟨g,rfl⟩:=F6 ae
  obtain⟨e,he⟩:∃e,q.l[k]? =some e:=⟨q.l[k],ao ae⟩
  have hlen:(((q.l.take k).filter f_).map (·.m)).length<900000:=by
   have :=List.length_filter_le f_ (q.l.take k);simp at this ⊢;omega
  have c8:((q.l.take (k+1)).filter f_).map (·.m)=((q.l.take k).filter f_).map (·.m)++(if f_ e=true then[e.m]else[]):=by
   rw[bJ he,bB]
   by_cases ha:f_ e=true<;>simp[ha]
  refine qF ?_
  refine YA ?_
  refine KO.alloc rfl zeroValue243 aQ rfl ?_;intro b5
  refine Ua ?_
  by_cases h1:e.put<0
  ·refine ZE ?_
   refine G_ ?_
   refine Hn ?_
   refine o_ ?_
   refine yz ?_
   refine Ej ?_
   refine K.bz rfl (fun h2=>?_) (fun h2=>?_)
   ·rw[if_pos (by simp[f_,h1,h2])]at c8
    refine Z8 ?_
    refine MY ?_
    (refine KO.Wp rfl rfl isAgg44 sizeOf44 bZ Y9 aQ rfl ?_)
    refine KO.lY (z:=(Value.agg #[.int .i64 0,.int .i64 0,.string ⟨#[]⟩,.string ⟨#[]⟩,.int .i64 0])) (sz:=5) (dP:=56) rfl rfl underlying49 bH aQ aQ ai ai rfl ?_;intro XZ
    refine KO.app (z:=Value.agg #[.int .i64 0,.int .i64 0,.string ⟨#[]⟩,.string ⟨#[]⟩,.int .i64 0]) (sz:=5) (dP:=56) rfl rfl rfl bo bZ underlying49 J8 rfl e.m aQ aQ aQ ae ai rfl ?_;intro v'
    refine vz ?_
    refine KQ.round (k+1,v') iK iK ⟨rfl,rfl,rfl,rfl,trivial⟩ (fun _ h=>?_)
    dsimp only
    rw[c8]
    exact(h.pick bZ).Rm EL
   ·rw[if_neg (by simp[f_,h2]),List.append_nil]at c8
    refine qD ?_
    refine KQ.round (k+1,vo) iK iK ⟨rfl,rfl,rfl,rfl,trivial⟩ (fun _ h=>?_)
    dsimp only
    rw[c8]
    exact(h.pick bo).Rm EL
  ·rw[if_neg (by simp[f_,h1]),List.append_nil]at c8
   refine ZE ?_
   refine Ub ?_
   refine JC ?_
   refine GZ ?_
   refine qD ?_
   refine KQ.round (k+1,vo) iK iK ⟨rfl,rfl,rfl,rfl,trivial⟩ (fun _ h=>?_)
   dsimp only
   rw[c8]
   exact(h.pick bo).Rm EL
 ·have uX:k=q.l.length:=by omega
  refine xr ?_
  refine jH ?_
  refine KQ.bG rfl rfl (fun w' hs=>⟨_,_,rfl,rfl,?_,hs.below⟩)
  rw[uX,List.take_length]at hs
  exact qj.stack hs
theorem IC(w0:World)(L R:List HP)(b:Nat)(q:Qu)(hp:bQ L (jz b q) R)(hq:q.l.length<900000):
 KE prog 67 #[.pointer (some ⟨b,0,none⟩)] w0 L (fun v L'=>L'=LY v (aW q)::L):=by
 refine KE.mk (n:=25) func67 rfl ntmps67 aj ?_
 intro w qj
 obtain⟨v,hw⟩:=jT (qj.pick hp)
 obtain⟨sa,cap,rfl,F6,hc⟩:=Eu.of (E:=243) (sz:=8) (cf:=nJ) (fun _=>rfl) bQ.head w hw.drop
 refine Z3 ?_
 refine mB ?_
 refine xC ?_
 refine Ue ?_
 refine Ba ?_
 refine ox ?_
 refine K.loop (fun k:Nat×Value=>[(3,k.2),(9,.slice sa q.l.length cap),(10,.int .i64 (q.l.length:Nat)),(11,.int .i64 (k.1:Nat))]) (fun k=>[LY k.2 (((q.l.take k.1).filter fun e=>decide (e.put<0)).map (·.m))]) (fun k=>k.1<=q.l.length) (fun k=>q.l.length-k.1) (0,.slice none 0 0)
  (aV _) ⟨rfl,rfl,rfl,rfl,trivial⟩ (fun _ h=>cM h) ?_
 rintro⟨k,vo⟩ hk
 dsimp only at hk ⊢
 refine iJ ?_
 refine K.bz rfl (fun h=>?_) (fun h=>?_)
 ·obtain⟨g,rfl⟩:=F6 ae
  obtain⟨e,he⟩:∃e,q.l[k]? =some e:=⟨q.l[k],ao ae⟩
  have hlen:(((q.l.take k).filter fun e=>decide (e.put<0)).map (·.m)).length<900000:=by
   have :=List.length_filter_le (fun e:It=>decide (e.put<0)) (q.l.take k);simp at this ⊢;omega
  have c8:((q.l.take (k+1)).filter fun e=>decide (e.put<0)).map (·.m)=((q.l.take k).filter fun e=>decide (e.put<0)).map (·.m)++(if e.put<0 then[e.m]else[]):=by
   rw[bJ he,bB]
   by_cases ha:e.put<0<;>simp[ha]
  refine qF ?_
  refine YA ?_
  refine KO.alloc rfl zeroValue243 aQ rfl ?_;intro b5
  refine Ua ?_
  refine ZE ?_
  refine tL ?_
  refine rD ?_
  refine K.bz rfl (fun h2=>?_) (fun h2=>?_)
  ·rw[if_pos h2]at c8
   refine Z8 ?_
   refine MY ?_
   (refine KO.Wp rfl rfl isAgg44 sizeOf44 bZ Y9 aQ rfl ?_)
   refine KO.lY (z:=(Value.agg #[.int .i64 0,.int .i64 0,.string ⟨#[]⟩,.string ⟨#[]⟩,.int .i64 0])) (sz:=5) (dP:=56) rfl rfl underlying49 bH aQ aQ ai ai rfl ?_;intro b21
   refine KO.app (z:=Value.agg #[.int .i64 0,.int .i64 0,.string ⟨#[]⟩,.string ⟨#[]⟩,.int .i64 0]) (sz:=5) (dP:=56) rfl rfl rfl bo bZ underlying49 J8 rfl e.m aQ aQ aQ ae ai rfl ?_;intro v'
   refine vz ?_
   refine KQ.round (k+1,v') iK iK ⟨rfl,rfl,rfl,rfl,trivial⟩ (fun _ h=>?_)
   dsimp only
   rw[c8]
   exact(h.pick bZ).Rm EL
  ·rw[if_neg h2,List.append_nil]at c8
   refine qD ?_
   refine KQ.round (k+1,vo) iK iK ⟨rfl,rfl,rfl,rfl,trivial⟩ (fun _ h=>?_)
   dsimp only
   rw[c8]
   exact(h.pick bo).Rm EL
 ·have uX:k=q.l.length:=by omega
  refine xr ?_
  refine jH ?_
  refine KQ.bG rfl rfl (fun w' hs=>⟨_,_,rfl,rfl,?_,hs.below⟩)
  rw[uX,List.take_length]at hs
  exact qj.stack hs
theorem TK(w0:World)(L R1 R2:List HP)(e:It)(b1 b2:Nat)(u:Int)(back:Bool)(E1 E2:TypeId)(kY:bQ L (bP b1 (.cells [Value.int .i64 u].toArray E1 (0,0))) R1)(ku:bQ L (bP b2 (.cells [Value.bool back].toArray E2 (0,0))) R2):
 KE prog 159 #[.agg (nJ e).toArray,.pointer (some ⟨b1,0,none⟩),.pointer (some ⟨b2,0,none⟩)] w0 L (fun v L'=>v=.bool (p9 u back e)/\L'=L):=by
 refine KE.mk (n:=22) func159 rfl ntmps159 aj ?_
 intro w qj
 have c1:w.cell? ⟨b1,0,none⟩=some (.int .i64 u):=by rw[World.cell?,(qj.qh kY).2];rfl
 have c2:w.cell? ⟨b2,0,none⟩=some (.bool back):=by rw[World.cell?,(qj.qh ku).2];rfl
 refine Z3 ?_
 refine KO.box rfl rfl aQ rfl ?_;intro b3
 refine lK ?_
 by_cases h1:e.put=u
 all_goals cases back
 all_goals by_cases h2:e.iS=u
 ·refine Qg ?_
  refine KO.on rfl rfl EK ?_;refine KO.sE rfl rfl isAgg4 c2 rfl ?_
  refine sO ?_
  refine HQ ?_
  refine Hn ?_
  refine Ju ?_
  refine KO.on rfl rfl rfl ?_;refine KO.sE rfl rfl isAgg3 c1 rfl ?_
  refine BG ?_
  refine Eb ?_
  refine KO.on rfl rfl (by simp[h2]) ?_;refine KO.sE rfl rfl isAgg4 c2 rfl ?_
  refine lL ?_
  refine qp ?_
  refine rA ?_
  refine KO.uD rfl ?_ rfl rfl ?_
  (focus(simp only[decide_eq_true_eq,decide_eq_false_iff_not,Bool.not_eq_true,Bool.not_true,Bool.not_false,ne_eq];omega))
  refine Jt ?_
  refine KQ.bG rfl rfl (fun w' hs=>⟨_,_,rfl,⟨?_,rfl⟩,qj.aE hs.below,hs.below⟩)
  simp[p9,h1,h2]
 ·refine Qg ?_
  refine KO.on rfl rfl EK ?_;refine KO.sE rfl rfl isAgg4 c2 rfl ?_
  refine sO ?_
  refine HQ ?_
  refine Hn ?_
  refine Ju ?_
  refine KO.on rfl rfl rfl ?_;refine KO.sE rfl rfl isAgg3 c1 rfl ?_
  refine BG ?_
  refine rA ?_
  refine Bb ?_
  refine rA ?_
  refine KO.nd rfl ?_ rfl rfl ?_
  (focus(simp only[decide_eq_true_eq,decide_eq_false_iff_not,Bool.not_eq_true,Bool.not_true,Bool.not_false,ne_eq];omega))
  refine Jt ?_
  refine KQ.bG rfl rfl (fun w' hs=>⟨_,_,rfl,⟨?_,rfl⟩,qj.aE hs.below,hs.below⟩)
  simp[p9,h1,h2]
 ·refine Qg ?_
  refine KO.on rfl rfl EK ?_;refine KO.sE rfl rfl isAgg4 c2 rfl ?_
  refine sO ?_
  refine mC ?_
  refine Vz ?_
  refine T9 ?_
  refine yx ?_
  refine jH ?_
  refine KQ.bG rfl rfl (fun w' hs=>⟨_,_,rfl,⟨?_,rfl⟩,qj.aE hs.below,hs.below⟩)
  simp[p9,h1]
 ·refine Qg ?_
  refine KO.on rfl rfl EK ?_;refine KO.sE rfl rfl isAgg4 c2 rfl ?_
  refine sO ?_
  refine mC ?_
  refine Vz ?_
  refine T9 ?_
  refine yx ?_
  refine jH ?_
  refine KQ.bG rfl rfl (fun w' hs=>⟨_,_,rfl,⟨?_,rfl⟩,qj.aE hs.below,hs.below⟩)
  simp[p9,h1]
 ·refine T8 ?_
  refine x8 ?_
  refine HQ ?_
  refine Hn ?_
  refine Ju ?_
  refine KO.on rfl rfl rfl ?_;refine KO.sE rfl rfl isAgg3 c1 rfl ?_
  refine BG ?_
  refine Eb ?_
  refine KO.on rfl rfl (by simp[h2]) ?_;refine KO.sE rfl rfl isAgg4 c2 rfl ?_
  refine lL ?_
  refine qp ?_
  refine rA ?_
  refine KO.uD rfl ?_ rfl rfl ?_
  (focus(simp only[decide_eq_true_eq,decide_eq_false_iff_not,Bool.not_eq_true,Bool.not_true,Bool.not_false,ne_eq];omega))
  refine Jt ?_
  refine KQ.bG rfl rfl (fun w' hs=>⟨_,_,rfl,⟨?_,rfl⟩,qj.aE hs.below,hs.below⟩)
  simp[p9,h1,h2]
 ·refine T8 ?_
  refine x8 ?_
  refine HQ ?_
  refine Hn ?_
  refine Ju ?_
  refine KO.on rfl rfl rfl ?_;refine KO.sE rfl rfl isAgg3 c1 rfl ?_
  refine BG ?_
  refine rA ?_
  refine Bb ?_
  refine rA ?_
  refine KO.nd rfl ?_ rfl rfl ?_
  (focus(simp only[decide_eq_true_eq,decide_eq_false_iff_not,Bool.not_eq_true,Bool.not_true,Bool.not_false,ne_eq];omega))
  refine Jt ?_
  refine KQ.bG rfl rfl (fun w' hs=>⟨_,_,rfl,⟨?_,rfl⟩,qj.aE hs.below,hs.below⟩)
  simp[p9,h1,h2]
 ·refine T8 ?_
  refine x8 ?_
  refine HQ ?_
  refine Hn ?_
  refine Ju ?_
  refine KO.on rfl rfl rfl ?_;refine KO.sE rfl rfl isAgg3 c1 rfl ?_
  refine BG ?_
  refine Eb ?_
  refine KO.on rfl rfl (by simp[h2]) ?_;refine KO.sE rfl rfl isAgg4 c2 rfl ?_
  refine lL ?_
  refine qp ?_
  refine rA ?_
  refine KO.uD rfl ?_ rfl rfl ?_
  (focus(simp only[decide_eq_true_eq,decide_eq_false_iff_not,Bool.not_eq_true,Bool.not_true,Bool.not_false,ne_eq];omega))
  refine Jt ?_
  refine KQ.bG rfl rfl (fun w' hs=>⟨_,_,rfl,⟨?_,rfl⟩,qj.aE hs.below,hs.below⟩)
  simp[p9,h1,h2]
 ·refine T8 ?_
  refine x8 ?_
  refine HQ ?_
  refine Hn ?_
  refine Ju ?_
  refine KO.on rfl rfl rfl ?_;refine KO.sE rfl rfl isAgg3 c1 rfl ?_
  refine BG ?_
  refine rA ?_
  refine Bb ?_
  refine rA ?_
  refine KO.nd rfl ?_ rfl rfl ?_
  (focus(simp only[decide_eq_true_eq,decide_eq_false_iff_not,Bool.not_eq_true,Bool.not_true,Bool.not_false,ne_eq];omega))
  refine Jt ?_
  refine KQ.bG rfl rfl (fun w' hs=>⟨_,_,rfl,⟨?_,rfl⟩,qj.aE hs.below,hs.below⟩)
  simp[p9,h1,h2]
def zc (u:Int) (l:List It) (k:Nat):List It:=(l.take k).map (nt u)++l.drop k
theorem No{u:Int}{l:List It}{k:Nat}{e:It}(he:l[k]? =some e):(zc u l k)[k]? =some e:=by
 have hk:=(au.1 he).1
 unfold zc
 rw[bf ga]
 simp[show k-min k l.length=0 by omega,he]
theorem Lb{u:Int}{l:List It}{k:Nat}{e:It}(he:l[k]? =some e):(zc u l k).set k (nt u e)=zc u l (k+1):=by
 have hk:=(au.1 he).1
 have hd:l.drop k=e::l.drop (k+1):=by rw[<-(au.1 he).2,List.getElem_cons_drop]
 unfold zc
 rw[bJ he,aZ,hd,List.set_append_right _ _ ga]
 simp[show k-min k l.length=0 by omega]
theorem Ig{l:List It}{k:Nat}{e:It}(he:l[k]? =some e):l.set k e=l:=by
 obtain⟨hk,h⟩:=au.1 he
 rw[<-h];exact List.set_getElem_self hk
theorem PB(w0:World)(L:List HP)(b:Nat)(q:Qu)(u:Int)(back:Bool)(hq:q.l.length<900000):
 KC prog 64 #[.pointer (some ⟨b,0,none⟩),.int .i64 u,.bool back] w0 (jz b q::L) (fun v L'=>v=.tuple #[]/\L'=jz b (eK q u back)::L):=by
 refine KC.mk (n:=52) func64 rfl ntmps64 aj ?_
 refine qq ?_
 refine K.cx (fun _ h=>jT h) fun v=>?_
 refine dR ?_
 refine KO.box rfl rfl aQ rfl ?_;intro b4
 refine KO.box rfl rfl aQ rfl ?_;intro b5
 refine yF ?_
 refine vy ?_
 refine rD ?_
 refine K.bz rfl (fun h=>?_) (fun h=>?_)
 ·repeat(first|(with_reducible refine KQ.oE ?_)|(with_reducible refine K.ret ?_))
  refine KQ.VY rfl (fun w' hs=>⟨_,_,rfl,⟨rfl,rfl⟩,?_⟩)
  rw[show eK q u back=q by simp only[eK,h,if_true]]
  exact kF ((hs.gk bo bo).Rl EL)
 ·rw[show eK q u back=⟨(q.l.filter fun e=> !p9 u back e).map (nt u),q.next⟩by simp only[eK,h,if_false]]
  have Nc:(q.l.filter fun e=> !p9 u back e).length<900000:=Nat.lt_of_le_of_lt (List.length_filter_le _ _) hq
  refine Z6 ?_
  refine o8 ?_
  refine Ep ?_
  refine KO.Zc rfl rfl rfl ?_
  refine KO.cl rfl rfl rfl call158 rfl (KC.qv bo (XF w0 _ v q.l 159 [.pointer (some ⟨b4,0,none⟩),.pointer (some ⟨b5,0,none⟩)] (p9 u back) ae call159 (fun e v ys _=>TK w0 _ _ _ e b4 b5 u back _ _ bo bo))) ?_;rintro v' L' rfl;refine KO.fact (fun _ hs=>aY hs) ?_;rintro⟨a',c',rfl,su⟩
  refine lJ ?_
  refine X5 ?_
  (refine KO.JV rfl rfl rfl aQ Y48 aQ bo aQ Y0 ?_)
  refine Z0 ?_
  generalize q.l.filter (fun e=> !p9 u back e)=l at *
  refine kp ?_
  refine Uc ?_
  refine Ba ?_
  refine ox ?_
  refine K.loop (fun k:Nat=>[(0,.pointer (some ⟨b,0,none⟩)),(4,.pointer (some ⟨b4,0,none⟩)),(23,.int .i64 (l.length:Nat)),(24,.int .i64 (k:Nat))]) (fun k=>Kf (.slice a' l.length c') (zc u l k)::quB b (.slice a' l.length c') q.next::bP b4 (.cells [Value.int .i64 u].toArray 3 (0,0))::L) (fun k=>k<=l.length) (fun k=>l.length-k) 0
   (aV _) ⟨rfl,rfl,rfl,rfl,trivial⟩ (fun _ h=>by rw[show zc u l 0=l by simp[zc]];exact(h.UR bo bZ bo).gc3 EL) ?_
  intro k hk
  refine iJ ?_
  refine K.bz rfl (fun h1=>?_) (fun h1=>?_)
  ·obtain⟨g,rfl⟩:=su ae
   obtain⟨e,he⟩:∃e,l[k]? =some e:=⟨l[k],ao ae⟩
   have hye:=No (u:=u) he
   have c8:=Lb (u:=u) he
   have Kp:nt u e={e with put:=if e.put=u then -1 else e.put,iS:=if e.iS=u then -1 else e.iS}:=rfl
   generalize zc u l k=ys at *
   have hyk:=(au.1 hye).1
   refine xy ?_
   refine xC ?_
   refine Ep ?_
   refine Z1 ?_
   refine Vx ?_
   refine lK ?_
   refine Yv ?_
   refine KO.fo (off:=6) rfl runUnderlying243 rfl rfl sizeOf3 rfl ?_
   refine Yo ?_
   refine tJ ?_
   refine K.bz rfl (fun h2=>?_) (fun h2=>?_)
   ·have aeP:(ys.set k {e with put:= -1})[k]? =some {e with put:= -1}:=by rw[List.getElem?_set_self hyk]
    refine kp ?_
    refine KO.fo (off:=6) rfl runUnderlying243 rfl rfl sizeOf3 rfl ?_
    refine KO.Y_ rfl rfl rfl aQ za aQ bZ (fun _=>rfl) hye rfl {e with put:= -1} rfl ?_
    refine Z0 ?_
    refine Yv ?_
    refine Qr ?_
    refine Yo ?_
    refine tJ ?_
    refine K.bz rfl (fun h3=>?_) (fun h3=>?_)
    ·(skip)
     refine kp ?_
     refine Qr ?_
     refine KO.Y_ rfl rfl rfl aQ za aQ bZ (fun _=>rfl) aeP rfl {e with put:= -1,iS:= -1} rfl ?_
     refine vD ?_
     refine KQ.round (k+1) ae ae ⟨rfl,rfl,rfl,rfl,trivial⟩ (fun _ hs=>?_)
     rw[<-c8,Kp,if_pos h2,if_pos h3]
     rw[List.set_set]at hs
     exact hs
    ·refine qD ?_
     refine KQ.round (k+1) ae ae ⟨rfl,rfl,rfl,rfl,trivial⟩ (fun _ hs=>?_)
     rw[<-c8,Kp,if_pos h2,if_neg h3]
     exact hs
   ·refine Z6 ?_
    refine Yv ?_
    refine Qr ?_
    refine Yo ?_
    refine tJ ?_
    refine K.bz rfl (fun h3=>?_) (fun h3=>?_)
    ·(skip)
     refine kp ?_
     refine Qr ?_
     refine KO.Y_ rfl rfl rfl aQ za aQ bZ (fun _=>rfl) hye rfl {e with iS:= -1} rfl ?_
     refine vD ?_
     refine KQ.round (k+1) ae ae ⟨rfl,rfl,rfl,rfl,trivial⟩ (fun _ hs=>?_)
     rw[<-c8,Kp,if_neg h2,if_pos h3]
     exact hs
    ·refine qD ?_
     refine KQ.round (k+1) ae ae ⟨rfl,rfl,rfl,rfl,trivial⟩ (fun _ hs=>?_)
     rw[<-c8,Kp,if_neg h2,if_neg h3,show({e with put:=e.put,iS:=e.iS}:It)=e from rfl,Ig hye]
     exact hs
  ·have uX:k=l.length:=by omega
   refine Ur ?_
   refine KQ.j9 rfl (fun w' hs=>⟨_,_,rfl,⟨rfl,rfl⟩,?_⟩)
   rw[uX,show zc u l l.length=l.map (nt u)by simp[zc]]at hs
   exact kF ((hs.gk bo bZ).Rl EL)
theorem AU(w0:World)(L:List HP)(s:ak)(hs:s.size<=maxLen):KE prog 54 #[.string s] w0 L (fun u L'=>u=.bool (lG s)/\L'=L):=KE.ct fun w _=>TW s _ w hs rfl
theorem H6(w0:World)(L:List HP)(s:ak)(hs:s.size<=maxLen):KE prog 240 #[.string s] w0 L (fun u L'=>u=.bool (dw s)/\L'=L):=KE.ct fun w _=>C7 s _ w hs rfl
theorem J2(w0:World)(L:List HP)(m:Ms)(hb:m.body.size<=maxLen)(hq:m.queue.size<=maxLen):
 KE prog 145 #[.agg (du m).toArray] w0 L (fun v L'=>v=.bool (bT m)/\L'=L):=by
 refine KE.mk (n:=41) func145 rfl ntmps145 aj ?_
 intro w hw
 refine Z3 ?_
 refine KO.box rfl rfl aQ rfl ?_;intro b1
 refine lK ?_
 have kA:¬0<=m.id\/(0<=m.id/\¬m.id<=1099511627776)\/(0<=m.id/\m.id<=1099511627776/\¬0<=m.pri)\/(0<=m.id/\m.id<=1099511627776/\0<=m.pri/\¬m.pri<=9)\/(0<=m.id/\m.id<=1099511627776/\0<=m.pri/\m.pri<=9/\lG m.body=false)\/
  (0<=m.id/\m.id<=1099511627776/\0<=m.pri/\m.pri<=9/\lG m.body=true/\dw m.queue=false)\/(0<=m.id/\m.id<=1099511627776/\0<=m.pri/\m.pri<=9/\lG m.body=true/\dw m.queue=true/\¬0<=m.cq)\/
  (0<=m.id/\m.id<=1099511627776/\0<=m.pri/\m.pri<=9/\lG m.body=true/\dw m.queue=true/\0<=m.cq):=by
  cases lG m.body<;>cases dw m.queue<;>simp <;>omega
 have fin:∀(b:Bool) (w':World) (M:List HP),b=bT m->St w M w'->∃v L',Ending.returned (.bool b)=Ending.returned v/\(v=.bool (bT m)/\L'=L)/\St w0 L' w'/\Below w.heap.size w w':=fun b w' M e hs=>⟨_,_,rfl,⟨by rw[e],rfl⟩,hw.aE hs.below,hs.below⟩
 rcases kA with h1|⟨h1,h2⟩|⟨h1,h2,h3⟩|⟨h1,h2,h3,h4⟩|⟨h1,h2,h3,h4,h5⟩|⟨h1,h2,h3,h4,h5,h6⟩|⟨h1,h2,h3,h4,h5,h6,h7⟩|⟨h1,h2,h3,h4,h5,h6,h7⟩
 ·refine acr ?_
  refine JC ?_
  refine vA ?_
  refine vA ?_
  refine mC ?_
  (refine KO.no rfl rfl ?_ rfl ?_;(rfl))
  refine rB ?_
  refine mC ?_
  (refine KO.no rfl rfl ?_ rfl ?_;(rfl))
  refine rB ?_
  refine vA ?_
  refine vA ?_
  refine jH ?_
  exact KQ.bG rfl rfl (fun w' hs=>fin _ w' _ VC hs)
 ·refine JE ?_
  refine sO ?_
  refine JC ?_
  refine vA ?_
  refine mC ?_
  (refine KO.no rfl rfl ?_ rfl ?_;(rfl))
  refine rB ?_
  refine mC ?_
  (refine KO.no rfl rfl ?_ rfl ?_;(rfl))
  refine rB ?_
  refine vA ?_
  refine vA ?_
  refine jH ?_
  exact KQ.bG rfl rfl (fun w' hs=>fin _ w' _ VC hs)
 ·refine JE ?_
  refine A7 ?_
  refine o_ ?_
  refine vO ?_
  refine sO ?_
  refine JC ?_
  refine mC ?_
  (refine KO.no rfl rfl ?_ rfl ?_;(rfl))
  refine rB ?_
  refine mC ?_
  (refine KO.no rfl rfl ?_ rfl ?_;(rfl))
  refine rB ?_
  refine vA ?_
  refine vA ?_
  refine jH ?_
  exact KQ.bG rfl rfl (fun w' hs=>fin _ w' _ VC hs)
 ·refine JE ?_
  refine A7 ?_
  refine o_ ?_
  refine vO ?_
  refine A7 ?_
  refine M0 ?_
  refine sO ?_
  refine Bb ?_
  (refine KO.no rfl rfl ?_ rfl ?_;((simp;omega)))
  refine x8 ?_
  refine mC ?_
  (refine KO.no rfl rfl ?_ rfl ?_;(rfl))
  refine rB ?_
  refine vA ?_
  refine vA ?_
  refine jH ?_
  exact KQ.bG rfl rfl (fun w' hs=>fin _ w' _ VC hs)
 ·refine JE ?_
  refine A7 ?_
  refine o_ ?_
  refine vO ?_
  refine A7 ?_
  refine M0 ?_
  refine Qn ?_
  refine MX ?_
  refine lL ?_
  refine yJ ?_
  (refine KO.on rfl rfl ?_ ?_;(simp;omega);refine KO.ce (cp:=[]) rfl rfl rfl call54 rfl (AU w _ _ hb) ?_;rintro v L' ⟨rfl,rfl⟩)
  refine sO ?_
  refine Z1 ?_
  refine Hl ?_
  (refine KO.no rfl rfl ?_ rfl ?_;(assumption))
  refine KO.nd rfl xG rfl rfl ?_
  refine vA ?_
  refine vA ?_
  refine jH ?_
  exact KQ.bG rfl rfl (fun w' hs=>fin _ w' _ VC hs)
 ·refine JE ?_
  refine A7 ?_
  refine o_ ?_
  refine vO ?_
  refine A7 ?_
  refine M0 ?_
  refine Qn ?_
  refine MX ?_
  refine lL ?_
  refine yJ ?_
  (refine KO.on rfl rfl ?_ ?_;(simp;omega);refine KO.ce (cp:=[]) rfl rfl rfl call54 rfl (AU w _ _ hb) ?_;rintro v L' ⟨rfl,rfl⟩)
  refine sO ?_
  refine Js ?_
  refine Qb ?_
  refine vB ?_
  refine yJ ?_
  (refine KO.on rfl rfl ?_ ?_;(assumption);refine KO.ce (cp:=[]) rfl rfl rfl call240 rfl (H6 w _ _ hq) ?_;rintro v L' ⟨rfl,rfl⟩)
  refine MT ?_
  refine Z1 ?_
  refine Hl ?_
  refine KO.no rfl rfl xG rfl ?_
  refine KO.nd rfl xG rfl rfl ?_
  refine vA ?_
  refine jH ?_
  exact KQ.bG rfl rfl (fun w' hs=>fin _ w' _ VC hs)
 ·refine JE ?_
  refine A7 ?_
  refine o_ ?_
  refine vO ?_
  refine A7 ?_
  refine M0 ?_
  refine Qn ?_
  refine MX ?_
  refine lL ?_
  refine yJ ?_
  (refine KO.on rfl rfl ?_ ?_;(simp;omega);refine KO.ce (cp:=[]) rfl rfl rfl call54 rfl (AU w _ _ hb) ?_;rintro v L' ⟨rfl,rfl⟩)
  refine sO ?_
  refine Js ?_
  refine Qb ?_
  refine vB ?_
  refine yJ ?_
  (refine KO.on rfl rfl ?_ ?_;(assumption);refine KO.ce (cp:=[]) rfl rfl rfl call240 rfl (H6 w _ _ hq) ?_;rintro v L' ⟨rfl,rfl⟩)
  refine MT ?_
  refine Js ?_
  refine Qa ?_
  refine vB ?_
  refine tL ?_
  refine vB ?_
  refine vO ?_
  refine MT ?_
  refine JC ?_
  refine jH ?_
  exact KQ.bG rfl rfl (fun w' hs=>fin _ w' _ VC hs)
 ·refine JE ?_
  refine A7 ?_
  refine o_ ?_
  refine vO ?_
  refine A7 ?_
  refine M0 ?_
  refine Qn ?_
  refine MX ?_
  refine lL ?_
  refine yJ ?_
  (refine KO.on rfl rfl ?_ ?_;(simp;omega);refine KO.ce (cp:=[]) rfl rfl rfl call54 rfl (AU w _ _ hb) ?_;rintro v L' ⟨rfl,rfl⟩)
  refine sO ?_
  refine Js ?_
  refine Qb ?_
  refine vB ?_
  refine yJ ?_
  (refine KO.on rfl rfl ?_ ?_;(assumption);refine KO.ce (cp:=[]) rfl rfl rfl call240 rfl (H6 w _ _ hq) ?_;rintro v L' ⟨rfl,rfl⟩)
  refine MT ?_
  refine Js ?_
  refine Qa ?_
  refine vB ?_
  refine tL ?_
  refine vB ?_
  refine vO ?_
  refine MT ?_
  refine A1 ?_
  refine Qa ?_
  refine o_ ?_
  refine yz ?_
  refine sO ?_
  refine jH ?_
  exact KQ.bG rfl rfl (fun w' hs=>fin _ w' _ VC hs)
theorem aak(w0:World)(L:List HP)(b:Nat)(q:Qu)(m:Ms)(u:Int)(hq:YO q)(hb:m.body.size<=maxLen)(hs:m.queue.size<=maxLen):
 KC prog 56 #[.pointer (some ⟨b,0,none⟩),.agg (du m).toArray,.int .i64 u] w0 (jz b q::L) (fun v L'=>v=cS 70 (kz q m)/\L'=jz b (pM q m u)::L):=by
 have hl:=hq.len
 refine KC.mk (n:=30) func56 rfl ntmps56 aj ?_
 refine Z3 ?_
 refine KO.box rfl rfl aQ rfl ?_;intro b4
 refine Z7 ?_
 refine Qe ?_
 refine dR ?_
 refine Eo ?_
 refine KO.ce (cp:=[]) rfl rfl rfl call145 rfl (J2 w0 _ m hb hs) ?_;rintro v L' ⟨rfl,rfl⟩
 refine qp ?_
 refine sx ?_
 refine K.cond rfl (fun h=>?_) (fun h=>?_)
 ·have hr:bT m=false:=by simpa using h
  refine yE ?_
  refine KQ.bG rfl rfl (fun w' hs=>⟨_,_,rfl,⟨by simp only[kz,hr,if_true];rfl,rfl⟩,?_⟩)
  rw[show pM q m u=q by simp[pM,kz,hr]]
  exact(hs.pick bo).Rm EL
 ·have hr:bT m=true:=by simpa using h
  have hp:=bV hr
  refine jI ?_
  refine JH ?_
  refine KO.ce (cp:=[]) rfl rfl rfl call146 rfl (Ve w0 _ _ b q m.id bo ae) ?_;rintro v L' ⟨rfl,rfl⟩
  refine sx ?_
  refine K.cond rfl (fun h1=>?_) (fun h1=>?_)
  ·refine yE ?_
   refine KQ.bG rfl rfl (fun w' hs=>⟨_,_,rfl,⟨by simp only[kz,hr,h1,if_true,Bool.true_eq_false,if_false];rfl,rfl⟩,?_⟩)
   rw[show pM q m u=q by simp[pM,kz,hr,h1]]
   exact(hs.pick bo).Rm EL
  ·refine K.pk (A:=jz b q) bo ?_
   refine K.cx (fun _ h=>jT h) fun v=>?_
   refine K.fact (fun _ h=>aY h.drop) ?_
   rintro⟨sa,cap,rfl,F6⟩
   refine Z3 ?_
   refine mA ?_
   refine Uc ?_
   refine Ba ?_
   refine vO ?_
   refine sx ?_
   refine K.bz rfl (fun h2=>?_) (fun h2=>?_)
   ·have h3:20<=q.l.length:=by omega
    refine yE ?_
    refine KQ.bG rfl rfl (fun w' hs=>⟨_,_,rfl,⟨by simp only[kz,hr,h1,h3,if_true,Bool.true_eq_false,Bool.false_eq_true,if_false];rfl,rfl⟩,?_⟩)
    rw[show pM q m u=q by simp[pM,kz,hr,h1,h3]]
    exact kF ((hs.gk bZ bZ).Rl EL)
   ·have h3:¬20<=q.l.length:=by omega
    refine K.conv (fun _ h=>kF h) ?_
    refine X3 ?_
    refine Z8 ?_
    refine BM ?_
    refine Z1 ?_
    refine KO.cl (cp:=[]) rfl rfl rfl call147 rfl (KC.qv bZ (Dp w0 _ b q m u hq (by unfold small;omega))) ?_;rintro v L' ⟨rfl,rfl⟩
    refine rE ?_
    refine KQ.bG rfl rfl (fun w' hs=>⟨_,_,rfl,⟨by simp only[kz,hr,h1,h3,Bool.true_eq_false,Bool.false_eq_true,if_false];rfl,rfl⟩,?_⟩)
    rw[show pM q m u=db q m u by simp[pM,kz,hr,h1,h3]]
    exact hs.Rm EL
end Go.Proofs.YtjhogocabcdjbabGreatDoor
namespace WB
open Go Go.RowKit
deriving instance DecidableEq for Ms
section
variable {P:Program} {w:World} {d:Nat} {xs ys:Array Value} {f:Field} {fs:List Field} {r:Bool}
theorem uG{T:TypeId}{off:Nat}{v:Value}(ha:(isAgg T).run P w=.ok false w)(hx:xs[off]? =some v):(part T xs off).run P w=.ok v w:=by
 simp[part,ha,hx]
theorem DW{k:IntKind}{a c:Int}(hn:f.name≠ "_")(hu:P.underlying f.type=some (.int k))(hT:(isAgg f.type).run P w=.ok false w)(hx:xs[f.offset]? =some (.int k a))(hy:ys[f.offset]? =some (.int k c))(h:(Op.eqFields (d+1) xs ys fs).run P w=.ok r w):
 (Op.eqFields (d+1) xs ys (f::fs)).run P w=.ok (decide (a=c)&&r) w:=by
 simp only[Op.eqFields,if_pos hn,Sem.run_bind,uG hT hx,uG hT hy,Result.andThen_ok,run_equalIn_int w d _ _ k a c hu]
 by_cases e:a=c
 ·subst e;simp[h]
 ·simp[e]
theorem KG{a c:ak}(hn:f.name≠ "_")(hu:P.underlying f.type=some .string)(hT:(isAgg f.type).run P w=.ok false w)(hx:xs[f.offset]? =some (.string a))(hy:ys[f.offset]? =some (.string c))(h:(Op.eqFields (d+1) xs ys fs).run P w=.ok r w):
 (Op.eqFields (d+1) xs ys (f::fs)).run P w=.ok (decide (a=c)&&r) w:=by
 simp only[Op.eqFields,if_pos hn,Sem.run_bind,uG hT hx,uG hT hy,Result.andThen_ok,run_equalIn_string w d _ _ _ hu,toList_eq_iff]
 by_cases e:a=c
 ·subst e;simp[h]
 ·simp[e]
theorem TJ:(Op.eqFields d xs ys []).run P w=.ok true w:=by simp[Op.eqFields]
theorem On(a b:Ms):(decide (a.id=b.id)&&(decide (a.pri=b.pri)&&(decide (a.body=b.body)&&(decide (a.queue=b.queue)&&(decide (a.cq=b.cq)&&true)))))=decide (a=b):=by
 obtain⟨a1,a2,a3,a4,a5⟩:=a
 obtain⟨b1,b2,b3,b4,b5⟩:=b
 rw[Bool.eq_iff_iff];simp
end
inductive gP:List HP->List HP->Prop
 |nil {L:List HP}:gP L []
 |cons {L R M:List HP} {A:HP} (p:bQ L A R) (h:gP R M):gP L (A::M)
theorem gP.drop{A:HP}{L M:List HP}(h:gP L M):gP (A::L) M:=by
 induction h with
 |nil=>exact .nil
 |cons p _ ih=>exact .cons (.tail p) ih
theorem gP.refl:∀{L:List HP},gP L L
 |[]=>.nil
 |_::_=>.cons .head gP.refl
theorem gP.ij{L M:List HP}(h:gP L M):∀x,WB.ij L x->∃h1 h2,vG h1 h2/\x=qe h1 h2/\WB.ij M h2:=by
 induction h with
 |nil=>exact fun x _=>⟨x,fun _=>none,fun _=>.inr rfl,by rw[uj (fun _=>.inr rfl),yN fun _=>rfl],fun _=>rfl⟩
 |cons p _ ih=>
  intro x hx
  obtain⟨h1,h2,d,rfl,a,b⟩:=p.ij hx
  obtain⟨g1,g2,d2,rfl,c⟩:=ih h2 b
  rw[mN]at d
  refine⟨g1,qe h1 g2,mN.2 ⟨d.1.symm,d2⟩,?_,h1,g2,d.2,rfl,a,c⟩
  rw[<-oD,<-oD,uj d.1]
theorem St.all{w0 w:World}{L M:List HP}(hw:St w0 L w)(h:gP L M):St w0 M w:=by
 obtain⟨x,hx,hs⟩:=hw.own
 obtain⟨h1,h2,d,rfl,hm⟩:=h.ij x hs
 refine {hw with own:=⟨h2,fun k o hk=>hx k o ?_,hm⟩}
 rw[uj d]
 unfold qe;rw[hk];rfl
def pk (a n:Int):Int:=(a%18446744073709551616)%n
theorem gW(a:Int){n:Int}(h1:1<=n):0<=pk a n/\pk a n<n:=⟨Int.emod_nonneg _ ae,Int.emod_lt_of_pos _ ae⟩
section
variable {P:Program} {ops:Array Oper} {d:Bool} {Q:Exit->Act->World->Prop} {n:Nat} {D:List Deferred} {w0:World} {G:Env} {L R:List HP} {l:List (Kd×Oper)} {k:Kd}
 {t:Nat} {op:Op} {ty T T' E EN:TypeId} {pos:String} {af:Array Edge} {x y z:Operand} {v u:Value} {b:Bool} {i off:Nat} {a c r:Int} {ad:Addr} {kk:IntKind}
theorem KO.neA{xs ys:Array Value}(hx:ev G x=some (.agg xs))(hy:ev G y=some (.agg ys))(hg:P.eqGuardType P.depth T=false)(hr:∀w,(Op.equalIn 10000 T (.agg xs) (.agg ys)).run P w=.ok b w)(ht:Nat.blt t n=true)(h:KO P ops d Q n D w0 ((t,.bool (!b))::G) L l):
 KO P ops d Q n D w0 G L ((k,⟨some t,.binOp .neq T x y T',ty,pos,af,none⟩)::l):=
 KO.val (fun a w ha=>by simp[execOp,ha.eval hx,ha.eval hy,run_eqGuard_agg w _ _ _ _ _ _ hg,run_neq_struct,hr w]) ht h
theorem KO.Zu(hx:ev G x=some (cS EN c))(hT:P.underlying T=some (.interface (P.methodsAt T)))(ht:Nat.blt t n=true)(h:KO P ops d Q n D w0 ((t,.bool (decide (c=0)))::G) L l):
 KO P ops d Q n D w0 G L ((k,⟨some t,.binOp .eql T x (.const .nilIface) T',ty,pos,af,none⟩)::l):=
 KO.val (fun a w ha=>by
  simp only[execOp,ha.eval hx,show a.eval (.const .nilIface)=.nilIface from rfl]
  unfold cS
  by_cases h0:c=0
  ·simp[h0,run_eql_nil_nil w T hT,eqGuard_nil_constR]
  ·simp[h0,run_eql_held_nil w T _ _ hT,eqGuard_at_iface]) ht h
theorem KO.neN(hx:ev G x=some (cS EN c))(hT:P.underlying T=some (.interface (P.methodsAt T)))(ht:Nat.blt t n=true)(h:KO P ops d Q n D w0 ((t,.bool (decide (c≠0)))::G) L l):
 KO P ops d Q n D w0 G L ((k,⟨some t,.binOp .neq T x (.const .nilIface) T',ty,pos,af,none⟩)::l):=
 KO.val (fun a w ha=>by
  simp only[execOp,ha.eval hx,show a.eval (.const .nilIface)=.nilIface from rfl]
  unfold cS
  by_cases h0:c=0
  ·simp[h0,run_neq_nil_nil w T hT,eqGuard_nil_constR]
  ·simp[h0,run_neq_held_nil w T _ _ hT,eqGuard_at_iface]) ht h
def YR {α:Type} (n:Nat) (D:List Deferred) (w0:World) (E:α->Env) (H:α->List HP) (φ:α->Prop) (a:Act) (w:World):Prop:= ∃y,φ y/\cX n D (E y) a/\St w0 (H y) w
theorem K.cut{α:Type}{c1 c2:Code}{L:List HP}(E:α->Env)(H:α->List HP)(φ:α->Prop)(h1:K P c1 (Exit.then (YR n D w0 E H φ) Q) n D w0 G L)(h2:∀y,φ y->K P c2 Q n D w0 (E y) (H y)):K P c1 (Exit.then (c2.wp P Q) Q) n D w0 G L:=fun a w ha hw=>
 Go.wp_mono (h1 a w ha hw) fun e a w hq=>by
  cases e with
  |normal=>obtain⟨y,hy,ha,hw⟩:=hq;exact h2 y hy a w ha hw
  |_=>exact hq
theorem KQ.tf{α:Type}{E:α->Env}{H:α->List HP}{φ:α->Prop}(y:α)(hy:φ y)(hG:Et G (E y))(hL:∀w,St w0 L w->St w0 (H y) w):KQ (Exit.then (YR n D w0 E H φ) Q) .normal n D w0 G L:=fun _ w ha hw=>⟨y,hy,ha.sub hG,hL w hw⟩
theorem KO.dB{b:Nat}{cs:List Value}{fz:Nat×Nat}(hk:(!d||k != .pure)=true)(hx:ev G x=some (.pointer (some ad)))(hT:∀w,(isAgg T).run P w=.ok false w)(hp:bQ L (bP b (.cells cs.toArray E fz)) R)(ha:ad=⟨b,i,none⟩)(hc:cs[i]? =some v)(ht:Nat.blt t n=true)(h:KO P ops d Q n D w0 ((t,v)::G) L l):KO P ops d Q n D w0 G L ((k,⟨some t,.load T x,ty,pos,af,none⟩)::l):=KO.ld hk (ha▸hx) hT hp hc ht h
theorem Fk(v:Value):∀(i:Nat) (cs:List Value),i<cs.length->l9 i [v] cs=cs.set i v
 |0,c::cs,_=>by simp[l9]
 |i+1,c::cs,h=>by simp[l9,Fk v i cs HV]
theorem KO.gT{b:Nat}{cs:List Value}(hk:(!d||k== .write)=true)(hx:ev G x=some (.pointer (some ad)))(hy:ev G y=some v)(hv:v.cells=[v].toArray)(hn:∀w,(Go.sizeOf T).run P w=.ok 1 w)(h1:v.oneCell'=true)(hp:bQ L (bP b (.cells cs.toArray E (0,0))) R)(ha:ad=⟨b,i,none⟩)(hi:i<cs.length)(h:KO P ops d Q n D w0 G (bP b (.cells (cs.set i v).toArray E (0,0))::R) l):
 KO P ops d Q n D w0 G L ((k,⟨none,.store T x y,ty,pos,af,none⟩)::l):=
 KO.JV hk (ha▸hx) hy hv hn EK hp (by simp[Nat.ble_eq];omega) (Fk v i cs hi) h
theorem KO.II{len cap sz:Nat}(hx:ev G x=some (.slice (some ad) len cap))(hy:ev G y=some (.int kk a))(hu:∀w,(underlying T).run P w=.ok (.slice E) w)(hs:∀w,(Go.sizeOf E).run P w=.ok sz w)(ha:a=(i:Int))(hb:i<len)(ht:Nat.blt t n=true)(h:KO P ops d Q n D w0 ((t,.pointer (some (ad.add (i *sz))))::G) L l):KO P ops d Q n D w0 G L ((k,⟨some t,.indexAddr T x y,ty,pos,af,none⟩)::l):=
 KO.val (fun a' w su=>by
  subst ha
  have :(0:Int)<=(i:Int)/\(i:Int)<(len:Int):=⟨by omega,by omega⟩
  simp[execOp,su.eval hx,su.eval hy,Instr.indexAt,hu w,asIntOf,hs w,this,hb]) ht h
theorem KO.abZ{fs:Array Field}{f sz off:Nat}{fd:Field}(hx:ev G x=some (.pointer (some ad)))(hu:∀w,(underlying T).run P w=.ok (.struct fs) w)(hf:fs[f]? =some fd)(ho:fd.offset=off)(hs:∀w,(Go.sizeOf fd.type).run P w=.ok (sz+1) w)(ht:Nat.blt t n=true)(h:KO P ops d Q n D w0 ((t,.pointer (some (ad.add off)))::G) L l):KO P ops d Q n D w0 G L ((k,⟨some t,.fieldAddr T x f,ty,pos,af,none⟩)::l):=
 KO.fld hx hu hf hs ht (by rw[ho];exact h)
end
end WB
namespace Go.Proofs.YtjhogocabcdjbabGreatDoor
open Tryz
open Go Go.RowKit WB
theorem m_(w0:World)(L:List HP)(a n:Int)(h1:1<=n)(h2:n<=1000):KE prog 13 #[.int .i64 a,.int .i64 n] w0 L (fun u L'=>u=.int .i64 (pk a n)/\L'=L):=KE.ct fun w _=>by
 have hu:IntKind.u64.wrap a=a%18446744073709551616:=rfl
 have h0:0<=a%18446744073709551616:=Int.emod_nonneg _ ae
 have hp:(IntKind.u64.wrap a).tmod n=pk a n:=by rw[hu,Int.tmod_eq_emod_of_nonneg h0];rfl
 have hw:wrap64 ((IntKind.u64.wrap a).tmod n)=pk a n:=by rw[hp];have :=gW a h1;unfold wrap64;omega
 have HW:=Lib.hid hw
 clear hw hp h0 hu
 go_enter func13,ntmps13
 go_wp2_with fail
 rw[HW.out]
 go_ret
 exact⟨rfl,Below.refl _ _⟩
theorem Om(a b:Ms)(w:World):(Op.equalIn 10000 44 (.agg (du a).toArray) (.agg (du b).toArray)).run prog w=.ok (decide (a=b)) w:=by
 rw[run_equalIn_agg w 9999 44 _ _ bH bH,<-On]
 simp only[Program.fieldsOf,underlying44]
 refine DW ai underlying3 (isAgg3 w) rfl rfl (DW ai underlying3 (isAgg3 w) rfl rfl (KG ai underlying9 (isAgg9 w) rfl rfl (KG ai underlying9 (isAgg9 w) rfl rfl (DW ai underlying3 (isAgg3 w) rfl rfl TJ))))
end Go.Proofs.YtjhogocabcdjbabGreatDoor
namespace WB
open Go Go.RowKit
variable {P:Program} {ops:Array Oper} {Q:Exit->Act->World->Prop}
def via (sK:List (List Nat)) (x i:Nat) (q:Nat×Nat):Bool:=(q.1==x||(sK.getD q.1 []).contains x)&&(q.2==i||(sK.getD i []).contains q.2)
theorem rI{sK:List (List Nat)}(hb:fE ops=true)(ha:sJ ops sK=true){l:List Nat}(hv:Valid ops l){q:Nat×Nat}(hE:∀p s,l=p++q.2::s->q.1∈p){x i:Nat}(h:via sK x i q=true):∀p s,l=p++i::s->x∈p:=by
 intro p s hl
 unfold via at h
 simp only[bn,Bool.or_eq_true,beq_iff_eq]at h
 have lt:∀y,y∈l->y<ops.size:=fun y hy=>(hv.2.1 y).1 hy
 have h1:q.1∈p:=by
  rcases h.2 with e|e
  ·exact hE p s (by rw[e];exact hl)
  ·have :=sc hb ha hv i i (aD _) (lt i JK) p s hl q.2 (List.contains_iff_mem.1 e)
   obtain⟨p1,p2,rfl⟩:=List.append_of_mem this
   have :=hE p1 (p2++i::s) JK
   simp[this]
 rcases h.1 with e|e
 ·rw[<-e];exact h1
 ·obtain⟨p1,p2,rfl⟩:=List.append_of_mem h1
  have :=sc hb ha hv q.1 q.1 (aD _) (lt q.1 JK) p1 (p2++i::s) JK x (List.contains_iff_mem.1 e)
  simp[this]
theorem tg{E:List (Nat×Nat)}{ks:List Kd}{sK:List (List Nat)}(hb:fE ops=true)(ha:sJ ops sK=true){l:List Nat}(hv:Valid ops l)(hE:∀q∈E,∀p s,l=p++q.2::s->q.1∈p):
 ∀(s p rem:List Nat),l=p++s->(∀x,x∈rem↔x∈s)->
  kX (fun x i=> !(x==i)&&((sK.getD i []).contains x||(jD ops ks x i||E.any (via sK x i)))) rem=true->
  ∀a w,jd P ops Q (rem.map (item ops ks)) a w->wpOps P ops Q s a w
 |[],p,rem,hl,hm,hp,a,w,h=>by
  have :rem=[]:=List.eq_nil_iff_forall_not_mem.2 fun x hx=>by simpa using(hm x).1 hx
  subst this;exact h
 |i::s,p,rem,hl,hm,hp,a,w,h=>by
  have hi:i<ops.size:=(hv.2.1 i).1 JK
  have nM:=hv.1
  rw[hl]at nM
  have hnp:∀x∈i::s,x∉p:=fun x hx SO=>(List.nodup_append.1 nM).2.2 x SO x hx rfl
  have Na:i∉s:=(bI.1 (List.nodup_append.1 nM).2.1).1
  obtain⟨pre,post,rfl⟩:=List.append_of_mem ((hm i).2 List.mem_cons_self)
  obtain⟨h1,h2,h3⟩:=oo pre hp
  have WN:∀x∈pre,jD ops ks x i=true:=fun x hx=>by
   have hf:=h1 x hx
   simp only[bn,Bool.or_eq_true]at hf
   rcases hf.2 with hc|hc|hc
   ·have SO:=sc hb ha hv i i (aD _) hi p s hl x (List.contains_iff_mem.1 hc)
    exact absurd SO (hnp x ((hm x).1 yK))
   ·exact hc
   ·obtain⟨q,hq,hqv⟩:=List.any_eq_true.1 hc
    have SO:=rI hb ha hv (hE q hq) hqv p s hl
    exact absurd SO (hnp x ((hm x).1 yK))
  have nr:=Jk pre WN a w h
  have tt:∀x,x∈pre++post↔x∈s:=fun x=>by
   have hx:=hm x
   constructor
   ·intro hxx
    have FY:x∈pre++i::post:=by
     rcases aN.1 hxx with e|e<;>simp[e]
    rcases aF.1 (hx.1 FY)with rfl|e
    ·exfalso
     rcases aN.1 hxx with e|e
     ·have :=h1 x e;simp at this
     ·have :=h3 x e;simp at this
    ·exact e
   ·intro tP
    have :=hx.2 (List.mem_cons_of_mem _ tP)
    rcases aN.1 this with e|e
    ·simp[e]
    ·rcases aF.1 e with rfl|e
     ·exact absurd tP Na
     ·simp[e]
  have IH:=tg hb ha hv hE s (p++[i]) (pre++post) JK tt h2
  have mg:ops[i]? =some (item ops ks i).2:=by simp[item,hi]
  simp only[aL]at nr
  simp only[wpOps,mg]
  cases hw:Region.wanted (item ops ks i).2 (yielded ops a.tmps)with
  |false=>
   simp only[Bool.false_eq_true,if_false]
   rw[show item ops ks i=((item ops ks i).1,(item ops ks i).2)from rfl,qT hw]at nr
   exact IH _ _ nr
  |true=>
   simp only[if_true]
   left
   rw[show item ops ks i=((item ops ks i).1,(item ops ks i).2)from rfl]at nr
   by_cases dS:(item ops ks i).1.oQ=true
   ·rw[ei dS hw]at nr
    obtain⟨v,rY,hr⟩:=nr
    have kt:stays (item ops ks i).1 w w:=by
     cases(item ops ks i).1<;>first|trivial|exact Ext.refl w|rfl
    unfold Oper.wp
    rcases rY w kt with hg|⟨f,args,hg,gZ⟩
    ·rw[hg];exact IH _ _ hr
    ·rw[hg]
     refine gZ.mono ?_
     rintro e w' ⟨rfl,rfl⟩
     exact IH _ _ hr
   ·generalize hk:(item ops ks i).1=k at nr dS
    cases k with
    |dm=>rw[ic hw]at nr;exact jx (fun a w hh=>IH _ _ hh.2) nr
    |write=>rw[eJ hw]at nr;exact jx (fun a w hh=>IH _ _ hh) nr
    |_=>exact absurd rfl dS
def ways:List (Nat×Nat)->List (List (Nat×Nat))
 |[]=>[[]]
 |q::r=>(ways r).map (q:: ·)++(ways r).map ((q.2,q.1):: ·)
theorem vR{l:List Nat}(hn:l.Nodup):∀(X:List (Nat×Nat)),(∀q∈X,q.1∈l/\q.2∈l/\q.1≠q.2)->∃E∈ways X,(∀q∈E,∀p s,l=p++q.2::s->q.1∈p)/\∀q∈E,q.2∈l
 |[],_=>⟨[],by simp[ways],(fun _ h=>by cases h),fun _ h=>by cases h⟩
 |q::X,h=>by
  obtain⟨E,hE,fw,lC⟩:=vR hn X fun q hq=>h q (List.mem_cons_of_mem _ hq)
  obtain⟨h1,h2,h3⟩:=h q List.mem_cons_self
  obtain⟨p1,s1,hl⟩:=List.append_of_mem h2
  have uniq:∀{y:Nat} {p s p' s':List Nat},l=p++y::s->l=p'++y::s'->p=p':=by
   intro y p s p' s' e1 e2
   have :∀(p p' s s':List Nat),(p++y::s).Nodup->p++y::s=p'++y::s'->p=p':=by
    intro p
    induction p with
    |nil=>
     intro p' s s' hn e
     cases p' with
     |nil=>rfl
     |cons x p'=>
      simp only[List.nil_append,bF,List.cons.injEq]at e
      obtain⟨rfl,e⟩:=e
      simp only[List.nil_append,bI]at hn
      exact absurd (by rw[e];simp) hn.1
    |cons x p ih=>
     intro p' s s' hn e
     cases p' with
     |nil=>
      simp only[List.nil_append,bF,List.cons.injEq]at e
      obtain⟨rfl,e⟩:=e
      simp only[bF,bI]at hn
      exact absurd aj hn.1
     |cons x' p'=>
      simp only[bF,List.cons.injEq]at e
      simp only[bF,bI]at hn
      rw[e.1,ih p' s s' hn.2 e.2]
   exact this p p' s s' (e1▸hn) (e1.symm.trans e2)
  by_cases qm:q.1∈p1
  ·refine⟨q::E,by simp only[ways,aN,ay];exact .inl ⟨E,hE,rfl⟩,fun q' Bt p s e=>?_,fun q' Bt=>(aF.1 Bt).elim (fun e=>e▸h2) (lC q')⟩
   rcases aF.1 Bt with rfl|Bt
   ·rw[<-uniq hl e];exact qm
   ·exact fw q' Bt p s e
  ·refine⟨(q.2,q.1)::E,by simp only[ways,aN,ay];exact .inr ⟨E,hE,rfl⟩,fun q' Bt p s e=>?_,fun q' Bt=>(aF.1 Bt).elim (fun e=>e▸h1) (lC q')⟩
   rcases aF.1 Bt with rfl|Bt
   ·dsimp only at e ⊢
    have h4:q.1∈s1:=by
     have :=h1;rw[hl]at this
     simp only[aN,aF]at this
     rcases this with a|a|a
     ·exact absurd a qm
     ·exact absurd a h3
     ·exact a
    obtain⟨p2,s2,rfl⟩:=List.append_of_mem h4
    have e2:l=(p1++q.2::p2)++q.1::s2:=by rw[hl];simp
    rw[<-uniq e2 e];simp
   ·exact fw q' Bt p s e
def LQ (ops:Array Oper) (ks:List Kd) (E:List (Nat×Nat)) (ord:List Nat):Bool:=
 let sK:=FG ops.toList []
 fE ops&&(sJ ops sK&&((List.range ops.size).all (fun i=>ord.contains i)&&(ord.all (fun i=>Nat.blt i ops.size)&&
  kX (fun x i=> !(x==i)&&((sK.getD i []).contains x||(jD ops ks x i||E.any (via sK x i)))) ord)))
def MP (ops:Array Oper) (E:List (Nat×Nat)):Bool:=
 let sK:=FG ops.toList []
 sJ ops sK&&E.any fun q=>E.any (via sK q.2 q.1)
theorem AV{E:List (Nat×Nat)}(hb:fE ops=true){l:List Nat}(hv:Valid ops l)(hE:∀q∈E,∀p s,l=p++q.2::s->q.1∈p)(hm:∀q∈E,q.2∈l)(h:MP ops E=true):False:=by
 simp only[MP,bn]at h
 obtain⟨ha,h⟩:=h
 obtain⟨q,hq,h⟩:=List.any_eq_true.1 h
 obtain⟨q',Bt,h⟩:=List.any_eq_true.1 h
 obtain⟨p1,s1,hl⟩:=List.append_of_mem (hm q hq)
 obtain⟨a,b,rfl⟩:=List.append_of_mem (hE q hq p1 s1 hl)
 have :=rI hb ha hv (hE q' Bt) h a (b++q.2::s1) JK
 have hn:=hv.1
 rw[hl]at hn
 simp only[aH,bF]at hn
 exact(List.nodup_append.1 hn).2.2 q.2 this q.2 aj rfl
def US (ops:Array Oper) (ks:List Kd):List (List (Nat×Nat))->List (List Nat)->Bool
 |[],[]=>true
 |E::r,O=>if MP ops E then US ops ks r O else match O with|o::s=>LQ ops ks E o&&US ops ks r s|[]=>false
 |_,_=>false
@[reducible] def D9 (f:List Nat->Prop):List (List Nat)->Prop
 |[]=>True
 |o::r=>f o/\D9 f r
theorem zT{ks:List Kd}{f:List Nat->Prop}{E:List (Nat×Nat)}:∀{W:List (List (Nat×Nat))} {O:List (List Nat)},US ops ks W O=true->D9 f O->E∈W->MP ops E=true\/∃o,LQ ops ks E o=true/\f o
 |[],_,_,_,h=>by cases h
 |F::r,O,h,hf,hE=>by
  cases hB:MP ops F with
  |true=>
   have h2:US ops ks r O=true:=by unfold US at h;rw[hB]at h;simpa using h
   rcases aF.1 hE with rfl|hE
   ·exact .inl hB
   ·exact zT h2 hf hE
  |false=>
   unfold US at h
   rw[hB]at h
   cases O with
   |nil=>simp at h
   |cons o s=>
    simp only[Bool.false_eq_true,if_false,bn]at h
    rcases aF.1 hE with rfl|hE
    ·exact .inr ⟨o,h.1,hf.1⟩
    ·exact zT h.2 hf.2 hE
theorem zd{id:Nat}{a:Act}{w:World}(ks:List Kd)(X:List (Nat×Nat))(O:List (List Nat))(q_:P.follows .mixedOrders=true)(hX:(fE ops&&X.all fun q=>Nat.blt q.1 ops.size&&(Nat.blt q.2 ops.size&& !(q.1==q.2)))=true)(kZ:US ops ks (ways X) O=true)(h:D9 (fun ord=>jd P ops Q (ord.map (item ops ks)) a w.drew) O):(Code.region id ops true).wp P Q a w:=by
 rw[bn]at hX
 obtain⟨hb,hX⟩:=hX
 refine wp_region_draw fun t=>?_
 have hv:Valid ops (Region.schedule (P.follows .mixedOrders) ops t):=jQ _ q_ _ _ fun i o ho d hd=>by
  have hi:i<ops.size:=(Array.getElem?_eq_some_iff.1 ho).1
  have h1:=aJ.1 (aJ.1 hb i (aO.2 hi)) d (by
   have :ops.toList.getD i default=o:=by
    simp[Array.getElem?_eq_getElem hi]at ho ⊢
    simp[ho]
   rw[this];exact hd)
  simpa[Nat.blt_eq]using h1
 generalize Region.schedule (P.follows .mixedOrders) ops t=l at hv ⊢
 obtain⟨E,hE,hEl,hEm⟩:=vR hv.1 X fun q hq=>by
  have :=aJ.1 hX q hq
  simp only[bn,Nat.blt_eq,Bool.not_eq_true',beq_eq_false_iff_ne]at this
  exact⟨(hv.2.1 _).2 this.1,(hv.2.1 _).2 this.2.1,this.2.2⟩
 rcases zT kZ h hE with fG|⟨ord,kZ,h⟩
 ·exact(AV hb hv hEl hEm fG).elim
 simp only[LQ,bn]at kZ
 obtain⟨hb,ha,fw,dS,hp⟩:=kZ
 refine tg hb ha hv hEl l [] ord rfl (fun x=>?_) hp a _ h
 rw[hv.2.1 x]
 constructor
 ·intro hx;simpa[Nat.blt_eq]using aJ.1 dS x hx
 ·intro hx;exact List.contains_iff_mem.1 (aJ.1 fw x (aO.2 hx))
theorem xl{f g:List Nat->Prop}(h:∀o,f o->g o):∀{O:List (List Nat)},D9 f O->D9 g O
 |[],_=>trivial
 |_::_,hf=>⟨h _ hf.1,xl h hf.2⟩
theorem K.KJ{n:Nat}{D:List Deferred}{w0:World}{G:Env}{L:List HP}{id:Nat}(ks:List Kd)(X:List (Nat×Nat))(O:List (List Nat))(q_:P.follows .mixedOrders=true)(hX:(fE ops&&X.all fun q=>Nat.blt q.1 ops.size&&(Nat.blt q.2 ops.size&& !(q.1==q.2)))=true)(kZ:US ops ks (ways X) O=true)(h:D9 (fun ord=>KO P ops true Q n D w0 G L (ord.map (item ops ks))) O):K P (.region id ops true) Q n D w0 G L:=fun a _ ha hw=>
 zd ks X O q_ hX kZ (xl (fun _ hh=>hh a _ ha hw.drew) h)
end WB
namespace WB
open Go Go.RowKit
def Src {α:Type} (w:World) (cf:α->List Value) (v:Value) (xs:List α):Prop:=
 ∃a cap,v=.slice a xs.length cap/\(a=none->xs=[])/\∀ad,a=some ad->dr w ad (xs.flatMap cf)
section
variable {w0 w:World} {L R:List HP} {E:TypeId} {α:Type} {cf:α->List Value} {sz:Nat} {xs ys:List α} {v:Value}
theorem wT(dK:∀e,(cf e).length=sz):∀xs:List α,(xs.flatMap cf).length=xs.length *sz
 |[]=>by simp
 |a::l=>by simp[wT dK l,dK,Nat.succ_mul];omega
theorem Src.of(hp:bQ L (SL E sz cf v xs) R)(w:World)(hw:St w0 L w):Src w cf v xs:=by
 rcases(hw.pick hp).cU with⟨h1,h2,h3,_⟩|⟨g,cap,cur,h1,h2,h3,h4,h5,h6,h7⟩
 ·have :xs=[]:=List.eq_nil_of_length_eq_zero h2
  exact⟨none,0,by rw[h1,this];rfl,fun _=>this,fun ad h=>(by cases h)⟩
 ·refine⟨some ⟨g,0,none⟩,cap,h1,(fun h=>by cases h),fun ad h=>?_⟩
  cases h
  have hl:=h7.look.2
  intro j c hj
  rw[Addr.add_lit,World.cell?,hl]
  rw[<-h5,List.getElem?_take]at hj
  split at hj
  ·simpa using hj
  ·simp at hj
theorem Src.ext{w':World}(h:Src w cf v xs)(e:Ext w w'):Src w' cf v xs:=by
 obtain⟨a,cap,h1,h2,h3⟩:=h
 exact⟨a,cap,h1,h2,fun ad ha=>(h3 ad ha).ext e⟩
theorem JN{g n cap:Nat}(hw:St w0 (SL E sz cf (.slice (some ⟨g,0,none⟩) n cap) xs::R) w):n=xs.length/\n<=cap:=by
 obtain⟨h1,h2,_⟩:=gF hw
 exact⟨h1,h2⟩
end
section
variable {P:Program} {ops:Array Oper} {d:Bool} {Q:Exit->Act->World->Prop} {n:Nat} {D:List Deferred} {w0:World} {G:Env} {L R R' N:List HP} {l:List (Kd×Oper)} {k:Kd}
 {t:Nat} {op:Op} {ty T T' E E':TypeId} {pos:String} {af:Array Edge} {x y:Operand} {v u z:Value} {i j:Nat} {a c r:Int} {ad:Addr} {α:Type} {cf:α->List Value} {sz dP:Nat} {xs ys:List α} {e e':α}
theorem yg(w:World)(t e:TypeId)(sz:Nat)(hu:P.underlying t=some (.slice e))(hs:(Go.sizeOf e).run P w=.ok sz w):
 (Instr.buildSlice t 0 #[]).run P w=.ok (.slice (some ⟨w.heap.size,0,none⟩) 0 0) (w.alloc (.cells #[] e)):=by
 simp[Instr.buildSlice,run_underlying hu,hs,Instr.fill,newRow]
 rw[show Array.range 0=#[]from rfl,Array.map_empty]
theorem KO.bs0(cf:α->List Value)(hk:(!d||(k== .dm||k== .write))=true)(hT:P.underlying T=some (.slice E))(hs:∀w,(Go.sizeOf E).run P w=.ok sz w)(ht:Nat.blt t n=true)(h:∀bb,KO P ops d Q n D w0 ((t,.slice (some ⟨bb,0,none⟩) 0 0)::G) (SL E sz cf (.slice (some ⟨bb,0,none⟩) 0 0) []::L) l):KO P ops d Q n D w0 G L ((k,⟨some t,.buildSlice T 0 #[],ty,pos,af,none⟩)::l):=by
 refine KO.pU hk (F:=fun bb=>.slice (some ⟨bb,0,none⟩) 0 0) (N:=fun bb=>SL E sz cf (.slice (some ⟨bb,0,none⟩) 0 0) []::L) (fun a w ha hw=>⟨w.heap.size,w.alloc (.cells #[] E),?_,Ext.alloc w _,?_⟩) ht h
 ·have hr:=yg (P:=P) w T E sz hT (hs w)
  simp[execOp,hr]
 ·exact(hw.alloc (.cells #[] E)).lO (n:=0) (cap:=0) (aD _) Ux aj aj
theorem yj(w:World)(t ty e:TypeId)(b:Option Addr)(m cap c s:Nat)(hu:P.underlying t=some (.slice e))(hs:(Go.sizeOf e).run P w=.ok s w)(h:m<=cap):
 (Builtin.append_ #[t,t] ty #[.slice b m cap,.slice none 0 c]).run P w=.ok (.slice b m cap) w:=by
 cases b<;>simp[Builtin.append_,run_underlying hu,hs,Builtin.lenOf,Builtin.firstCells,h,storeCells]
theorem KO.T3(hk:(!d||k== .write)=true)(hx:ev G x=some v)(hy:ev G y=some u)(hp:bQ L (SL E sz cf v xs) R)(hs:∀w,St w0 L w->Src w cf u ys)(hT:P.underlying T=some (.slice E))(hi:(P.info? E).map (fun i=>(i.zero,i.size,i.bytes))=some (some z,sz,dP))(SN:z.cells.size=sz)(dK:∀e,(cf e).length=sz)(h1:∀e,(cf e).all Value.oneCell'=true)(hb:xs.length+ys.length<1000000000)(hby:dP<=10000)(ht:Nat.blt t n=true)(h:∀v',KO P ops d Q n D w0 ((t,v')::G) (SL E sz cf v' (xs++ys)::R) l):KO P ops d Q n D w0 G L ((k,⟨some t,.call ⟨.builtin .append,#[x,y],#[T,T]⟩,ty,pos,af,none⟩)::l):=by
 obtain⟨i0,Ko,xU,n0,qN⟩:=info_parts hi
 refine KO.wvE hk (F:=fun v'=>SL E sz cf v' (xs++ys)::R) (fun a w ha hw=>?_) ht h
 have sF:=hw.pick hp
 obtain⟨sa,cap,rfl,hn,hc⟩:=hs w hw
 cases sa with
 |none=>
  obtain rfl:=hn rfl
  obtain⟨b,c2,rfl,jF⟩:∃b c2,v=.slice b xs.length c2/\xs.length<=c2:=by
   rcases sF.cU with⟨h1,h2,_⟩|⟨g,cap,cur,h1,h2,_⟩
   ·exact⟨none,0,by rw[h1,h2],by omega⟩
   ·exact⟨_,cap,h1,h2⟩
  refine⟨.slice b xs.length c2,w,mj x y T T rfl _ _ (ha.eval hx) (ha.eval hy) (yj (P:=P) w T ty E b _ c2 cap sz hT (by simp[Go.sizeOf,typeInfo,Ko,n0]) jF),?_⟩
  rw[List.append_nil];exact sF
 |some ad=>
  have I2:=hc ad rfl
  have hbb:(xs.length+ys.length)*dP<=140737488355328:=by
   have :=Nat.mul_le_mul (show xs.length+ys.length<=1000000000 by omega) hby;omega
  obtain⟨v',w',hr,kt⟩:=sb (P:=P) T ty E i0 z sz dP hT Ko xU n0 qN SN sF ad ys.length cap (ys.flatMap cf) (wT dK ys) I2 (Au (fun e u hu=>aJ.1 (h1 e) u hu) ys) Ux hbb
  refine⟨v',w',mj x y T T rfl v _ (ha.eval hx) (ha.eval hy) hr,?_⟩
  show St w0 (lu E sz v' (xs++ys).length ((xs++ys).flatMap cf)::R) w'
  rw[aP,List.flatMap_append]
  exact kt
theorem vF.nil:∀(M:List HP),vF [] M
 |[]=>.refl
 |_::M=>.drop (vF.nil M)
theorem KO.Wu{s:ak}{b:UInt8}(hx:ev G x=some (.string s))(hy:ev G y=some (.int .i64 a))(hT:P.underlying T=some .string)(ha:a=(i:Int))(hc:s[i]? =some b)(ht:Nat.blt t n=true)(h:KO P ops d Q n D w0 ((t,.int .u8 (b.toNat:Nat))::G) L l):KO P ops d Q n D w0 G L ((k,⟨some t,.index T x y,ty,pos,af,none⟩)::l):=
 KO.val (fun a' w su=>by
  subst ha
  simp[execOp,su.eval hx,su.eval hy,Instr.index,asIntOf,run_underlying hT,hc]) ht h
def ac6 (u:Option TypeDesc):Bool:=match u with|some (.interface _)=>false|none=>false|some _=>true
theorem KO.aeA{T0:TypeId}(hx:ev G x=some (.iface T0 v))(hT:P.underlying T=some (.interface (P.methodsAt T)))(ht:Nat.blt t n=true)(h:KO P ops d Q n D w0 ((t,.bool true)::G) L l):
 KO P ops d Q n D w0 G L ((k,⟨some t,.binOp .neq T x (.const .nilIface) T',ty,pos,af,none⟩)::l):=
 KO.val (fun a w ha=>by
  simp only[execOp,ha.eval hx,show a.eval (.const .nilIface)=.nilIface from rfl]
  simp[run_neq_held_nil w T _ _ hT,eqGuard_at_iface]) ht h
theorem KO.agz{T0:TypeId}(hx:ev G x=some (.iface T0 v))(hT:P.underlying T=some (.interface (P.methodsAt T)))(ht:Nat.blt t n=true)(h:KO P ops d Q n D w0 ((t,.bool false)::G) L l):
 KO P ops d Q n D w0 G L ((k,⟨some t,.binOp .eql T x (.const .nilIface) T',ty,pos,af,none⟩)::l):=
 KO.val (fun a w ha=>by
  simp only[execOp,ha.eval hx,show a.eval (.const .nilIface)=.nilIface from rfl]
  simp[run_eql_held_nil w T _ _ hT,eqGuard_at_iface]) ht h
theorem KO.aeB(hx:ev G x=some .nilIface)(hT:P.underlying T=some (.interface (P.methodsAt T)))(ht:Nat.blt t n=true)(h:KO P ops d Q n D w0 ((t,.bool false)::G) L l):
 KO P ops d Q n D w0 G L ((k,⟨some t,.binOp .neq T x (.const .nilIface) T',ty,pos,af,none⟩)::l):=
 KO.val (fun a w ha=>by
  simp only[execOp,ha.eval hx,show a.eval (.const .nilIface)=.nilIface from rfl]
  simp[run_neq_nil_nil w T hT,eqGuard_nil_constR]) ht h
theorem KO.agA(hx:ev G x=some .nilIface)(hT:P.underlying T=some (.interface (P.methodsAt T)))(ht:Nat.blt t n=true)(h:KO P ops d Q n D w0 ((t,.bool true)::G) L l):
 KO P ops d Q n D w0 G L ((k,⟨some t,.binOp .eql T x (.const .nilIface) T',ty,pos,af,none⟩)::l):=
 KO.val (fun a w ha=>by
  simp only[execOp,ha.eval hx,show a.eval (.const .nilIface)=.nilIface from rfl]
  simp[run_eql_nil_nil w T hT,eqGuard_nil_constR]) ht h
end
section
variable {P:Program} {fn:Func} {R:Ending->World->Prop} {n:Nat} {w0:World} {G:Env} {L M:List HP} {v v1 v2 v3:Value} {t t1 t2 t3:Nat} {T E:TypeId} {b:Nat} {cs:List Value} {fz:Nat×Nat}
end
theorem KE.pA{P:Program}{f:FuncId}{args:Array Value}{w0:World}{L:List HP}{R R':Value->List HP->Prop}(h:KE P f args w0 L R)(hr:∀v M,R v M->∃M',R' v M'/\∀w,St w0 M w->St w0 M' w):KE P f args w0 L R':=fun w hw=>
 (h w hw).mono fun _ _ ⟨v,M,e,r,s,b⟩=>let⟨M',r',c⟩:=hr v M r;⟨v,M',e,r',c _ s,b⟩
end WB
namespace Go.Proofs.YtjhogocabcdjbabGreatDoor
open Tryz
open Go Go.RowKit WB
abbrev atB (b:Nat) (k p:Int):HP:=bP b (.cells [Value.int .i64 k,.int .i64 p].toArray 248 (0,0))
def atV (b:Nat):Value:=.iface 247 (.pointer (some ⟨b,0,none⟩))
end Go.Proofs.YtjhogocabcdjbabGreatDoor
namespace WB
open Go
def b_ (n:Int):ak:=⟨(Lib.itoa n).toArray⟩
def dn (xs:List ak) (sep:ak):ak:=⟨(Lib.join (xs.map (·.data.toList)) sep.data.toList).toArray⟩
def oR (n:Int):Prop:= -9223372036854775808<=n/\n<=9223372036854775807
def sp:ak:=⟨#[32]⟩
def qy (m:Ms):ak:=b_ m.id++sp++b_ m.pri++sp++m.body++sp++m.queue++sp++b_ m.cq
def plus:ak:=⟨#[43]⟩
def cF (xs:List Ms):ak:=dn (xs.map qy) plus
theorem ki(s:ak):s.size=s.data.toList.length:=rfl
theorem cH{n:Int}(h:oR n):(b_ n).size<=21:=by
 have :=Lib.itoa_length_le n h.1 h.2
 simpa[b_,ByteArray.size]using this
theorem Ab(x y:List UInt8)(r:List (List UInt8))(sep:List UInt8):Lib.join (x::y::r) sep=x++sep++Lib.join (y::r) sep:=by
 simp[Lib.join_cons,Lib.joinTail]
theorem L8(l:List (List UInt8))(x sep:List UInt8)(h:l≠[]):Lib.join (l++[x]) sep=Lib.join l sep++sep++x:=by
 cases l with
 |nil=>exact absurd rfl h
 |cons a r=>rw[bF,Lib.join_cons,Lib.join_cons];simp[Lib.joinTail]
theorem ID(l:List ak)(x sep:ak)(h:l≠[]):dn (l++[x]) sep=dn l sep++sep++x:=by
 unfold dn
 rw[aZ,aL,List.map_nil,L8 _ _ _ HV]
 apply ByteArray.ext
 apply Array.ext'
 simp
theorem kJ(x sep:ak):dn [x] sep=x:=by
 unfold dn
 rw[aL,List.map_nil,Lib.join_one]
theorem Cl(sep:ak):dn [] sep=⟨#[]⟩:=rfl
theorem L9(x y sep:ak):dn [x,y] sep=x++sep++y:=by
 have :=ID [x] y sep aj
 rw[kJ]at this;exact this
theorem gp(x y:ak)(r:List ak)(sep:ak):dn (x::y::r) sep=x++sep++dn (y::r) sep:=by
 unfold dn
 rw[aL,aL,Ab]
 apply ByteArray.ext
 apply Array.ext'
 simp
theorem gD(sep:ak)(c:Nat):∀(l:List ak),(∀x∈l,x.size<=c)->(dn l sep).size<=l.length *(c+sep.size)
 |[],_=>by rw[Cl];exact aV _
 |[x],h=>by
  have :=h x aj
  rw[kJ];simp;omega
 |x::y::r,h=>by
  have h1:=gD sep c (y::r) fun z hz=>h z (List.mem_cons_of_mem _ hz)
  have h2:=h x aj
  rw[gp,aU,aU,List.length_cons,Nat.succ_mul];omega
theorem OB(l:List ak)(sep:ak):(Lib.join (l.map (·.data.toList)) sep.data.toList).length=(dn l sep).size:=by simp[dn,ByteArray.size]
theorem MI(a b c:ak):a++b++c=a++(b++c):=ByteArray.append_assoc
theorem Ce{m:Ms}(h:bT m=true):(qy m).size<=100:=by
 obtain⟨h1,h2,h3,h4,h5,h6,h7,h8⟩:=bV h
 have a1:=cH (n:=m.id) ⟨by omega,by omega⟩
 have a2:=cH (n:=m.pri) ⟨by omega,by omega⟩
 have a3:=cH (n:=m.cq) ⟨by omega,by omega⟩
 have a4:m.body.size<=12:=by unfold lG dN at h5;simp at h5;omega
 have a5:m.queue.size<=8:=by unfold dw dN at h6;simp at h6;omega
 have a6:sp.size=1:=rfl
 unfold qy
 simp only[aU,a6]
 omega
theorem lg{l:List Ms}(h:∀m∈l,bT m=true):(cF l).size<=l.length *101:=by
 unfold cF
 have :=gD plus 100 (l.map qy) (fun x hx=>by obtain⟨m,hm,rfl⟩:=ay.1 hx;exact Ce (h m hm))
 rw[bj]at this
 exact this
def ju (xs:List Ms):Option Nat:=xs.findIdx? fun m=> !bT m
def aec (xs:List Ms):Int:=match ju xs with|none=>0|some _=>1
def aeb (xs:List Ms):Int:=match ju xs with|none=> -1|some k=>(k:Int)
def aea (xs:List Ms):ak:=match ju xs with|none=>cF xs|some _=>⟨#[]⟩
theorem C4{xs:List Ms}(h:∀(j:Nat) m,xs[j]? =some m->bT m=true):ju xs=none:=by
 unfold ju
 rw[List.findIdx?_eq_none_iff]
 intro m hm
 obtain⟨j,hj,rfl⟩:=List.getElem_of_mem hm
 simp[h j _ (ao hj)]
theorem dG{xs:List Ms}(h:ju xs=none):∀m∈xs,bT m=true:=by
 unfold ju at h
 intro m hm
 simpa using List.findIdx?_eq_none_iff.1 h m hm
open Go Go.RowKit Go.ChangeShapes Go.WideShapes Go.Deep
section
variable {H:Type} {enc:TypeId×Value->H}
theorem zi{C:Checked}{os:Os}{f:FuncId}{fn:Func}{s:OpenSpec}{conds:List PathCond}{apart:Bool}{laid:List (String×DataW Unit)}(modest:Bool)(w0:World)(args:Array Value)(yu:w0.os=os)(hsh:(w0.forCall (fun _ _=>0) ⟨#[],args,[]⟩).Shaped C.prog)(kZ:Input.okWideB C.prog (w0.forCall (fun _ _=>0) ⟨#[],args,[]⟩) f ⟨#[],args,[]⟩=true)(ae5:s.preRow enc C.prog fn conds apart laid (w0.forCall (fun _ _=>0) ⟨#[],args,[]⟩).memory args):
 ∃(w:World) (tape:Tape) (i:Input),w.os=os/\(w.forCall tape i).Shaped C.prog/\i.vars=[]/\Input.okWide C.prog (w.forCall tape i) .any w.heap.size f i/\
  s.preRow enc C.prog fn conds apart laid (w.forCall tape i).memory i.args/\({modest:=modest}:Assume).holds C.prog (lone (Frame.enter C.prog f i.args .normal) [] (w.forCall tape i)):=
 ⟨w0,fun _ _=>0,⟨#[],args,[]⟩,yu,hsh,(Input.okWide_of_okWideB (base:=0) kZ).1,(Input.okWide_of_okWideB kZ).2,ae5,by
  simp only[Assume.holds]
  exact⟨by simp,by simp,fun _=>Modest.zero,by simp,by simp⟩⟩
variable {P:Program}
theorem FL(hl:laidOutB P=true){W W':World}(hb:Below W.heap.size W W'):∀{ts:List TypeId} {vs:List Value} {ds:List (DataW H)} {ps:List MemPlace},(ts.all fun t=>P.readableRec t&&decide (t<P.types.size))=true->
 DataW.TrodAll enc P W 0 (fun _=>true) true ts vs ds ps->(∀x∈ps,x.block<W.heap.size)->DataW.TrodAll enc P W' 0 (fun b=>decide (b<W.heap.size)) true ts vs ds ps
 |[],[],[],_,_,h,_=>h
 |t::ts,v::vs,d::ds,ps,hr,⟨p,q,h1,h2,e⟩,dS=>by
  simp only[List.all_cons,bn,decide_eq_true_eq]at hr
  exact⟨p,q,Below.trod hl hr.1.1 hr.1.2 h1 hb (fun x hx=>dS x (by rw[e];exact List.mem_append_left _ hx)),FL hl hb (by simpa using hr.2) h2 (fun x hx=>dS x (by rw[e];exact List.mem_append_right _ hx)),e⟩
theorem uP{α:Type}{p:Nat->α->Prop}:∀(n:Nat),(∀i,i<n->∃x,p i x)->∃l:List α,l.length=n/\∀(i:Nat) (x:α),l[i]? =some x->p i x
 |0,_=>⟨[],rfl,fun i x h=>by simp at h⟩
 |n+1,h=>by
  obtain⟨l,hl,hp⟩:=uP n fun i hi=>h i ae
  obtain⟨x,hx⟩:=h n ae
  refine⟨l++[x],by simp[hl],fun i y hy=>?_⟩
  by_cases hi:i<l.length
  ·rw[List.getElem?_append_left hi]at hy;exact hp i y hy
  ·rw[bf ae]at hy
   have :i-l.length=0:=by
    rcases Nat.eq_zero_or_pos (i-l.length)with h0|h0
    ·exact h0
    ·rw[br ga]at hy;simp at hy
   rw[this]at hy
   simp only[List.getElem?_cons_zero,az]at hy
   rw[<-hy,show i=n by omega];exact hx
def x9 {α:Type} (W:World) (sz:Nat) (cf:α->List Value) (v:Value) (xs:List α):Prop:=
 ∃a cap,v=.slice a xs.length cap/\∀(i:Nat) (x:α),xs[i]? =some x->∃ad,a=some ad/\dr W (ad.add (i *sz)) (cf x)
theorem Sk{α:Type}{φ:α->Prop}{cf:α->List Value}{W:World}{t e:TypeId}{v:Value}{d:DataW H}{p:List MemPlace}{r:Reach}{base sz:Nat}(ht:P.underlying t=some (.slice e))(hv:Value.okWide P W r base t v)(h:DataW.Trod enc P W 0 (fun _=>true) true t v d p)(dK:P.cellsOf e=sz)(rd:∀n cs y,DataW.trod enc P W 0 (fun _=>true) true n e cs=some y->∃x:α,φ x/\cs=cf x):
 ∃xs:List α,x9 W sz cf v xs/\∀x∈xs,φ x:=by
 obtain⟨a,len,cap,rfl⟩:=okWide_slice ht hv
 obtain⟨fuel,hf⟩:=h
 rcases open_slice ht hf with⟨lW,_⟩|⟨a',aji,o5,m,n,D,Pl,lW,_,hl,_,hm,_,hi⟩
 ·simp[Value.cells]at lW
  obtain⟨rfl,rfl,rfl⟩:=lW
  exact⟨[],⟨none,0,rfl,fun i x h=>by simp at h⟩,fun x hx=>by simp at hx⟩
 ·simp[Value.cells]at lW
  obtain⟨rfl,rfl,rfl⟩:=lW
  have key:∀i,i<len->∃x:α,φ x/\dr W (a'.add (i *sz)) (cf x):=fun i dS=>by
   obtain⟨EG,hc,htr⟩:=hi i (by rw[hm];simp;omega)
   obtain⟨x,hx,rfl⟩:=rd n EG _ htr
   obtain⟨_,hlen,iX⟩:=World.cells?_some hc
   refine⟨x,hx,fun j c hj=>?_⟩
   have Bu:=(au.1 hj).1
   rw[<-dK]
   rw[iX j ae];exact hj
  obtain⟨l,WZ,hp⟩:=uP len key
  refine⟨l,⟨some a',cap,by rw[WZ],fun i x hx=>⟨a',rfl,(hp i x hx).2⟩⟩,fun x hx=>?_⟩
  obtain⟨i,hi,rfl⟩:=List.getElem_of_mem hx
  exact(hp i _ (ao hi)).1
end
section
variable {H:Type} {enc:TypeId×Value->H} {P:Program} {W:World} {base:Nat} {spare:Nat->Bool} {held:Bool}
theorem NA{t:TypeId}{fs:Array Field}{n:Nat}{cs:List Value}{y:DataW H×List MemPlace}(hu:P.underlying t=some (.struct fs))(h:DataW.trod enc P W base spare held n t cs=some y){k:Nat}(hk:P.cellsOf t=k):cs.length=k:=by
 obtain⟨_,_,_,_,hl,_⟩:=DataW.trod_struct hu h
 rw[hl,hk]
theorem H_{t:TypeId}{fs:Array Field}{n:Nat}{cs:List Value}{y:DataW H×List MemPlace}(hu:P.underlying t=some (.struct fs))(h:DataW.trod enc P W base spare held n t cs=some y)(i off:Nat)(ty:TypeId)(sz:Nat)(hf:(fs[i]?).map (fun f=>(f.offset,f.type))=some (off,ty))(hc:P.cellsOf ty=sz):∃m y',DataW.trod enc P W base spare held m ty ((cs.drop off).take sz)=some y':=by
 obtain⟨xs,m,_,_,_,hx,fw⟩:=DataW.trod_struct hu h
 cases Nd:fs[i]? with
 |none=>rw[Nd]at hf;simp at hf
 |some f=>
  rw[Nd]at hf
  simp only[Option.map_some,az,Prod.mk.injEq]at hf
  obtain⟨rfl,rfl⟩:=hf
  have h1:=fw i f Nd
  have dS:i<xs.length:=by rw[hx];exact(Array.getElem?_eq_some_iff.1 Nd).1
  rw[ao dS,hc]at h1
  exact⟨m,_,h1⟩
theorem zm{t:TypeId}{fs:Array Field}{n:Nat}{cs:List Value}{y:DataW H×List MemPlace}(hu:P.underlying t=some (.struct fs))(h:DataW.trod enc P W base spare held n t cs=some y)(i off:Nat)(ty:TypeId){k:IntKind}(hf:(fs[i]?).map (fun f=>(f.offset,f.type))=some (off,ty))(hc:P.cellsOf ty=1)(hty:P.underlying ty=some (.int k)):∃z:Int,cs[off]? =some (.int k z)/\(Lit.int k z).wf=true:=by
 obtain⟨m,y',h1⟩:=H_ hu h i off ty 1 hf hc
 obtain⟨z,e,_,hz⟩:=DataW.trod_int hty h1
 refine⟨z,?_,hz⟩
 have :=congrArg (fun l=>l[0]?) e
 simpa using this
end
open Go Go.RowKit
theorem pT{P:Program}{W:World}:∀{l:List (String×DataW Unit)} {ps:List MemPlace},DataW.LaidVars P W l ps->∀x∈l,∃g t cs fuel p,P.globalNamed x.1=some g/\(P.globals[g]?).map (·.type)=some t/\W.var? P x.1=some cs/\DataW.trod (fun _=>()) P W 0 (fun _=>true) false fuel t cs.toList=some (x.2,p)
 |[],_,_,x,hx=>by cases hx
 |(n,d)::r,ps,h,x,hx=>by
  obtain⟨g,t,cs,fuel,p,q,h1,h2,h3,h4,h5,_⟩:=h
  rcases aF.1 hx with rfl|hx
  ·exact⟨g,t,cs,fuel,p,h1,h2,h3,h4⟩
  ·exact pT h5 x hx
theorem E6{P:Program}{W:World}{name:String}{k:IntKind}{zs:List Int}{l:List (String×DataW Unit)}{g:Nat}{t e:TypeId}{n:Nat}(h:laidMet P l W)(hm:(name,Lib.tabData k zs)∈l)(hg:P.globalNamed name=some g)(hty:(P.globals[g]?).map (·.type)=some t)(ht:P.underlying t=some (.array n e))(he:P.underlying e=some (.int k))(hce:P.cellsOf e=1)(EF:P.cellsOf t=n):Lib.TabIs P W name k zs:=by
 obtain⟨ps,hv,_⟩:=h
 obtain⟨g',t',cs,fuel,p,h1,h2,h3,h4⟩:=pT hv _ hm
 obtain rfl:=Option.some.inj (hg.symm.trans h1)
 obtain rfl:=Option.some.inj (hty.symm.trans h2)
 unfold Lib.TabIs
 rw[h3,<-Lib.cells_of_tab ht he hce EF h4]
end WB
namespace Go.Proofs.YtjhogocabcdjbabGreatDoor
open Tryz
open Go Go.RowKit WB
def qH (w:World):Prop:=Lib.TabIs prog w "internal/strconv.uint64pow10" .u64 Lib.pow10Tab
theorem qH.ext{w w':World}(h:qH w)(e:Ext w w'):qH w':=by
 unfold qH Lib.TabIs World.var? at *
 cases hg:prog.globalNamed "internal/strconv.uint64pow10" with
 |none=>rw[hg]at h;simp at h
 |some g=>
  rw[hg]at h
  simp only[Option.bind_some]at h ⊢
  cases hb:w.heap[g]? with
  |none=>rw[hb]at h;simp at h
  |some o=>rw[e.2 g (Array.getElem?_eq_some_iff.1 hb).1,hb];rw[hb]at h;exact h
theorem kK(w0:World)(L:List HP)(n:Int)(hT:qH w0)(hn:oR n):KE prog 59 #[.int .i64 n] w0 L (fun u M=>u=.string (b_ n)/\M=L):=KE.ct fun w hw=>by
 refine(Tryz.strconv_Itoa n hn.1 hn.2 w (hT.ext (Ext.ct hw.below))).mono ?_
 rintro e w' ⟨rfl,k,os,rfl⟩
 exact⟨rfl,Lib.below_grow _ _ (aD _) _ _⟩
theorem zH{W W':World}{v:Value}{xs:List Ms}(h:x9 W 5 du v xs)(e:Ext W W'):x9 W' 5 du v xs:=by
 obtain⟨a,cap,rfl,hc⟩:=h
 exact⟨a,cap,rfl,fun i x hx=>by obtain⟨ad,rfl,hh⟩:=hc i x hx;exact⟨ad,rfl,hh.ext e⟩⟩
def ln (s:ak):List Value:=[.string s]
abbrev l5 (v:Value) (xs:List ak):HP:=SL 9 1 ln v xs
theorem mV:(prog.info? 9).map (fun i=>(i.zero,i.size,i.bytes))=some (some (Value.string ⟨#[]⟩),1,16):=by kernel_rfl
theorem wD(w0:World)(L R:List HP)(v:Value)(xs:List ak)(sep:ak)(hp:bQ L (l5 v xs) R)(hn:xs.length<=1000000)(hs:(dn xs sep).size<=1000000000):KE prog 62 #[v,.string sep] w0 L (fun u M=>u=.string (dn xs sep)/\M=L):=KE.ct fun w hw=>by
 rcases(hw.pick hp).cU with⟨h1,h2,_⟩|⟨g,cap,cur,h1,h2,h3,h4,h5,h6,h7⟩
 ·have hx:xs=[]:=List.eq_nil_of_length_eq_zero h2
  subst hx;subst h1
  refine(Tryz.strings_Join_none none 0 sep w).mono ?_
  rintro e w' ⟨rfl,rfl⟩
  exact⟨rfl,Below.refl _ _⟩
 ·subst h1
  have hc:∀(j:Nat) x,xs[j]? =some x->w.cell? ⟨g,0+j,none⟩=some (.string x):=fun j x hx=>by
   have :=pb (cf:=ln) (sz:=1) (fun _=>rfl) (hw.pick hp) hx 0 ai
   rw[Nat.zero_add]
   simpa[ln]using this
  refine(Tryz.strings_Join g 0 cap xs sep w hc h7.lt ae h2 (by rw[OB];omega)).mono ?_
  rintro e w' ⟨rfl,hb⟩
  exact⟨rfl,hb⟩
def inC (n:Int):List Value:=[.int .i64 n]
theorem LU(w0:World)(L:List HP)(m:Ms)(hb:m.body.size<=maxLen)(hq:m.queue.size<=maxLen):KE prog 154 #[.agg (du m).toArray] w0 L (fun u M=>u=.bool (!bT m)/\M=L):=by
 refine KE.mk (n:=6) func154 rfl ntmps154 aj ?_
 intro w hw
 refine Z3 ?_
 refine KO.box rfl rfl aQ rfl ?_;intro b1
 refine mB ?_
 refine Eo ?_
 refine KO.ce (cp:=[]) rfl rfl rfl call145 rfl (J2 w _ m hb hq) ?_;rintro v' L' ⟨rfl,rfl⟩
 refine qp ?_
 refine jH ?_
 refine KQ.bG rfl rfl (fun w' hs=>⟨_,_,rfl,⟨rfl,rfl⟩,hw.aE hs.below,hs.below⟩)
theorem OI(w0:World)(L:List HP)(v:Value)(xs:List Ms)(f:FuncId)(cp:List Value)(pf:Ms->Bool)(hr:∀w,St w0 L w->x9 w 5 du v xs)(hlen:xs.length<1000000)(gZ:∀args w,(callFunc f args).run prog w=.ok (.enter f args) w)(qP:∀e,e∈xs->KE prog f ([]++([Value.agg (du e).toArray]++cp)).toArray w0 L (fun v L'=>v=.bool (pf e)/\L'=L)):
 KE prog 153 #[v,.func (.func f) [].toArray cp.toArray] w0 L (fun v L'=>v=.int .i64 (qC pf xs)/\L'=L):=by
 refine KE.mk (n:=19) func153 rfl ntmps153 aj ?_
 intro w hw
 obtain⟨a,cap,rfl,hc⟩:=hr w hw
 refine qE ?_
 refine BI ?_
 refine K.loop (fun k:Nat=>[(0,.slice a xs.length cap),(1,.func (.func f) [].toArray cp.toArray),(7,.int .i64 (xs.length:Nat)),(8,.int .i64 (k:Nat))]) (fun _=>[]) (fun k=>k<=xs.length/\∀(j:Nat) (u:Ms),j<k->xs[j]? =some u->pf u=false) (fun k=>xs.length-k) 0 ⟨by omega,fun j u h=>by omega⟩ ⟨rfl,rfl,rfl,rfl,trivial⟩ (fun _ h=>h) ?_
 rintro k ⟨hk,sG⟩
 refine iJ ?_
 refine K.bz rfl (fun h=>?_) (fun h=>?_)
 ·have dS:k<xs.length:=by omega
  obtain⟨e,he⟩:∃e,xs[k]? =some e:=⟨xs[k],ao dS⟩
  obtain⟨ad,rfl,hh⟩:=hc k e he
  refine xy ?_
  refine mS ?_
  refine nB ?_
  refine KO.II rfl rfl runUnderlying49 sizeOf44 aQ ae rfl ?_
  refine KO.L3 (cs:=(du e).toArray) rfl rfl isAgg44 sizeOf44 rfl hh rfl ?_
  refine KO.ce rfl rfl rfl gZ rfl ((qP e (ax he)).qX hw) ?_;rintro v L' ⟨rfl,rfl⟩
  refine Z2 ?_
  refine K.cond rfl (fun h1=>?_) (fun h1=>?_)
  ·refine jI ?_
   refine lT ?_
   refine KQ.bG rfl rfl (fun w' hs=>⟨_,_,rfl,⟨?_,rfl⟩,hw.aE hs.below,hs.below⟩)
   rw[Ax he h1 sG]
  ·refine qD ?_
   refine KQ.round (k+1) ⟨by omega,fun j u hj hu=>?_⟩ ae ⟨rfl,rfl,rfl,rfl,trivial⟩ (fun _ h=>h)
   by_cases wK:j=k
   ·subst wK;rw[he]at hu;simp only[az]at hu;rw[<-hu];exact h1
   ·exact sG j u ae hu
 ·refine Jy ?_
  refine KQ.bG rfl rfl (fun w' hs=>⟨_,_,rfl,⟨?_,rfl⟩,hw.aE hs.below,hs.below⟩)
  rw[wU fun j u hu=>sG j u Y21 hu]
def QN (L:List HP) (xs:List Ms) (u:Value) (M:List HP):Prop:=
 match ju xs with
 |none=>u=.tuple #[.string (cF xs),.nilIface]/\M=L
 |some k=> ∃b,u=.tuple #[.string ⟨#[]⟩,atV b]/\M=atB b 1 k::L
theorem lz(w0:World)(L:List HP)(v:Value)(xs:List Ms)(hr:∀w,St w0 L w->x9 w 5 du v xs)(hT:qH w0)(dK:∀m∈xs,m.body.size<=maxLen/\m.queue.size<=maxLen)(hl:xs.length<=100000):
 KE prog 60 #[v] w0 L (QN L xs):=by
 refine KE.mk (n:=49) func60 rfl ntmps60 aj ?_
 intro w hw
 have Rc:=hT.ext (Ext.ct hw.below)
 have hrw:=hr w hw
 obtain⟨sa,cap,rfl,hc⟩:=hrw
 refine tG ?_
 refine mS ?_
 refine KO.ce (cp:=[]) rfl rfl rfl call153 rfl (OI w _ _ xs 154 [] (fun m=> !bT m) (fun w' hw'=>zH ⟨sa,cap,rfl,hc⟩ (Ext.ct hw'.below)) ae call154 (fun e he=>LU w _ e (dK e he).1 (dK e he).2)) ?_;rintro v' L' ⟨rfl,rfl⟩
 refine mS ?_
 refine vO ?_
 refine Z2 ?_
 refine K.bz rfl (fun h=>?_) (fun h=>?_)
 ·obtain⟨k,m,hk,hm,hb,dS,Nd⟩:=oc h
  have fG:ju xs=some k:=Nd
  rw[hk]
  refine jI ?_
  refine KO.XX (pl:=[(0,1),(1,1)]) [.int .i64 1,.int .i64 (k:Nat)] rfl zeroValue248 runUnderlying248 (by intro w;simp[sizeOf3,sizeOf70]) rfl rfl ?_
  refine KO.box rfl rfl aQ rfl ?_;intro b14
  refine Z30 ?_
  refine sN ?_
  refine KQ.fp rfl rfl rfl (fun w' hs=>⟨_,_,rfl,?_,hw.stack hs,hs.below⟩)
  unfold QN;rw[fG]
  exact⟨_,rfl,rfl⟩
 ·have fG:ju xs=none:=u9 ae
  have fw:=dG fG
  refine xB ?_
  refine mS ?_
  refine BI ?_
  refine K.loop (fun s:Nat×Value=>[(5,s.2),(16,.slice sa xs.length cap),(17,.int .i64 (xs.length:Nat)),(18,.int .i64 (s.1:Nat))]) (fun s=>[l5 s.2 ((xs.take s.1).map qy)]) (fun s=>s.1<=xs.length) (fun s=>xs.length-s.1) (0,.slice none 0 0)
   (aV _) ⟨rfl,rfl,rfl,rfl,trivial⟩ (fun _ h=>cM h) ?_
  rintro⟨k,vo⟩ hk
  dsimp only at hk ⊢
  refine iJ ?_
  refine K.bz rfl (fun h1=>?_) (fun h1=>?_)
  ·obtain⟨m,hm⟩:∃e,xs[k]? =some e:=⟨xs[k],ao ae⟩
   obtain⟨ad,rfl,hh⟩:=hc k m hm
   have h6:=fw m (ax hm)
   have hrp:=bV h6
   have i1:oR m.id:=⟨by omega,by omega⟩
   have i2:oR m.pri:=⟨by omega,by omega⟩
   have i3:oR m.cq:=⟨by omega,by omega⟩
   have z1:=cH i1
   have z2:=cH i2
   have z3:=cH i3
   have z4:m.body.size<=12:=by have :=hrp.2.2.2.2.1;unfold lG dN at this;simp at this;omega
   have z5:m.queue.size<=8:=by have :=hrp.2.2.2.2.2.1;unfold dw dN at this;simp at this;omega
   have z6:(⟨#[32]⟩:ak).size=1:=rfl
   have z7:sp.size=1:=rfl
   have hlen:((xs.take k).map qy).length<1000000:=by simp;omega
   refine qF ?_
   refine KO.II rfl rfl runUnderlying49 sizeOf44 aQ ae rfl ?_
   refine KO.L3 (cs:=(du m).toArray) rfl rfl isAgg44 sizeOf44 rfl hh rfl ?_
   refine KO.alloc rfl zeroValue44 aQ rfl ?_;intro b7
   refine K7 ?_
   refine Z2 ?_
   refine K.draw [.pure,.pure,.read,.dm,.pure,.pure,.read,.dm,.pure,.pure,.pure,.read,.pure,.pure,.pure,.read,.pure,.pure,.pure,.read,.dm,.pure,.dm,.write,.pure] [0,1,2,5,6,10,11,14,15,18,19,3,4,7,8,9,12,13,16,17,20,21,22,23,24] bH bH ?_
   refine Z1 ?_
   refine JH ?_
   refine T6 ?_
   refine tL ?_
   refine MX ?_
   refine yJ ?_
   refine Qb ?_
   refine yJ ?_
   refine Qa ?_
   refine tL ?_
   refine KO.ce (cp:=[]) rfl rfl rfl call59 rfl (kK w _ m.id Rc i1) ?_;rintro v' L' ⟨rfl,rfl⟩
   refine Hb ?_
   refine KO.ce (cp:=[]) rfl rfl rfl call59 rfl (kK w _ m.pri Rc i2) ?_;rintro v' L' ⟨rfl,rfl⟩
   refine Hb ?_
   refine Hb ?_
   refine Hb ?_
   refine Hb ?_
   refine Hb ?_
   refine Hb ?_
   refine KO.ce (cp:=[]) rfl rfl rfl call59 rfl (kK w _ m.cq Rc i3) ?_;rintro v' L' ⟨rfl,rfl⟩
   refine Hb ?_
   refine KO.lY (z:=(Value.string ⟨#[]⟩)) (sz:=1) (dP:=16) rfl rfl underlying115 bH aQ aQ ai ai rfl ?_;intro Nk
   refine KO.app (z:=Value.string ⟨#[]⟩) (sz:=1) (dP:=16) rfl rfl rfl bo bZ underlying115 mV rfl (qy m) aQ aQ aQ ae ai rfl ?_;intro v'
   refine vz ?_
   refine KQ.round (k+1,v') iK iK ⟨rfl,rfl,rfl,rfl,trivial⟩ (fun _ h=>?_)
   dsimp only
   rw[bJ hm,aZ,aL,List.map_nil]
   exact(h.pick bZ).Rm (vF.nil _)
  ·have uX:k=xs.length:=by omega
   rw[uX,List.take_length]
   have n4:=lg fw
   refine xr ?_
   refine KO.ce (cp:=[]) rfl rfl rfl call62 rfl (wD w _ _ vo (xs.map qy) plus bZ ga (by unfold cF at n4;omega)) ?_;rintro v' L' ⟨rfl,rfl⟩
   refine rC ?_
   refine KQ.fp rfl rfl rfl (fun w' hs=>⟨_,_,rfl,?_,hw.aE hs.below,hs.below⟩)
   unfold QN;rw[fG]
   exact⟨rfl,rfl⟩
end Go.Proofs.YtjhogocabcdjbabGreatDoor
namespace WB
open Go Go.RowKit
def lv (o:Oper):Bool:=match o.op with| .defer _=>false|_=>true
abbrev FR (l:Nat):Fence:=Fence.wide.inRound l
section
variable {P:Program} {ops:Array Oper} {Q:Exit->Act->World->Prop} {l:Nat}
theorem FB{o:Oper}(h:lv o=true):∀c,o.op≠ .defer c:=fun c e=>by unfold lv at h;rw[e]at h;cases h
theorem Lx{row:String}{args:Array Value}{w:World}{R:Value->World->Prop}(h:Rows P row args w R):RowsIn (FR l) 0 P row args w R:=fun c cs _=>
 let⟨v,w',r,s⟩:=h c cs;⟨v,w',r,stepsIn_wide.2 s⟩
theorem Lg{o:Oper}{a:Act}{N N':Act->World->Prop}{r:Result Next}(hn:∀a w,N a w->N' a w)(h:o.upon P a N Q r):o.uponIn (FR l) 0 P a N' Q r:=by
 cases r with
 |ok x w'=>
  cases x with
  |value v=>exact hn _ _ h
  |skip=>exact hn _ _ h
  |defer d=>exact hn _ _ h
  |enter f args=>
   refine⟨fun _=>by simp[Fence.wide]at *,CallsIn.inRound l (callsIn_wide.2 (h.mono fun e w hh=>?_))⟩
   cases e with
   |returned v=>exact hn _ _ hh
   |panicked c=>exact hh
   |outgrown=>exact hh
  |row row args=>exact⟨fun _=>by simp[Fence.wide]at *,(Lx h).mono fun v w hh=>hn _ _ hh⟩
  |_=>exact h.elim
 |halt s w'=>
  cases s with
  |panic v=>exact h
  |_=>exact h.elim
theorem ze{o:Oper}{a:Act}{w:World}{N N':Act->World->Prop}(hd:lv o=true)(hn:∀a w,N a w->N' a w)(h:o.wp P a w N Q):o.wpIn (FR l) 0 P a w N' Q:=
 ⟨fun _ _=>trivial,by
  show o.uponIn (FR l) 0 P a N' Q ((o.semAt (some l) a.eval).run P w)
  rw[Oper.semAt_some l _ _ (FB hd)]
  exact Lg hn h⟩
theorem qR(hQ:∀a w,¬Q .outgrown a w):∀{os:List Oper} (_:os.all lv=true) {a:Act} {w:World},wpList P ops Q os a w->wpListIn (FR l) 0 P ops Q os a w
 |[],_,_,_,h=>h
 |o::os,hd,a,w,h=>by
  simp only[List.all_cons,bn]at hd
  unfold wpList at h
  unfold wpListIn
  split
  ·rename_i hw
   rw[if_pos hw]at h
   rcases h with h|⟨_,a0,w0,h⟩
   ·exact ze hd.1 (fun a w hh=>qR hQ hd.2 hh) h
   ·exact absurd h (hQ _ _)
  ·rename_i hw
   rw[if_neg hw]at h
   exact⟨fun _ _=>trivial,qR hQ hd.2 h⟩
theorem pq(hQ:∀a w,¬Q .outgrown a w)(hd:ops.toList.all lv=true):∀{s:List Nat} {a:Act} {w:World},wpOps P ops Q s a w->wpOpsIn (FR l) 0 P ops Q s a w
 |[],_,_,h=>h
 |i::s,a,w,h=>by
  unfold wpOps at h
  unfold wpOpsIn
  cases ho:ops[i]? with
  |none=>rw[ho]at h;exact pq hQ hd h
  |some o=>
   rw[ho]at h
   simp only at h ⊢
   split
   ·rename_i hw
    rw[if_pos hw]at h
    rcases h with h|⟨_,a0,w0,h⟩
    ·exact ze (aJ.1 hd o (Array.mem_toList_iff.2 (Array.mem_of_getElem? ho))) (fun a w hh=>pq hQ hd hh) h
    ·exact absurd h (hQ _ _)
   ·rename_i hw
    rw[if_neg hw]at h
    exact⟨fun _ _=>trivial,pq hQ hd h⟩
theorem yc{id:Nat}{a:Act}{w:World}(ks:List Kd)(ord:List Nat)(q_:P.follows .mixedOrders=true)(kZ:Zb ops ks ord=true)(hQ:∀a w,¬Q .outgrown a w)(hd:ops.toList.all lv=true)(h:jd P ops Q (ord.map (item ops ks)) a w.drew):(Code.region id ops true).wpIn (FR l) 0 P Q a w:=by
 simp only[Zb,bn]at kZ
 obtain⟨hb,ha,fw,dS,hp⟩:=kZ
 refine wpIn_region_draw fun t=>pq hQ hd ?_
 have hv:Valid ops (Region.schedule (P.follows .mixedOrders) ops t):=jQ _ q_ _ _ fun i o ho d hd=>by
  have hi:i<ops.size:=(Array.getElem?_eq_some_iff.1 ho).1
  have h1:=aJ.1 (aJ.1 hb i (aO.2 hi)) d (by
   have :ops.toList.getD i default=o:=by
    simp[Array.getElem?_eq_getElem hi]at ho ⊢
    simp[ho]
   rw[this];exact hd)
  simpa[Nat.blt_eq]using h1
 generalize Region.schedule (P.follows .mixedOrders) ops t=l at hv ⊢
 refine wz hb ha hv l [] ord rfl (fun x=>?_) hp a _ h
 rw[hv.2.1 x]
 constructor
 ·intro hx;simpa[Nat.blt_eq]using aJ.1 dS x hx
 ·intro hx;exact List.contains_iff_mem.1 (aJ.1 fw x (aO.2 hx))
end
def KR (l:Nat) (P:Program) (c:Code) (Q:Exit->Act->World->Prop) (n:Nat) (D:List Deferred) (w0:World) (G:Env) (L:List HP):Prop:=
 ∀a w,cX n D G a->St w0 L w->c.wpIn (FR l) 0 P Q a w
section
variable {P:Program} {ops:Array Oper} {Q:Exit->Act->World->Prop} {n l:Nat} {D:List Deferred} {w0:World} {G G':Env} {L L' R:List HP} {c x y:Code} {e:Exit}
theorem KR.M5{id:Nat}{os:List Oper}(hd:os.all lv=true)(hQ:∀a w,¬Q .outgrown a w)(h:KO P os.toArray false Q n D w0 G L (wr os)):KR l P (.region id os.toArray false) Q n D w0 G L:=fun a w ha hw=>by
 have :=h a w ha hw
 simp only[JS,HY]at this
 exact wpIn_region_lit (qR hQ hd this)
theorem KR.draw{id:Nat}(ks:List Kd)(ord:List Nat)(q_:P.follows .mixedOrders=true)(kZ:Zb ops ks ord=true)(hd:ops.toList.all lv=true)(hQ:∀a w,¬Q .outgrown a w)(h:KO P ops true Q n D w0 G L (ord.map (item ops ks))):KR l P (.region id ops true) Q n D w0 G L:=fun a _ ha hw=>
 yc ks ord q_ kZ hQ hd (h a _ ha hw.drew)
theorem KR.seq(h:KR l P x (Exit.then (y.wpIn (FR l) 0 P Q) Q) n D w0 G L):KR l P (.seq x y) Q n D w0 G L:=fun a w ha hw=>wpIn_seq (h a w ha hw)
theorem KR.block{id:Nat}(h:KR l P x (Exit.inBlock id Q) n D w0 G L):KR l P (.block id x) Q n D w0 G L:=fun a w ha hw=>wpIn_block (h a w ha hw)
theorem KR.ret(h:KQ Q .ret n D w0 G L):KR l P .ret Q n D w0 G L:=fun a w ha hw=>wpIn_ret (h a w ha hw)
theorem KR.skip(h:KQ Q .normal n D w0 G L):KR l P .skip Q n D w0 G L:=fun a w ha hw=>wpIn_skip (h a w ha hw)
theorem KR.exit{id:Nat}(h:KQ Q (.exit id) n D w0 G L):KR l P (.exit id) Q n D w0 G L:=fun a w ha hw=>wpIn_exit (h a w ha hw)
theorem KR.cond{cd:Operand}{b:Bool}(hc:ev G cd=some (.bool b))(ht:b=true->KR l P x Q n D w0 G L)(hf:b=false->KR l P y Q n D w0 G L):KR l P (.cond cd x y) Q n D w0 G L:=fun a w ha hw=>
 wpIn_cond_split (ha.eval hc) (fun e=>ht e a w ha hw) (fun e=>hf e a w ha hw)
theorem KR.cV{cd:Operand}{b:Bool}(hc:ev G cd=some (.bool b))(hb:b=true)(h:KR l P x Q n D w0 G L):KR l P (.cond cd x y) Q n D w0 G L:=
 KR.cond hc (fun _=>h) (fun e=>by rw[hb]at e;cases e)
theorem KR.dp{cd:Operand}{b:Bool}(hc:ev G cd=some (.bool b))(hb:b=false)(h:KR l P y Q n D w0 G L):KR l P (.cond cd x y) Q n D w0 G L:=
 KR.cond hc (fun e=>by rw[hb]at e;cases e) (fun _=>h)
theorem KQ.uL(h:KR l P y Q n D w0 G L):KQ (Exit.then (y.wpIn (FR l) 0 P Q) Q) .normal n D w0 G L:=h
theorem KR.conv(hs:∀w,St w0 L w->St w0 L' w)(h:KR l P c Q n D w0 G L'):KR l P c Q n D w0 G L:=fun a w ha hw=>h a w ha (hs w hw)
theorem KR.loop{α:Type}(E:α->Env)(H:α->List HP)(φ:α->Prop)(m:α->Nat)(x0:α)(h0:φ x0)(hG:Et G (E x0))(hL:∀w,St w0 L w->St w0 (H x0) w)(round:∀x,φ x->KR l P c (Exit.then (QP n D w0 E H φ m x) Q) n D w0 (E x) (H x)):KR l P (.loop c) Q n D w0 G L:=fun a w ha hw=>by
 intro b k cs hro hb hr
 have key:∀(N:Nat) (x:α) (a:Act) (w:World),m x<N->φ x->cX n D (E x) a->St w0 (H x) w->
  ∃e a' w',Q e a' w'/\ArrivesIn (Machine.fenced P (FR l)) P (lone (b.atR a (.code c::.inLoop c::k)) cs w) b k cs e a' w':=by
  intro N
  induction N with
  |zero=>intro x a w h;omega
  |succ N ih=>
   intro x a w dS hx ha hw
   obtain⟨e,a₁,w₁,hq,Gy⟩:=round x hx a w ha hw b (.inLoop c::k) cs hro hb hr
   cases e with
   |normal=>
    obtain⟨y,hy,Tb,su,hw'⟩:=hq
    obtain⟨e₂,a₂,w₂,hq₂,abw⟩:=ih y a₁ w₁ ae hy su hw'
    exact⟨e₂,a₂,w₂,hq₂,.of_steps (StepsIn.trans Gy (.one (fenced_calm hb hr rfl) stepR_inLoop)) abw⟩
   |exit id=>exact⟨_,a₁,w₁,hq,.pass (x:=.inLoop c) rfl (fun _ _=>.inl aj) Gy⟩
   |goto l=>exact⟨_,a₁,w₁,hq,.pass (x:=.inLoop c) rfl (fun _ _=>.inl aj) Gy⟩
   |ret=>exact⟨_,a₁,w₁,hq,.pass (x:=.inLoop c) rfl (fun _ _=>.inl aj) Gy⟩
   |panic ch=>exact⟨_,a₁,w₁,hq,.pass (x:=.inLoop c) rfl (fun _ _=>.inl aj) Gy⟩
   |outgrown=>exact⟨_,a₁,w₁,hq,.pass (x:=.inLoop c) rfl (fun _ _=>.inl aj) Gy⟩
 obtain⟨e,a',w',hq,Gy⟩:=key (m x0+1) x0 a w (Nat.lt_succ_self _) h0 (ha.sub hG) (hL w hw)
 exact⟨e,a',w',hq,.of_steps (.one (fenced_calm hb hr rfl) stepR_loop) Gy⟩
end
def QW (b:Nat):Deferred:={target:=.collected b,args:=#[]}
theorem St.put{w0 w:World}{L:List HP}{b:Nat}{o:Obj}(h:St w0 (bP b o::L) w)(o':Obj):St w0 (bP b o'::L) (w.putObj b o'):=
 h.upd rfl rfl rfl aj (World.putObj_heap_same h.lt) fun k hk=>World.putObj_heap_other hk
section
variable {P:Program} {f:FuncId} {args:Array Value} {w0:World} {L M M' KL:List HP} {R:Value->List HP->Prop} {fn:Func} {n:Nat} {G:Env} {RE:Ending->World->Prop} {v v1 v2:Value} {t1 t2:Nat} {T T' E E':TypeId} {b1 b2:Nat} {cs EG:List Value} {fz fz':Nat×Nat}
theorem KE.mkM{c:Code}(hf:P.funcs[f]? =some fn)(hb:fn.body=some c)(hn:fn.ntmps=n)(dK:args.size<=n)(h:∀w,St w0 L w->K P c (bodyPostM Fence.wide 0 P fn fun e w'=> ∃v L',e=.returned v/\R v L'/\St w0 L' w'/\Below w.heap.size w w') n [] w (rv 0 args.toList) []):KE P f args w0 L R:=fun w hw=>by
 subst hn
 exact callsIn_wide.1 (callsIn_of_wp_marks (n:=0) hf hb trivial (wpIn_wide.2 (h w hw _ w (cX.enter dK) (St.init w))))
theorem KQ.agv(hr:∀a w,cX n [] G a->St w0 L w->(results fn a.tmps).run P w=.ok v w)(h:∀w,St w0 L w->RE (.returned v) w):KQ (bodyPostM Fence.wide 0 P fn RE) .ret n [] w0 G L:=fun a w ha hw=>by
 show LeavesInM _ _ _ _ _ _ a.defers _ _
 rw[ha.defers]
 exact⟨v,hr a w ha hw,h w hw⟩
theorem KQ.ab0{b:Nat}(hp:bQ L (bP b (.deferred (some []))) M)(hr:∀a w,cX n [QW b] G a->St w0 M w->(results fn a.tmps).run P w=.ok v w)(h:∀w,St w0 M w->RE (.returned v) w):KQ (bodyPostM Fence.wide 0 P fn RE) .ret n [QW b] w0 G L:=fun a w ha hw=>by
 show LeavesInM _ _ _ _ _ _ a.defers _ _
 rw[ha.defers]
 have h1:=hw.pick hp
 have h2:=(h1.put (.deferred none)).drop
 exact⟨by simp,.inl ⟨b,_,rfl,run_takeDeferred h1.look.2,v,hr a _ ha h2,h _ h2⟩⟩
theorem UO{D:List Deferred}(hr:fn.results=#[.cell t1 T,.cell t2 T'])(h1:c_ G t1=some (.pointer (some ⟨b1,0,none⟩)))(h2:c_ G t2=some (.pointer (some ⟨b2,0,none⟩)))(hT:∀w,(isAgg T).run P w=.ok false w)(hT':∀w,(isAgg T').run P w=.ok false w)(hp:bQ L (bP b1 (.cells [v1].toArray E fz)) M)(Cq:bQ L (bP b2 (.cells [v2].toArray E' fz')) M')(a:Act)(w:World)(ha:cX n D G a)(hw:St w0 L w):
 (results fn a.tmps).run P w=.ok (.tuple #[v1,v2]) w:=by
 have l1:(loadVar T ⟨b1,0,none⟩).run P w=.ok v1 w:=gA (hT w) (by rw[World.cell?,(hw.qh hp).2];simp)
 have l2:(loadVar T' ⟨b2,0,none⟩).run P w=.ok v2 w:=gA (hT' w) (by rw[World.cell?,(hw.qh Cq).2];simp)
 simp[results,hr,Array.getD_eq_getD_getElem?,ha.get _ _ h1,ha.get _ _ h2,asAddr,l1,l2]
theorem KQ.VX(hr:fn.results=#[.cell t1 T,.cell t2 T'])(h1:c_ G t1=some (.pointer (some ⟨b1,0,none⟩)))(h2:c_ G t2=some (.pointer (some ⟨b2,0,none⟩)))(hT:∀w,(isAgg T).run P w=.ok false w)(hT':∀w,(isAgg T').run P w=.ok false w)(hp:bQ L (bP b1 (.cells [v1].toArray E fz)) M)(Cq:bQ L (bP b2 (.cells [v2].toArray E' fz')) M')(h:∀w,St w0 L w->RE (.returned (.tuple #[v1,v2])) w):
 KQ (bodyPostM Fence.wide 0 P fn RE) .ret n [] w0 G L:=KQ.agv (fun a w ha hw=>UO hr h1 h2 hT hT' hp Cq a w ha hw) h
theorem KQ.yR{b:Nat}(hd:bQ L (bP b (.deferred (some []))) KL)(hr:fn.results=#[.cell t1 T,.cell t2 T'])(h1:c_ G t1=some (.pointer (some ⟨b1,0,none⟩)))(h2:c_ G t2=some (.pointer (some ⟨b2,0,none⟩)))(hT:∀w,(isAgg T).run P w=.ok false w)(hT':∀w,(isAgg T').run P w=.ok false w)(hp:bQ KL (bP b1 (.cells [v1].toArray E fz)) M)(Cq:bQ KL (bP b2 (.cells [v2].toArray E' fz')) M')(h:∀w,St w0 KL w->RE (.returned (.tuple #[v1,v2])) w):
 KQ (bodyPostM Fence.wide 0 P fn RE) .ret n [QW b] w0 G L:=KQ.ab0 hd (fun a w ha hw=>UO hr h1 h2 hT hT' hp Cq a w ha hw) h
end
section
variable {P:Program} {Q:Exit->Act->World->Prop} {n:Nat} {D:List Deferred} {w0:World} {G:Env} {L M:List HP}
theorem K.rangeFunc{g:Operand}{ps:Array Tmp}{assign body:Code}{gf:Nat}{cap:Array Value}(hg:ev G g=some (.func (.func gf) #[] cap))(eg:∀args w,(callFunc gf args).run P w=.ok (.enter gf args) w)(h:∀(fn:FuncId) (tm:Array Value) (b l:Nat),cX n D G {tmps:=tm,defers:=D}->∀w,St w0 (bP l (.loop ⟨.ready,none,fn,tm,ps,assign,body,b⟩)::bP b (.deferred (some []))::L) w->
  Calls P gf (#[.func (.yield l) #[] #[]]++cap) w fun e w'=> ∃v L' st pe,e=.returned v/\st≠LoopState.busy/\St w0 (bP l (.loop ⟨st,pe,fn,tm,ps,assign,body,b⟩)::bP b (.deferred (some []))::L') w'/\
   (match pe with|none=>KQ Q .normal n (QW b::D) w0 G (bP b (.deferred (some []))::L')|some c=>K P c Q n (QW b::D) w0 G (bP b (.deferred (some []))::L'))):
 K P (.rangeFunc g ps assign body) Q n D w0 G L:=fun a w ha hw=>by
 refine wpIn_wide.1 (wpIn_rangeFunc (F:=Fence.wide) (n:=0) fun fn _=>?_)
 have h1:=(hw.alloc (.deferred (some []))).alloc (.loop {state:=.ready,pending:=none,fn,tmps:=a.tmps,params:=ps,assign,body,defers:=w.heap.size})
 rw[World.size_alloc]at h1
 obtain⟨W1,Pk⟩:∃W1,(w.alloc (.deferred (some []))).alloc (.loop {state:=.ready,pending:=none,fn,tmps:=a.tmps,params:=ps,assign,body,defers:=w.heap.size})=W1:=⟨_,rfl⟩
 rw[Pk]at h1
 refine⟨w.heap.size+1,[QW w.heap.size],W1,{target:=.fn (.func gf) cap,args:=#[.func (.yield (w.heap.size+1)) #[] #[]]},W1,gf,#[.func (.yield (w.heap.size+1)) #[] #[]]++cap,W1,by rw[<-Pk];exact run_enterLoop_outer _ _ _ _ _,?_,?_,?_,fun hh=>by simp[Fence.wide]at hh,?_⟩
 ·simp only[resolve,ha.eval hg]
  simp[go_sem]
 ·intro _ _;trivial
 ·simp[invoke,go_sem,eg]
 ·refine callsIn_wide.2 ((h fn a.tmps w.heap.size (w.heap.size+1) ⟨ha.size,rfl,ha.get⟩ _ h1).mono ?_)
  rintro e w' ⟨v,L',st,pe,rfl,kt,hs,hj⟩
  have h2:=hs.put (.loop ⟨.exhausted,pe,fn,a.tmps,ps,assign,body,w.heap.size⟩)
  refine⟨pe,_,run_endLoop hs.look.2 kt,?_⟩
  have Xm:cX n (QW w.heap.size::D) G {a with defers:=[QW w.heap.size]++a.defers}:=⟨ha.size,by rw[ha.defers];rfl,ha.get⟩
  cases pe with
  |none=>exact hj _ _ Xm h2.drop
  |some c=>exact wpIn_wide.2 (hj _ _ Xm h2.drop)
end
def KY (P:Program) (l:Nat) (x:Value) (w0:World) (L:List HP) (Rt Rf:List HP->Prop):Prop:=
 ∀(N:List HP) (w:World),St w0 (L++N) w->YieldAt Fence.wide 0 P l #[x] w fun e w'=>(e=.returned (.bool true)/\∃L',Rt L'/\St w0 (L'++N) w')\/(e=.returned (.bool false)/\∃L',Rf L'/\St w0 (L'++N) w')
def QR (P:Program) (l:Nat) (body:Code) (R:Ending->World->Prop):Exit->Act->World->Prop:=
 Exit.then (fun a₁ w₁=> ∃w₂,(Instr.beginRound l).run P w₁=.ok () w₂/\body.wpIn (FR l) 0 P (roundPost P l R) a₁ w₂) (fun _ _ _=>False)
section
variable {P:Program} {Q:Exit->Act->World->Prop} {n l:Nat} {D:List Deferred} {w0:World} {G:Env} {L M:List HP} {x:Value} {Rt Rf:List HP->Prop} {R:Ending->World->Prop}
theorem cX.ael{tm:Array Value}{p:Nat}(h:cX n D G {tmps:=tm,defers:=D})(hp:Nat.blt p n=true)(v:Value):cX n [] ((p,v)::G) {tmps:=tm.setIfInBounds p v,defers:=[]}:=by
 have :=h.put p v (by simpa[Nat.blt_eq]using hp)
 exact⟨this.size,rfl,this.get⟩
theorem KY.mk{fn:FuncId}{tm:Array Value}{p b:Nat}{assign body:Code}(hk:cX n D G {tmps:=tm,defers:=D})(hp:Nat.blt p n=true)(h:∀N,KR l P assign (QR P l body fun e w'=>(e=.returned (.bool true)/\∃L',Rt L'/\St w0 (L'++N) w')\/(e=.returned (.bool false)/\∃L',Rf L'/\St w0 (L'++N) w')) n [] w0 ((p,x)::G)
  (bP l (.loop ⟨.ready,none,fn,tm,#[p],assign,body,b⟩)::(M++N))):
 KY P l x w0 (bP l (.loop ⟨.ready,none,fn,tm,#[p],assign,body,b⟩)::M) Rt Rf:=fun N w hw=>by
 refine⟨fn,_,assign,body,run_yield (args:=#[x]) hw.look.2 rfl,roundIn_of_wpIn (F:=Fence.wide) (n:=0) trivial ?_⟩
 exact h N _ w (by simpa using hk.ael hp x) hw
theorem KQ.begin{rc:Loop}{body:Code}(hp:bQ L (bP l (.loop rc)) M)(hs:rc.state=.ready)(h:KR l P body (roundPost P l R) n D w0 G (bP l (.loop {rc with state:=.busy})::M)):KQ (QR P l body R) .normal n D w0 G L:=fun a w ha hw=>
 have h1:=hw.pick hp
 ⟨_,run_beginRound h1.look.2 hs,h a _ ha (h1.put _)⟩
theorem KQ.goes{rc:Loop}(hp:bQ L (bP l (.loop rc)) M)(h:∀w,St w0 (bP l (.loop {rc with state:=.ready,pending:=none})::M) w->R (.returned (.bool true)) w):KQ (roundPost P l R) .normal n D w0 G L:=fun a w ha hw=>
 have h1:=hw.pick hp
 ⟨_,_,run_endRound none h1.look.2,h _ (h1.put _)⟩
theorem KQ.leaves{rc:Loop}(hp:bQ L (bP l (.loop rc)) M)(h:∀w,St w0 (bP l (.loop {rc with state:=.done,pending:=some .ret})::M) w->R (.returned (.bool false)) w):KQ (roundPost P l R) .ret n D w0 G L:=fun a w ha hw=>
 have h1:=hw.pick hp
 ⟨_,_,run_endRound (some .ret) h1.look.2,h _ (h1.put _)⟩
end
def qL (P:Program) (ops:Array Oper) (Q:Exit->Act->World->Prop) (n:Nat) (D:List Deferred) (w0:World) (G:Env) (L:List HP) (os:List Oper):Prop:=
 ∀a w,cX n D G a->St w0 L w->wpListIn Fence.wide 0 P ops Q os a w
section
variable {P:Program} {ops:Array Oper} {Q:Exit->Act->World->Prop} {n l t:Nat} {D:List Deferred} {w0:World} {G:Env} {L M N:List HP} {os:List Oper} {op:Op} {ty T T' E:TypeId} {pos:String} {af:Array Edge} {x y:Operand} {v:Value} {bb:Bool} {b off:Nat}
 {Rt Rf:List HP->Prop}
theorem K.aaf{id:Nat}{os:List Oper}(h:qL P os.toArray Q n D w0 G L os):K P (.region id os.toArray false) Q n D w0 G L:=fun a w ha hw=>wpIn_wide.1 (wpIn_region_lit (h a w ha hw))
theorem qL.nil(h:KQ Q .normal n D w0 G L):qL P ops Q n D w0 G L []:=h
theorem qL.val(hv:∀a w,cX n D G a->St w0 L w->(execOp a.eval ⟨some t,op,ty,pos,af,none⟩).run P w=.ok (.value v) w)(ht:Nat.blt t n=true)(h:qL P ops Q n D w0 ((t,v)::G) L os):qL P ops Q n D w0 G L (⟨some t,op,ty,pos,af,none⟩::os):=fun a w ha hw=>by
 refine wpListIn_plain rfl fun K hK=>⟨fun _ _=>trivial,?_⟩
 show Oper.uponIn _ _ _ _ _ _ _ ((execOp a.eval _).run P w)
 rw[hv a w ha hw]
 exact hK _ _ (h _ w (iO ha v ht) hw)
theorem qL.mv(hx:ev G x=some v)(ht:Nat.blt t n=true)(h:qL P ops Q n D w0 ((t,v)::G) L os):qL P ops Q n D w0 G L (⟨some t,.move x,ty,pos,af,none⟩::os):=
 qL.val (fun a w ha _=>by simp[execOp,ha.eval hx]) ht h
theorem qL.not(hx:ev G x=some (.bool bb))(ht:Nat.blt t n=true)(h:qL P ops Q n D w0 ((t,.bool (!bb))::G) L os):qL P ops Q n D w0 G L (⟨some t,.unOp .not T x,ty,pos,af,none⟩::os):=
 qL.val (fun a w ha _=>by simp[execOp,ha.eval hx,Op.unary]) ht h
theorem qL.ld{cs:List Value}{fz:Nat×Nat}(hx:ev G x=some (.pointer (some ⟨b,off,none⟩)))(hT:∀w,(isAgg T).run P w=.ok false w)(hp:bQ L (bP b (.cells cs.toArray E fz)) M)(hc:cs[off]? =some v)(ht:Nat.blt t n=true)(h:qL P ops Q n D w0 ((t,v)::G) L os):
 qL P ops Q n D w0 G L (⟨some t,.load T x,ty,pos,af,none⟩::os):=
 qL.val (fun a w ha hw=>by
  have iX:w.cell? ⟨b,off,none⟩=some v:=by rw[World.cell?,(hw.qh hp).2];simpa using hc
  simp[execOp,ha.eval hx,Instr.loadAt,Instr.sureAddr,gA (hT w) iX]) ht h
theorem qL.yield{ts:Array TypeId}{dst:Option Nat}(hx:ev G x=some (.func (.yield l) #[] #[]))(hy:ev G y=some v)(hY:KY P l v w0 M Rt Rf)(hs:∀w,St w0 L w->St w0 (M++N) w)(ht:∀L',Rt L'->∀a w,cX n D G a->St w0 (L'++N) w->wpListIn Fence.wide 0 P ops Q os (a.put dst (.bool true)) w)(hf:∀L',Rf L'->∀a w,cX n D G a->St w0 (L'++N) w->wpListIn Fence.wide 0 P ops Q os (a.put dst (.bool false)) w):
 qL P ops Q n D w0 G L (⟨dst,.call ⟨.value x,#[y],ts⟩,ty,pos,af,none⟩::os):=fun a w ha hw=>by
 refine wpListIn_plain rfl fun K hK=>⟨fun _ _=>trivial,?_⟩
 obtain⟨fn,tmps,assign,body,hy',hR⟩:=hY N w (hs w hw)
 have he:(execOp a.eval ⟨dst,.call ⟨.value x,#[y],ts⟩,ty,pos,af,none⟩).run P w=.ok (.round l fn tmps assign body) w:=by
  simp[execOp,resolve,ha.eval hx,ha.eval hy,Deferred.ofValue,invoke,hy']
 rw[show Oper.semAt Fence.wide.round a.eval ⟨dst,.call ⟨.value x,#[y],ts⟩,ty,pos,af,none⟩=execOp a.eval ⟨dst,.call ⟨.value x,#[y],ts⟩,ty,pos,af,none⟩from rfl,he]
 refine⟨fun hh=>by simp[Fence.wide]at hh,hR.mono ?_⟩
 rintro e w' (⟨rfl,L',h1,h2⟩|⟨rfl,L',h1,h2⟩)
 ·exact hK _ _ (ht L' h1 a w' ha h2)
 ·exact hK _ _ (hf L' h1 a w' ha h2)
theorem qL.Np{ts:Array TypeId}(hx:ev G x=some (.func (.yield l) #[] #[]))(hy:ev G y=some v)(hY:KY P l v w0 M Rt Rf)(hs:∀w,St w0 L w->St w0 (M++N) w)(hb:Nat.blt t n=true)(ht:∀L',Rt L'->qL P ops Q n D w0 ((t,.bool true)::G) (L'++N) os)(hf:∀L',Rf L'->qL P ops Q n D w0 ((t,.bool false)::G) (L'++N) os):
 qL P ops Q n D w0 G L (⟨some t,.call ⟨.value x,#[y],ts⟩,ty,pos,af,none⟩::os):=
 qL.yield hx hy hY hs (fun L' h a w ha hw=>ht L' h _ w (iO ha _ hb) hw) (fun L' h a w ha hw=>hf L' h _ w (iO ha _ hb) hw)
end
open Go
def pieces (c:UInt8):List UInt8->List (List UInt8)
 |[]=>[[]]
 |b::l=>if b=c then[]::pieces c l else match pieces c l with|[]=>[[b]]|p::ps=>(b::p)::ps
theorem wi(c:UInt8):∀l,pieces c l≠[]
 |[]=>by simp[pieces]
 |b::l=>by
  unfold pieces
  split
  ·simp
  ·split<;>simp
theorem pieces_eq(c:UInt8)(l:List UInt8):pieces c (c::l)=[]::pieces c l:=by rw[pieces,if_pos rfl]
theorem mZ{b c:UInt8}(h:b≠c){l p:List UInt8}{ps:List (List UInt8)}(e:pieces c l=p::ps):pieces c (b::l)=(b::p)::ps:=by rw[pieces,if_neg h,e]
theorem pP{c:UInt8}(r:List UInt8):∀{p:List UInt8},(∀b∈p,b≠c)->pieces c (p++c::r)=p::pieces c r
 |[],_=>pieces_eq c r
 |b::p,h=>mZ (h b aj) (pP r (fun x hx=>h x yK))
theorem nX{c:UInt8}:∀{p:List UInt8},(∀b∈p,b≠c)->pieces c p=[p]
 |[],_=>rfl
 |b::p,h=>mZ (h b aj) (nX (fun x hx=>h x yK))
theorem xJ{c:UInt8}{l:List UInt8}(h:Lib.indexByte l c= -1):pieces c l=[l]:=nX fun b hb e=>by
 subst e
 obtain⟨i,hi,he⟩:=List.getElem_of_mem hb
 exact Lib.indexByte_none h i (by rw[ao hi,he])
theorem s5{c:UInt8}{l:List UInt8}{i:Nat}(h:Lib.indexByte l c=i):pieces c l=l.take i::pieces c (l.drop (i+1)):=by
 obtain⟨h1,h2⟩:=Lib.indexByte_some h
 obtain⟨dS,he⟩:=au.1 h1
 have e:l=l.take i++c::l.drop (i+1):=by
  rw[<-he,List.getElem_cons_drop,List.take_append_drop]
 have :=pP (c:=c) (l.drop (i+1)) (p:=l.take i) fun b hb e'=>by
  subst e'
  obtain⟨j,hj,hb⟩:=List.getElem_of_mem hb
  rw[bL]at hj
  have Zl:j<i:=by omega
  refine h2 j Zl ?_
  rw[ao ae]
  simpa using hb
 rw[<-e]at this
 exact this
theorem pO(c:UInt8):∀l,∀p∈pieces c l,∀b∈p,b≠c
 |[],p,hp,b,hb=>by simp[pieces]at hp;subst hp;simp at hb
 |a::l,p,hp,b,hb=>by
  by_cases h:a=c
  ·subst h;rw[pieces_eq]at hp
   rcases aF.1 hp with rfl|hp
   ·simp at hb
   ·exact pO a l p hp b hb
  ·obtain⟨q,qs,e⟩:=List.exists_cons_of_ne_nil (wi c l)
   rw[mZ h e]at hp
   rcases aF.1 hp with rfl|hp
   ·rcases aF.1 hb with rfl|hb
    ·exact h
    ·exact pO c l q (by rw[e];simp) b hb
   ·exact pO c l p (by rw[e];simp[hp]) b hb
theorem xK{c:UInt8}:∀{ps:List (List UInt8)},ps≠[]->(∀p∈ps,∀b∈p,b≠c)->pieces c (Lib.join ps [c])=ps
 |[],h,_=>absurd rfl h
 |[p],_,h=>by rw[Lib.join_one];exact nX (h p aj)
 |p::q::r,_,h=>by
  rw[Ab,aH]
  show pieces c (p++c::Lib.join (q::r) [c])=_
  rw[pP _ (h p aj),xK aj (fun x hx=>h x (List.mem_cons_of_mem _ hx))]
theorem gC(c:UInt8):∀l,(pieces c l).length=l.count c+1
 |[]=>rfl
 |b::l=>by
  by_cases h:b=c
  ·subst h;rw[pieces_eq,List.length_cons,gC];simp
  ·obtain⟨q,qs,e⟩:=List.exists_cons_of_ne_nil (wi c l)
   have :=gC c l
   rw[mZ h e];rw[e]at this
   rw[List.count_cons_of_ne h];simpa using this
theorem sD(c:UInt8):∀(k:Nat) (l:List UInt8),l.count c=k->Lib.splitK [c] 0 k l=pieces c l
 |0,l,h=>by
  have :Lib.indexByte l c= -1:=by
   rcases Int.lt_or_le (Lib.indexByte l c) 0 with h1|h1
   ·have :=Lib.indexByte_ge l c;omega
   ·obtain⟨i,hi⟩:=Int.eq_ofNat_of_zero_le h1
    have :=(Lib.indexByte_some hi).1
    exact absurd (ax this) (List.count_eq_zero.1 h)
  rw[xJ this];rfl
 |k+1,l,h=>by
  have hm:c∈l:=by
   rcases Decidable.em (c∈l)with hm|hm
   ·exact hm
   ·rw[List.count_eq_zero.2 hm]at h;cases h
  obtain⟨i,hi⟩:∃i:Nat,Lib.indexByte l c=i:=by
   rcases Int.lt_or_le (Lib.indexByte l c) 0 with h1|h1
   ·exfalso
    have h2:Lib.indexByte l c= -1:=by have :=Lib.indexByte_ge l c;omega
    obtain⟨j,hj,he⟩:=List.getElem_of_mem hm
    exact Lib.indexByte_none h2 j (by rw[ao hj,he])
   ·obtain⟨i,hi⟩:=Int.eq_ofNat_of_zero_le h1;exact⟨i,hi⟩
  have hx:Lib.index l [c]=i:=by rw[Lib.index_one];exact hi
  have gN:¬(Lib.index l [c]== -1)=true:=fun e=>by have :=beq_iff_eq.1 e;omega
  have hc:(l.drop (i+1)).count c=k:=by
   have h1:=gC c l
   have h2:=s5 hi
   rw[h2]at h1
   have h3:=gC c (l.drop (i+1))
   simp at h1;omega
  unfold Lib.splitK
  rw[if_neg gN,hx,s5 hi]
  simp only[aA,Nat.add_zero,List.length_cons,List.length_nil,Nat.zero_add]
  rw[sD c k _ hc]
def toB (l:List UInt8):ak:=⟨l.toArray⟩
theorem GN(l:List UInt8):(toB l).data.toList=l:=rfl
def dE (c:UInt8) (s:ak):List ak:=(pieces c s.data.toList).map toB
theorem XY{a b:ak}(h:a.data.toList=b.data.toList):a=b:=by
 apply ByteArray.ext;exact Array.ext' h
theorem Fs(c:UInt8)(s:ak):(dE c s).map (·.data.toList)=pieces c s.data.toList:=by
 unfold dE;rw[List.map_map];conv=>rhs;rw[<-List.map_id (pieces c s.data.toList)]
 rfl
theorem FH{xs ys:List ak}(h:xs.map (·.data.toList)=ys.map (·.data.toList)):xs=ys:=by
 have h2:=congrArg (List.map toB) h
 rw[List.map_map,List.map_map]at h2
 have e:(toB∘fun x:ak=>x.data.toList)=id:=rfl
 rw[e,List.map_id,List.map_id]at h2
 exact h2
theorem LJ(c:UInt8)(s:ak):Lib.splitB ⟨#[c]⟩ 0 (Lib.countB s ⟨#[c]⟩) s=dE c s:=by
 refine FH ?_
 rw[Lib.splitB_data,Fs]
 have :Lib.countB s ⟨#[c]⟩=s.data.toList.count c:=Lib.count_one c s.data.toList
 rw[this]
 exact sD c _ _ rfl
theorem Sh(c:UInt8)(s:ak):(dE c s).length=Lib.countB s ⟨#[c]⟩+1:=by
 have :Lib.countB s ⟨#[c]⟩=s.data.toList.count c:=Lib.count_one c s.data.toList
 rw[this];unfold dE;rw[bj,gC]
theorem N2{c:UInt8}{s:ak}(h:Lib.indexByte s.data.toList c= -1):dE c s=[s]:=by
 unfold dE;rw[xJ h];rfl
theorem Si{c:UInt8}{s:ak}{i:Nat}(h:Lib.indexByte s.data.toList c=i):dE c s=s.extract 0 i::dE c (s.extract (i+1) s.size):=by
 unfold dE;rw[s5 h,aL]
 congr 1
 ·exact XY (Lib.extract_from_zero s i).symm
 ·rw[Lib.extract_to_end]
theorem zO{c:UInt8}{xs:List ak}(h0:xs≠[])(h:∀x∈xs,∀b∈x.data.toList,b≠c):dE c (dn xs ⟨#[c]⟩)=xs:=by
 refine FH ?_
 rw[Fs]
 show pieces c (Lib.join (xs.map (·.data.toList)) [c])=_
 exact xK ZL (fun p hp b hb=>by obtain⟨x,hx,rfl⟩:=ay.1 hp;exact h x hx b hb)
theorem DH{c:UInt8}{s:ak}{i:Nat}(h:Lib.indexByte s.data.toList c=i):i<s.size:=by
 have :=(au.1 (Lib.indexByte_some h).1).1
 rw[ki];exact this
theorem B_(c:UInt8):∀(l:List UInt8) (acc a:Nat),Lib.parseUint10 acc l=.ok a->Lib.parseUint10 acc (l++[c])=Lib.parseUint10 a [c]
 |[],acc,a,h=>by simp only[Lib.parseUint10]at h;injection h with h;subst h;rfl
 |b::l,acc,a,h=>by
  simp only[Lib.parseUint10,bF]at h ⊢
  split at h
  ·rename_i h1
   split at h
   ·cases h
   ·rename_i h2
    split at h
    ·cases h
    ·rename_i h3
     rw[if_pos h1,if_neg h2,if_neg h3,B_ c l _ a h];rfl
  ·cases h
theorem r7{d:Nat}(h:d<10):(UInt8.ofNat (48+d)).toNat=48+d:=by simp[UInt8.toNat_ofNat'];omega
theorem B9:∀(u:Nat),u<18446744073709551616->Lib.parseUint10 0 (Lib.decDigits u)=.ok u:=by
 intro u
 induction u using Nat.strongRecOn with
 |_ u ih=>
  intro hu
  rw[Lib.decDigits]
  split
  ·rename_i h
   have e:=r7 h
   simp only[Lib.parseUint10,e]
   rw[if_pos ae,if_neg ae,if_neg ae]
   simp only[Lib.NumEnd.ok.injEq];omega
  ·rename_i h
   have e:=r7 (d:=u%10) ae
   rw[B_ _ _ _ _ (ih (u/10) ae ae)]
   simp only[Lib.parseUint10,e]
   rw[if_pos ae,if_neg ae,if_neg ae]
   simp only[Lib.NumEnd.ok.injEq];omega
theorem DZ:∀(u:Nat),∀b∈Lib.decDigits u,48<=b.toNat/\b.toNat<=57:=by
 intro u
 induction u using Nat.strongRecOn with
 |_ u ih=>
  intro b hb
  rw[Lib.decDigits]at hb
  split at hb
  ·rename_i h
   rw[List.mem_singleton.1 hb]
   have :=r7 h;omega
  ·rename_i h
   rcases aN.1 hb with hb|hb
   ·exact ih (u/10) ae b hb
   ·rw[List.mem_singleton.1 hb]
    have :=r7 (d:=u%10) ae;omega
theorem Jf(u:Nat):Lib.decDigits u≠[]:=by
 rw[Lib.decDigits];split<;>simp
theorem MQ{n:Int}(h:oR n):Lib.atoiAll (b_ n).data.toList=.ok n:=by
 obtain⟨h1,h2⟩:=h
 show Lib.atoiAll (Lib.itoa n)=_
 rcases Int.lt_or_le n 0 with h0|h0
 ·obtain⟨u,rfl⟩:∃u:Nat,n= -(u:Int):=⟨n.natAbs,by omega⟩
  rw[Lib.itoa_neg u ae]
  have hp:Lib.parseMag (Lib.decDigits u)=.ok u:=by unfold Lib.parseMag;rw[if_neg (Jf u)];exact B9 u ae
  simp only[Lib.atoiAll]
  rw[if_pos ai,hp]
  simp
  omega
 ·obtain⟨u,rfl⟩:∃u:Nat,n=(u:Int):=⟨n.toNat,by omega⟩
  rw[Lib.itoa_nonneg u]
  have hp:Lib.parseMag (Lib.decDigits u)=.ok u:=by unfold Lib.parseMag;rw[if_neg (Jf u)];exact B9 u ae
  have hm:=DZ u
  have gN:=Jf u
  revert hp hm gN
  cases Lib.decDigits u with
  |nil=>intro _ _ h;exact absurd rfl h
  |cons c r=>
   intro hp hm _
   have hc:=hm c aj
   simp only[Lib.atoiAll]
   rw[if_neg ae,hp]
   have :¬c.toNat=45:=by omega
   simp[this]
   omega
theorem Ac{n:Int}:∀b∈(b_ n).data.toList,b.toNat=45\/(48<=b.toNat/\b.toNat<=57):=fun b hb=>by
 have hb:b∈Lib.itoa n:=hb
 unfold Lib.itoa at hb
 split at hb
 ·rcases aF.1 hb with rfl|hb
  ·exact .inl rfl
  ·exact .inr (DZ _ b hb)
 ·exact .inr (DZ _ b hb)
section
variable {P:Program} {ops:Array Oper} {d:Bool} {Q:Exit->Act->World->Prop} {n:Nat} {D:List Deferred} {w0:World} {G:Env} {L R:List HP} {l:List (Kd×Oper)} {k:Kd}
 {t:Nat} {ty T:TypeId} {pos:String} {af:Array Edge} {x y z:Operand} {s:ak} {i j:Nat} {a c:Int} {kk kk':IntKind}
theorem KO.UK(hx:ev G x=some (.string s))(hy:ev G y=some (.int kk a))(hT:P.underlying T=some .string)(ha:a=(i:Int))(hi:i<=s.size)(ht:Nat.blt t n=true)(h:KO P ops d Q n D w0 ((t,.string (s.extract 0 i))::G) L l):
 KO P ops d Q n D w0 G L ((k,⟨some t,.slice T x none (some y) none,ty,pos,af,none⟩)::l):=
 KO.val (fun a' w su=>by
  subst ha
  have :=run_slice_string_to_if (P:=P) w T s kk (i:Int) hT
  rw[if_pos ae]at this
  simp[execOp,su.eval hx,su.eval hy,run_sliceAt_string w T _ _ _ _ hT,this]) ht h
theorem KO.RT(hx:ev G x=some (.string s))(hy:ev G y=some (.int kk a))(hT:P.underlying T=some .string)(ha:a=(i:Int))(hi:i<=s.size)(ht:Nat.blt t n=true)(h:KO P ops d Q n D w0 ((t,.string (s.extract i s.size))::G) L l):
 KO P ops d Q n D w0 G L ((k,⟨some t,.slice T x (some y) none none,ty,pos,af,none⟩)::l):=
 KO.val (fun a' w su=>by
  subst ha
  have :=run_slice_string_from_if (P:=P) w T s kk (i:Int) hT
  rw[if_pos ae]at this
  simp[execOp,su.eval hx,su.eval hy,run_sliceAt_string w T _ _ _ _ hT,this]) ht h
theorem KO.OJ{cs:List Value}{len:Nat}{E:TypeId}{v:Value}(hx:ev G x=some (.agg cs.toArray))(hy:ev G y=some (.int kk a))(hT:P.underlying T=some (.array len E))(hA:∀w,(isAgg E).run P w=.ok false w)(hs:∀w,(Go.sizeOf E).run P w=.ok 1 w)(ha:a=(i:Int))(hi:i<len)(hv:cs[i]? =some v)(ht:Nat.blt t n=true)(h:KO P ops d Q n D w0 ((t,v)::G) L l):KO P ops d Q n D w0 G L ((k,⟨some t,.index T x y,ty,pos,af,none⟩)::l):=
 KO.val (fun a' w su=>by
  subst ha
  have h1:(0:Int)<=(i:Int)/\(i:Int)<(len:Int):=⟨by omega,by omega⟩
  have h2:cs.toArray[i]? =some v:=by simpa using hv
  simp[execOp,su.eval hx,su.eval hy,Instr.index,asIntOf,run_underlying hT,h1,hs w,part,hA w,hi,hv]
  ) ht h
end
theorem x9.FA{α:Type}{w0 w:World}{L R:List HP}{E:TypeId}{cf:α->List Value}{sz:Nat}{xs:List α}{v:Value}(dK:∀e,(cf e).length=sz)(hp:bQ L (SL E sz cf v xs) R)(hw:St w0 L w):x9 w sz cf v xs:=by
 obtain⟨a,cap,h1,h2,h3⟩:=Eu.of dK hp w hw
 refine⟨a,cap,h1,fun i x hx=>?_⟩
 have hl:=(au.1 hx).1
 obtain⟨g,rfl⟩:=h2 ae
 exact⟨_,rfl,by rw[Addr.add_lit,Nat.zero_add];exact h3 g rfl i x hx⟩
end WB
namespace Go.Proofs.YtjhogocabcdjbabGreatDoor
open Tryz
open Go Go.RowKit WB
theorem St.rM{w0 w:World}{A B:List HP}(h:St w0 (A++B) w):St w0 (B++A) w:=h.jW fun _ x=>dU.2 (Fa (dU.1 x))
def itV (b4 b3 b5:Nat):Value:=.func (.func 274) #[] #[.pointer (some ⟨b4,0,none⟩),.pointer (some ⟨b3,0,none⟩),.pointer (some ⟨b5,0,none⟩)]
def xT (b4 b3 b5:Nat) (s sep:ak):List HP:=[bP b3 (.cells [.string s].toArray 9 (0,0)),bP b4 (.cells [.string sep].toArray 9 (0,0)),bP b5 (.cells [.int .i64 0].toArray 3 (0,0))]
theorem VS(w0:World)(L:List HP)(s sep:ak):KE prog 199 #[.string s,.string sep,.int .i64 0] w0 L (fun u M=> ∃b4 b3 b5,u=itV b4 b3 b5/\M=xT b4 b3 b5 s sep++L):=by
 refine KE.mk (n:=8) func199 rfl ntmps199 aj ?_
 intro w hw
 refine Z3 ?_
 refine KO.box rfl rfl aQ rfl ?_;intro b3
 refine KO.box rfl rfl aQ rfl ?_;intro b4
 refine KO.box rfl rfl aQ rfl ?_;intro b5
 refine mB ?_
 refine KO.Zc rfl rfl rfl ?_
 refine jH ?_
 refine KQ.bG rfl rfl (fun w' hs=>⟨_,_,rfl,⟨_,_,_,rfl,rfl⟩,hw.stack (M:=xT b4 b3 b5 s sep) (by unfold xT;exact hs.all Y3),hs.below⟩)
theorem ZW(w0:World)(L:List HP)(s sep:ak):KE prog 113 #[.string s,.string sep] w0 L (fun u M=> ∃b4 b3 b5,u=itV b4 b3 b5/\M=xT b4 b3 b5 s sep++L):=by
 refine KE.mk (n:=8) func113 rfl ntmps113 aj ?_
 intro w hw
 refine Jx ?_
 refine KO.ce (cp:=[]) rfl rfl rfl call199 rfl (VS w _ s sep) ?_;rintro v' L' ⟨b4,b3,b5,rfl,rfl⟩
 refine jH ?_
 refine KQ.bG rfl rfl (fun w' hs=>⟨_,_,rfl,⟨_,_,_,rfl,rfl⟩,hw.stack (M:=xT b4 b3 b5 s sep) (by simpa using hs),hs.below⟩)
theorem SM(w0:World)(L:List HP)(s:ak)(c:UInt8):KE prog 276 #[.string s,.string ⟨#[c]⟩] w0 L (fun u M=>u=.int .i64 (Lib.indexByte s.data.toList c)/\M=L):=
 KE.ct fun w hw=>(Tryz.strings_Index_one s c w).mono fun e w' h=>⟨h.1,by rw[h.2];exact Below.refl _ _⟩
theorem Wq(w0:World)(l:Nat)(c:UInt8)(s:ak)(dK:s.size<=4294967280)(b4 b3 b5:Nat)(J:Nat->List HP->Prop)(X:List HP->Prop)(hY:∀k p L,(dE c s)[k]? =some p->J k L->KY prog l (.string p) w0 L (J (k+1)) X)(L:List HP)(h0:J 0 L):
 KC prog 274 #[.func (.yield l) #[] #[],.pointer (some ⟨b4,0,none⟩),.pointer (some ⟨b3,0,none⟩),.pointer (some ⟨b5,0,none⟩)] w0 (xT b4 b3 b5 s ⟨#[c]⟩++L) (fun v M=> ∃s' M',M=xT b4 b3 b5 s' ⟨#[c]⟩++M'/\(J (dE c s).length M'\/X M')):=by
 unfold xT
 refine KC.mk (n:=52) func274 rfl ntmps274 aj ?_
 refine qq ?_
 simp only[bF,List.nil_append]
 refine dR ?_
 refine vE ?_
 refine KO.SD rfl underlying9 rfl ?_
 refine tJ ?_
 refine K.dp rfl (by rfl) ?_
 refine K.skip ?_
 repeat with_reducible refine KQ.next ?_
 refine K.seq ?_
 have jr:∀r k,(dE c s).drop k=dE c r->Lib.indexByte r.data.toList c= -1->(dE c s)[k]? =some r/\k+1=(dE c s).length:=fun r k h1 h2=>by
  rw[N2 h2]at h1
  have h3:(dE c s)[k]? =some r:=by
   have :=congrArg (fun l=>l[0]?) h1
   simpa using this
  have h4:=congrArg List.length h1
  have h5:=(au.1 h3).1
  simp at h4
  exact⟨h3,by omega⟩
 refine K.cut (fun y:Nat×ak×List HP=>[(0,.func (.yield l) #[] #[]),(2,.pointer (some ⟨b3,0,none⟩))]) (fun y=>xT b4 b3 b5 y.2.1 ⟨#[c]⟩++y.2.2) (fun y=>J y.1 y.2.2/\(dE c s)[y.1]? =some y.2.1/\y.1+1=(dE c s).length) ?_ ?_
 ·refine K.block ?_
  refine K.loop (fun y:Nat×ak×List HP=>[(0,.func (.yield l) #[] #[]),(1,.pointer (some ⟨b4,0,none⟩)),(2,.pointer (some ⟨b3,0,none⟩)),(3,.pointer (some ⟨b5,0,none⟩))]) (fun y=>xT b4 b3 b5 y.2.1 ⟨#[c]⟩++y.2.2)
   (fun y=>J y.1 y.2.2/\(dE c s).drop y.1=dE c y.2.1/\y.2.1.size<=4294967280) (fun y=>y.2.1.size) (0,s,L) ⟨h0,rfl,dK⟩ ⟨rfl,rfl,rfl,rfl,trivial⟩ (fun _ h=>h) ?_
  rintro⟨k,r,M⟩ ⟨hJ,hd,S2⟩
  dsimp only at hJ hd S2 ⊢
  simp only[xT,bF,List.nil_append]
  repeat(first|(with_reducible refine K.seq ?_)|(with_reducible refine K.block ?_))
  refine dR ?_
  refine yJ ?_
  refine vE ?_
  refine KO.ce (cp:=[]) rfl rfl rfl call276 rfl (SM w0 _ r c) ?_;rintro v' L' ⟨rfl,rfl⟩
  refine mS ?_
  refine rD ?_
  refine K.bz rfl (fun h1=>?_) (fun h1=>?_)
  ·have h2:Lib.indexByte r.data.toList c= -1:=by have :=Lib.indexByte_ge r.data.toList c;omega
   obtain⟨h3,h4⟩:=jr r k hd h2
   repeat(first|(with_reducible refine KQ.jy ?_)|(with_reducible refine KQ.lH ?_)|(refine KQ.GU rfl ?_)|(with_reducible refine K.exit ?_))
   exact KQ.tf (k,r,M) ⟨hJ,h3,h4⟩ ⟨rfl,rfl,trivial⟩ (fun _ h=>by simpa[xT]using h)
  ·obtain⟨i,hi⟩:∃i:Nat,Lib.indexByte r.data.toList c=i:=⟨(Lib.indexByte r.data.toList c).toNat,by omega⟩
   have dS:=DH hi
   have hp:=Si hi
   rw[hp]at hd
   have hk:(dE c s)[k]? =some (r.extract 0 i):=by
    have :=congrArg (fun l=>l[0]?) hd
    simpa using this
   have Tk:(dE c s).drop (k+1)=dE c (r.extract (i+1) r.size):=by
    rw[<-List.drop_drop,hd];rfl
   have wP:(⟨#[c]⟩:ak).size=1:=rfl
   rw[hi]
   refine xB ?_
   refine yJ ?_
   refine Z1 ?_
   refine vy ?_
   refine vP ?_
   refine KO.UK (i:=i) rfl rfl underlying9 aj ae rfl ?_
   refine lK ?_
   refine K.aaf ?_
   refine qL.mv rfl rfl ?_
   refine qL.mv rfl rfl ?_
   refine qL.Np (N:=xT b4 b3 b5 r ⟨#[c]⟩) rfl rfl (hY k _ M hk hJ) (fun w hw=>St.rM hw) rfl (fun L' hL=>?_) (fun L' hL=>?_)
   ·refine qL.not rfl rfl ?_
    refine qL.nil ?_
    refine KQ.next ?_
    refine yA ?_
    refine T4 ?_
    refine K.conv (fun w hw=>(St.rM hw:St w0 (xT b4 b3 b5 r ⟨#[c]⟩++L') w)) ?_
    simp only[xT,bF,List.nil_append]
    refine dR ?_
    refine yJ ?_
    refine Z1 ?_
    refine vE ?_
    refine KO.SD rfl underlying9 rfl ?_
    refine KO.add rfl rfl (show(i:Int)+(⟨#[c]⟩:ak).size=(i+1:Nat)by rw[wP];rfl) ae rfl ?_
    refine KO.RT (i:=i+1) rfl rfl underlying9 rfl ae rfl ?_
    refine KO.pD rfl rfl rfl aQ ZM aQ bZ aQ ?_
    refine BB ?_
    refine KQ.round (k+1,r.extract (i+1) r.size,L') ⟨hL,Tk,by simp;omega⟩ ga ⟨rfl,rfl,rfl,rfl,trivial⟩ (fun _ h=>by simpa[xT]using h)
   ·refine qL.not rfl rfl ?_
    refine qL.nil ?_
    refine KQ.next ?_
    refine xo ?_
    repeat(first|(with_reducible refine KQ.oE ?_)|(with_reducible refine KQ.y9 ?_)|(with_reducible refine K.ret ?_))
    exact KQ.VY rfl (fun w' hs=>⟨_,_,rfl,⟨r,L',rfl,.inr hL⟩,St.rM hs⟩)
 ·rintro⟨k,r,M⟩ ⟨hJ,hk,sH⟩
  dsimp only at hJ hk sH ⊢
  refine K.aaf ?_
  refine qL.mv rfl rfl ?_
  refine qL.ld (b:=b3) (off:=0) (cs:=[.string r]) rfl isAgg9 (by unfold xT;exact .head) rfl rfl ?_
  refine qL.Np (N:=xT b4 b3 b5 r ⟨#[c]⟩) rfl rfl (hY k _ M hk hJ) (fun w hw=>St.rM hw) rfl (fun L' hL=>?_) (fun L' hL=>?_)
  ·refine qL.nil ?_
   rw[sH]at hL
   exact KQ.j9 rfl (fun w' hs=>⟨_,_,rfl,⟨r,L',rfl,.inl hL⟩,St.rM hs⟩)
  ·refine qL.nil ?_
   exact KQ.j9 rfl (fun w' hs=>⟨_,_,rfl,⟨r,L',rfl,.inr hL⟩,St.rM hs⟩)
theorem St.zr{w0 w:World}{A B C:List HP}(h:St w0 (A++(B++C)) w):St w0 (B++(A++C)) w:=h.jW fun _ x=>
 dU.2 (gL (fun _ x=>x) (fun _ x=>dU.2 x) (zz (gL (fun _ x=>x) (fun _ x=>dU.1 x) (dU.1 x))))
theorem St.KI{w0 w:World}{A B:List HP}(h:St w0 (A++B) w):St w0 B w:=(St.FM h).drop
theorem K.NW{Q:Exit->Act->World->Prop}{n:Nat}{D:List Deferred}{w0:World}{G2:ak->Env}{G0:Env}{g:Operand}{p:Nat}{assign body:Code}{b4 b3 b5:Nat}{c:UInt8}{s:ak}{L:List HP}(C:Nat->List HP->Prop)(X:List HP->Prop)(hg:ev G0 g=some (itV b4 b3 b5))(hp:Nat.blt p n=true)(dK:s.size<=4294967280)(h0:C 0 L)(ha:∀(l:Nat) (N:List HP) q,KR l prog assign (Exit.then (YR n [] w0 (fun _:Unit=>G2 q) (fun _=>N) (fun _=>True)) (fun _ _ _=>False)) n [] w0 ((p,.string q)::G0) N)(hb:∀k q M (l:Nat) (N:List HP) (RQ:Exit->Act->World->Prop),(dE c s)[k]? =some q->C k M->(∀a w,¬RQ .outgrown a w)->(∀M' G',C (k+1) M'->KQ RQ .normal n [] w0 G' (M'++N))->(∀M' G',X M'->KQ RQ .ret n [] w0 G' (M'++N))->
  KR l prog body RQ n [] w0 (G2 q) (M++N))(abj:∀b M,C (dE c s).length M->KQ Q .normal n (QW b::D) w0 G0 (bP b (.deferred (some []))::M))(aaK:∀b M,X M->KQ Q .ret n (QW b::D) w0 G0 (bP b (.deferred (some []))::M)):
 K prog (.rangeFunc g #[p] assign body) Q n D w0 G0 (xT b4 b3 b5 s ⟨#[c]⟩++L):=by
 refine K.rangeFunc hg call274 fun fn tm b l hk w hw=>?_
 have hY:∀k q L',(dE c s)[k]? =some q->(∃M,C k M/\L'=bP l (.loop ⟨.ready,none,fn,tm,#[p],assign,body,b⟩)::bP b (.deferred (some []))::M)->
  KY prog l (.string q) w0 L' (fun L'=> ∃M,C (k+1) M/\L'=bP l (.loop ⟨.ready,none,fn,tm,#[p],assign,body,b⟩)::bP b (.deferred (some []))::M)
   (fun L'=> ∃M,X M/\L'=bP l (.loop ⟨.done,some .ret,fn,tm,#[p],assign,body,b⟩)::bP b (.deferred (some []))::M):=by
  rintro k q _ hq ⟨M,hM,rfl⟩
  refine KY.mk hk hp fun N=>?_
  intro a w' su hw'
  refine Go.wpIn_mono (ha l _ q a w' su hw') ?_
  rintro e a2 w2 hh
  cases e with
  |normal=>
   obtain⟨_,_,Xm,sF⟩:=hh
   refine KQ.begin (G:=G2 q) .head rfl ?_ a2 w2 Xm sF
   refine KR.conv (L':=M++(bP l (.loop ⟨.busy,none,fn,tm,#[p],assign,body,b⟩)::bP b (.deferred (some []))::N)) (fun w hw=>St.zr (A:=[bP l (.loop ⟨.busy,none,fn,tm,#[p],assign,body,b⟩),bP b (.deferred (some []))]) hw) ?_
   refine hb k q M l _ _ hq hM (fun _ _ h=>h) (fun M' G' hM'=>?_) (fun M' G' hM'=>?_)
   ·refine acv ?_
    refine KQ.goes .head fun w hw=>.inl ⟨rfl,_,⟨M',hM',rfl⟩,hw⟩
   ·refine acv ?_
    refine KQ.leaves .head fun w hw=>.inr ⟨rfl,_,⟨M',hM',rfl⟩,hw⟩
  |_=>exact hh.elim
 have sF:=St.zr (A:=[bP l (.loop ⟨.ready,none,fn,tm,#[p],assign,body,b⟩),bP b (.deferred (some []))]) (B:=xT b4 b3 b5 s ⟨#[c]⟩) (C:=L) hw
 refine((Wq w0 l c s dK b4 b3 b5 (fun k L'=> ∃M,C k M/\L'=bP l (.loop ⟨.ready,none,fn,tm,#[p],assign,body,b⟩)::bP b (.deferred (some []))::M)
  (fun L'=> ∃M,X M/\L'=bP l (.loop ⟨.done,some .ret,fn,tm,#[p],assign,body,b⟩)::bP b (.deferred (some []))::M) hY _ ⟨L,h0,rfl⟩) w sF).mono ?_
 rintro e w' ⟨v,L',rfl,⟨s',M',rfl,(⟨M,hM,rfl⟩|⟨M,hM,rfl⟩)⟩,hs⟩
 ·refine⟨_,xT b4 b3 b5 s' ⟨#[c]⟩++M,.ready,none,rfl,ai,St.zr (B:=[bP l (.loop ⟨.ready,none,fn,tm,#[p],assign,body,b⟩),bP b (.deferred (some []))]) hs,?_⟩
  exact KQ.conv (fun w hw=>St.KI (St.zr (A:=[bP b (.deferred (some []))]) (B:=xT b4 b3 b5 s' ⟨#[c]⟩) hw)) (abj b M hM)
 ·refine⟨_,xT b4 b3 b5 s' ⟨#[c]⟩++M,.done,some .ret,rfl,ai,St.zr (B:=[bP l (.loop ⟨.done,some .ret,fn,tm,#[p],assign,body,b⟩),bP b (.deferred (some []))]) hs,?_⟩
  exact K.ret (KQ.conv (fun w hw=>St.KI (St.zr (A:=[bP b (.deferred (some []))]) (B:=xT b4 b3 b5 s' ⟨#[c]⟩) hw)) (aaK b M hM))
end Go.Proofs.YtjhogocabcdjbabGreatDoor
namespace WB
open Go
def eW (s:ak):Option Int:=match Lib.atoiAll s.data.toList with| .ok v=>some v|_=>none
def fW (p:ak):Option Ms:=
 match dE 32 p with
 |[a,b,c,d,e]=>match eW a,eW b,eW e with|some x,some y,some z=>some ⟨x,y,c,d,z⟩|_,_,_=>none
 |_=>none
def eT:List ak->Option (List Ms)
 |[]=>some []
 |p::ps=>match fW p,eT ps with|some m,some ms=>some (m::ms)|_,_=>none
def td (s:ak):Option (List Ms):=
 if s=⟨#[]⟩then some []else match eT (dE 43 s)with|none=>none|some xs=>if ju xs=none/\cF xs=s then some xs else none
theorem xL{p:ak}:∀{ps:List ak} {xs:List Ms},eT ps=some xs->eT (ps++[p])=(fW p).map fun m=>xs++[m]
 |[],xs,h=>by
  simp only[eT,az]at h;subst h
  simp only[List.nil_append,eT]
  cases fW p<;>rfl
 |q::ps,xs,h=>by
  simp only[eT]at h
  cases h1:fW q with
  |none=>rw[h1]at h;simp at h
  |some m=>
   rw[h1]at h
   cases h2:eT ps with
   |none=>rw[h2]at h;simp at h
   |some ms=>
    rw[h2]at h
    simp only[az]at h;subst h
    have ih:=xL (p:=p) h2
    simp only[bF,eT,h1,ih]
    cases fW p<;>rfl
theorem lr{p:ak}(hp:fW p=none):∀{ps:List ak},p∈ps->eT ps=none
 |[],h=>by cases h
 |q::ps,h=>by
  rcases aF.1 h with rfl|h
  ·simp only[eT,hp]
  ·simp only[eT,lr hp h]
   cases fW q<;>rfl
theorem zP:∀{xs:List Ms} {f:Ms->ak},(∀m∈xs,fW (f m)=some m)->eT (xs.map f)=some xs
 |[],_,_=>rfl
 |m::xs,f,h=>by
  simp only[aL,eT,h m aj,zP (fun x hx=>h x (List.mem_cons_of_mem _ hx))]
theorem s7:∀{ps:List ak} {xs:List Ms},eT ps=some xs->xs.length=ps.length
 |[],xs,h=>by simp only[eT,az]at h;subst h;rfl
 |q::ps,xs,h=>by
  simp only[eT]at h
  cases h1:fW q with
  |none=>rw[h1]at h;simp at h
  |some m=>
   rw[h1]at h
   cases h2:eT ps with
   |none=>rw[h2]at h;simp at h
   |some ms=>
    rw[h2]at h
    simp only[az]at h;subst h
    simp[s7 h2]
theorem uQ{s:ak}(h:iI s=true):∀b∈s.data.toList,b≠32/\b≠43:=fun b hb=>by
 unfold iI at h
 have :=aJ.1 h b hb
 constructor<;>(rintro rfl;revert this;decide)
theorem mH{n:Int}:∀b∈(b_ n).data.toList,b≠32/\b≠43:=fun b hb=>by
 have :=Ac b hb
 constructor<;>(rintro rfl;revert this;decide)
theorem vp{s:ak}(h:lG s=true):iI s=true:=by unfold lG dN at h;simp at h;exact h.2.2
theorem ib{s:ak}(h:dw s=true):iI s=true:=by unfold dw dN at h;simp at h;exact h.2.2
theorem rS(m:Ms):qy m=dn [b_ m.id,b_ m.pri,m.body,m.queue,b_ m.cq] sp:=by
 rw[gp,gp,gp,L9]
 unfold qy
 simp only[MI]
theorem iQ{n:Int}(h:oR n):eW (b_ n)=some n:=by unfold eW;rw[MQ h]
theorem LL{m:Ms}(h:bT m=true):fW (qy m)=some m:=by
 obtain⟨h1,h2,h3,h4,h5,h6,h7,h8⟩:=bV h
 have hb:=uQ (vp h5)
 have hq:=uQ (ib h6)
 have :dE 32 (qy m)=[b_ m.id,b_ m.pri,m.body,m.queue,b_ m.cq]:=by
  rw[rS]
  refine zO aj fun x hx b hb'=>?_
  simp only[aF,List.not_mem_nil,or_false]at hx
  rcases hx with rfl|rfl|rfl|rfl|rfl
  ·exact(mH b hb').1
  ·exact(mH b hb').1
  ·exact(hb b hb').1
  ·exact(hq b hb').1
  ·exact(mH b hb').1
 unfold fW
 rw[this]
 simp only[iQ (n:=m.id) ⟨by omega,by omega⟩,iQ (n:=m.pri) ⟨by omega,by omega⟩,iQ (n:=m.cq) ⟨by omega,by omega⟩]
theorem jC{sep:ak}:∀{l:List ak} {b:UInt8},b∈(dn l sep).data.toList->b∈sep.data.toList\/∃x∈l,b∈x.data.toList
 |[],b,h=>by rw[Cl]at h;simp at h
 |[x],b,h=>by rw[kJ]at h;exact .inr ⟨x,by simp,h⟩
 |x::y::r,b,h=>by
  rw[gp]at h
  simp only[ByteArray.data_append,Array.toList_append,aN]at h
  rcases h with(h|h)|h
  ·exact .inr ⟨x,by simp,h⟩
  ·exact .inl h
  ·rcases jC h with h|⟨z,hz,h⟩
   ·exact .inl h
   ·exact .inr ⟨z,List.mem_cons_of_mem _ hz,h⟩
theorem Ol{m:Ms}(h:bT m=true):∀b∈(qy m).data.toList,b≠43:=fun b hb=>by
 obtain⟨h1,h2,h3,h4,h5,h6,h7,h8⟩:=bV h
 rw[rS]at hb
 rcases jC hb with hb|⟨x,hx,hb⟩
 ·have :b=32:=by simpa[sp]using hb
  subst this;decide
 ·simp only[aF,List.not_mem_nil,or_false]at hx
  rcases hx with rfl|rfl|rfl|rfl|rfl
  ·exact(mH b hb).2
  ·exact(mH b hb).2
  ·exact(uQ (vp h5) b hb).2
  ·exact(uQ (ib h6) b hb).2
  ·exact(mH b hb).2
theorem Ft{xs:List Ms}(h:ju xs=none)(h0:xs≠[]):eT (dE 43 (cF xs))=some xs:=by
 have hr:=dG h
 have :dE 43 (cF xs)=xs.map qy:=by
  unfold cF
  refine zO ZL fun x hx=>?_
  obtain⟨m,hm,rfl⟩:=ay.1 hx
  exact Ol (hr m hm)
 rw[this]
 exact zP fun m hm=>LL (hr m hm)
theorem Sv(m:Ms):1<=(qy m).size:=by
 unfold qy
 simp only[aU]
 have :sp.size=1:=rfl
 omega
theorem Lc{xs:List Ms}(h0:xs≠[]):cF xs≠⟨#[]⟩:=by
 cases xs with
 |nil=>exact absurd rfl h0
 |cons m r=>
  intro h
  have h1:=congrArg ByteArray.size h
  have h2:=Sv m
  unfold cF at h1
  rw[aL]at h1
  cases r with
  |nil=>rw[List.map_nil,kJ]at h1;have :(⟨#[]⟩:ak).size=0:=rfl;omega
  |cons m' r=>rw[aL,gp]at h1;simp only[aU]at h1;have :(⟨#[]⟩:ak).size=0:=rfl;omega
theorem rT{xs:List Ms}(h:ju xs=none):td (cF xs)=some xs:=by
 unfold td
 by_cases h0:xs=[]
 ·subst h0;rfl
 ·rw[if_neg (Lc h0),Ft h h0]
  simp[h]
theorem oO{s:ak}{xs:List Ms}(h:td s=some xs):ju xs=none/\cF xs=s:=by
 unfold td at h
 split at h
 ·rename_i h0
  simp only[az]at h;subst h;exact⟨rfl,h0.symm⟩
 ·split at h
  ·cases h
  ·split at h
   ·rename_i h1
    simp only[az]at h;subst h;exact h1
   ·cases h
theorem nW(c:UInt8):∀l,∀p∈pieces c l,p.length<=l.length
 |[],p,hp=>by simp[pieces]at hp;subst hp;exact aD _
 |a::l,p,hp=>by
  by_cases h:a=c
  ·subst h;rw[pieces_eq]at hp
   rcases aF.1 hp with rfl|hp
   ·simp
   ·have :=nW a l p hp;simp;omega
  ·obtain⟨q,qs,e⟩:=List.exists_cons_of_ne_nil (wi c l)
   rw[mZ h e]at hp
   rcases aF.1 hp with rfl|hp
   ·have :=nW c l q (by rw[e];simp);simp;omega
   ·have :=nW c l p (by rw[e];simp[hp]);simp;omega
theorem iq{c:UInt8}{s p:ak}(h:p∈dE c s):p.size<=s.size:=by
 unfold dE at h
 obtain⟨q,hq,rfl⟩:=ay.1 h
 have :=nW c _ q hq
 rw[ki,ki,GN];exact this
theorem Fu{p:ak}{m:Ms}(h:fW p=some m):m.body.size<=p.size/\m.queue.size<=p.size:=by
 unfold fW at h
 split at h
 ·rename_i a b c d e hp
  split at h
  ·simp only[az]at h;subst h
   exact⟨iq (c:=32) (by rw[hp];simp),iq (c:=32) (by rw[hp];simp)⟩
  ·cases h
 ·cases h
theorem xM{B:Nat}:∀{ps:List ak} {xs:List Ms},eT ps=some xs->(∀p∈ps,p.size<=B)->∀m∈xs,m.body.size<=B/\m.queue.size<=B
 |[],xs,h,_,m,hm=>by simp only[eT,az]at h;subst h;cases hm
 |q::ps,xs,h,hB,m,hm=>by
  simp only[eT]at h
  cases h1:fW q with
  |none=>rw[h1]at h;simp at h
  |some m'=>
   rw[h1]at h
   cases h2:eT ps with
   |none=>rw[h2]at h;simp at h
   |some ms=>
    rw[h2]at h
    simp only[az]at h;subst h
    rcases aF.1 hm with rfl|hm
    ·have :=Fu h1;have :=hB q aj;omega
    ·exact xM h2 (fun p hp=>hB p (List.mem_cons_of_mem _ hp)) m hm
theorem s6(c:UInt8)(s:ak):(dE c s).length<=s.size+1:=by
 unfold dE;rw[bj,gC];have :=List.count_le_length (a:=c) (l:=s.data.toList);rw[ki];omega
theorem pK{m:Ms}(h:bT m=true):m.body.size<=maxLen/\m.queue.size<=maxLen:=by
 obtain⟨h1,h2,h3,h4,h5,h6,h7,h8⟩:=bV h
 have a4:m.body.size<=12:=by unfold lG dN at h5;simp at h5;omega
 have a5:m.queue.size<=8:=by unfold dw dN at h6;simp at h6;omega
 unfold maxLen;omega
end WB
namespace Go.Proofs.YtjhogocabcdjbabGreatDoor
open Tryz
open Go Go.RowKit WB
def qK (w:World):Prop:=(∃m,w.cell? ⟨1,0,none⟩=some (.int .i64 m))/\(∃t p,w.cell? ⟨2,0,none⟩=some (.iface t p))/\(∃t p,w.cell? ⟨3,0,none⟩=some (.iface t p))
theorem qK.ext{w w':World}(h:qK w)(e:Ext w w'):qK w':=by
 obtain⟨⟨m,h1⟩,⟨t,p,h2⟩,⟨t',p',h3⟩⟩:=h
 exact⟨⟨m,e.cell h1⟩,⟨t,p,e.cell h2⟩,⟨t',p',e.cell h3⟩⟩
theorem BW{w0 w:World}{L:List HP}{b k:Nat}{xs:List ak}{vs:List Value}(h:St w0 (bP b (.cells vs.toArray 9 (0,0))::L) w)(SS:vs=xs.map Value.string)(hk:xs.length=k)(hle:k<=1000000000):St w0 (l5 (.slice (some ⟨b,0,none⟩) k k) xs::L) w:=by
 subst hk
 have hf:xs.flatMap ln=vs:=by rw[SS];clear SS h hle;induction xs with
  |nil=>rfl
  |cons a l ih=>rw[aR,ih];rfl
 refine h.lO (aD _) Ux ?_ ?_
 ·rw[SS];simp
 ·rw[hf,SS,Nat.mul_one];exact List.take_of_length_le aj
theorem l6(w0:World)(L:List HP)(s:ak)(c:UInt8)(hs:s.size<=100000000)(hM:qK w0):KE prog 133 #[.string s,.string ⟨#[c]⟩] w0 L (fun u M=> ∃b,u=.slice (some ⟨b,0,none⟩) (dE c s).length (dE c s).length/\M=l5 (.slice (some ⟨b,0,none⟩) (dE c s).length (dE c s).length) (dE c s)::L):=fun w hw=>by
 obtain⟨⟨m,hm⟩,_⟩:=hM.ext (Ext.ct hw.below)
 refine(Tryz.strings_Split s ⟨#[c]⟩ m w ae hm (aD _)).mono ?_
 rintro e w' ⟨rfl,rfl⟩
 rw[LJ,<-Sh]
 have hl:(dE c s).length<=s.size+1:=by unfold dE;rw[bj,gC];have :=List.count_le_length (a:=c) (l:=s.data.toList);rw[ki];omega
 exact⟨_,_,rfl,⟨w.heap.size,rfl,rfl⟩,BW (hw.alloc _) rfl rfl ae,Below.alloc (Below.refl _ w) (aD _) _⟩
def kj (s:ak) (u:Value):Prop:=match eW s with|some v=>u=.tuple #[.int .i64 v,.nilIface]|none=> ∃x T y,u=.tuple #[.int .i64 x,.iface T y]
theorem iG(w0:World)(L:List HP)(s:ak)(hs:s.size<=100000000)(hM:qK w0):KE prog 136 #[.string s] w0 L (fun u M=>kj s u/\M=L):=fun w hw=>by
 obtain⟨_,⟨t,p,h2⟩,⟨t',p',h3⟩⟩:=hM.ext (Ext.ct hw.below)
 unfold kj
 rcases h:Lib.atoiAll s.data.toList with v|_|_
 ·have hn:eW s=some v:=by unfold eW;rw[h]
  refine(Tryz.strconv_Atoi_ok s ae v h w).mono ?_
  rintro e w' ⟨rfl,hw'⟩
  have hb:Below w.heap.size w w':=by
   rcases hw' with rfl|⟨t,rfl⟩
   ·exact Below.refl _ _
   ·exact Lib.bytesWorld_below _ _ _
  exact⟨_,_,rfl,⟨by rw[hn],rfl⟩,hw.aE hb,hb⟩
 ·have hn:eW s=none:=by unfold eW;rw[h]
  refine(Tryz.strconv_Atoi_syntax s ae h _ w h2 (.inr ⟨t,p,rfl⟩)).mono ?_
  rintro e w' ⟨N,rfl,_,_,hb⟩
  exact⟨_,_,rfl,⟨by rw[hn];exact⟨_,_,_,rfl⟩,rfl⟩,hw.aE hb,hb⟩
 ·have hn:eW s=none:=by unfold eW;rw[h]
  refine(Tryz.strconv_Atoi_range s ae h _ w h3 (.inr ⟨t',p',rfl⟩)).mono ?_
  rintro e w' ⟨N,rfl,_,_,hb⟩
  exact⟨_,_,rfl,⟨by rw[hn];exact⟨_,_,_,rfl⟩,rfl⟩,hw.aE hb,hb⟩
def UA (L:List HP) (s:ak) (u:Value) (M:List HP):Prop:=
 match td s with
 |some xs=> ∃v,u=.tuple #[v,.nilIface]/\M=SL 44 5 du v xs::L
 |none=>u=.tuple #[.slice none 0 0,cS 70 3]/\M=L
def TY (x y z:Int):Nat->List Value
 |0=>[.int .i64 0,.int .i64 0,.int .i64 0,.int .i64 0,.int .i64 0]
 |1=>[.int .i64 x,.int .i64 0,.int .i64 0,.int .i64 0,.int .i64 0]
 |2=>[.int .i64 x,.int .i64 y,.int .i64 0,.int .i64 0,.int .i64 0]
 |_=>[.int .i64 x,.int .i64 y,.int .i64 0,.int .i64 0,.int .i64 z]
def NU (b4 b3 b2:Nat) (v e:Value) (xs:List Ms):List HP:=[bP b4 (.cells [v].toArray 49 (0,0)),bP b3 (.cells [e].toArray 31 (0,0)),bP b2 (.cells [.slice none 0 0].toArray 49 (0,0)),SL 44 5 du v xs]
def rdC (s:ak) (b4 b3 b2:Nat) (k:Nat) (M:List HP):Prop:= ∃v xs,M=NU b4 b3 b2 v .nilIface xs/\eT ((dE 43 s).take k)=some xs
def rdX (s:ak) (b4 b3 b2:Nat) (M:List HP):Prop:=(∃v xs,M=NU b4 b3 b2 v (cS 70 3) xs)/\eT (dE 43 s)=none
theorem Oj:(prog.info? 44).map (fun i=>(i.zero,i.size,i.bytes))=some (some (Value.agg #[.int .i64 0,.int .i64 0,.string ⟨#[]⟩,.string ⟨#[]⟩,.int .i64 0]),5,56):=by kernel_rfl
theorem pS(w0:World)(L:List HP)(s:ak)(hs:s.size<=90000)(Re:qH w0)(hM0:qK w0):KE prog 160 #[.string s] w0 L (UA L s):=by
 refine KE.mkM (n:=74) func160 rfl ntmps160 aj ?_
 intro w hw
 have hT:=Re.ext (Ext.ct hw.below)
 have hM:=hM0.ext (Ext.ct hw.below)
 unfold UA
 refine Z3 ?_
 refine KO.alloc rfl zeroValue49 aQ rfl ?_;intro b2
 refine KO.alloc rfl zeroValue31 aQ rfl ?_;intro b3
 refine Z0 ?_
 by_cases h0:s=⟨#[]⟩
 ·have e0:td s=some []:=by unfold td;rw[if_pos h0]
  rw[e0]
  refine Z8 ?_
  refine A5 ?_
  refine Z2 ?_
  refine K.cV rfl ZL ?_
  refine Z3 ?_
  refine Z93 ?_
  refine Z4 ?_
  refine KQ.VX rfl rfl rfl isAgg49 isAgg31 bo bZ (fun w' hs=>⟨_,_,rfl,⟨_,rfl,rfl⟩,?_,hs.below⟩)
  exact cM (hw.aE hs.below)
 refine Z8 ?_
 refine A5 ?_
 refine Z2 ?_
 refine K.dp rfl ZL ?_
 refine xB ?_
 refine KO.alloc rfl zeroValue49 aQ rfl ?_;intro b4
 refine G4 ?_
 refine KO.ce (cp:=[]) rfl rfl rfl call113 rfl (ZW w _ s ⟨#[43]⟩) ?_;rintro v' L' ⟨i4,i3,i5,rfl,rfl⟩
 refine KO.nil ?_
 refine KQ.next ?_
 refine K.block ?_
 refine K.conv (L':=xT i4 i3 i5 s ⟨#[43]⟩++NU b4 b3 b2 (.slice none 0 0) .nilIface []) (fun w hw=>?_) ?_
 ·simp only[NU,xT,bF,List.nil_append]at hw ⊢
  exact(cM hw).all Y3
 have hlen:(dE 43 s).length<=s.size+1:=by unfold dE;rw[bj,gC];have :=List.count_le_length (a:=43) (l:=s.data.toList);rw[ki];omega
 refine K.NW (rdC s b4 b3 b2) (rdX s b4 b3 b2) (G2:=fun q=>[(5,.string q),(0,.string s),(2,.pointer (some ⟨b2,0,none⟩)),(3,.pointer (some ⟨b3,0,none⟩)),(4,.pointer (some ⟨b4,0,none⟩))]) rfl rfl ae ⟨_,_,rfl,rfl⟩ ?_ ?_ ?_ ?_
 ·intro l N q
  refine KR.M5 bH (fun a w h=>by exact h) ?_
  refine xF ?_
  exact KQ.tf () trivial ⟨rfl,rfl,rfl,rfl,rfl,trivial⟩ (fun _ h=>h)
 ·rintro k q M l N RQ hq ⟨v,xs,rfl,tP⟩ sG hgo S4
  have tQ:xs.length<100000:=by have :=s7 tP;rw[bL]at this;omega
  have hqs:q.size<=90000:=by have :=iq (ax hq);omega
  simp only[NU,bF,List.nil_append]
  repeat(first|(with_reducible refine KR.seq ?_)|(with_reducible refine KR.block ?_))
  refine Ea ?_
  refine KO.ce (cp:=[]) rfl rfl rfl call133 rfl (l6 w _ q 32 ae hM) ?_;rintro v' L' ⟨bq,rfl,rfl⟩
  refine BE ?_
  by_cases h5:(dE 32 q).length=5
  case neg=>
   refine Ea ?_
   refine P_ ?_
   refine Hk ?_
   refine KR.cV rfl ga ?_
   refine Hj ?_
   refine MU ?_
   refine KO.nil ?_
   refine Z82 ?_
   refine S4 _ _ ⟨⟨_,_,rfl⟩,lr (p:=q) ?_ (ax hq)⟩
   unfold fW
   split
   ·rename_i h;rw[h]at h5;exact absurd rfl h5
   ·rfl
  refine Ea ?_
  refine P_ ?_
  refine Hk ?_
  refine KR.dp rfl ga ?_
  repeat(first|(with_reducible refine KR.seq ?_)|(with_reducible refine KQ.uL ?_)|(with_reducible refine KR.skip ?_))
  obtain⟨wa,wb,wc,wd,we,n4⟩:∃wa wb wc wd we,dE 32 q=[wa,wb,wc,wd,we]:=by
   generalize dE 32 q=l at h5
   match l,h5 with
   |[a,b,c,d,e],_=>exact⟨a,b,c,d,e,rfl⟩
  have Q0:∀x∈[wa,wb,wc,wd,we],x.size<=100000000:=fun x hx=>by have :=iq (c:=32) (s:=q) (p:=x) (by rw[n4];exact hx);omega
  rw[n4]
  refine Qf ?_
  refine KO.alloc rfl zeroValue333 aQ rfl ?_;intro b7
  refine ZG ?_
  refine Qf ?_
  refine KO.bld rfl (by intro w;go_simp;rfl) rfl ?_
  refine ZD ?_
  repeat(first|(with_reducible refine KQ.uL ?_)|(with_reducible refine KR.block ?_))
  obtain⟨x,hx⟩:∃x,x=(eW wa).getD 0:=⟨_,rfl⟩
  obtain⟨y,hy⟩:∃x,x=(eW wb).getD 0:=⟨_,rfl⟩
  obtain⟨z,hz⟩:∃x,x=(eW we).getD 0:=⟨_,rfl⟩
  refine KR.loop (fun i:Nat=>[(26,.int .i64 (i:Nat)),(25,.agg [.int .i64 0,.int .i64 1,.int .i64 4].toArray),(7,.pointer (some ⟨b7,0,none⟩)),(6,.slice (some ⟨bq,0,none⟩) 5 5),(5,.string q),(0,.string s),(2,.pointer (some ⟨b2,0,none⟩)),(3,.pointer (some ⟨b3,0,none⟩)),(4,.pointer (some ⟨b4,0,none⟩))])
   (fun i=>bP b7 (.cells (TY x y z i).toArray 333 (0,0))::l5 (.slice (some ⟨bq,0,none⟩) 5 5) [wa,wb,wc,wd,we]::(NU b4 b3 b2 v .nilIface xs++N))
   (fun i=>i<=3/\(0<i->eW wa=some x)/\(1<i->eW wb=some y)/\(2<i->eW we=some z)) (fun i=>3-i) 0
   ⟨by omega,fun h=>by omega,fun h=>by omega,fun h=>by omega⟩ ⟨rfl,rfl,rfl,rfl,rfl,rfl,rfl,rfl,rfl,trivial⟩ (fun w hw=>hw.all nH) ?_
  rintro i ⟨hi,kY,ku,Gb⟩
  have kA:i=0\/i=1\/i=2\/i=3:=by omega
  simp only[NU,bF,List.nil_append]
  rcases kA with rfl|rfl|rfl|rfl
  ·
   refine Hj ?_
   refine yz ?_
   refine ZG ?_
   refine YF ?_
   refine Qf ?_
   refine KO.OJ (cs:=[.int .i64 0,.int .i64 1,.int .i64 4]) (i:=0) rfl rfl underlying334 isAgg3 sizeOf3 rfl ai rfl rfl ?_
   refine BE ?_
   cases hn:eW wa with
   |none=>
    refine aco ?_
    refine Yy ?_
    refine KO.ce (cp:=[]) rfl rfl rfl call136 rfl (iG w _ wa (Q0 wa aj) hM) ?_;rintro v' L' ⟨hR,rfl⟩;unfold kj at hR;rw[hn]at hR;obtain⟨xx,TT,yy,rfl⟩:=hR
    refine Qc ?_
    refine BE ?_
    refine Ea ?_
    refine xD ?_
    refine Hk ?_
    refine KR.cV rfl rfl ?_
    refine Hj ?_
    refine MU ?_
    refine KO.nil ?_
    refine Z82 ?_
    refine S4 _ _ ⟨⟨_,_,rfl⟩,lr (p:=q) ?_ (ax hq)⟩
    unfold fW;rw[n4];simp only[];rw[hn]
    all_goals (cases eW wa<;>cases eW wb<;>cases eW we<;>rfl)
   |some vv=>
    have hvx:vv=x:=by rw[hx,hn];rfl
    refine aco ?_
    refine Yy ?_
    refine KO.ce (cp:=[]) rfl rfl rfl call136 rfl (iG w _ wa (Q0 wa aj) hM) ?_;rintro v' L' ⟨hR,rfl⟩;unfold kj at hR;rw[hn]at hR;subst hR
    refine Qc ?_
    refine BE ?_
    refine Ea ?_
    refine Jo ?_
    refine Hk ?_
    refine Yz ?_
    refine Ha ?_
    refine KO.kM (i:=0) rfl rfl runUnderlying333 sizeOf3 rfl ai rfl ?_
    refine KO.gT (i:=0) rfl rfl rfl aQ za rfl bZ (by rfl) (by simp[TY]) ?_
    refine Yx ?_
    refine Qf ?_
    refine vP ?_
    refine ZD ?_
    subst hvx
    refine KQ.round 1 ⟨by omega,fun h=>?_,fun h=>?_,fun h=>?_⟩ ai ⟨rfl,rfl,rfl,rfl,rfl,rfl,rfl,rfl,rfl,trivial⟩ (fun w hw=>hw.all nH)
    all_goals first|omega|rfl
  ·
   refine Hj ?_
   refine yz ?_
   refine ZG ?_
   refine YF ?_
   refine Qf ?_
   refine KO.OJ (cs:=[.int .i64 0,.int .i64 1,.int .i64 4]) (i:=1) rfl rfl underlying334 isAgg3 sizeOf3 rfl ai rfl rfl ?_
   refine BE ?_
   cases hn:eW wb with
   |none=>
    refine Ha ?_
    refine acD ?_
    refine KO.ce (cp:=[]) rfl rfl rfl call136 rfl (iG w _ wb (Q0 wb aj) hM) ?_;rintro v' L' ⟨hR,rfl⟩;unfold kj at hR;rw[hn]at hR;obtain⟨xx,TT,yy,rfl⟩:=hR
    refine Qc ?_
    refine BE ?_
    refine Ea ?_
    refine xD ?_
    refine Hk ?_
    refine KR.cV rfl rfl ?_
    refine Hj ?_
    refine MU ?_
    refine KO.nil ?_
    refine Z82 ?_
    refine S4 _ _ ⟨⟨_,_,rfl⟩,lr (p:=q) ?_ (ax hq)⟩
    unfold fW;rw[n4];simp only[];rw[hn]
    all_goals (cases eW wa<;>cases eW wb<;>cases eW we<;>rfl)
   |some vv=>
    have hvx:vv=y:=by rw[hy,hn];rfl
    refine Ha ?_
    refine acD ?_
    refine KO.ce (cp:=[]) rfl rfl rfl call136 rfl (iG w _ wb (Q0 wb aj) hM) ?_;rintro v' L' ⟨hR,rfl⟩;unfold kj at hR;rw[hn]at hR;subst hR
    refine Qc ?_
    refine BE ?_
    refine Ea ?_
    refine Jo ?_
    refine Hk ?_
    refine Yz ?_
    refine Ha ?_
    refine KO.kM (i:=1) rfl rfl runUnderlying333 sizeOf3 rfl ai rfl ?_
    refine KO.gT (i:=1) rfl rfl rfl aQ za rfl bZ (by rfl) (by simp[TY]) ?_
    refine Yx ?_
    refine Qf ?_
    refine vP ?_
    refine ZD ?_
    subst hvx
    refine KQ.round 2 ⟨by omega,fun h=>?_,fun h=>?_,fun h=>?_⟩ ai ⟨rfl,rfl,rfl,rfl,rfl,rfl,rfl,rfl,rfl,trivial⟩ (fun w hw=>hw.all nH)
    all_goals first|omega|rfl|exact kY ae
  ·
   refine Hj ?_
   refine yz ?_
   refine ZG ?_
   refine YF ?_
   refine Qf ?_
   refine KO.OJ (cs:=[.int .i64 0,.int .i64 1,.int .i64 4]) (i:=2) rfl rfl underlying334 isAgg3 sizeOf3 rfl ai rfl rfl ?_
   refine BE ?_
   cases hn:eW we with
   |none=>
    refine Ha ?_
    refine acC ?_
    refine KO.ce (cp:=[]) rfl rfl rfl call136 rfl (iG w _ we (Q0 we aj) hM) ?_;rintro v' L' ⟨hR,rfl⟩;unfold kj at hR;rw[hn]at hR;obtain⟨xx,TT,yy,rfl⟩:=hR
    refine Qc ?_
    refine BE ?_
    refine Ea ?_
    refine xD ?_
    refine Hk ?_
    refine KR.cV rfl rfl ?_
    refine Hj ?_
    refine MU ?_
    refine KO.nil ?_
    refine Z82 ?_
    refine S4 _ _ ⟨⟨_,_,rfl⟩,lr (p:=q) ?_ (ax hq)⟩
    unfold fW;rw[n4];simp only[];rw[hn]
    all_goals (cases eW wa<;>cases eW wb<;>cases eW we<;>rfl)
   |some vv=>
    have hvx:vv=z:=by rw[hz,hn];rfl
    refine Ha ?_
    refine acC ?_
    refine KO.ce (cp:=[]) rfl rfl rfl call136 rfl (iG w _ we (Q0 we aj) hM) ?_;rintro v' L' ⟨hR,rfl⟩;unfold kj at hR;rw[hn]at hR;subst hR
    refine Qc ?_
    refine BE ?_
    refine Ea ?_
    refine Jo ?_
    refine Hk ?_
    refine Yz ?_
    refine Ha ?_
    refine KO.kM (i:=4) rfl rfl runUnderlying333 sizeOf3 rfl ai rfl ?_
    refine KO.gT (i:=4) rfl rfl rfl aQ za rfl bZ (by rfl) (by simp[TY]) ?_
    refine Yx ?_
    refine Qf ?_
    refine vP ?_
    refine ZD ?_
    subst hvx
    refine KQ.round 3 ⟨by omega,fun h=>?_,fun h=>?_,fun h=>?_⟩ ai ⟨rfl,rfl,rfl,rfl,rfl,rfl,rfl,rfl,rfl,trivial⟩ (fun w hw=>hw.all nH)
    all_goals first|rfl|exact kY ae|exact ku ae
  ·refine Hj ?_
   refine yz ?_
   refine ZG ?_
   refine KR.dp rfl rfl ?_
   repeat(first|(with_reducible refine KQ.uL ?_)|(with_reducible refine KQ.jy ?_)|(with_reducible refine KQ.lH ?_)|(with_reducible refine KR.exit ?_))
   refine KR.draw [.read,.pure,.read,.pure,.read,.pure,.pure,.read,.pure,.pure,.read,.pure,.read,.pure,.dm,.write,.write] [0,1,2,3,4,5,6,7,8,9,10,11,12,13,14,15,16] bH bH bH (fun a w h=>by exact sG a w h) ?_
   refine Qk ?_
   refine KO.kM (i:=0) rfl rfl runUnderlying333 sizeOf3 rfl ai rfl ?_
   refine tL ?_
   refine KO.kM (i:=1) rfl rfl runUnderlying333 sizeOf3 rfl ai rfl ?_
   refine tL ?_
   refine Z1 ?_
   refine KO.eX (i:=2) rfl rfl runUnderlying115 sizeOf9 rfl ai rfl ?_
   refine acp ?_
   refine Z1 ?_
   refine KO.eX (i:=3) rfl rfl runUnderlying115 sizeOf9 rfl ai rfl ?_
   refine KO.iw (i:=3) (sz:=1) (cf:=ln) (e:=wd) rfl rfl isAgg9 bo (fun _=>rfl) rfl aQ aQ rfl ?_
   refine KO.kM (i:=4) rfl rfl runUnderlying333 sizeOf3 rfl ai rfl ?_
   refine tL ?_
   refine Z50 ?_
   refine KO.lY (z:=(Value.agg #[.int .i64 0,.int .i64 0,.string ⟨#[]⟩,.string ⟨#[]⟩,.int .i64 0])) (sz:=5) (dP:=56) rfl rfl underlying49 bH aQ aQ ai ai rfl ?_;intro b58
   refine KO.app (z:=Value.agg #[.int .i64 0,.int .i64 0,.string ⟨#[]⟩,.string ⟨#[]⟩,.int .i64 0]) (sz:=5) (dP:=56) rfl rfl rfl bo bZ underlying49 Oj rfl (⟨x,y,wc,wd,z⟩:Ms) aQ aQ aQ ae ai rfl ?_;intro v';refine KO.fact (fun w hw=>aY hw) ?_;rintro⟨sa,cp,rfl,_⟩
   refine KO.pD rfl rfl rfl aQ Y53 aQ bo aQ ?_
   refine BB ?_
   refine KQ.conv (fun w hw=>hw.all (M:=NU b4 b3 b2 (.slice sa (xs++[(⟨x,y,wc,wd,z⟩:Ms)]).length cp) .nilIface (xs++[(⟨x,y,wc,wd,z⟩:Ms)])++N) Y5) ?_
   have U2:fW q=some ⟨x,y,wc,wd,z⟩:=by
    unfold fW;rw[n4];simp only[];rw[kY ae,ku ae,Gb ae]
   refine hgo _ _ ⟨_,_,rfl,?_⟩
   rw[bJ hq,xL tP,U2];rfl
 ·rintro b M ⟨v,xs,rfl,tP⟩
  rw[List.take_length]at tP
  have tQ:xs.length<=100000:=by have :=s7 tP;omega
  have WY:∀m∈xs,m.body.size<=maxLen/\m.queue.size<=maxLen:=fun m hm=>by
   have :=xM (B:=90000) tP (fun p hp=>by have :=iq hp;omega) m hm
   unfold maxLen;omega
  have EB:td s=if ju xs=none/\cF xs=s then some xs else none:=by unfold td;rw[if_neg h0,tP]
  rw[EB]
  simp only[NU]
  repeat(first|(with_reducible refine K.seq ?_)|(with_reducible refine KQ.next ?_)|(with_reducible refine KQ.iF ?_))
  refine K.fact (fun w hw=>aY (hw.pick (.tail (.tail (.tail (.tail .head)))))) ?_
  rintro⟨sa,cp,rfl,_⟩
  cases hb:ju xs with
  |some kb=>
   rw[if_neg aj]
   refine dR ?_
   refine Qk ?_
   refine KO.ce (cp:=[]) rfl rfl rfl call60 rfl (lz w _ _ xs (fun w' hw'=>x9.FA (fun _=>rfl) bo hw') hT WY tQ) ?_;rintro v' L' hR;unfold QN at hR;rw[hb]at hR;obtain⟨be,rfl,rfl⟩:=hR;unfold atV
   refine ky ?_
   refine xD ?_
   refine tM ?_
   refine xE ?_
   refine Z3 ?_
   refine MU ?_
   refine Z4 ?_
   refine KQ.yR bo rfl rfl rfl isAgg49 isAgg31 bo bZ (fun w' hs=>⟨_,_,rfl,⟨aQ,rfl⟩,hw.aE hs.below,hs.below⟩)
  |none=>
   by_cases n4:cF xs=s
   ·rw[if_pos ⟨rfl,n4⟩]
    refine dR ?_
    refine Qk ?_
    refine KO.ce (cp:=[]) rfl rfl rfl call60 rfl (lz w _ _ xs (fun w' hw'=>x9.FA (fun _=>rfl) bo hw') hT WY tQ) ?_;rintro v' L' hR;unfold QN at hR;rw[hb]at hR;obtain⟨rfl,rfl⟩:=hR
    refine Ei ?_
    refine HQ ?_
    refine MV ?_
    refine K.dp rfl (by simp[n4]) ?_
    refine xB ?_
    refine Qk ?_
    refine Z93 ?_
    refine Z5 ?_
    refine KQ.yR bo rfl rfl rfl isAgg49 isAgg31 bo bZ (fun w' hs=>⟨_,_,rfl,⟨_,rfl,rfl⟩,?_,hs.below⟩)
    exact hw.stack (M:=[SL 44 5 du (.slice sa xs.length cp) xs]) (hs.all Y4)
   ·rw[if_neg (fun h=>n4 h.2)]
    refine dR ?_
    refine Qk ?_
    refine KO.ce (cp:=[]) rfl rfl rfl call60 rfl (lz w _ _ xs (fun w' hw'=>x9.FA (fun _=>rfl) bo hw') hT WY tQ) ?_;rintro v' L' hR;unfold QN at hR;rw[hb]at hR;obtain⟨rfl,rfl⟩:=hR
    refine Ei ?_
    refine HQ ?_
    refine MV ?_
    refine K.cV rfl (by simp[n4]) ?_
    refine Z3 ?_
    refine MU ?_
    refine Z4 ?_
    refine KQ.yR bo rfl rfl rfl isAgg49 isAgg31 bo bZ (fun w' hs=>⟨_,_,rfl,⟨aQ,rfl⟩,hw.aE hs.below,hs.below⟩)
 ·rintro b M ⟨⟨v,xs,rfl⟩,hx⟩
  have EB:td s=none:=by unfold td;rw[if_neg h0,hx]
  rw[EB]
  simp only[NU]
  repeat(first|(with_reducible refine KQ.oE ?_)|(with_reducible refine KQ.y9 ?_))
  refine KQ.yR bZ rfl rfl rfl isAgg49 isAgg31 bo bo (fun w' hs=>⟨_,_,rfl,⟨aQ,rfl⟩,hw.aE hs.below,hs.below⟩)
end Go.Proofs.YtjhogocabcdjbabGreatDoor
namespace WB
open Go Go.RowKit Go.ChangeMaps Go.MapKept
theorem List.qg(s v:Value):∀(l:List MapEntry) (j:Nat),(l.modify j fun e=>{e with key:=s,val:=v}).map (·.born)=l.map (·.born)
 |[],_=>by simp
 |_::_,0=>by simp
 |_::l,j+1=>by simp[List.qg s v l j]
structure KeyLaw {κ:Type} (d:TypeDesc) (kv:κ->Value):Prop where
 isKey:∀k,IsKey d (kv k)
 inj:∀a b,kv a=kv b->a=b
theorem gv:KeyLaw (κ:=ak) .string Value.string:=⟨fun _=>⟨⟩,fun _ _ h=>by cases h;rfl⟩
theorem jX:KeyLaw (κ:=Int) (.int .i64) (Value.int .i64):=⟨fun _=>rfl,fun _ _ h=>by cases h;rfl⟩
section
variable {κ:Type} [DecidableEq κ]
def eI {β:Type} (m:List (κ×β)) (k:κ):Option β:=match m with
 |[]=>none
 |x::r=>if x.1=k then some x.2 else eI r k
def gh {β:Type} (m:List (κ×β)) (k:κ) (v:β):List (κ×β):=match m with
 |[]=>[(k,v)]
 |x::r=>if x.1=k then(x.1,v)::r else x::gh r k v
def rm {β:Type} (m:List (κ×β)) (k:κ):List (κ×β):=match m with
 |[]=>[]
 |x::r=>if x.1=k then r else x::rm r k
theorem CD{β:Type}(s t:κ)(v:β):∀m:List (κ×β),eI (gh m s v) t=if s=t then some v else eI m t
 |[]=>rfl
 |x::r=>by
  unfold gh
  by_cases h:x.1=s
  ·rw[if_pos h,eI,eI,h];by_cases h2:s=t<;>simp[h2]
  ·rw[if_neg h,eI,eI,CD s t v r]
   by_cases h2:x.1=t
   ·have :¬s=t:=fun e=>h (h2.trans e.symm)
    simp[h2,this]
   ·simp[h2]
variable {d:TypeDesc} {kv:κ->Value}
def MA (kv:κ->Value) (es:List MapEntry) (m:List (κ×Value)):Prop:=es.map (fun e=>(e.key,e.val))=m.map (fun x=>(kv x.1,x.2))
structure Zt (kv:κ->Value) (es:List MapEntry) (gG:Nat) (m:List (κ×Value)):Prop where
 PA:MA kv es m
 M7:∀e∈es,e.born<gG
 nodup:(es.map (·.born)).Nodup
def cg (kv:κ->Value) (b:Nat) (m:List (κ×Value)):HP:=ex fun es:Array MapEntry=>ex fun gG:Nat=>sep (LH (Zt kv es.toList gG m)) (bP b (.map es gG))
theorem KD(K:KeyLaw d kv)(s:κ):∀(es:List MapEntry) (m:List (κ×Value)) (i:Nat),MA kv es m->
 (eI m s=none/\Instr.findNow d (kv s) es i=some none/\(∀v gG,MA kv (es++[{key:=kv s,val:=v,born:=gG}]) (gh m s v))/\rm m s=m)\/
 ∃j e,eI m s=some e.val/\es[j]? =some e/\e.key=kv s/\Instr.findNow d (kv s) es i=some (some (i+j,e.val))/\
  (∀v,MA kv (es.modify j fun e=>{e with key:=kv s,val:=v}) (gh m s v))/\MA kv (es.eraseIdx j) (rm m s)
 |[],[],i,_=>Or.inl ⟨rfl,rfl,fun v gG=>rfl,rfl⟩
 |[],_::_,_,h=>by simp[MA]at h
 |_::_,[],_,h=>by simp[MA]at h
 |e::es,x::m,i,h=>by
  unfold MA at h
  simp only[aL,List.cons.injEq,Prod.mk.injEq]at h
  obtain⟨⟨hk,hv⟩,hr⟩:=h
  obtain⟨r,Zg,hr2⟩:=sameNow_of_keys (K.isKey s) (show IsKey d e.key by rw[hk];exact K.isKey x.1)
  by_cases hx:x.1=s
  ·have hrt:r=true:=hr2.2 (by rw[hk,hx])
   refine Or.inr ⟨0,e,by simp[eI,hx,hv],rfl,by rw[hk,hx],?_,fun v=>?_,?_⟩
   ·unfold Instr.findNow
    rw[Zg,hrt];rfl
   ·unfold MA
    simp[gh,hx]
    exact hr
   ·unfold MA
    simp[rm,hx]
    exact hr
  ·have hrf:r=false:=by
    cases r with
    |false=>rfl
    |true=>exact absurd (K.inj _ _ ((hr2.1 rfl).trans hk)) (fun e=>hx e.symm)
   have hf:Instr.findNow d (kv s) (e::es) i=Instr.findNow d (kv s) es (i+1):=by
    conv=>lhs;unfold Instr.findNow
    rw[Zg,hrf]
   rcases KD K s es m (i+1) hr with⟨h1,h2,h3,h4⟩|⟨j,e0,h1,h2,h3,h4,h5,h6⟩
   ·refine Or.inl ⟨by simp[eI,hx,h1],by rw[hf,h2],fun v gG=>?_,by simp[rm,hx,h4]⟩
    have :=h3 v gG
    unfold MA at this ⊢
    simp[gh,hx,hk,hv]at this ⊢
    exact this
   ·refine Or.inr ⟨j+1,e0,by simp[eI,hx,h1],by simpa using h2,h3,by rw[hf,h4];simp;omega,fun v=>?_,?_⟩
    ·have :=h5 v
     unfold MA at this ⊢
     simp[gh,hx,hk,hv]at this ⊢
     exact this
    ·unfold MA at h6 ⊢
     simp[rm,hx,hk,hv]at h6 ⊢
     exact h6
variable {w0 w:World} {L:List HP} {P:Program} {b:Nat} {m:List (κ×Value)}
omit [DecidableEq κ]in
theorem Ir(h:St w0 L w):St w0 (cg kv w.heap.size []::L) (w.alloc (.map #[] 0)):=
 St.Bv #[] (St.Bv 0 (St.join (St.yl (p:=Zt kv (#[]:Array MapEntry).toList 0 []) ⟨rfl,(fun e h=>by cases h),.nil⟩ (h.alloc (.map #[] 0)))))
theorem zS(K:KeyLaw d kv)(h:St w0 (cg kv b m::L) w){w1:World}(he:Ext w w1){t k E:TypeId}(ht:P.underlying t=some (.map k E))(hk:P.underlying k=some d){z:Value}(hz:(zeroValue E).run P w1=.ok z w1)(s:κ)(ok:Bool):
 (Instr.lookup t (.map (some b)) (kv s) ok).run P w1=.ok (if ok then .tuple #[(eI m s).getD z,.bool (eI m s).isSome]else(eI m s).getD z) w1:=by
 obtain⟨es,h⟩:=h.CN
 obtain⟨gG,h⟩:=h.CN
 obtain⟨hr,h⟩:=h.split.sZ
 have dS:=h.lt
 obtain⟨_,hb⟩:=h.look
 have hb:w1.heap[b]? =some (.map es gG):=by rw[he.2 b dS];exact hb
 rcases KD K s _ m 0 hr.PA with⟨h2,h3,_,_⟩|⟨j,e,h2,h3,h4,h5,_,_⟩
 ·cases ok<;>simp[Instr.lookup,run_underlying ht,run_getObj_map hb,run_checkKey hk (K.isKey s),run_findKey hk h3,Result.andThen,h2,hz]
 ·cases ok<;>simp[Instr.lookup,run_underlying ht,run_getObj_map hb,run_checkKey hk (K.isKey s),run_findKey hk h5,Result.andThen,h2]
theorem Cc(K:KeyLaw d kv)(h:St w0 (cg kv b m::L) w){t k E:TypeId}(ht:P.underlying t=some (.map k E))(hk:P.underlying k=some d)(s:κ)(v:Value):
 ∃w',(Instr.mapUpdate t (.map (some b)) (kv s) v).run P w=.ok () w'/\St w0 (cg kv b (gh m s v)::L) w':=by
 obtain⟨es,h⟩:=h.CN
 obtain⟨gG,h⟩:=h.CN
 obtain⟨hr,h⟩:=h.split.sZ
 obtain⟨_,hb⟩:=h.look
 have up:∀(o:Obj),St w0 (bP b o::L) {w with heap:=w.heap.setIfInBounds b o}:=fun o=>
  h.upd rfl rfl rfl aj (by have :=h.lt;simp[this]) (fun k hk=>by simp[Array.getElem?_setIfInBounds,Ne.symm hk])
 rcases KD K s _ m 0 hr.PA with⟨_,h3,h4,_⟩|⟨j,e,_,h3,h4,h5,h6,_⟩
 ·refine⟨_,?_,St.Bv (es.push {key:=kv s,val:=v,born:=gG}) (St.Bv (gG+1) (St.join (St.yl (p:=Zt kv (es.push {key:=kv s,val:=v,born:=gG}).toList (gG+1) (gh m s v)) ?_ (up (.map (es.push {key:=kv s,val:=v,born:=gG}) (gG+1))))))⟩
  ·simp[Instr.mapUpdate,run_underlying ht,run_getObj_map hb,run_checkKey hk (K.isKey s),run_findKey hk h3,run_setObj_map _ hb,Result.andThen]
  ·refine⟨by simpa using h4 v gG,fun e he=>?_,?_⟩
   ·rw[Array.toList_push]at he
    rcases aN.1 he with he|he
    ·have :=hr.M7 e he;omega
    ·simp at he;subst he;exact Nat.lt_succ_self _
   ·rw[Array.toList_push,aZ,aL,List.map_nil,List.nodup_append]
    refine⟨hr.nodup,by simp,fun a ha b hb=>?_⟩
    obtain⟨e,he,rfl⟩:=ay.1 ha
    simp at hb;subst hb
    have :=hr.M7 e he;omega
 ·have hj:es[j]? =some e:=by simpa using h3
  refine⟨_,?_,St.Bv (es.modify j fun e=>{e with key:=kv s,val:=v}) (St.Bv gG (St.join (St.yl (p:=Zt kv (es.modify j fun e=>{e with key:=kv s,val:=v}).toList gG (gh m s v)) ?_ (up (.map (es.modify j fun e=>{e with key:=kv s,val:=v}) gG)))))⟩
  ·simp[Instr.mapUpdate,run_underlying ht,run_getObj_map hb,run_checkKey hk (K.isKey s),run_findKey hk h5,hj,h4,run_keyThatStays (K.isKey s),run_setObj_map _ hb,Result.andThen]
  ·have hm:((es.modify j fun e=>{e with key:=kv s,val:=v}).toList.map (·.born))=es.toList.map (·.born):=by
    rw[Array.toList_modify,List.qg]
   refine⟨by simpa using h6 v,fun e he=>?_,by rw[hm];exact hr.nodup⟩
   have hb:e.born∈es.toList.map (·.born):=by rw[<-hm];exact bO he
   obtain⟨e2,fQ,jF⟩:=ay.1 hb
   rw[<-jF];exact hr.M7 e2 fQ
omit [DecidableEq κ]in
theorem LO(h:St w0 (cg kv b m::L) w){w1:World}(he:Ext w w1){t k E ty:TypeId}(ht:P.underlying t=some (.map k E)):
 (Builtin.len_ #[t] ty #[.map (some b)]).run P w1=.ok (goInt m.length) w1:=by
 obtain⟨es,h⟩:=h.CN
 obtain⟨gG,h⟩:=h.CN
 obtain⟨hr,h⟩:=h.split.sZ
 have dS:=h.lt
 obtain⟨_,hb⟩:=h.look
 have hb:w1.heap[b]? =some (.map es gG):=by rw[he.2 b dS];exact hb
 have hl:es.size=m.length:=by have :=congrArg List.length hr.PA;simpa using this
 simp[Builtin.len_,run_underlying ht,run_getObj_map hb,hl]
end
section
variable {κ:Type} [DecidableEq κ] {kd:TypeDesc} {kv:κ->Value}
variable {P:Program} {ops:Array Oper} {d:Bool} {Q:Exit->Act->World->Prop} {n:Nat} {D:List Deferred} {w0:World} {G:Env} {L R:List HP} {l:List (Kd×Oper)} {k:Kd}
 {t:Nat} {ty T KT E:TypeId} {pos:String} {af:Array Edge} {x y u:Operand} {v z:Value} {b:Nat} {m:List (κ×Value)}
omit [DecidableEq κ]in
theorem KO.mkm(kv:κ->Value)(hk:(!d||(k== .dm||k== .write))=true)(ht:Nat.blt t n=true)(h:∀bb,KO P ops d Q n D w0 ((t,.map (some bb))::G) (cg kv bb []::L) l):
 KO P ops d Q n D w0 G L ((k,⟨some t,.makeMap T none,ty,pos,af,none⟩)::l):=
 KO.pU hk (F:=fun bb=>.map (some bb)) (N:=fun bb=>cg kv bb []::L) (fun a w ha hw=>⟨w.heap.size,w.alloc (.map #[] 0),by simp[execOp,run_makeMap],Ext.alloc w _,Ir hw⟩) ht h
theorem KO.Ey(K:KeyLaw kd kv)(s:κ)(hk:(!d||k != .pure)=true)(hx:ev G x=some (.map (some b)))(hy:ev G y=some (kv s))(hT:P.underlying T=some (.map KT E))(hK:P.underlying KT=some kd)(hz:∀w,(zeroValue E).run P w=.ok z w)(hp:bQ L (cg kv b m) R)(ht:Nat.blt t n=true)(h:KO P ops d Q n D w0 ((t,(eI m s).getD z)::G) L l):KO P ops d Q n D w0 G L ((k,⟨some t,.lookup T x y false,ty,pos,af,none⟩)::l):=
 KO.rd hk (fun a w w' ha hw e=>by
  have :=zS (P:=P) K (hw.pick hp) e hT hK (hz w') s false
  simp[execOp,ha.eval hx,ha.eval hy,this]) ht h
theorem KO.Ci(K:KeyLaw kd kv)(s:κ)(hk:(!d||k != .pure)=true)(hx:ev G x=some (.map (some b)))(hy:ev G y=some (kv s))(hT:P.underlying T=some (.map KT E))(hK:P.underlying KT=some kd)(hz:∀w,(zeroValue E).run P w=.ok z w)(hp:bQ L (cg kv b m) R)(ht:Nat.blt t n=true)(h:KO P ops d Q n D w0 ((t,.tuple #[(eI m s).getD z,.bool (eI m s).isSome])::G) L l):KO P ops d Q n D w0 G L ((k,⟨some t,.lookup T x y true,ty,pos,af,none⟩)::l):=
 KO.rd hk (fun a w w' ha hw e=>by
  have :=zS (P:=P) K (hw.pick hp) e hT hK (hz w') s true
  simp[execOp,ha.eval hx,ha.eval hy,this]) ht h
theorem KO.VN(K:KeyLaw kd kv)(s:κ)(hk:(!d||k== .write)=true)(hx:ev G x=some (.map (some b)))(hy:ev G y=some (kv s))(hu:ev G u=some v)(hT:P.underlying T=some (.map KT E))(hK:P.underlying KT=some kd)(hp:bQ L (cg kv b m) R)(h:KO P ops d Q n D w0 G (cg kv b (gh m s v)::R) l):KO P ops d Q n D w0 G L ((k,⟨none,.mapUpdate T x y u,ty,pos,af,none⟩)::l):=
 KO.EP hk (fun a w ha hw=>by
  obtain⟨w',hr,hs⟩:=Cc (P:=P) K (hw.pick hp) hT hK s v
  exact⟨w',by simp[execOp,ha.eval hx,ha.eval hy,ha.eval hu,hr],hs⟩) h
omit [DecidableEq κ]in
theorem KO.aeF(hk:(!d||k != .pure)=true)(hx:ev G x=some (.map (some b)))(hT:P.underlying T=some (.map KT E))(hp:bQ L (cg kv b m) R)(ht:Nat.blt t n=true)(h:KO P ops d Q n D w0 ((t,.int .i64 (m.length:Nat))::G) L l):
 KO P ops d Q n D w0 G L ((k,⟨some t,.call ⟨.builtin .len,#[x],#[T]⟩,ty,pos,af,none⟩)::l):=
 KO.rd hk (fun a w w' ha hw e=>by
  have :=LO (P:=P) (ty:=ty) (hw.pick hp) e hT
  simp[execOp,resolve,invoke,builtin,ha.eval hx,this,goInt]) ht h
end
def strip (e:It):It:={e with line:=0}
def ajr (t:It) (l:List It):List It:=l.filter (fun e=>decide (t.m.pri<=e.m.pri))++t::l.filter (fun e=> !decide (t.m.pri<=e.m.pri))
def agt (v:Int):List It->List It
 |[]=>[]
 |e::l=>if f_ e=true then {e with iS:=v}::l else e::agt v l
def agF:List It->List It
 |[]=>[]
 |e::l=>if f_ e=true then l else e::agF l
def aiE (u:Int) (back:Bool) (l:List It):List It:=(l.filter fun e=> !p9 u back e).map (nt u)
def ml (e:It):Ms×Int:=(e.m,e.line)
def Ord (x y:It):Prop:=x.m.id≠y.m.id/\(y.m.pri<x.m.pri\/(x.m.pri=y.m.pri/\x.m.id<y.m.id))
structure QIn (n:Int) (q:Qu):Prop where
 ord:q.l.Pairwise Ord
 ids:∀e∈q.l,0<=e.m.id/\e.m.id<n
 Io:∀e∈q.l,0<=e.m.pri/\e.m.pri<=9
 lines:∀e∈q.l,0<=e.line/\e.line<q.next
 len:q.l.length<=20
 next:0<=q.next/\q.next<=n
theorem uk{p:It->Bool}{l:List It}(h:l.Pairwise fun x y=>p y=true->p x=true):l.takeWhile p=l.filter p/\l.dropWhile p=l.filter fun e=> !p e:=by
 induction l with
 |nil=>exact⟨rfl,rfl⟩
 |cons a l ih=>
  obtain⟨h1,h2⟩:=List.pairwise_cons.1 h
  obtain⟨i1,i2⟩:=ih h2
  by_cases ha:p a=true
  ·simp[ha,i1,i2]
  ·have fw:∀e∈l,p e=false:=fun e he=>by
    by_cases hp:p e=true
    ·exact absurd (h1 e he hp) ha
    ·simpa using hp
   have e1:l.filter p=[]:=List.filter_eq_nil_iff.2 fun e he=>by simp[fw e he]
   have e2:(l.filter fun e=> !p e)=l:=aT.2 fun e he=>by simp[fw e he]
   simp[ha,e1,e2]
theorem qU{α:Type}(p:α->Bool):∀l:List α,l.take (l.takeWhile p).length=l.takeWhile p/\l.drop (l.takeWhile p).length=l.dropWhile p
 |[]=>⟨rfl,rfl⟩
 |a::l=>by
  by_cases h:p a=true
  ·simp[h,qU p l]
  ·simp[h]
section
variable {n:Int} {q:Qu} {m:Ms} {u:Int}
end
def aly (v:Int) (l:List It):Option Nat->List It
 |none=>l
 |some k=>l.set k {IF l k with iS:=v}
def N4 (u:Int) (l:List It):List It:=l.filter fun e=> !decide (e.put=u)
structure amh (u n:Int) (a b:Qu):Prop where
 ha:QIn n a
 hb:QIn n b
 rel:b.l.map strip=N4 u (a.l.map strip)
 iS:∀e∈a.l,e.iS≠u
section
variable {u n:Int} {a b:Qu}
end
structure aiX (l:List It) (g:List (Int×Go.Value)) (ls:List Int):Prop where
 ord:l.Pairwise Ord
 ids:∀e∈l,0<=e.m.id/\e.m.id<1000
 Io:∀e∈l,0<=e.m.pri/\e.m.pri<=9
 len:ls.length=10
 fresh:∀e∈l,f_ e=true->eI g e.m.id=none/\ls.getD e.m.pri.toNat 0<=e.m.id
open Go Go.RowKit
structure Ri where
 m:Ms
 put:Int
 iS:Int
instance:Inhabited Ri:=⟨⟨default,0,0⟩⟩
def riC (x:Ri):List Value:=[.int .i64 x.m.id,.int .i64 x.m.pri,.string x.m.body,.string x.m.queue,.int .i64 x.m.cq,.int .i64 x.put,.int .i64 x.iS]
def Z_ (id:Int) (e:Ri):Bool:=decide (e.m.id=id)
def aad (l:List Ri) (id:Int):Int:=qC (Z_ id) l
def aer (u:Int):Int:=if u<0 then -1 else u
def ZY (l:List Ri) (m:Ms) (u:Int):List Ri:=l++[⟨m,aer u,-1⟩]
def ZX (l:List Ri) (m:Ms):Int:=if bT m=false then 1 else if 0<=aad l m.id then 9 else if 20<=l.length then 12 else 0
def ai8 (l:List Ri) (m:Ms) (u:Int):List Ri:=if ZX l m=0 then ZY l m u else l
def NV (e:Ri):Bool:=decide (e.put<0)&&decide (e.iS<0)
def ZZ (l:List Ri) (p:Nat):List Nat:=(List.range l.length).filter fun i=>decide ((l.getD i default).m.pri=(p:Int))
def UN (l:List Ri):Nat->List Nat
 |0=>[]
 |n+1=>ZZ l n++UN l n
def VT (l:List Ri):List Nat:=UN l 10
def UQ (l:List Ri) (i:Nat):Ri:=l.getD i default
def NT (l:List Ri):Option Nat:=(VT l).find? fun i=>NV (UQ l i)
def ai9 (l:List Ri) (u:Int):List Ri:=match NT l with|none=>l|some i=>if 0<=u then l.set i {UQ l i with iS:=u}else l.eraseIdx i
def ahg (l:List Ri):Ms:=match NT l with|none=>oh|some i=>(UQ l i).m
def ahh (l:List Ri):Int:=match NT l with|none=>8|some _=>0
def Ih (l:List Ri) (id:Int):Option Nat:=l.findIdx? (Z_ id)
def ahe (l:List Ri) (id:Int):List Ri:=match Ih l id with|none=>l|some i=>l.eraseIdx i
def aeo (l:List Ri) (id:Int):Ms:=match Ih l id with|none=>oh|some i=>(UQ l i).m
def aep (l:List Ri) (id:Int):Int:=match Ih l id with|none=>7|some _=>0
def aae (u:Int) (back:Bool) (x:Ri):Bool:=(decide (x.put=u)&&back)||(decide (x.iS=u)&& !back)
def aac (u:Int) (x:Ri):Ri:={x with put:=if x.put=u then -1 else x.put,iS:=if x.iS=u then -1 else x.iS}
def ahi (l:List Ri) (u:Int) (back:Bool):List Ri:=if u<0 then l else(l.filter fun e=> !aae u back e).map (aac u)
def aen (l:List Ri):List Ms:=((VT l).filter fun i=>NV (UQ l i)).map fun i=>(UQ l i).m
def ahf (l:List Ri):List Ms:=((VT l).filter fun i=>decide ((UQ l i).put<0)).map fun i=>(UQ l i).m
def niC (i:Nat):List Value:=[.int .i64 (i:Nat)]
def toRi (e:It):Ri:=⟨e.m,e.put,e.iS⟩
def GV (l:List Ri):Nat->List Ri
 |0=>[]
 |n+1=>l.filter (fun e=>decide (e.m.pri=(n:Int)))++GV l n
def arr (l:List Ri):List Ri:=GV l 10
section
variable {α:Type} {key:α->Int} {xs:List α}
end
def QM (x y:It):Prop:=y.m.pri<x.m.pri\/(x.m.pri=y.m.pri/\x.line<y.line)
structure ami (n:Int) (q:Qu) (l:List Ri):Prop where
 rel:q.l.map toRi=arr l
 ord:q.l.Pairwise QM
 lines:∀e∈q.l,0<=e.line/\e.line<q.next
 Io:∀e∈l,0<=e.m.pri/\e.m.pri<=9
 ids:(l.map (·.m.id)).Nodup
 len:(l.length:Nat)<=n
 next:0<=q.next/\q.next<=n
section
variable {n:Int} {q:Qu} {l:List Ri} {m:Ms} {u:Int}
end
end WB
