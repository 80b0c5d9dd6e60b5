import Derived.Great.BuildSlice
import Derived.Test.YtjhogocabcdjbabGreatDoorShelf
import Derived.Shelf.Strings.SlTrimAscii
import Derived.LaidEql
import Derived.Stop.Asserts
import Derived.RowKitTokens
import Derived.WideLaws
import Derived.Maps.OwnOps
import Derived.Test.YtjhogocabcdjbabGreatDoorB0
set_option linter.unusedSimpArgs false
set_option linter.unusedVariables false
set_option maxRecDepth 100000
set_option maxHeartbeats 8000000
namespace WB
open Go Go.RowKit
section
variable {P:Program} {ops:Array Oper} {d:Bool} {Q:Exit->Act->World->Prop} {n:Nat} {D:List Deferred} {w0:World} {G:Env} {L R N:List HP} {l:List (Kd×Oper)} {k:Kd}
 {t:Nat} {op:Op} {ty T T' E:TypeId} {pos:String} {af:Array Edge} {x y z:Operand} {v u:Value} {i j:Nat} {a c r:Int} {α:Type} {cf:α->List Value} {sz:Nat} {xs ys:List α} {e:α}
theorem KO.wv(hk:(!d||k== .write)=true)(hr:∀a w,cD n D G a->St w0 L w->∃w',(execOp a.eval ⟨some t,op,ty,pos,af,none⟩).run P w=.ok (.value v) w'/\St w0 N w')(ht:Nat.blt t n=true)(h:KO P ops d Q n D w0 ((t,v)::G) N l):KO P ops d Q n D w0 G L ((k,⟨some t,op,ty,pos,af,none⟩)::l):=fun a w ha hw=>by
 obtain⟨w',hr,hs⟩:=hr a w ha hw;refine mO hk rfl ?_;unfold Oper.wp;rw[hr];exact h _ w' (iI ha _ ht) hs
theorem KO.wn(hk:(!d||k== .write)=true)(hr:∀a w,cD n D G a->St w0 L w->∃w' u,(execOp a.eval ⟨none,op,ty,pos,af,none⟩).run P w=.ok (.value u) w'/\St w0 N w')(h:KO P ops d Q n D w0 G N l):KO P ops d Q n D w0 G L ((k,⟨none,op,ty,pos,af,none⟩)::l):=fun a w ha hw=>by
 obtain⟨w',u,hr,hs⟩:=hr a w ha hw;refine mO hk rfl ?_;unfold Oper.wp;rw[hr];exact h _ w' ha hs
theorem KO.wvE(hk:(!d||k== .write)=true){F:Value->List HP}(hr:∀a w,cD n D G a->St w0 L w->∃v w',(execOp a.eval ⟨some t,op,ty,pos,af,none⟩).run P w=.ok (.value v) w'/\St w0 (F v) w')(ht:Nat.blt t n=true)(h:∀v,KO P ops d Q n D w0 ((t,v)::G) (F v) l):KO P ops d Q n D w0 G L ((k,⟨some t,op,ty,pos,af,none⟩)::l):=fun a w ha hw=>by
 obtain⟨v,w',hr,hs⟩:=hr a w ha hw;refine mO hk rfl ?_;unfold Oper.wp;rw[hr];exact h v _ w' (iI ha _ ht) hs
theorem yw{w:World}{bs:Option Addr}{len cap lo hi mx:Nat}{l h m:Option Value}(hT:P.underlying T=some (.slice E))(hs:(Go.sizeOf E).run P w=.ok sz w)(hm:match m with|none=>mx=cap|some v=>v=.int .i64 (mx:Nat))(hh:match h with|none=>hi=len/\m=none|some v=>v=.int .i64 (hi:Nat))(hl:match l with|none=>lo=0|some v=>v=.int .i64 (lo:Nat))(h1:lo<=hi)(h2:hi<=mx)(h3:mx<=cap):
 (Instr.sliceAt T (.slice bs len cap) l h m).run P w=.ok (.slice (if mx=lo then bs else bs.map (·.add (lo *sz))) (hi-lo) (mx-lo)) w:=by
 have e1:∀(i y:Nat) (code:BoundsCode),i<=y->(Instr.sliceBound (.int .i64 (i:Nat)) y code).run P w=.ok i w:=fun i y code h=>by
  simp[Instr.sliceBound,asIntOf,h]
 cases m with
 |none=>
  cases h with
  |none=>
   obtain⟨rfl,_⟩:=hh;cases l with
   |none=>simp only at hm hl;subst hm;subst hl;simp[Instr.sliceAt,run_underlying hT,Instr.slice,Instr.sliceBounds,hs]
   |some v=>simp only at hm hl;subst hm;subst hl;simp[Instr.sliceAt,run_underlying hT,Instr.slice,Instr.sliceBounds,hs,e1 _ _ _ h1]
  |some v=>
   simp only at hh;subst hh;cases l with
   |none=>simp only at hm hl;subst hm;subst hl;simp[Instr.sliceAt,run_underlying hT,Instr.slice,Instr.sliceBounds,hs,e1 _ _ _ h2]
   |some v=>simp only at hm hl;subst hm;subst hl;simp[Instr.sliceAt,run_underlying hT,Instr.slice,Instr.sliceBounds,hs,e1 _ _ _ h1,e1 _ _ _ h2]
 |some vm=>
  simp only at hm;subst hm;cases h with
  |none=>simp at hh
  |some v=>
   simp only at hh;subst hh;cases l with
   |none=>simp only at hl;subst hl;simp[Instr.sliceAt,run_underlying hT,Instr.slice,Instr.sliceBounds,hs,e1 _ _ _ h2,e1 _ _ _ h3]
   |some v=>simp only at hl;subst hl;simp[Instr.sliceAt,run_underlying hT,Instr.slice,Instr.sliceBounds,hs,e1 _ _ _ h1,e1 _ _ _ h2,e1 _ _ _ h3]
def cutAt (g:Nat) (lo sz mx:Nat):Addr:=⟨g,if mx=lo then 0 else lo *sz,none⟩
theorem G1(g lo sz mx:Nat):(if mx=lo then(some ⟨g,0,none⟩:Option Addr)else(some (⟨g,0,none⟩:Addr)).map (·.add (lo *sz)))=some (cutAt g lo sz mx):=by
 unfold cutAt;by_cases h:mx=lo
 ·simp[h]
 ·simp[h,Addr.add_lit]
theorem KO.vD{bs:Option Addr}{len cap hi:Nat}(hx:ev G x=some (.slice bs len cap))(hy:ev G y=some (.int .i64 c))(hT:P.underlying T=some (.slice E))(hs:∀w,(Go.sizeOf E).run P w=.ok sz w)(hc:c=(hi:Int))(h2:hi<=cap)(ht:Nat.blt t n=true)(h:KO P ops d Q n D w0 ((t,.slice bs hi cap)::G) L l):KO P ops d Q n D w0 G L ((k,⟨some t,.slice T x none (some y) none,ty,pos,af,none⟩)::l):=
 KO.val (fun a w ha=>by
  subst hc;have :=yw (P:=P) (w:=w) (bs:=bs) (len:=len) (cap:=cap) (lo:=0) (hi:=hi) (mx:=cap) (l:=none) (h:=some (.int .i64 (hi:Nat))) (m:=none) hT (hs w) rfl rfl rfl (aH _) h2 (aP _);have e:(if cap=0 then bs else bs.map (·.add (0*sz)))=bs:=by
   split
   ·rfl
   ·cases bs<;>simp[Addr.add_zero']
  simp only[e,Nat.sub_zero]at this
  simp[execOp,ha.eval hx,ha.eval hy,this]) ht h
theorem KO.cutFrom{g len cap lo:Nat}(hx:ev G x=some (.slice (some ⟨g,0,none⟩) len cap))(hy:ev G y=some (.int .i64 c))(hT:P.underlying T=some (.slice E))(hs:∀w,(Go.sizeOf E).run P w=.ok sz w)(hc:c=(lo:Int))(h1:lo<=len)(h2:len<=cap)(ht:Nat.blt t n=true)(h:KO P ops d Q n D w0 ((t,.slice (some (cutAt g lo sz cap)) (len-lo) (cap-lo))::G) L l):KO P ops d Q n D w0 G L ((k,⟨some t,.slice T x (some y) none none,ty,pos,af,none⟩)::l):=
 KO.val (fun a w ha=>by
  subst hc;have :=yw (P:=P) (w:=w) (bs:=some ⟨g,0,none⟩) (len:=len) (cap:=cap) (lo:=lo) (hi:=len) (mx:=cap) (l:=some (.int .i64 (lo:Nat))) (h:=none) (m:=none) hT (hs w) rfl ⟨rfl,rfl⟩ rfl h1 h2 (aP _);rw[G1]at this
  simp[execOp,ha.eval hx,ha.eval hy,this]) ht h
theorem KO.PX{g len cap lo hi:Nat}{b:Int}(hx:ev G x=some (.slice (some ⟨g,0,none⟩) len cap))(hy:ev G y=some (.int .i64 c))(hz:ev G z=some (.int .i64 b))(hT:P.underlying T=some (.slice E))(hs:∀w,(Go.sizeOf E).run P w=.ok sz w)(hc:c=(lo:Int))(hb:b=(hi:Int))(h1:lo<=hi)(h2:hi<=cap)(ht:Nat.blt t n=true)(h:KO P ops d Q n D w0 ((t,.slice (some (cutAt g lo sz cap)) (hi-lo) (cap-lo))::G) L l):KO P ops d Q n D w0 G L ((k,⟨some t,.slice T x (some y) (some z) none,ty,pos,af,none⟩)::l):=
 KO.val (fun a w ha=>by
  subst hc;subst hb;have :=yw (P:=P) (w:=w) (bs:=some ⟨g,0,none⟩) (len:=len) (cap:=cap) (lo:=lo) (hi:=hi) (mx:=cap) (l:=some (.int .i64 (lo:Nat))) (h:=some (.int .i64 (hi:Nat))) (m:=none) hT (hs w) rfl rfl rfl h1 h2 (aP _);rw[G1]at this
  simp[execOp,ha.eval hx,ha.eval hy,ha.eval hz,this]) ht h
theorem KO.PY{u:Operand}{bs:Option Addr}{len cap lo hi mx:Nat}{b m:Int}(hx:ev G x=some (.slice bs len cap))(hy:ev G y=some (.int .i64 c))(hz:ev G z=some (.int .i64 b))(hu:ev G u=some (.int .i64 m))(hT:P.underlying T=some (.slice E))(hs:∀w,(Go.sizeOf E).run P w=.ok sz w)(hc:c=(lo:Int))(hb:b=(hi:Int))(hm:m=(mx:Int))(h1:lo<=hi)(h2:hi<=mx)(h3:mx<=cap)(ht:Nat.blt t n=true)(h:∀q,KO P ops d Q n D w0 ((t,.slice q (hi-lo) (mx-lo))::G) L l):KO P ops d Q n D w0 G L ((k,⟨some t,.slice T x (some y) (some z) (some u),ty,pos,af,none⟩)::l):=
 KO.val (v:=.slice (if mx=lo then bs else bs.map (·.add (lo *sz))) (hi-lo) (mx-lo)) (fun a w ha=>by
  subst hc;subst hb;subst hm;have :=yw (P:=P) (w:=w) (bs:=bs) (len:=len) (cap:=cap) (lo:=lo) (hi:=hi) (mx:=mx) (l:=some (.int .i64 (lo:Nat))) (h:=some (.int .i64 (hi:Nat))) (m:=some (.int .i64 (mx:Nat))) hT (hs w) rfl rfl rfl h1 h2 h3
  simp[execOp,ha.eval hx,ha.eval hy,ha.eval hz,ha.eval hu,this]) ht (h _)
end
theorem Ar{α:Type}{cf:α->List Value}(h1:∀e,∀u∈cf e,u.oneCell'=true)(xs:List α):∀u∈xs.flatMap cf,u.oneCell'=true:=fun u hu=>by
 obtain⟨e,_,hu⟩:=List.mem_flatMap.1 hu;exact h1 e u hu
section
variable {P:Program} {w0 w:World} {L:List HP} {E T ty:TypeId} {α:Type} {cf:α->List Value} {sz g cap n:Nat} {xs:List α}
theorem jq(h:St w0 (SL E sz cf (.slice (some ⟨g,0,none⟩) n cap) xs::L) w):n=xs.length/\n<=cap/\cap<=maxLen/\∃cur:Array Value,cur.size=cap *sz/\cur.toList.take (xs.length *sz)=xs.flatMap cf/\St w0 (bA g (.cells cur E (0,0))::L) w:=by
 rcases h.cC with⟨h1,_⟩|⟨g',nM,cur,hv,h1,h2,h3,h4,_,h5⟩
 ·simp at h1
 ·simp only[Value.slice.injEq,az,Addr.mk.injEq,and_true,true_and]at hv;obtain⟨rfl,rfl,rfl⟩:=hv;exact⟨rfl,h1,h2,cur,h3,h4,h5⟩
theorem Ig{cur:Array Value}(h:St w0 (bA g (.cells cur E (0,0))::L) w)(hn:xs.length<=cap)(hc:cap<=maxLen)(hs:cur.size=cap *sz)(ht:cur.toList.take (xs.length *sz)=xs.flatMap cf):
 St w0 (SL E sz cf (.slice (some ⟨g,0,none⟩) xs.length cap) xs::L) w:=h.nz hn hc hs ht
theorem Ui(dM:∀e,(cf e).length=sz)(h1:∀e,∀u∈cf e,u.oneCell'=true){i:TypeInfo}(hT:P.underlying T=some (.slice E))(hi:P.info? E=some i)(aff:i.size=sz){n j k c o:Nat}(h:St w0 (SL E sz cf (.slice (some ⟨g,0,none⟩) n cap) xs::L) w)(hk:k<=j)(hj:j<=xs.length)(ho:xs.length-j=0\/o=j *sz):
 ∃w',(Builtin.append_ #[T,T] ty #[.slice (some ⟨g,0,none⟩) k cap,.slice (some ⟨g,o,none⟩) (xs.length-j) c]).run P w=.ok (.slice (some ⟨g,0,none⟩) (k+(xs.length-j)) cap) w'/\
  St w0 (SL E sz cf (.slice (some ⟨g,0,none⟩) xs.length cap) (xs.take k++xs.drop j++xs.drop (k+(xs.length-j)))::L) w':=by
 obtain⟨rfl,Ag,yO,cur,kE,fH,hb⟩:=jq h;subst aff;have MJ:∀l:List α,(l.flatMap cf).length=l.length *i.size:=lJ cf i.size dM;have qT:cur.toList.length=cap *i.size:=by simpa using kE
 have eM:∀(q:Nat) (u:Value),(xs.flatMap cf)[q]? =some u->cur[q]? =some u:=fun q u hq=>by
  rw[<-fH,List.getElem?_take]at hq;split at hq
  ·simpa using hq
  ·simp at hq
 have rv:∀(q:Nat) (u:Value),((xs.drop j).flatMap cf)[q]? =some u->w.cell? ((⟨g,o,none⟩:Addr).add q)=some u:=fun q u hq=>by
  have dN:=(aw.1 hq).1;rw[MJ,bf]at dN;rcases ho with ho|ho
  ·rw[ho,Nat.zero_mul]at dN;omega
  ·rw[<-mX cf i.size dM xs j hj,List.getElem?_drop]at hq;rw[Addr.add_lit,World.cell?,hb.look.2,ho];exact eM _ u hq
 have hle:(k+(xs.length-j))*i.size<=cap *i.size:=Nat.mul_le_mul_right _ ae;have hr:=run_append_room (P:=P) w T ty E i hT hi g k cap cur hb.look.2 ⟨g,o,none⟩ (xs.length-j) c ((xs.drop j).flatMap cf) (by rw[MJ,bf]) rv (Ar h1 _) ae
  (by rw[MJ,bf,<-Nat.add_mul,kE];exact hle)
 refine⟨_,hr,?_⟩;have e1:(xs.take k++xs.drop j++xs.drop (k+(xs.length-j))).length=xs.length:=by simp;omega
 have eS:=hb.setRow (c':=(cur.toList.take (k *i.size)++(xs.drop j).flatMap cf++cur.toList.drop (k *i.size+((xs.drop j).flatMap cf).length)).toArray);have :=Ig (xs:=xs.take k++xs.drop j++xs.drop (k+(xs.length-j))) (cf:=cf) (sz:=i.size) (cap:=cap) eS ae yO ?_ ?_
 ·rw[e1]at this;exact this
 ·simp only[List.size_toArray,aW,bu,bf,MJ,qT,Nat.min_def];have :=Nat.mul_le_mul_right i.size (show k<=cap by omega);rw[if_pos this,<-Nat.add_mul];omega
 ·rw[e1];simp only[List.flatMap_append,MJ,bf];have NF:cur.toList.take (k *i.size)=(xs.take k).flatMap cf:=by
   rw[<-mW cf i.size dM xs k ae,<-fH,List.take_take,Nat.min_eq_left (Nat.mul_le_mul_right _ ae)]
  rw[NF,<-mX cf i.size dM xs (k+(xs.length-j)) ae,<-fH];have hlA:((xs.take k).flatMap cf++(xs.drop j).flatMap cf).length=(k+(xs.length-j))*i.size:=by
   rw[aW,MJ,MJ,bu,bf,Nat.min_eq_left ae,Nat.add_mul]
  rw[List.take_append,hlA,List.take_of_length_le (by rw[hlA];exact Nat.mul_le_mul_right _ ae)];congr 1
  rw[<-Nat.add_mul,List.take_drop,show(k+(xs.length-j))*i.size+(xs.length *i.size-(k+(xs.length-j))*i.size)=xs.length *i.size by
   have :=Nat.mul_le_mul_right i.size (show k+(xs.length-j)<=xs.length by omega);omega]
theorem QM(dM:∀e,(cf e).length=sz){i:TypeInfo}{z:Value}(hT:P.underlying T=some (.slice E))(hi:P.info? E=some i)(hz:i.zero=some z)(qb:∀u∈z.cells.toList,u.oneCell'=true)(SF:z.cells.size=sz){n m c o q:Nat}(h:St w0 (SL E sz cf (.slice (some ⟨g,0,none⟩) n cap) xs::L) w)(hq:q+m<=xs.length)(ho:m=0\/o=q *sz):
 ∃w' u,(Builtin.clear_ #[T] ty #[.slice (some ⟨g,o,none⟩) m c]).run P w=.ok u w'/\St w0 (SL E sz cf (.slice (some ⟨g,0,none⟩) q cap) (xs.take q)::L) w':=by
 obtain⟨rfl,Ag,yO,cur,kE,fH,hb⟩:=jq h;have Ik:(xs.take q).length=q:=by simp;omega
 have hqt:cur.toList.take (q *sz)=(xs.take q).flatMap cf:=by
  rw[<-mW cf sz dM xs q ae,<-fH,List.take_take,Nat.min_eq_left (Nat.mul_le_mul_right _ ae)]
 by_cases hm:m=0
 ·subst hm;refine⟨w,.tuple #[],by simp[Builtin.clear_,run_underlying hT],?_⟩;have :=Ig (xs:=xs.take q) (cf:=cf) (sz:=sz) (cap:=cap) hb ae yO kE (by rw[Ik];exact hqt);rw[Ik]at this;exact this
 ·have ho:=ho.resolve_left hm;subst ho;have Jc:(Builtin.zeroCells z.cells m).toList.length=m *sz:=by simp[size_zeroCells,SF]
  have ae4:∀u∈(Builtin.zeroCells z.cells m).toList,u.oneCell'=true:=fun u hu=>by
   simp only[Builtin.zeroCells,Array.toList_map,aB]at hu;obtain⟨j,hj,rfl⟩:=hu;have hp:0<z.cells.size:=by
    rcases Nat.eq_zero_or_pos z.cells.size with h0|h0
    ·simp[h0]at hj
    ·exact h0
   have :j%z.cells.size<z.cells.size:=Nat.mod_lt _ hp;rw[getElem!_pos z.cells _ this];exact qb _ (Array.mem_toList_iff.2 (Array.getElem_mem this))
  have o9:q *sz+0+(Builtin.zeroCells z.cells m).toList.length<=cur.size:=by
   rw[Jc,kE,Nat.add_zero,<-Nat.add_mul];exact Nat.mul_le_mul_right _ ae
  have gP:=run_storeCells_at P g (q *sz) E (Builtin.zeroCells z.cells m).toList 0 cur w hb.look.2 o9 ae4;simp only[Nat.add_zero]at gP;have sr:∃m',m=m'+1:=⟨m-1,by omega⟩;obtain⟨m',rfl⟩:=sr;refine⟨w.setRow g (cur.toList.take (q *sz)++(Builtin.zeroCells z.cells (m'+1)).toList++cur.toList.drop (q *sz+(Builtin.zeroCells z.cells (m'+1)).toList.length)).toArray,.tuple #[],by simp[Builtin.clear_,run_underlying hT,zeroValue,typeInfo,hi,hz,gP],?_⟩;have :=Ig (xs:=xs.take q) (cf:=cf) (sz:=sz) (cap:=cap) (hb.setRow (c':=(cur.toList.take (q *sz)++(Builtin.zeroCells z.cells (m'+1)).toList++cur.toList.drop (q *sz+(Builtin.zeroCells z.cells (m'+1)).toList.length)).toArray)) ae yO ?_ ?_
  ·rw[Ik]at this;exact this
  ·have qT:cur.toList.length=cap *sz:=by simpa using kE
   simp only[List.size_toArray,aW,bu,bf,qT,Jc,Nat.min_def];have :=Nat.mul_le_mul_right sz (show q<=cap by omega);have h3:=Nat.mul_le_mul_right sz (show q+(m'+1)<=cap by omega);rw[Nat.add_mul]at h3;rw[if_pos this];omega
  ·rw[Ik,aR,List.take_append_of_le_length]
   ·rw[List.take_take,Nat.min_self];exact hqt
   ·have qT:cur.toList.length=cap *sz:=by simpa using kE
    rw[bu,qT,Nat.min_eq_left (Nat.mul_le_mul_right _ ae)];exact aP _
end
theorem St.Ks{w0 w:World}{A B:HP}{R R':List HP}(h:St w0 (A::R) w)(hq:bB R B R'):St w0 (A::B::R') w:=by
 have :=h.pick (.tail hq);exact this.pick (.tail .head)
theorem St.U0{w0 w:World}{A B:HP}{R:List HP}(h:St w0 (A::B::R) w):St w0 (A::R) w:=(h.pick (.tail .head)).drop
section
variable {P:Program} {ops:Array Oper} {d:Bool} {Q:Exit->Act->World->Prop} {n:Nat} {D:List Deferred} {w0:World} {G:Env} {L R R' N:List HP} {l:List (Kd×Oper)} {k:Kd}
 {t:Nat} {op:Op} {ty T T' E E':TypeId} {pos:String} {af:Array Edge} {x y:Operand} {v u z:Value} {i j:Nat} {a c r:Int} {α:Type} {cf:α->List Value} {sz fk:Nat} {xs ys:List α} {e e':α}
theorem KO.bs(hk:(!d||(k== .ef||k== .write))=true){len:Nat}{parts:Array (Nat×Operand)}(os:List Operand){vs cs:List Value}(hp:parts.toList=(os.zipIdx 0).map fun x=>(x.2,x.1))(hv:Li G os=some vs)(hT:P.underlying T=some (.slice E))(hi:(P.info? E).map (fun i=>(i.zero,i.size,i.bytes))=some (some z,sz,fk))(dM:vs.all (fun v=>v.cells.size==sz)=true)(hlen:vs.length=len)(hs:¬len *sz>2^24)(Jh:¬len *sz=0)(kE:(vs.flatMap fun v=>v.cells.toList)=cs)(ht:Nat.blt t n=true)(h:∀bb,KO P ops d Q n D w0 ((t,.slice (some ⟨bb,0,none⟩) len len)::G) (bA bb (.cells cs.toArray E (0,0))::L) l):KO P ops d Q n D w0 G L ((k,⟨some t,.buildSlice T len parts,ty,pos,af,none⟩)::l):=by
 obtain⟨i0,Q8,yH,qb,_⟩:=info_parts hi;refine KO.rZ hk (F:=fun bb=>.slice (some ⟨bb,0,none⟩) len len) (N:=fun bb=>bA bb (.cells cs.toArray E (0,0))::L) (fun a w ha hw=>⟨w.heap.size,w.alloc (.cells cs.toArray E),?_,Ext.alloc w _,hw.alloc _⟩) ht h;have Wm:(parts.map fun(i,x)=>(i,a.eval x)).toList=(vs.zipIdx 0).map fun x=>(x.2,x.1):=by
  have key:∀(os:List Operand) (vs:List Value) (q:Nat),os.map (ev G)=vs.map some->((os.zipIdx q).map fun x=>(x.2,x.1)).map (fun(p:Nat×Operand)=>(p.1,a.eval p.2))=(vs.zipIdx q).map fun x=>(x.2,x.1):=by
   intro os
   induction os with
   |nil=>intro vs q h;cases vs with|nil=>rfl|cons _ _=>simp at h
   |cons o os ih=>intro vs q h;cases vs with
    |nil=>simp at h
    |cons v vs=>
     simp only[aJ,List.cons.injEq]at h;simp only[List.zipIdx_cons,aJ,ha.eval h.1];rw[ih vs (q+1) h.2]
  rw[Array.toList_map,hp];exact key os vs 0 (qk hv)
 have hsp:0<sz:=Nat.pos_of_ne_zero fun e=>Jh (by rw[e,Nat.mul_zero])
 have hf:=Great.fill_whole hsp vs ((Array.range (len *sz)).map (z.cells[· %z.cells.size]!)) (fun v hv=>by simpa using aL.1 dM v hv) (by simp[hlen]);rw[<-qb]at hf hs Jh;have hr:=run_buildSlice (P:=P) w T E len (parts.map fun(i,x)=>(i,a.eval x)) _ i0 z hT Q8 yH hs Jh (by rw[Wm];exact hf);simp only[kE]at hr;simp only[execOp,hr,Sem.run_bind,Sem.run_pure,Result.andThen_ok]
theorem KO.app(hk:(!d||k== .write)=true){bv cp:Nat}{us:List Value}(hx:ev G x=some v)(hy:ev G y=some (.slice (some ⟨bv,0,none⟩) 1 cp))(hp:bB L (SL E sz cf v xs) R)(hq:bB R (bA bv (.cells us.toArray E' (0,0))) R')(hT:P.underlying T=some (.slice E))(hi:(P.info? E).map (fun i=>(i.zero,i.size,i.bytes))=some (some z,sz,fk))(SF:z.cells.size=sz)(e:α)(he:cf e=us)(Je:us.length=sz)(h1:us.all Value.oneCell'=true)(hb:xs.length<1000000000)(hby:fk<=10000)(ht:Nat.blt t n=true)(h:∀v',KO P ops d Q n D w0 ((t,v')::G) (SL E sz cf v' (xs++[e])::R') l):KO P ops d Q n D w0 G L ((k,⟨some t,.call ⟨.builtin .append,#[x,y],#[T,T]⟩,ty,pos,af,none⟩)::l):=by
 obtain⟨i0,Q8,yH,qb,BF⟩:=info_parts hi;refine KO.wvE hk (F:=fun v'=>SL E sz cf v' (xs++[e])::R') (fun a w ha hw=>?_) ht h;have hs:=hw.pick hp;have Jp:cz w ⟨bv,0,none⟩ us:=by
  have :=hs.drop.pick hq;exact this.fj fun j c hj=>by simpa using hj
 have UQ:(xs.length+1)*fk<=140737488355328:=by
  have :=Nat.mul_le_mul (show xs.length+1<=1000000000 by omega) hby;omega
 obtain⟨v',w',hr,gP⟩:=sf (P:=P) T ty E i0 z sz fk hT Q8 yH qb BF SF hs ⟨bv,0,none⟩ 1 cp us (by rw[Je,Nat.one_mul]) Jp (fun u hu=>aL.1 h1 u hu) Vi UQ;refine⟨v',w',mH x y T T rfl v _ (ha.eval hx) (ha.eval hy) hr,?_⟩;have iW:=(gP.Ks hq).U0
 show St w0 (lE E sz v' (xs++[e]).length ((xs++[e]).flatMap cf)::R') w'
 rw[show(xs++[e]).length=xs.length+1 by simp,show(xs++[e]).flatMap cf=xs.flatMap cf++us by simp[he]];exact iW
theorem KO.move(hk:(!d||k== .write)=true){g n' cap kk c:Nat}(hx:ev G x=some (.slice (some ⟨g,0,none⟩) kk cap))(hy:ev G y=some (.slice (some (cutAt g j sz cap)) (n'-j) c))(hp:bB L (SL E sz cf (.slice (some ⟨g,0,none⟩) n' cap) xs) R)(hn:n'=xs.length)(Ag:n'<=cap)(hT:P.underlying T=some (.slice E))(hi:(P.info? E).map (fun i=>(i.zero,i.size,i.bytes))=some (some z,sz,fk))(dM:∀e,(cf e).length=sz)(h1:∀e,(cf e).all Value.oneCell'=true)(hkj:kk<=j)(hj:j<=xs.length)(ht:Nat.blt t n=true)(h:KO P ops d Q n D w0 ((t,.slice (some ⟨g,0,none⟩) (kk+(n'-j)) cap)::G) (SL E sz cf (.slice (some ⟨g,0,none⟩) n' cap) (xs.take kk++xs.drop j++xs.drop (kk+(n'-j)))::R) l):
 KO P ops d Q n D w0 G L ((k,⟨some t,.call ⟨.builtin .append,#[x,y],#[T,T]⟩,ty,pos,af,none⟩)::l):=by
 obtain⟨i0,Q8,yH,qb,_⟩:=info_parts hi;subst hn;refine KO.wv hk (fun a w ha hw=>?_) ht h
 obtain⟨w',hr,hs⟩:=Ui (P:=P) (ty:=ty) dM (fun e u hu=>aL.1 (h1 e) u hu) hT Q8 qb (c:=c) (o:=(cutAt g j sz cap).off) (hw.pick hp) hkj hj (by
  by_cases hc:cap=j
  ·left;omega
  ·right;simp[cutAt,hc])
 exact⟨w',mH x y T T rfl _ _ (ha.eval hx) (ha.eval hy) hr,hs⟩
theorem KO.clear(hk:(!d||k== .write)=true){g n' cap q m c:Nat}(hx:ev G x=some (.slice (some (cutAt g q sz cap)) m c))(hp:bB L (SL E sz cf (.slice (some ⟨g,0,none⟩) n' cap) xs) R)(Ag:n'<=cap)(hn:n'=xs.length)(hq:q+m<=xs.length)(hT:P.underlying T=some (.slice E))(hi:(P.info? E).map (fun i=>(i.zero,i.size,i.bytes))=some (some z,sz,fk))(dM:∀e,(cf e).length=sz)(qb:z.cells.toList.all Value.oneCell'=true)(SF:z.cells.size=sz)(h:KO P ops d Q n D w0 G (SL E sz cf (.slice (some ⟨g,0,none⟩) q cap) (xs.take q)::R) l):
 KO P ops d Q n D w0 G L ((k,⟨none,.call ⟨.builtin .clear,#[x],#[T]⟩,ty,pos,af,none⟩)::l):=by
 obtain⟨i0,Q8,yH,_,_⟩:=info_parts hi;refine KO.wn hk (fun a w ha hw=>?_) h
 obtain⟨w',u,hr,hs⟩:=QM (P:=P) (ty:=ty) dM hT Q8 yH (fun u hu=>aL.1 qb u hu) SF (m:=m) (c:=c) (o:=(cutAt g q sz cap).off) (hw.pick hp) hq (by
  by_cases hc:cap=q
  ·left;omega
  ·right;simp[cutAt,hc])
 refine⟨w',u,?_,hs⟩;have e:a.eval x=.slice (some ⟨g,(cutAt g q sz cap).off,none⟩) m c:=ha.eval hx;simp[execOp,resolve,invoke,builtin,e,hr]
theorem QL{w:World}{g cap n':Nat}{us:List Value}{o:Nat}(dM:∀e,(cf e).length=sz)(hw:St w0 (SL E sz cf (.slice (some ⟨g,0,none⟩) n' cap) xs::R) w)(he:xs[i]? =some e)(o9:j+us.length<=sz)(hu:pY j us (cf e)=cf e')(ho:o=i *sz+j)(hn:(Go.sizeOf T).run P w=.ok us.length w)(h1:∀u∈us,u.oneCell'=true)(hv:v.cells=us.toArray):
 ∃w',(storeVar T ⟨g,o,none⟩ v).run P w=.ok () w'/\St w0 (SL E sz cf (.slice (some ⟨g,0,none⟩) n' cap) (xs.set i e')::R) w':=by
 obtain⟨rfl,Ag,yO,cur,kE,fH,hb⟩:=jq hw;have hi:=(aw.1 he).1;have hei:=(aw.1 he).2;have afi:(i+1)*sz<=xs.length *sz:=Nat.mul_le_mul_right _ hi;have aho:xs.length *sz<=cap *sz:=Nat.mul_le_mul_right _ Ag;rw[Nat.succ_mul]at afi;have qT:cur.toList.length=cap *sz:=by simpa using kE
 have gP:=ll (P:=P) (T:=T) (off:=o) (v:=v) hb (by simpa[hv]using hn) (by simp[hv,kE];omega) (by simpa[hv]using h1);simp only[hv]at gP;refine⟨_,gP,?_⟩;have hlen:(xs.set i e').length=xs.length:=by simp
 have :=Ig (xs:=xs.set i e') (cf:=cf) (sz:=sz) (cap:=cap) (hb.setRow (c':=(cur.toList.take o++us++cur.toList.drop (o+us.length)).toArray)) ae yO ?_ ?_
 ·rw[hlen]at this;exact this
 ·simp only[List.size_toArray,aW,bu,bf,qT,Nat.min_def];rw[if_pos ae];omega
 ·rw[hlen];have eS:(xs.set i e').flatMap cf=(xs.take i).flatMap cf++cf e'++(xs.drop (i+1)).flatMap cf:=by
   rw[List.set_eq_take_append_cons_drop,if_pos hi];simp
  have hold:xs.flatMap cf=(xs.take i).flatMap cf++cf e++(xs.drop (i+1)).flatMap cf:=by
   have Wc:xs=xs.take i++e::xs.drop (i+1):=by
    rw[<-hei,List.getElem_cons_drop,List.take_append_drop]
   conv=>lhs;rw[Wc]
   simp
  have YN:((xs.take i).flatMap cf).length=i *sz:=by rw[lJ cf sz dM,bu,Nat.min_eq_left ae]
  rw[eS,<-hu,<-yB j us (cf e) (by rw[dM];exact o9)];obtain⟨tl,xy⟩:∃tl,cur.toList=xs.flatMap cf++tl:=⟨cur.toList.drop (xs.length *sz),by rw[<-fH,List.take_append_drop]⟩;rw[xy,hold,ho];have afw:=dM e;generalize (xs.take i).flatMap cf=A at YN;generalize hC:(xs.drop (i+1)).flatMap cf=C;have hCl:C.length=(xs.length-(i+1))*sz:=by rw[<-hC,lJ cf sz dM,bf]
  have ai_:i *sz+sz+(xs.length-(i+1))*sz=xs.length *sz:=by
   have :(i+1)*sz+(xs.length-(i+1))*sz=xs.length *sz:=by rw[<-Nat.add_mul];congr 1;omega
   rw[Nat.succ_mul]at this;omega
  generalize cf e=B at afw;clear gP eS hold xy hu dM fH;have h1:(A++B++C++tl).take (i *sz+j)=A++B.take j:=by
   rw[aR,aR,<-YN,List.take_length_add_append,List.take_append_of_le_length ae]
  have h2:(A++B++C++tl).drop (i *sz+j+us.length)=B.drop (j+us.length)++C++tl:=by
   rw[aR,aR,<-YN,Nat.add_assoc,List.drop_length_add_append,List.drop_append_of_le_length ae,aR]
  rw[h1,h2];have e1:A++List.take j B++us++(List.drop (j+us.length) B++C++tl)=(A++(List.take j B++us++List.drop (j+us.length) B)++C)++tl:=by simp
  rw[e1,List.take_append_of_le_length ez,List.take_of_length_le ez]
theorem KO.ZG(hk:(!d||k== .write)=true){g n' cap:Nat}{us:List Value}(hx:ev G x=some (.pointer (some ⟨g,i *sz+j,none⟩)))(hy:ev G y=some v)(hv:v.cells=us.toArray)(hn:∀w,(Go.sizeOf T).run P w=.ok us.length w)(h1:us.all Value.oneCell'=true)(hp:bB L (SL E sz cf (.slice (some ⟨g,0,none⟩) n' cap) xs) R)(dM:∀e,(cf e).length=sz)(he:xs[i]? =some e)(o9:Nat.ble (j+us.length) sz=true)(e':α)(hu:pY j us (cf e)=cf e')(h:KO P ops d Q n D w0 G (SL E sz cf (.slice (some ⟨g,0,none⟩) n' cap) (xs.set i e')::R) l):KO P ops d Q n D w0 G L ((k,⟨none,.store T x y,ty,pos,af,none⟩)::l):=
 KO.Fe hk (fun a w ha hw=>by
  obtain⟨w',hr,hs⟩:=QL (P:=P) (T:=T) (v:=v) dM (hw.pick hp) he (by simpa[Nat.ble_eq]using o9) hu rfl (hn w) (fun u hu=>aL.1 h1 u hu) hv
  exact⟨w',by simp[execOp,ha.eval hx,ha.eval hy,Instr.storeAt,Instr.sureAddr,hr],hs⟩) h
theorem KO.aef(hk:(!d||k== .write)=true){g n' cap:Nat}(hx:ev G x=some (.pointer (some ⟨g,i *sz,none⟩)))(e':α)(hy:ev G y=some (.agg (cf e').toArray))(hn:∀w,(Go.sizeOf T).run P w=.ok sz w)(h1:∀e,(cf e).all Value.oneCell'=true)(hp:bB L (SL E sz cf (.slice (some ⟨g,0,none⟩) n' cap) xs) R)(dM:∀e,(cf e).length=sz)(he:xs[i]? =some e)(h:KO P ops d Q n D w0 G (SL E sz cf (.slice (some ⟨g,0,none⟩) n' cap) (xs.set i e')::R) l):KO P ops d Q n D w0 G L ((k,⟨none,.store T x y,ty,pos,af,none⟩)::l):=
 KO.Fe hk (fun a w ha hw=>by
  obtain⟨w',hr,hs⟩:=QL (P:=P) (T:=T) (v:=.agg (cf e').toArray) (us:=cf e') (o:=i *sz) (j:=0) (e':=e') dM (hw.pick hp) he (by rw[dM];omega) (by simp[pY,dM,List.drop_of_length_le]) rfl (by rw[dM];exact hn w) (fun u hu=>aL.1 (h1 e') u hu) rfl
  exact⟨w',by simp[execOp,ha.eval hx,ha.eval hy,Instr.storeAt,Instr.sureAddr,hr],hs⟩) h
end
section
variable {P:Program} {f:FuncId} {args:Array Value} {w0:World} {L R1 R2 R3:List HP} {A B C:HP} {R:Value->List HP->Prop}
theorem KC.jN(p1:bB L A R1)(h:KC P f args w0 (A::R1) R):KC P f args w0 L R:=fun w hw=>h w (hw.pick p1)
theorem St.ey{w:World}(hw:St w0 L w)(p1:bB L A R1)(p2:bB R1 B R2):St w0 (A::B::R2) w:=(hw.pick p1).Ks p2
theorem St.ZR{w:World}(hw:St w0 L w)(p1:bB L A R1)(p2:bB R1 B R2)(p3:bB R2 C R3):St w0 (A::B::C::R3) w:=by
 have h1:=hw.ey p1 p2;have h2:=h1.pick (.tail (.tail p3));exact(h2.pick (.tail .head)).pick (.tail (.tail .head)) |>.pick (.tail .head)
theorem KC.yC(p1:bB L A R1)(p2:bB R1 B R2)(h:KC P f args w0 (A::B::R2) R):KC P f args w0 L R:=fun w hw=>h w (hw.ey p1 p2)
end
section
variable {P:Program} {ops:Array Oper} {d:Bool} {Q:Exit->Act->World->Prop} {n:Nat} {D:List Deferred} {w0:World} {G:Env} {L R:List HP} {A:HP} {l:List (Kd×Oper)} {k:Kd}
 {t:Nat} {ty T:TypeId} {pos:String} {af:Array Edge} {v:Value} {c:Code} {e:Exit}
theorem K.pk(hp:bB L A R)(h:K P c Q n D w0 G (A::R)):K P c Q n D w0 G L:=K.conv (fun _ hw=>hw.pick hp) h
theorem KO.bld{parts:Array (Nat×Operand)}{vs:List Value}(hv:Li G (parts.toList.map (·.2))=some vs)(hr:∀w,(Instr.build T ((parts.toList.map (·.1)).zip vs).toArray).run P w=.ok v w)(ht:Nat.blt t n=true)(h:KO P ops d Q n D w0 ((t,v)::G) L l):KO P ops d Q n D w0 G L ((k,⟨some t,.build T parts,ty,pos,af,none⟩)::l):=
 KO.val (fun a w ha=>by
  have key:∀(ps:List (Nat×Operand)) (vs:List Value),(ps.map (·.2)).map (ev G)=vs.map some->ps.map (fun(p:Nat×Operand)=>(p.1,a.eval p.2))=(ps.map (·.1)).zip vs:=by
   intro ps
   induction ps with
   |nil=>intro vs h;cases vs with|nil=>rfl|cons _ _=>simp at h
   |cons p ps ih=>intro vs h;cases vs with
    |nil=>simp at h
    |cons v vs=>
     simp only[aJ,List.cons.injEq]at h;simp only[aJ,List.zip_cons_cons,ha.eval h.1,ih vs h.2]
  have e:parts.map (fun(i,x)=>(i,a.eval x))=((parts.toList.map (·.1)).zip vs).toArray:=by
   apply Array.ext';rw[Array.toList_map];exact key _ _ (qk hv)
  simp only[execOp,e,hr w,Sem.run_bind,Sem.run_pure,Result.andThen_ok]) ht h
end
def M5 (pl:List (Nat×Nat)):List Value->List (Nat×Value)->Option (List Value)
 |cs,[]=>some cs
 |cs,(i,v)::rest=>match pl[i]? with
  |some (off,size)=>match (Nat.beq v.cells.toList.length size&&Nat.ble (off+v.cells.toList.length) cs.length)with|true=>M5 pl (pY off v.cells.toList cs) rest|false=>none
  |none=>none
theorem Dq(pl:List (Nat×Nat))(place:Nat->Option (Nat×Nat))(so:∀i,place i=pl[i]?):∀(parts:List (Nat×Value)) (cs Dv:List Value),M5 pl cs parts=some Dv->Instr.fill place cs.toArray parts=some Dv.toArray
 |[],cs,Dv,h=>by simp only[M5,az]at h;subst h;rfl
 |(i,v)::rest,cs,Dv,h=>by
  unfold M5 at h;cases hp:pl[i]? with
  |none=>rw[hp]at h;simp at h
  |some os=>
   obtain⟨off,size⟩:=os;rw[hp]at h;simp only at h;cases hb:(Nat.beq v.cells.toList.length size&&Nat.ble (off+v.cells.toList.length) cs.length)with
   |false=>rw[hb]at h;simp at h
   |true=>
    rw[hb]at h;simp only at h;simp only[bm]at hb;have h1:v.cells.toList.length=size:=Nat.eq_of_beq_eq_true hb.1;have h2:off+v.cells.toList.length<=cs.length:=Nat.le_of_ble_eq_true hb.2;unfold Instr.fill;rw[so i,hp];simp only;rw[if_neg (by simp only[Array.length_toList]at h1 h2;simp;omega)];have eS:(v.cells.zipIdx.foldl (fun cs (x:Value×Nat)=>cs.setIfInBounds (off+x.2) x.1) cs.toArray)=(pY off v.cells.toList cs).toArray:=by
     have e0:v.cells.zipIdx.foldl (fun cs (x:Value×Nat)=>cs.setIfInBounds (off+x.2) x.1) cs.toArray=(v.cells.toList.zipIdx 0).foldl (fun cs (x:Value×Nat)=>cs.setIfInBounds (off+x.2) x.1) cs.toArray:=by
      rw[<-Array.foldl_toList];simp
     obtain⟨g1,g2⟩:=Great.foldl_set off v.cells.toList 0 cs.toArray;rw[e0];apply Array.ext_getElem?;intro q;rw[g2 q];simp only[List.getElem?_toArray,List.size_toArray,Nat.add_zero];rw[<-yB off _ cs h2];by_cases hq:off<=q/\q<off+v.cells.toList.length/\q<cs.length
     ·rw[if_pos hq,aR,bp Y29,bu,Nat.min_eq_left ae,List.getElem?_append_left ae]
     ·rw[if_neg hq,aR];by_cases UG:q<off
      ·rw[List.getElem?_append_left Y29,List.getElem?_take,if_pos UG]
      ·rw[bp Y29,bu,Nat.min_eq_left ae];by_cases wH:q<cs.length
       ·have h3:off+v.cells.toList.length<=q:=Nat.not_lt.1 fun h4=>hq ⟨by omega,h4,wH⟩
        rw[bp ae,List.getElem?_drop];congr 1;omega
       ·rw[cc ae,bp ae,cc (by rw[bf];omega)]
    show Instr.fill place (v.cells.zipIdx.foldl (fun cs (x:Value×Nat)=>cs.setIfInBounds (off+x.2) x.1) cs.toArray) rest=_
    rw[eS];exact Dq pl place so rest _ _ h
section
variable {P:Program} {ops:Array Oper} {d:Bool} {Q:Exit->Act->World->Prop} {n:Nat} {D:List Deferred} {w0:World} {G:Env} {L R:List HP} {l:List (Kd×Oper)} {k:Kd} {t:Nat} {ty T:TypeId} {pos:String} {af:Array Edge} {v z:Value}
theorem KO.P7{parts:Array (Nat×Operand)}{vs:List Value}{fs:Array Field}{pl:List (Nat×Nat)}(cs:List Value)(hv:Li G (parts.toList.map (·.2))=some vs)(hz:∀w,(zeroValue T).run P w=.ok z w)(hu:∀w,(underlying T).run P w=.ok (.struct fs) w)(so:∀w,(fs.mapM fun(f:Field)=>(do pure (f.offset,<-Go.sizeOf f.type):Sem (Nat×Nat))).run P w=.ok pl.toArray w)(hb:M5 pl z.cells.toList ((parts.toList.map (·.1)).zip vs)=some cs)(ht:Nat.blt t n=true)(h:KO P ops d Q n D w0 ((t,.agg cs.toArray)::G) L l):KO P ops d Q n D w0 G L ((k,⟨some t,.build T parts,ty,pos,af,none⟩)::l):=
 KO.bld hv (fun w=>by
  have :=Dq pl (fun x=>pl[x]?) (fun i=>rfl) _ _ _ hb;simp only[Array.toArray_toList]at this;simp only[Instr.build,hz w,hu w,Sem.run_bind,Result.andThen_ok];rw[so w]
  simp[this]) ht h
end
section
variable {P:Program} {ops:Array Oper} {d:Bool} {Q:Exit->Act->World->Prop} {n:Nat} {D:List Deferred} {w0:World} {G:Env} {L R:List HP} {l:List (Kd×Oper)} {k:Kd} {t:Nat} {ty T:TypeId} {pos:String} {af:Array Edge} {v z:Value}
theorem KO.AR{parts:Array (Nat×Operand)}{vs:List Value}{fs:Array Field}{pl:List (Nat×Nat)}{cs:List Value}(hv:Li G (parts.toList.map (·.2))=some vs)(hz:∀w,(zeroValue T).run P w=.ok z w)(hu:∀w,(underlying T).run P w=.ok (.struct fs) w)(so:∀w,(fs.mapM fun(f:Field)=>(do pure (f.offset,<-Go.sizeOf f.type):Sem (Nat×Nat))).run P w=.ok pl.toArray w)(hb:M5 pl z.cells.toList ((parts.toList.map (·.1)).zip vs)=some cs)(ht:Nat.blt t n=true)(h:KO P ops d Q n D w0 ((t,.agg cs.toArray)::G) L l):KO P ops d Q n D w0 G L ((k,⟨some t,.build T parts,ty,pos,af,none⟩)::l):=KO.P7 cs hv hz hu so hb ht h
end
section
variable {P:Program} {ops:Array Oper} {d:Bool} {Q:Exit->Act->World->Prop} {n:Nat} {D:List Deferred} {w0:World} {G:Env} {L R:List HP} {l:List (Kd×Oper)} {k:Kd} {t:Nat} {ty T E:TypeId} {pos:String} {af:Array Edge} {v:Value} {x y:Operand}
theorem KO.oQ{b:Nat}{cs us:List Value}(hk:(!d||k== .write)=true)(hx:ev G x=some (.pointer (some ⟨b,0,none⟩)))(hy:ev G y=some v)(hv:v.cells=us.toArray)(hn:∀w,(Go.sizeOf T).run P w=.ok us.length w)(h1:us.all Value.oneCell'=true)(hp:bB L (bA b (.cells cs.toArray E (0,0))) R)(o9:Nat.beq us.length cs.length=true)(h:KO P ops d Q n D w0 G (bA b (.cells us.toArray E (0,0))::R) l):
 KO P ops d Q n D w0 G L ((k,⟨none,.store T x y,ty,pos,af,none⟩)::l):=
 have e:us.length=cs.length:=Nat.eq_of_beq_eq_true o9
 KO.N6 hk hx hy hv hn h1 hp (Nat.ble_eq_true_of_le ae) (by rw[pY,e,List.drop_length,List.append_nil]) h
end
section
variable {P:Program} {ops:Array Oper} {d:Bool} {Q:Exit->Act->World->Prop} {n:Nat} {D:List Deferred} {w0:World} {G:Env} {L R:List HP} {l:List (Kd×Oper)} {k:Kd} {t:Nat} {ty T E:TypeId} {pos:String} {af:Array Edge} {v z:Value} {x y:Operand} {sz fk:Nat}
theorem KO.sw(hk:(!d||(k== .ef||k== .write))=true){cs:List Value}(hv:ev G x=some v)(hT:P.underlying T=some (.slice E))(hi:(P.info? E).map (fun i=>(i.zero,i.size,i.bytes))=some (some z,sz,fk))(hc:v.cells=cs.toArray)(dM:cs.length=sz)(hs:¬1*sz>2^24)(Jh:¬1*sz=0)(ht:Nat.blt t n=true)(h:∀bb,KO P ops d Q n D w0 ((t,.slice (some ⟨bb,0,none⟩) 1 1)::G) (bA bb (.cells cs.toArray E (0,0))::L) l):KO P ops d Q n D w0 G L ((k,⟨some t,.buildSlice T 1 #[(0,x)],ty,pos,af,none⟩)::l):=
 KO.bs hk [x] rfl (vs:=[v]) (by simp[Li,hv]) hT hi (by simp[hc,dM]) rfl hs Jh (by simp[hc]) ht h
end
open Go
inductive ud:List HP->List HP->Prop
 |refl {L:List HP}:ud L L
 |drop {A:HP} {L M:List HP}:ud L M->ud L (A::M)
theorem St.Ss{w0 w:World}{A:HP}{L M:List HP}(f:∀h,iR M h->∃h1 h2,vL h1 h2/\h=qw h1 h2/\iR L h2)(h:St w0 (A::M) w):St w0 (A::L) w:=by
 obtain⟨x,hx,h1,h2,d,rfl,a,b⟩:=h.own;obtain⟨g1,g2,d2,rfl,c⟩:=f h2 b;rw[mY]at d;refine {h with own:=⟨qw h1 g2,fun k o hk=>hx k o ?_,h1,g2,d.2,rfl,a,c⟩};simp only[qw]at hk ⊢;cases e1:h1 k with
 |some v=>rw[e1]at hk;simpa using hk
 |none=>
  rw[e1]at hk;simp only[Option.none_or]at hk ⊢;rcases d2 k with e|e
  ·rw[e];simpa using hk
  ·rw[e]at hk;simp at hk
theorem ud.iR{L M:List HP}(hs:ud L M):∀h,WB.iR M h->∃h1 h2,vL h1 h2/\h=qw h1 h2/\WB.iR L h2:=by
 induction hs with
 |refl=>exact fun h hh=>⟨fun _=>none,h,fun _=>.inl rfl,(yr fun _=>rfl).symm,hh⟩
 |drop _ ih=>
  rintro h ⟨h1,h2,d,rfl,_,b⟩;obtain⟨g1,g2,d2,rfl,c⟩:=ih h2 b;rw[mY]at d;refine⟨qw h1 g1,g2,pw.2 ⟨d.2,d2⟩,(oO _ _ _).symm,c⟩
theorem St.uh{w0 w:World}{A:HP}{L M:List HP}(h:St w0 (A::M) w)(hs:ud L M):St w0 (A::L) w:=h.Ss hs.iR
theorem St.Bo{w0 w:World}{A B:HP}{L M:List HP}(h:St w0 (A::B::M) w)(hs:ud L M):St w0 (A::B::L) w:=((h.join).uh hs).split
theorem St.gc3{w0 w:World}{A B C:HP}{L M:List HP}(h:St w0 (A::B::C::M) w)(hs:ud L M):St w0 (A::B::C::L) w:=((h.join).Bo hs).split
end WB
namespace Go.Proofs.YtjhogocabcdjbabGreatDoor
open Tryz
open Go Go.RowKit WB
theorem Ee:(prog.info? 243).map (fun i=>(i.zero,i.size,i.bytes))=some (some (Value.agg #[.int .i64 0,.int .i64 0,.string ⟨#[]⟩,.string ⟨#[]⟩,.int .i64 0,.int .i64 0,.int .i64 0,.int .i64 0]),8,80):=by kernel_rfl
theorem r5(x:It):(nV x).all Value.oneCell'=true:=rfl
theorem Gd(xs:List It):∀u∈xs.flatMap nV,u.oneCell'=true:=Ar (fun e u hu=>aL.1 (r5 e) u hu) xs
theorem SB(w0:World)(L:List HP)(v:Value)(xs:List It)(x:It)(k bv:Nat)(hk:k<=xs.length)(hn:xs.length<1000000):
 KC prog 246 #[v,.int .i64 (k:Nat),.slice (some ⟨bv,0,none⟩) 1 1] w0 (K0 v xs::bA bv (.cells (nV x).toArray 243 (0,0))::L) (fun v' L'=>L'=K0 v' (xs.take k++x::xs.drop k)::L):=fun w h=>by
 have fin:∀{w':World} {v':Value},St w0 (lE 243 8 v' (xs.length+1) (xs.flatMap nV |>.take (k *8))::L) w'->True:=fun _=>trivial
 have e1:(xs.take k++x::xs.drop k).length=xs.length+1:=by simp;omega
 have e2:(xs.flatMap nV).take (k *8)++nV x++(xs.flatMap nV).drop (k *8)=(xs.take k++x::xs.drop k).flatMap nV:=by
  rw[mW nV 8 (fun _=>rfl) xs k hk,mX nV 8 (fun _=>rfl) xs k hk];simp
 by_cases hkn:k=xs.length
 ·subst hkn;refine(I9 w w0 L v xs.length (xs.flatMap nV) (nV x) bv h rfl (fun u hu=>aL.1 (r5 x) u hu) hn).mono ?_;rintro e w' ⟨v',he,hs⟩;refine⟨v',_,he,rfl,?_⟩
  show St w0 (lE 243 8 v' _ _::L) w'
  rw[e1,show(xs.take xs.length++x::xs.drop xs.length).flatMap nV=xs.flatMap nV++nV x by simp];exact hs
 ·have dN:k<xs.length:=by omega
  have key:Calls prog 246 #[v,.int .i64 (k:Nat),.slice (some ⟨bv,0,none⟩) 1 1] w fun e w'=> ∃v',e=.returned v'/\St w0 (lE 243 8 v' (xs.length+1) ((xs.flatMap nV).take (k *8)++nV x++(xs.flatMap nV).drop (k *8))::L) w':=by
   obtain⟨g,cap,rfl⟩:=qt h dN;by_cases hr:xs.length+1<=cap
   ·exact Gb w w0 L g xs.length cap k _ (nV x) bv h rfl (fun u hu=>aL.1 (r5 x) u hu) (Gd xs) hn dN hr
   ·exact Gc w w0 L g xs.length k cap _ (nV x) bv h rfl (fun u hu=>aL.1 (r5 x) u hu) (Gd xs) hn dN ae
  refine key.mono ?_;rintro e w' ⟨v',he,hs⟩;refine⟨v',_,he,rfl,?_⟩
  show St w0 (lE 243 8 v' _ _::L) w'
  rw[e1,<-e2];exact hs
theorem U1(w0:World)(L:List HP)(v:Value)(xs:List It)(k:Nat)(hk:k<xs.length)(hn:xs.length<1000000):
 KC prog 151 #[v,.int .i64 (k:Nat),.int .i64 ((k:Int)+1)] w0 (K0 v xs::L) (fun v' L'=>L'=K0 v' (xs.eraseIdx k)::L):=by
 refine KC.pre (fun w hw=>qt hw hk) ?_;rintro⟨g,cap,rfl⟩;refine KC.pre (fun w hw=>(jq hw).2.1) fun Ag=>?_
 refine KC.mk (n:=33) func151 rfl ntmps151 ai ?_;refine lg ?_;refine gZ ?_;refine Z1 ?_;refine Bb ?_;refine KO.PY (lo:=k) (hi:=k+1) (mx:=xs.length) rfl rfl rfl rfl underlying120 sizeOf243 rfl ae rfl ae ae ae rfl (fun q13=>?_);refine Z0 ?_;refine gY ?_;refine mM ?_;refine K.ct rfl ez ?_;refine qp ?_;refine Bb ?_;refine ab3 ?_;refine gZ ?_;refine KO.vD rfl rfl underlying120 sizeOf243 aN ae rfl ?_;refine gZ ?_;refine KO.cutFrom (lo:=k+1) rfl rfl underlying120 sizeOf243 ae ae ae rfl ?_;refine KO.move (j:=k+1) rfl rfl rfl bB.head rfl Ag underlying120 Ee (fun _=>rfl) r5 ae ae rfl ?_;refine EJ ?_;refine Bb ?_;refine Z1 ?_;refine KO.PX (lo:=k+(xs.length-(k+1))) (hi:=xs.length) rfl rfl rfl underlying120 sizeOf243 rfl rfl ae ae rfl ?_;refine KO.clear rfl rfl bB.head Ag ez ez underlying120 Ee (fun _=>rfl) rfl rfl ?_;refine EI ?_;refine kq ?_;refine KQ.aU rfl rfl (fun w' hs=>⟨_,_,rfl,rfl,?_⟩);have e:(List.take (k+(xs.length-(k+1))) (List.take k xs++List.drop (k+1) xs++List.drop (k+(xs.length-(k+1))) xs))=xs.eraseIdx k:=by
  rw[List.take_append_of_le_length ez,List.take_of_length_le ez,List.eraseIdx_eq_take_drop_succ]
 rw[e]at hs;exact hs
theorem Xc(w0:World)(L:List HP)(v:Value)(xs:List It)(f:FuncId)(cp:List Value)(pf:It->Bool)(hn:xs.length<1000000)(fI:∀args w,(callFunc f args).run prog w=.ok (.enter f args) w)(qT:∀e v ys,e∈xs->KE prog f ([]++([Value.agg (nV e).toArray]++cp)).toArray w0 (K0 v ys::L) (fun u L'=>u=.bool (pf e)/\L'=K0 v ys::L)):
 KC prog 158 #[v,.func (.func f) [].toArray cp.toArray] w0 (K0 v xs::L) (fun v' L'=>L'=K0 v' (xs.filter fun e=> !pf e)::L):=by
 refine KC.pre (fun w hw=>bo hw) ?_;rintro⟨sa,cap,rfl,Be⟩;refine KC.mk (n:=42) func158 rfl ntmps158 ai ?_;refine yb ?_;refine KO.ce rfl rfl rfl call149 rfl (Eh w0 _ _ xs f cp pf (oM.of (fun _=>rfl) bB.head) hn fI (fun e he=>qT e _ xs he)) ?_;rintro v L' ⟨rfl,rfl⟩;refine jo ?_;refine mM ?_;refine K.bn rfl (fun h=>?_) (fun h=>?_)
 ·refine xd ?_;refine KQ.aU rfl rfl (fun w' hs=>⟨_,_,rfl,rfl,?_⟩)
  rw[bJ.2 (fun a ha=>by
   have :=List.findIdx?_eq_none_iff.1 (rA (by omega :oH pf xs<0)) a ha
   simp[this])]
  exact hs
 ·obtain⟨i0,e0,S6,ML,hp0,MF,K9⟩:=lK (p:=pf) (l:=xs) (by unfold oH at h ⊢;split at h<;>simp_all);obtain⟨g,rfl⟩:=Be ae;refine K.fact (fun w hw=>(jq hw).2.1) fun Ag=>?_
  refine qp ?_;rw[S6];refine KO.add rfl rfl rfl ae rfl ?_;refine Hf ?_;refine K.loop (fun k:Nat×Nat×List It=>[(0,.slice (some ⟨g,0,none⟩) xs.length cap),(1,.func (.func f) [].toArray cp.toArray),(5,.int .i64 (k.1:Nat)),(6,.int .i64 (k.2.1:Nat))]) (fun k=>K0 (.slice (some ⟨g,0,none⟩) xs.length cap) k.2.2::L)
   (fun k=>k.2.2.length=xs.length/\k.1<k.2.1/\k.2.1<=xs.length/\k.2.2.take k.1=(xs.take k.2.1).filter (fun e=> !pf e)/\k.2.2.drop k.2.1=xs.drop k.2.1) (fun k=>xs.length-k.2.1) (i0,i0+1,xs) ⟨rfl,by dsimp only;omega,by dsimp only;omega,(jO K9).symm,rfl⟩ ⟨rfl,rfl,rfl,rfl,trivial⟩ (fun _ h=>h) ?_
  rintro⟨i,j,ys⟩ ⟨hyl,hij,YX,YI,hyd⟩;dsimp only at hyl hij YX YI hyd ⊢;refine lO ?_;refine Bb ?_;refine qo ?_;refine K.bn rfl (fun h1=>?_) (fun h1=>?_)
  ·obtain⟨e,he⟩:∃e,xs[j]? =some e:=⟨xs[j],ak ae⟩;have hye:ys[j]? =some e:=by rw[<-he];have :=congrArg (fun l=>l[0]?) hyd;simpa using this
   refine si ?_;refine gZ ?_;refine Ib ?_;refine KO.BE rfl rfl isAgg243 sizeOf243 br (fun _=>rfl) sE rfl ?_;refine KO.alloc rfl zeroValue243 aN rfl ?_;intro b7;refine TP ?_;refine cW ?_;refine TS ?_;refine KO.ce rfl rfl rfl fI rfl ((qT e _ ys (ax he)).only (fun w h=>h.drop)) ?_;rintro v L' ⟨rfl,rfl⟩;refine oJ ?_;refine K.cond rfl (fun h2=>?_) (fun h2=>?_)
   ·obtain⟨u,hu⟩:∃u,ys[i]? =some u:=⟨ys[i],ak ae⟩;refine lO ?_;refine TS ?_;refine KO.gO rfl rfl runUnderlying120 sizeOf243 rfl ae rfl ?_;refine KO.aef rfl rfl e rfl sizeOf243 r5 aQ (fun _=>rfl) hu ?_;refine Z3 ?_;refine XU ?_;refine Z8 ?_;refine Z15 ?_;refine ES ?_;refine KQ.round (i+1,j+1,ys.set i e) ⟨by simp;omega,by dsimp only;omega,by dsimp only;omega,?_,?_⟩ fZ ⟨rfl,rfl,rfl,rfl,trivial⟩ (fun _ h=>h.U0)
    ·dsimp only;rw[a_ he,bY,<-YI,a_ (e:=e) (by rw[List.getElem?_set_self ae])];rw[List.take_set_of_le (aP _)];simp only[c_,h2,if_true,List.filter_nil]
    ·dsimp only;rw[List.drop_set_of_lt ae];have :=congrArg (List.drop 1) hyd;simpa[List.drop_drop,Nat.add_comm]using this
   ·refine Yg ?_;refine ES ?_;refine KQ.round (i,j+1,ys) ⟨hyl,by dsimp only;omega,by dsimp only;omega,?_,?_⟩ fZ ⟨rfl,rfl,rfl,rfl,trivial⟩ (fun _ h=>h.drop)
    ·dsimp only;rw[a_ he,bY,<-YI];simp only[c_,h2,List.filter_nil,List.append_nil,Bool.false_eq_true,if_false]
    ·dsimp only;have :=congrArg (List.drop 1) hyd;simpa[List.drop_drop,Nat.add_comm]using this
  ·have hjx:j=xs.length:=by omega
   subst hjx;have YI:ys.take i=xs.filter (fun e=> !pf e):=by rw[YI,List.take_length]
   refine Z9 ?_;refine gY ?_;refine KO.cutFrom (lo:=i) rfl rfl underlying120 sizeOf243 rfl ae ae rfl ?_;refine KO.clear rfl rfl bB.head Ag hyl.symm ae underlying120 Ee (fun _=>rfl) rfl rfl ?_;refine Z0 ?_;refine gY ?_;refine KO.vD (hi:=i) rfl rfl underlying120 sizeOf243 rfl ae rfl ?_;refine kq ?_;refine KQ.aU rfl rfl (fun w' hs=>⟨_,_,rfl,rfl,?_⟩);rw[<-YI];exact hs
theorem KI(w0:World)(L:List HP)(a b:It)(ha:pO a)(hb:pO b):
 KE prog 244 #[.agg (nV a).toArray,.agg (nV b).toArray] w0 L (fun v L'=>v=.int .i64 (jK a b)/\L'=L):=by
 refine KE.mk (n:=14) func244 rfl ntmps244 ai ?_;intro w hw;refine Z2 ?_;refine KO.box rfl rfl aN rfl ?_;intro b2;refine KO.box rfl rfl aN rfl ?_;intro b3;refine oK ?_;refine Nr ?_
 (refine KO.I6 rfl rfl isAgg44 sizeOf44 aQ Y9 aN rfl ?_)
 refine Nr ?_
 (refine KO.I6 rfl rfl isAgg44 sizeOf44 br Y9 aN rfl ?_)
 refine KO.fG (off:=5) rfl runUnderlying243 rfl rfl sizeOf3 rfl ?_;refine sD ?_;refine KO.fG (off:=5) rfl runUnderlying243 rfl rfl sizeOf3 rfl ?_;refine sP ?_;refine KO.ce rfl rfl rfl call245 rfl (abF w _ a.m b.m a.line b.line ha.1 hb.1 ha.2 hb.2) ?_;rintro v L' ⟨rfl,rfl⟩;refine kq ?_;refine KQ.aU rfl rfl (fun w' hs=>⟨_,_,rfl,⟨rfl,rfl⟩,hw.aA hs.below,hs.below⟩)
theorem Xm(w0:World)(L:List HP)(v:Value)(xs:List It)(x:It)(hr:∀w,St w0 L w->oM w 8 nV v xs)(hlen:xs.length<1000000)(hm:QP xs x)(hx:pO x)(tG:∀e∈xs,pO e):
 KE prog 243 #[v,.agg (nV x).toArray,.func (.func 244) #[] #[]] w0 L (fun v L'=> ∃k,Kg xs x k/\v=.tuple #[.int .i64 (k:Nat),.bool (Pr xs x k)]/\L'=L):=by
 refine KE.mk (n:=49) func243 rfl ntmps243 ai ?_;intro w hw;obtain⟨sa,cap,rfl,Be,hc⟩:=hr w hw;refine Z2 ?_;refine KO.box rfl rfl aN rfl ?_;intro b4;refine Z8 ?_;refine jo ?_;refine Bb ?_;refine jo ?_;refine A_ ?_;refine Vc ?_;refine K.loop (fun k:Nat×Nat=>[(0,.slice sa xs.length cap),(2,.func (.func 244) #[] #[]),(4,.pointer (some ⟨b4,0,none⟩)),(8,.int .i64 (xs.length:Nat)),(9,.int .i64 (k.1:Nat)),(10,.int .i64 (k.2:Nat))]) (fun _=>[bA b4 (.cells (nV x).toArray 243 (0,0))])
  (fun k=>k.1<=k.2/\k.2<=xs.length/\(∀(p:Nat) (a:It),p<k.1->xs[p]? =some a->jK a x<0)/\(∀(p:Nat) (a:It),k.2<=p->xs[p]? =some a->0<=jK a x)) (fun k=>k.2-k.1) (0,xs.length)
  ⟨aH _,aP _,fun p a h=>absurd h (Nat.not_lt_zero _),fun p a h ha=>by have :=(aw.1 ha).1;omega⟩ ⟨rfl,rfl,rfl,rfl,rfl,rfl,trivial⟩ (fun _ h=>h) ?_
 rintro⟨p,q⟩ ⟨QZ,hq,h1,h2⟩;dsimp only at QZ hq h1 h2 ⊢;refine lO ?_;refine qo ?_;refine K.bn rfl (fun h=>?_) (fun h=>?_)
 ·obtain⟨g,rfl⟩:=Be ae;have BJ:((p:Int)+(q:Int))/2=(((p+q)/2:Nat):Int):=by omega
  obtain⟨e,he⟩:∃e,xs[(p+q)/2]? =some e:=⟨xs[(p+q)/2],ak ae⟩;refine si ?_;refine gZ ?_;refine vO ?_;refine KO.i2u rfl (by rw[underlying3];rfl) underlying73 ae rfl ?_;refine KO.aeh rfl rfl rfl rfl ?_;refine KO.u2i rfl (by rw[underlying73];rfl) underlying3 ae rfl ?_;refine jL ?_;rw[BJ];refine K.draw [.pure,.pure,.pure,.pure,.read,.read,.write,.pure] [0,1,2,3,4,5,6,7] bC bC ?_;refine gZ ?_;refine Z1 ?_;refine Ib ?_;refine KO.vf (cs:=(nV e).toArray) rfl rfl isAgg243 sizeOf243 rfl (hc g rfl _ e he) rfl ?_;refine TS ?_;refine KO.ce rfl rfl rfl call244 rfl (KI w _ e x (tG e (ax he)) hx) ?_;rintro v L' ⟨rfl,rfl⟩;refine qo ?_;refine K.bn rfl (fun h3=>?_) (fun h3=>?_)
  ·(skip)
   refine XU ?_;refine He ?_;refine KQ.round ((p+q)/2+1,q) ⟨by dsimp only;omega,hq,fun r a hr ha=>hm r _ a e ae ha he h3,h2⟩ fZ ⟨rfl,rfl,rfl,rfl,rfl,rfl,trivial⟩ (fun _ h=>h)
  ·(skip)
   refine cW ?_;refine He ?_;refine KQ.round (p,(p+q)/2) ⟨by dsimp only;omega,by dsimp only;omega,h1,fun r a hr ha=>Int.not_lt.1 fun hl=>h3 (hm _ r e a hr he ha hl)⟩ fZ ⟨rfl,rfl,rfl,rfl,rfl,rfl,trivial⟩ (fun _ h=>h)
 ·obtain rfl:p=q:=by omega
  by_cases dN:p<xs.length
  ·obtain⟨g,rfl⟩:=Be ae;obtain⟨e,he⟩:∃e,xs[p]? =some e:=⟨xs[p],ak ae⟩;refine Z9 ?_;refine acu ?_;refine Z1 ?_;refine um ?_;refine sC ?_;refine sC ?_;refine Ib ?_;refine KO.on rfl rfl ez ?_;refine KO.vf (cs:=(nV e).toArray) rfl rfl isAgg243 sizeOf243 rfl (hc g rfl _ e he) rfl ?_;refine sh ?_;refine TS ?_;refine KO.on rfl rfl ez ?_;refine KO.ce rfl rfl rfl call244 rfl (KI w _ e x (tG e (ax he)) hx) ?_;rintro v L' ⟨rfl,rfl⟩;refine sh ?_;refine EF ?_;refine sx ?_;refine nP ?_;refine KQ.dG rfl rfl rfl (fun w' hs=>⟨_,_,rfl,⟨p,⟨hq,h1,h2⟩,?_,rfl⟩,hw.aA hs.below,hs.below⟩);simp[Pr,he]
  ·refine Z9 ?_;refine acu ?_;refine Z1 ?_;refine um ?_;refine B1 ?_;refine Vd ?_;refine Fb ?_;refine nP ?_;refine KQ.dG rfl rfl rfl (fun w' hs=>⟨_,_,rfl,⟨p,⟨hq,h1,h2⟩,?_,rfl⟩,hw.aA hs.below,hs.below⟩);have :xs[p]? =none:=cc ae;simp[Pr,this,dN]
abbrev ZO (b:Nat) (v:Value) (next:Int):HP:=bA b (.cells [v,.int .i64 next].toArray 122 (0,0))
def jv (b:Nat) (q:Qu):HP:=ex fun v=>sep (ZO b v q.next) (K0 v q.l)
theorem jW{w0 w:World}{b:Nat}{q:Qu}{L:List HP}(h:St w0 (jv b q::L) w):∃v,St w0 (ZO b v q.next::K0 v q.l::L) w:=by
 obtain⟨v,h⟩:=h.Iq;exact⟨v,h.split⟩
theorem kQ{w0 w:World}{b:Nat}{l:List It}{next:Int}{v:Value}{L:List HP}(h:St w0 (ZO b v next::K0 v l::L) w):St w0 (jv b ⟨l,next⟩::L) w:=St.GR (F:=fun v=>sep (ZO b v next) (K0 v l)) v h.join
theorem D6(w0:World)(L:List HP)(b:Nat)(q:Qu)(m:Ms)(u:Int)(hq:Yt q)(hm:small m.pri):
 KC prog 147 #[.pointer (some ⟨b,0,none⟩),.agg (dy m).toArray,.int .i64 u] w0 (jv b q::L) (fun v L'=>v=.tuple #[]/\L'=jv b (dr q m u)::L):=by
 have hx:pO (eG q m u):=⟨hm,by have :=hq.next;unfold eG small;dsimp only;omega⟩;have hk:=Ck q.l (eG q m u);have h1:=hq.next
 have h2:=hq.len;refine KC.mk (n:=44) func147 rfl ntmps147 ai ?_;refine kO ?_;refine K.bV (fun _ h=>jW h) fun v=>?_
 refine di ?_;refine KO.box rfl rfl aN rfl ?_;intro b4;refine Z0 ?_;refine K.draw [.read,.pure,.pure,.pure,.read,.pure,.pure,.pure,.ef,.write] [0,1,2,3,4,5,6,7,8,9] bC bC ?_;refine yl ?_;refine sB ?_;refine XH ?_;refine sD ?_;refine Z1 ?_;refine KO.max2 rfl rfl rfl rfl ?_;refine KO.P7 (pl:=[(0,5),(5,1),(6,1),(7,1)]) (nV (eG q m u)) rfl zeroValue243 runUnderlying243 Y18 rfl rfl ?_;refine KO.alloc rfl zeroValue243 aN rfl ?_;intro b6;refine TP ?_;refine g_ ?_;refine XH ?_;refine sD ?_;refine Hn ?_;refine XH ?_
 (refine KO.N6 rfl rfl rfl aN uc aN aQ aN Y0 ?_)
 refine Z0 ?_;refine K.draw [.pure,.pure,.pure,.read,.read,.write,.pure,.pure,.pure,.pure,.pure] [0,1,2,3,4,5,6,7,8,9,10] bC bC ?_;refine Z1 ?_;refine TR ?_;refine KO.wB rfl rfl isAgg243 sizeOf243 aQ aN rfl ?_;refine KO.ce rfl rfl rfl call243 rfl (Xm w0 _ v q.l (eG q m u) (oM.of (fun _=>rfl) aQ) ae (hq.mono m u) hx hq.small) ?_;rintro v30 L' ⟨k,hsr,rfl,rfl⟩;obtain rfl:=Cl hsr;refine Qc ?_;refine qV ?_;refine K.draw [.pure,.pure,.pure,.pure,.read,.pure,.read,.ef,.write,.pure,.pure,.write] [0,1,2,3,4,5,6,7,8,9,10,11] bC bC ?_;refine gZ ?_;refine TR ?_;refine Z1 ?_;refine KO.wB rfl rfl isAgg243 sizeOf243 aQ aN rfl ?_;refine KO.sw (z:=(Value.agg #[.int .i64 0,.int .i64 0,.string ⟨#[]⟩,.string ⟨#[]⟩,.int .i64 0,.int .i64 0,.int .i64 0,.int .i64 0])) (sz:=8) (fk:=80) rfl rfl underlying120 bC aN aN ah ah rfl ?_;intro b40;refine KO.cl rfl rfl rfl call246 rfl (KC.yC aQ br (SB w0 _ v q.l (eG q m u) _ _ hk ae)) ?_;rintro v' L' rfl;refine KO.fact (fun _ hs=>bo hs) ?_;rintro⟨a',c',rfl,-⟩;refine XN ?_
 (refine KO.N6 rfl rfl rfl aN Y45 aN aQ aN Y0 ?_)
 refine jk ?_;refine KQ.wV rfl (fun w' hs=>⟨_,_,rfl,⟨rfl,rfl⟩,?_⟩);exact kQ ((hs.ey br br).Bo mN)
theorem VY(w0:World)(L R:List HP)(b:Nat)(q:Qu)(hp:bB L (jv b q) R):
 KE prog 192 #[.pointer (some ⟨b,0,none⟩)] w0 L (fun v L'=>v=.int .i64 (q.l.length:Nat)/\L'=L):=by
 refine KE.mk (n:=8) func192 rfl ntmps192 ai ?_;intro w vj;obtain⟨v,hw⟩:=jW (vj.pick hp);obtain⟨sa,cap,rfl,Be⟩:=bo hw.drop;refine lg ?_;refine TV ?_;refine Bb ?_;refine kq ?_;refine KQ.aU rfl rfl (fun w' hs=>⟨_,_,rfl,⟨rfl,rfl⟩,vj.aA hs.below,hs.below⟩)
theorem WS(w0:World)(L R:List HP)(e:It)(b:Nat)(id:Int)(E:TypeId)(hp:bB L (bA b (.cells [Value.int .i64 id].toArray E (0,0))) R):
 KE prog 242 #[.agg (nV e).toArray,.pointer (some ⟨b,0,none⟩)] w0 L (fun v L'=>v=.bool (K2 id e)/\L'=L):=by
 refine KE.mk (n:=9) func242 rfl ntmps242 ai ?_;intro w hw;have hw:=hw.pick hp;refine Z2 ?_;refine KO.box rfl rfl aN rfl ?_;intro b2;refine oK ?_;refine Nr ?_;refine HW ?_;refine XD ?_;refine kq ?_;refine KQ.aU rfl rfl (fun w' hs=>⟨_,_,rfl,⟨rfl,rfl⟩,(hw.vR hp).aA hs.below,hs.below⟩)
theorem UU(w0:World)(L R:List HP)(b:Nat)(q:Qu)(id:Int)(hp:bB L (jv b q) R)(hq:q.l.length<900000):
 KE prog 146 #[.pointer (some ⟨b,0,none⟩),.int .i64 id] w0 L (fun v L'=>v=.bool (tu q id)/\L'=L):=by
 refine KE.mk (n:=11) func146 rfl ntmps146 ai ?_;intro w vj;obtain⟨v,hw⟩:=jW (vj.pick hp);refine Z2 ?_;refine KO.box rfl rfl aN rfl ?_;intro b3;refine jo ?_;refine TV ?_;refine Hh ?_;refine KO.ce rfl rfl rfl call241 rfl (Xh w _ v q.l 242 [.pointer (some ⟨b3,0,none⟩)] (K2 id) (oM.of (E:=243) (sz:=8) (cf:=nV) (fun _=>rfl) bB.head w hw.drop).base ae call242 (fun e _=>WS _ _ _ e b3 id _ br)) ?_;rintro v L' ⟨rfl,rfl⟩;refine kq ?_;refine KQ.aU rfl rfl (fun w' hs=>⟨_,_,rfl,⟨rfl,rfl⟩,vj.aA hs.below,hs.below⟩)
end Go.Proofs.YtjhogocabcdjbabGreatDoor
namespace WB
open Go Go.RowKit
section
variable {P:Program} {fn:Func} {R:Ending->World->Prop} {n:Nat} {w0:World} {G:Env} {L M:List HP} {v v1 v2 v3:Value} {t t1 t2 t3:Nat} {T E:TypeId} {b:Nat} {cs:List Value} {fz:Nat×Nat}
theorem ZL(h1:cB G t1=some (.pointer (some ⟨b,0,none⟩)))(hT:∀w,(isAgg T).run P w=.ok true w)(hn:∀w,(Go.sizeOf T).run P w=.ok cs.length w)(hp:bB L (bA b (.cells cs.toArray E fz)) M)(a:Act)(w:World)(ha:cD n [] G a)(hw:St w0 L w):
 (loadVar T ⟨b,0,none⟩).run P w=.ok (.agg cs.toArray) w:=by
 refine pS (hT w) (hn w) fun j c hj=>?_
 rw[Addr.add_lit,World.cell?,(hw.nD hp).2];simpa using hj
theorem KQ.gT(hr:fn.results=#[.cell t1 T,.tmp t2])(h1:cB G t1=some (.pointer (some ⟨b,0,none⟩)))(hT:∀w,(isAgg T).run P w=.ok true w)(hp:bB L (bA b (.cells cs.toArray E fz)) M)(hn:∀w,(Go.sizeOf T).run P w=.ok cs.length w)(h2:cB G t2=some v2)(h:∀w,St w0 L w->R (.returned (.tuple #[.agg cs.toArray,v2])) w):KQ (bodyPost P fn R) .ret n [] w0 G L:=
 KQ.fin (fun a w ha hw=>by
  have hl:=ZL (P:=P) h1 hT hn hp a w ha hw
  simp[results,hr,Array.getD_eq_getD_getElem?,ha.get _ _ h1,ha.get _ _ h2,asAddr,hl]) h
theorem KQ.aem(hr:fn.results=#[.cell t1 T])(h1:cB G t1=some (.pointer (some ⟨b,0,none⟩)))(hT:∀w,(isAgg T).run P w=.ok true w)(hp:bB L (bA b (.cells cs.toArray E fz)) M)(hn:∀w,(Go.sizeOf T).run P w=.ok cs.length w)(h:∀w,St w0 L w->R (.returned (.agg cs.toArray)) w):KQ (bodyPost P fn R) .ret n [] w0 G L:=
 KQ.fin (fun a w ha hw=>by
  have hl:=ZL (P:=P) h1 hT hn hp a w ha hw
  simp[results,hr,Array.getD_eq_getD_getElem?,ha.get _ _ h1,asAddr,hl]) h
end
theorem St.stack{w0 w w':World}{L M:List HP}(hw:St w0 L w)(hs:St w M w'):St w0 (M++L) w':=by
 refine⟨hs.os.trans hw.os,hs.tape.trans hw.tape,hs.output.trans hw.output,Nat.le_trans hw.size hs.size,fun k hk=>?_,?_⟩
 ·rw[hs.block k (Nat.lt_of_lt_of_le hk hw.size)];exact hw.block k hk
 ·obtain⟨h1,hh1,s1⟩:=hw.own;obtain⟨h2,hh2,s2⟩:=hs.own;have dN:∀k o,h1 k=some o->k<w.heap.size:=fun k o hk=>(Array.getElem?_eq_some_iff.1 (hh1 k o hk).2).1
  refine⟨qw h2 h1,fun k o hk=>?_,dV.2 ⟨h2,h1,fun k=>?_,rfl,s2,s1⟩⟩
  ·simp only[qw]at hk;cases e2:h2 k with
   |some v=>
    rw[e2]at hk;simp only[Option.some_or,az]at hk;subst hk;exact⟨Nat.le_trans hw.size (hh2 k v e2).1,(hh2 k v e2).2⟩
   |none=>
    rw[e2]at hk;simp only[Option.none_or]at hk;exact⟨(hh1 k o hk).1,by rw[hs.block k (dN k o hk)];exact(hh1 k o hk).2⟩
  ·cases e1:h1 k with
   |none=>exact .inr rfl
   |some o=>
    left;cases e2:h2 k with
    |none=>rfl
    |some v=>have h3:=(hh2 k v e2).1;have h4:=dN k o e1;omega
theorem cw{w0 w:World}{L:List HP}{α:Type}{E:TypeId}{sz:Nat}{cf:α->List Value}(h:St w0 L w):St w0 (SL E sz cf (.slice none 0 0) ([]:List α)::L) w:=h.D9
end WB
namespace Go.Proofs.YtjhogocabcdjbabGreatDoor
open Tryz
open Go Go.RowKit WB
theorem N3(w0:World)(L:List HP)(b:Nat)(q:Qu)(id:Int)(hq:q.l.length<900000):
 KC prog 161 #[.pointer (some ⟨b,0,none⟩),.int .i64 id] w0 (jv b q::L) (fun v L'=>v=.tuple #[.agg (dy (pX q id)).toArray,dj 70 (kS q id)]/\L'=jv b (eF q id)::L):=by
 refine KC.mk (n:=38) func161 rfl ntmps161 ai ?_;refine kO ?_;refine K.bV (fun _ h=>jW h) fun v=>?_
 refine di ?_;refine KO.box rfl rfl aN rfl ?_;intro b3;refine KO.alloc rfl zeroValue44 aN rfl ?_;intro b4;refine jo ?_;refine EW ?_;refine Hh ?_;refine KO.ce rfl rfl rfl call149 rfl (Eh w0 _ v q.l 252 [.pointer (some ⟨b3,0,none⟩)] (K2 id) (oM.of (fun _=>rfl) aQ) ae call252 (fun e _=>RA w0 _ _ e b3 id _ aQ)) ?_;rintro v12 L' ⟨rfl,rfl⟩;refine jo ?_;refine qo ?_;refine K.bn rfl (fun h=>?_) (fun h=>?_)
 ·have hn:oB q id=none:=rA h;refine J0 ?_;refine Hm ?_;refine KQ.gT rfl rfl isAgg44 br yX rfl (fun w' hs=>⟨_,_,rfl,⟨?_,rfl⟩,?_⟩)
  ·simp only[pX,kS,hn];rfl
  ·rw[show eF q id=q by simp only[eF,hn]];exact kQ ((hs.ey aQ aQ).Bo mN)
 ·obtain⟨i0,e0,S6,ML,hp0,MF,K9⟩:=lK (Int.not_lt.1 h);have hn:oB q id=some i0:=K9;refine K.fact (fun w hw=>qt (hw.pick aQ) MF) ?_;rintro⟨g,cap,rfl⟩;rw[S6];refine qp ?_;refine EW ?_;refine Z1 ?_;refine Ib ?_;refine KO.fo (off:=0) rfl runUnderlying243 rfl rfl sizeOf44 rfl ?_
  (refine KO.Sz rfl rfl isAgg44 sizeOf44 aQ (fun _=>rfl) sE Y9 aN rfl ?_)
  refine KO.alloc rfl zeroValue44 aN rfl ?_;intro b7;refine tX ?_;refine gY ?_;refine EW ?_;refine gZ ?_;refine vO ?_;refine KO.cl rfl rfl rfl call151 rfl (KC.jN aQ (U1 w0 _ _ q.l i0 MF ae)) ?_;rintro v' L' rfl;refine KO.fact (fun _ hs=>bo hs) ?_;rintro⟨a',c',rfl,-⟩;refine XN ?_
  (refine KO.N6 rfl rfl rfl aN Y45 aN aQ aN Y0 ?_)
  refine HD ?_;refine Hz ?_;refine KQ.gT rfl rfl isAgg44 br yX rfl (fun w' hs=>⟨_,_,rfl,⟨?_,rfl⟩,?_⟩)
  ·simp only[pX,kS,hn,j_ ML];rfl
  ·rw[show eF q id=⟨q.l.eraseIdx i0,q.next⟩by simp only[eF,hn]];exact kQ ((hs.ey aQ aQ).Bo mN)
theorem abo(w0:World)(L:List HP)(b:Nat)(q:Qu)(u:Int)(hq:q.l.length<900000):
 KC prog 58 #[.pointer (some ⟨b,0,none⟩),.int .i64 u] w0 (jv b q::L) (fun v L'=>v=.tuple #[.agg (dy (l6 q)).toArray,dj 70 (l7 q)]/\L'=jv b (lz q u)::L):=by
 refine KC.mk (n:=47) func58 rfl ntmps58 ai ?_;refine kO ?_;refine K.bV (fun _ h=>jW h) fun v=>?_
 refine di ?_;refine KO.alloc rfl zeroValue44 aN rfl ?_;intro b4;refine jo ?_;refine EW ?_;refine KO.ce (cp:=[]) rfl rfl rfl call149 rfl (Eh w0 _ v q.l 150 [] gA (oM.of (fun _=>rfl) aQ) ae call150 (fun e _=>W4 w0 _ e)) ?_;rintro v12 L' ⟨rfl,rfl⟩;refine jo ?_;refine qo ?_;refine K.bn rfl (fun h=>?_) (fun h=>?_)
 ·have hn:uY q=none:=rA h;refine J0 ?_;refine Hm ?_;refine KQ.gT rfl rfl isAgg44 br yX rfl (fun w' hs=>⟨_,_,rfl,⟨?_,rfl⟩,?_⟩)
  ·simp only[l6,l7,hn];rfl
  ·rw[show lz q u=q by simp only[lz,hn]];exact kQ ((hs.ey aQ aQ).Bo mN)
 ·obtain⟨i0,e0,S6,ML,hp0,MF,K9⟩:=lK (Int.not_lt.1 h);have hn:uY q=some i0:=K9;refine K.fact (fun w hw=>qt (hw.pick aQ) MF) ?_;rintro⟨g,cap,rfl⟩;rw[S6];refine qp ?_;refine EW ?_;refine Z1 ?_;refine Ib ?_;refine KO.fo (off:=0) rfl runUnderlying243 rfl rfl sizeOf44 rfl ?_
  (refine KO.Sz rfl rfl isAgg44 sizeOf44 aQ (fun _=>rfl) sE Y9 aN rfl ?_)
  refine KO.alloc rfl zeroValue44 aN rfl ?_;intro b7;refine tX ?_;refine HZ ?_;refine Z3 ?_;refine K.bn rfl (fun h2=>?_) (fun h2=>?_)
  ·(skip)
   refine gY ?_;refine EW ?_;refine gZ ?_;refine vO ?_;refine KO.cl rfl rfl rfl call151 rfl (KC.jN aQ (U1 w0 _ _ q.l i0 MF ae)) ?_;rintro v' L' rfl;refine KO.fact (fun _ hs=>bo hs) ?_;rintro⟨a',c',rfl,-⟩;refine XN ?_
   (refine KO.N6 rfl rfl rfl aN Y45 aN aQ aN Y0 ?_)
   refine HD ?_;refine Hz ?_;refine KQ.gT rfl rfl isAgg44 br yX rfl (fun w' hs=>⟨_,_,rfl,⟨?_,rfl⟩,?_⟩)
   ·simp only[l6,l7,hn,j_ ML];rfl
   ·rw[show lz q u=⟨q.l.eraseIdx i0,q.next⟩by simp only[lz,hn,h2,if_true]];exact kQ ((hs.ey aQ aQ).Bo mN)
  ·(skip)
   refine cW ?_;refine EW ?_;refine gZ ?_;refine Ib ?_;refine Qs ?_;refine KO.ZG rfl rfl rfl aN uc aN aQ (fun _=>rfl) ML rfl {e0 with gC:=u} rfl ?_;refine HD ?_;refine Hz ?_;refine KQ.gT rfl rfl isAgg44 br yX rfl (fun w' hs=>⟨_,_,rfl,⟨?_,rfl⟩,?_⟩)
   ·simp only[l6,l7,hn,j_ ML];rfl
   ·rw[show lz q u=⟨q.l.set i0 {e0 with gC:=u},q.next⟩by simp only[lz,hn,h2,if_false,j_ ML]];exact kQ ((hs.ey aQ aQ).Bo mN)
abbrev oN (v:Value) (xs:List Ms):HP:=SL 44 5 dy v xs
theorem yF:(prog.info? 44).map (fun i=>(i.zero,i.size,i.bytes))=some (some (Value.agg #[.int .i64 0,.int .i64 0,.string ⟨#[]⟩,.string ⟨#[]⟩,.int .i64 0]),5,56):=by kernel_rfl
theorem Kr(w0:World)(L R:List HP)(b:Nat)(q:Qu)(hp:bB L (jv b q) R)(hq:q.l.length<900000):
 KE prog 80 #[.pointer (some ⟨b,0,none⟩)] w0 L (fun v L'=>L'=oN v (eX q)::L):=by
 refine KE.mk (n:=30) func80 rfl ntmps80 ai ?_;intro w vj;obtain⟨v,hw⟩:=jW (vj.pick hp);obtain⟨sa,cap,rfl,Be,hc⟩:=oM.of (E:=243) (sz:=8) (cf:=nV) (fun _=>rfl) bB.head w hw.drop;refine Z2 ?_;refine BZ ?_;refine TV ?_;refine Bb ?_;refine oL ?_;refine K.loop (fun k:Nat×Value=>[(3,k.2),(9,.slice sa q.l.length cap),(10,.int .i64 (q.l.length:Nat)),(11,.int .i64 (k.1:Nat))]) (fun k=>[oN k.2 (((q.l.take k.1).filter gA).map (·.m))]) (fun k=>k.1<=q.l.length) (fun k=>q.l.length-k.1) (0,.slice none 0 0)
  (aH _) ⟨rfl,rfl,rfl,rfl,trivial⟩ (fun _ h=>cw h) ?_
 rintro⟨k,vo⟩ hk;dsimp only at hk ⊢;refine lW ?_;refine K.bn rfl (fun h=>?_) (fun h=>?_)
 ·obtain⟨g,rfl⟩:=Be ae;obtain⟨e,he⟩:∃e,q.l[k]? =some e:=⟨q.l[k],ak ae⟩;have hlen:(((q.l.take k).filter gA).map (·.m)).length<900000:=by
   have :=List.length_filter_le gA (q.l.take k);simp at this ⊢;omega
  have cQ:((q.l.take (k+1)).filter gA).map (·.m)=((q.l.take k).filter gA).map (·.m)++(if gA e=true then[e.m]else[]):=by
   rw[a_ he,bY];by_cases ha:gA e=true<;>simp[ha]
  refine si ?_;refine X7 ?_;refine KO.alloc rfl zeroValue243 aN rfl ?_;intro b5;refine TP ?_;by_cases h1:e.put<0
  ·refine Zj ?_;refine sP ?_;refine um ?_;refine yW ?_;refine H8 ?_;refine J7 ?_;refine um ?_;refine B2 ?_;refine K.bn rfl (fun h2=>?_) (fun h2=>?_)
   ·rw[if_pos (by simp[gA,h1,h2])]at cQ;refine cW ?_;refine Nr ?_
    (refine KO.I6 rfl rfl isAgg44 sizeOf44 br Y9 aN rfl ?_)
    refine KO.sw (z:=(Value.agg #[.int .i64 0,.int .i64 0,.string ⟨#[]⟩,.string ⟨#[]⟩,.int .i64 0])) (sz:=5) (fk:=56) rfl rfl underlying49 bC aN aN ah ah rfl ?_;intro Xr;refine KO.app (z:=Value.agg #[.int .i64 0,.int .i64 0,.string ⟨#[]⟩,.string ⟨#[]⟩,.int .i64 0]) (sz:=5) (fk:=56) rfl rfl rfl aQ br underlying49 yF rfl e.m aN aN aN ae ah rfl ?_;intro v';refine qq ?_;refine KQ.round (k+1,v') fZ fZ ⟨rfl,rfl,rfl,rfl,trivial⟩ (fun _ h=>?_);dsimp only;rw[cQ];exact(h.pick br).uh mN
   ·rw[if_neg (by simp[gA,h2]),List.append_nil]at cQ;refine lY ?_;refine KQ.round (k+1,vo) fZ fZ ⟨rfl,rfl,rfl,rfl,trivial⟩ (fun _ h=>?_);dsimp only;rw[cQ];exact(h.pick aQ).uh mN
  ·rw[if_neg (by simp[gA,h1]),List.append_nil]at cQ;refine Zj ?_;refine sP ?_;refine um ?_;refine ET ?_;refine Z3 ?_;refine oI ?_;refine lY ?_;refine KQ.round (k+1,vo) fZ fZ ⟨rfl,rfl,rfl,rfl,trivial⟩ (fun _ h=>?_);dsimp only;rw[cQ];exact(h.pick aQ).uh mN
 ·have mV:k=q.l.length:=by omega
  refine Hy ?_;refine KQ.aU rfl rfl (fun w' hs=>⟨_,_,rfl,rfl,?_,hs.below⟩);rw[mV,List.take_length]at hs;exact vj.stack hs
theorem I7(w0:World)(L R:List HP)(b:Nat)(q:Qu)(hp:bB L (jv b q) R)(hq:q.l.length<900000):
 KE prog 67 #[.pointer (some ⟨b,0,none⟩)] w0 L (fun v L'=>L'=oN v (ig q)::L):=by
 refine KE.mk (n:=25) func67 rfl ntmps67 ai ?_;intro w vj;obtain⟨v,hw⟩:=jW (vj.pick hp);obtain⟨sa,cap,rfl,Be,hc⟩:=oM.of (E:=243) (sz:=8) (cf:=nV) (fun _=>rfl) bB.head w hw.drop;refine Z2 ?_;refine BZ ?_;refine TV ?_;refine Bb ?_;refine oL ?_;refine K.loop (fun k:Nat×Value=>[(3,k.2),(9,.slice sa q.l.length cap),(10,.int .i64 (q.l.length:Nat)),(11,.int .i64 (k.1:Nat))]) (fun k=>[oN k.2 (((q.l.take k.1).filter fun e=>decide (e.put<0)).map (·.m))]) (fun k=>k.1<=q.l.length) (fun k=>q.l.length-k.1) (0,.slice none 0 0)
  (aH _) ⟨rfl,rfl,rfl,rfl,trivial⟩ (fun _ h=>cw h) ?_
 rintro⟨k,vo⟩ hk;dsimp only at hk ⊢;refine lW ?_;refine K.bn rfl (fun h=>?_) (fun h=>?_)
 ·obtain⟨g,rfl⟩:=Be ae;obtain⟨e,he⟩:∃e,q.l[k]? =some e:=⟨q.l[k],ak ae⟩;have hlen:(((q.l.take k).filter fun e=>decide (e.put<0)).map (·.m)).length<900000:=by
   have :=List.length_filter_le (fun e:It=>decide (e.put<0)) (q.l.take k);simp at this ⊢;omega
  have cQ:((q.l.take (k+1)).filter fun e=>decide (e.put<0)).map (·.m)=((q.l.take k).filter fun e=>decide (e.put<0)).map (·.m)++(if e.put<0 then[e.m]else[]):=by
   rw[a_ he,bY];by_cases ha:e.put<0<;>simp[ha]
  refine si ?_;refine X7 ?_;refine KO.alloc rfl zeroValue243 aN rfl ?_;intro b5;refine TP ?_;refine Zj ?_;refine sP ?_;refine qo ?_;refine K.bn rfl (fun h2=>?_) (fun h2=>?_)
  ·rw[if_pos h2]at cQ;refine cW ?_;refine Nr ?_
   (refine KO.I6 rfl rfl isAgg44 sizeOf44 br Y9 aN rfl ?_)
   refine KO.sw (z:=(Value.agg #[.int .i64 0,.int .i64 0,.string ⟨#[]⟩,.string ⟨#[]⟩,.int .i64 0])) (sz:=5) (fk:=56) rfl rfl underlying49 bC aN aN ah ah rfl ?_;intro b21;refine KO.app (z:=Value.agg #[.int .i64 0,.int .i64 0,.string ⟨#[]⟩,.string ⟨#[]⟩,.int .i64 0]) (sz:=5) (fk:=56) rfl rfl rfl aQ br underlying49 yF rfl e.m aN aN aN ae ah rfl ?_;intro v';refine qq ?_;refine KQ.round (k+1,v') fZ fZ ⟨rfl,rfl,rfl,rfl,trivial⟩ (fun _ h=>?_);dsimp only;rw[cQ];exact(h.pick br).uh mN
  ·rw[if_neg h2,List.append_nil]at cQ;refine lY ?_;refine KQ.round (k+1,vo) fZ fZ ⟨rfl,rfl,rfl,rfl,trivial⟩ (fun _ h=>?_);dsimp only;rw[cQ];exact(h.pick aQ).uh mN
 ·have mV:k=q.l.length:=by omega
  refine Hy ?_;refine KQ.aU rfl rfl (fun w' hs=>⟨_,_,rfl,rfl,?_,hs.below⟩);rw[mV,List.take_length]at hs;exact vj.stack hs
theorem Tm(w0:World)(L R1 R2:List HP)(e:It)(b1 b2:Nat)(u:Int)(back:Bool)(E1 E2:TypeId)(om:bB L (bA b1 (.cells [Value.int .i64 u].toArray E1 (0,0))) R1)(iq:bB L (bA b2 (.cells [Value.bool back].toArray E2 (0,0))) R2):
 KE prog 159 #[.agg (nV e).toArray,.pointer (some ⟨b1,0,none⟩),.pointer (some ⟨b2,0,none⟩)] w0 L (fun v L'=>v=.bool (qN u back e)/\L'=L):=by
 refine KE.mk (n:=22) func159 rfl ntmps159 ai ?_;intro w vj;have c1:w.cell? ⟨b1,0,none⟩=some (.int .i64 u):=by rw[World.cell?,(vj.nD om).2];rfl
 have c2:w.cell? ⟨b2,0,none⟩=some (.bool back):=by rw[World.cell?,(vj.nD iq).2];rfl
 refine Z2 ?_;refine KO.box rfl rfl aN rfl ?_;intro b3;refine jL ?_;by_cases h1:e.put=u
 all_goals cases back
 all_goals by_cases h2:e.gC=u
 ·refine Hl ?_;refine KO.on rfl rfl Bt ?_;refine KO.sl rfl rfl isAgg4 c2 rfl ?_;refine sx ?_;refine qW ?_;refine H8 ?_;refine sA ?_;refine KO.on rfl rfl rfl ?_;refine KO.sl rfl rfl isAgg3 c1 rfl ?_;refine BV ?_;refine A2 ?_;refine KO.on rfl rfl Ug ?_;refine KO.sl rfl rfl isAgg4 c2 rfl ?_;refine sh ?_;refine pC ?_;refine lX ?_;refine KO.oW rfl ?_ rfl rfl ?_
  (focus(simp only[decide_eq_true_eq,decide_eq_false_iff_not,Bool.not_eq_true,Bool.not_true,Bool.not_false,ne_eq];omega))
  refine vH ?_;refine KQ.aU rfl rfl (fun w' hs=>⟨_,_,rfl,⟨?_,rfl⟩,vj.aA hs.below,hs.below⟩);simp[qN,h1,h2]
 ·refine Hl ?_;refine KO.on rfl rfl Bt ?_;refine KO.sl rfl rfl isAgg4 c2 rfl ?_;refine sx ?_;refine qW ?_;refine H8 ?_;refine sA ?_;refine KO.on rfl rfl rfl ?_;refine KO.sl rfl rfl isAgg3 c1 rfl ?_;refine BV ?_;refine lX ?_;refine B9 ?_;refine lX ?_;refine KO.lB rfl ?_ rfl rfl ?_
  (focus(simp only[decide_eq_true_eq,decide_eq_false_iff_not,Bool.not_eq_true,Bool.not_true,Bool.not_false,ne_eq];omega))
  refine vH ?_;refine KQ.aU rfl rfl (fun w' hs=>⟨_,_,rfl,⟨?_,rfl⟩,vj.aA hs.below,hs.below⟩);simp[qN,h1,h2]
 ·refine Hl ?_;refine KO.on rfl rfl Bt ?_;refine KO.sl rfl rfl isAgg4 c2 rfl ?_;refine sx ?_;refine pF ?_;refine XB ?_;refine Nf ?_;refine ER ?_;refine KQ.aU rfl rfl (fun w' hs=>⟨_,_,rfl,⟨?_,rfl⟩,vj.aA hs.below,hs.below⟩);simp[qN,h1]
 ·refine Hl ?_;refine KO.on rfl rfl Bt ?_;refine KO.sl rfl rfl isAgg4 c2 rfl ?_;refine sx ?_;refine pF ?_;refine XB ?_;refine Nf ?_;refine ER ?_;refine KQ.aU rfl rfl (fun w' hs=>⟨_,_,rfl,⟨?_,rfl⟩,vj.aA hs.below,hs.below⟩);simp[qN,h1]
 ·refine Hl ?_;refine Nt ?_;refine qW ?_;refine H8 ?_;refine sA ?_;refine KO.on rfl rfl rfl ?_;refine KO.sl rfl rfl isAgg3 c1 rfl ?_;refine BV ?_;refine A2 ?_;refine KO.on rfl rfl Ug ?_;refine KO.sl rfl rfl isAgg4 c2 rfl ?_;refine sh ?_;refine pC ?_;refine lX ?_;refine KO.oW rfl ?_ rfl rfl ?_
  (focus(simp only[decide_eq_true_eq,decide_eq_false_iff_not,Bool.not_eq_true,Bool.not_true,Bool.not_false,ne_eq];omega))
  refine vH ?_;refine KQ.aU rfl rfl (fun w' hs=>⟨_,_,rfl,⟨?_,rfl⟩,vj.aA hs.below,hs.below⟩);simp[qN,h1,h2]
 ·refine Hl ?_;refine Nt ?_;refine qW ?_;refine H8 ?_;refine sA ?_;refine KO.on rfl rfl rfl ?_;refine KO.sl rfl rfl isAgg3 c1 rfl ?_;refine BV ?_;refine lX ?_;refine B9 ?_;refine lX ?_;refine KO.lB rfl ?_ rfl rfl ?_
  (focus(simp only[decide_eq_true_eq,decide_eq_false_iff_not,Bool.not_eq_true,Bool.not_true,Bool.not_false,ne_eq];omega))
  refine vH ?_;refine KQ.aU rfl rfl (fun w' hs=>⟨_,_,rfl,⟨?_,rfl⟩,vj.aA hs.below,hs.below⟩);simp[qN,h1,h2]
 ·refine Hl ?_;refine Nt ?_;refine qW ?_;refine H8 ?_;refine sA ?_;refine KO.on rfl rfl rfl ?_;refine KO.sl rfl rfl isAgg3 c1 rfl ?_;refine BV ?_;refine A2 ?_;refine KO.on rfl rfl Ug ?_;refine KO.sl rfl rfl isAgg4 c2 rfl ?_;refine sh ?_;refine pC ?_;refine lX ?_;refine KO.oW rfl ?_ rfl rfl ?_
  (focus(simp only[decide_eq_true_eq,decide_eq_false_iff_not,Bool.not_eq_true,Bool.not_true,Bool.not_false,ne_eq];omega))
  refine vH ?_;refine KQ.aU rfl rfl (fun w' hs=>⟨_,_,rfl,⟨?_,rfl⟩,vj.aA hs.below,hs.below⟩);simp[qN,h1,h2]
 ·refine Hl ?_;refine Nt ?_;refine qW ?_;refine H8 ?_;refine sA ?_;refine KO.on rfl rfl rfl ?_;refine KO.sl rfl rfl isAgg3 c1 rfl ?_;refine BV ?_;refine lX ?_;refine B9 ?_;refine lX ?_;refine KO.lB rfl ?_ rfl rfl ?_
  (focus(simp only[decide_eq_true_eq,decide_eq_false_iff_not,Bool.not_eq_true,Bool.not_true,Bool.not_false,ne_eq];omega))
  refine vH ?_;refine KQ.aU rfl rfl (fun w' hs=>⟨_,_,rfl,⟨?_,rfl⟩,vj.aA hs.below,hs.below⟩);simp[qN,h1,h2]
def yZ (u:Int) (l:List It) (k:Nat):List It:=(l.take k).map (qj u)++l.drop k
theorem NP{u:Int}{l:List It}{k:Nat}{e:It}(he:l[k]? =some e):(yZ u l k)[k]? =some e:=by
 have hk:=(aw.1 he).1;unfold yZ;rw[bp ez];simp[show k-min k l.length=0 by omega,he]
theorem LD{u:Int}{l:List It}{k:Nat}{e:It}(he:l[k]? =some e):(yZ u l k).set k (qj u e)=yZ u l (k+1):=by
 have hk:=(aw.1 he).1;have hd:l.drop k=e::l.drop (k+1):=by rw[<-(aw.1 he).2,List.getElem_cons_drop]
 unfold yZ;rw[a_ he,aZ,hd,List.set_append_right _ _ ez];simp[show k-min k l.length=0 by omega]
theorem IE{l:List It}{k:Nat}{e:It}(he:l[k]? =some e):l.set k e=l:=by
 obtain⟨hk,h⟩:=aw.1 he;rw[<-h];exact List.set_getElem_self hk
theorem PT(w0:World)(L:List HP)(b:Nat)(q:Qu)(u:Int)(back:Bool)(hq:q.l.length<900000):
 KC prog 64 #[.pointer (some ⟨b,0,none⟩),.int .i64 u,.bool back] w0 (jv b q::L) (fun v L'=>v=.tuple #[]/\L'=jv b (fw q u back)::L):=by
 refine KC.mk (n:=52) func64 rfl ntmps64 ai ?_;refine kO ?_;refine K.bV (fun _ h=>jW h) fun v=>?_
 refine di ?_;refine KO.box rfl rfl aN rfl ?_;intro b4;refine KO.box rfl rfl aN rfl ?_;intro b5;refine rK ?_;refine sD ?_;refine qo ?_;refine K.bn rfl (fun h=>?_) (fun h=>?_)
 ·repeat(first|(with_reducible refine KQ.nf ?_)|(with_reducible refine K.ret ?_))
  refine KQ.VL rfl (fun w' hs=>⟨_,_,rfl,⟨rfl,rfl⟩,?_⟩);rw[show fw q u back=q by simp only[fw,h,if_true]];exact kQ ((hs.ey aQ aQ).Bo mN)
 ·rw[show fw q u back=⟨(q.l.filter fun e=> !qN u back e).map (qj u),q.next⟩by simp only[fw,h,if_false]];have MJ:(q.l.filter fun e=> !qN u back e).length<900000:=Nat.lt_of_le_of_lt (List.length_filter_le _ _) hq;refine BT ?_;refine EW ?_;refine Hh ?_;refine KO.cl rfl rfl rfl call158 rfl (KC.jN aQ (Xc w0 _ v q.l 159 [.pointer (some ⟨b4,0,none⟩),.pointer (some ⟨b5,0,none⟩)] (qN u back) ae call159 (fun e v ys _=>Tm w0 _ _ _ e b4 b5 u back _ _ aQ aQ))) ?_;rintro v' L' rfl;refine KO.fact (fun _ hs=>bo hs) ?_;rintro⟨a',c',rfl,sN⟩;refine XN ?_
  (refine KO.N6 rfl rfl rfl aN Y45 aN aQ aN Y0 ?_)
  refine Z0 ?_;generalize q.l.filter (fun e=> !qN u back e)=l at *;refine cW ?_;refine TR ?_;refine Bb ?_;refine oL ?_;refine K.loop (fun k:Nat=>[(0,.pointer (some ⟨b,0,none⟩)),(4,.pointer (some ⟨b4,0,none⟩)),(23,.int .i64 (l.length:Nat)),(24,.int .i64 (k:Nat))]) (fun k=>K0 (.slice a' l.length c') (yZ u l k)::ZO b (.slice a' l.length c') q.next::bA b4 (.cells [Value.int .i64 u].toArray 3 (0,0))::L) (fun k=>k<=l.length) (fun k=>l.length-k) 0
   (aH _) ⟨rfl,rfl,rfl,rfl,trivial⟩ (fun _ h=>by rw[show yZ u l 0=l by simp[yZ]];exact(h.ZR aQ br aQ).gc3 mN) ?_
  intro k hk;refine lW ?_;refine K.bn rfl (fun h1=>?_) (fun h1=>?_)
  ·obtain⟨g,rfl⟩:=sN ae;obtain⟨e,he⟩:∃e,l[k]? =some e:=⟨l[k],ak ae⟩;have hye:=NP (u:=u) he;have cQ:=LD (u:=u) he;have K8:qj u e={e with put:=if e.put=u then -1 else e.put,gC:=if e.gC=u then -1 else e.gC}:=rfl;generalize yZ u l k=ys at *;have hyk:=(aw.1 hye).1;refine sy ?_;refine jo ?_;refine EW ?_;refine Z1 ?_;refine Ib ?_;refine jL ?_;refine X0 ?_;refine KO.fo (off:=6) rfl runUnderlying243 rfl rfl sizeOf3 rfl ?_;refine XS ?_;refine mM ?_;refine K.bn rfl (fun h2=>?_) (fun h2=>?_)
   ·have aeJ:(ys.set k {e with put:= -1})[k]? =some {e with put:= -1}:=by rw[List.getElem?_set_self hyk]
    refine g_ ?_;refine KO.fo (off:=6) rfl runUnderlying243 rfl rfl sizeOf3 rfl ?_;refine KO.ZG rfl rfl rfl aN uc aN br (fun _=>rfl) hye rfl {e with put:= -1} rfl ?_;refine Z0 ?_;refine X0 ?_;refine Qs ?_;refine XS ?_;refine mM ?_;refine K.bn rfl (fun h3=>?_) (fun h3=>?_)
    ·(skip)
     refine g_ ?_;refine Qs ?_;refine KO.ZG rfl rfl rfl aN uc aN br (fun _=>rfl) aeJ rfl {e with put:= -1,gC:= -1} rfl ?_;refine pE ?_;refine KQ.round (k+1) ae ae ⟨rfl,rfl,rfl,rfl,trivial⟩ (fun _ hs=>?_);rw[<-cQ,K8,if_pos h2,if_pos h3];rw[List.set_set]at hs;exact hs
    ·refine lY ?_;refine KQ.round (k+1) ae ae ⟨rfl,rfl,rfl,rfl,trivial⟩ (fun _ hs=>?_);rw[<-cQ,K8,if_pos h2,if_neg h3];exact hs
   ·refine Z6 ?_;refine X0 ?_;refine Qs ?_;refine XS ?_;refine mM ?_;refine K.bn rfl (fun h3=>?_) (fun h3=>?_)
    ·(skip)
     refine g_ ?_;refine Qs ?_;refine KO.ZG rfl rfl rfl aN uc aN br (fun _=>rfl) hye rfl {e with gC:= -1} rfl ?_;refine pE ?_;refine KQ.round (k+1) ae ae ⟨rfl,rfl,rfl,rfl,trivial⟩ (fun _ hs=>?_);rw[<-cQ,K8,if_neg h2,if_pos h3];exact hs
    ·refine lY ?_;refine KQ.round (k+1) ae ae ⟨rfl,rfl,rfl,rfl,trivial⟩ (fun _ hs=>?_);rw[<-cQ,K8,if_neg h2,if_neg h3,show({e with put:=e.put,gC:=e.gC}:It)=e from rfl,IE hye];exact hs
  ·have mV:k=l.length:=by omega
   refine U_ ?_;refine KQ.wV rfl (fun w' hs=>⟨_,_,rfl,⟨rfl,rfl⟩,?_⟩);rw[mV,show yZ u l l.length=l.map (qj u)by simp[yZ]]at hs;exact kQ ((hs.ey aQ br).Bo mN)
theorem Dm(a b s:aj)(h:Int)(w:World):
 Calls prog 248 #[.agg #[.string a,.string b,.int .i64 h],.string s] w fun e w'=>e=.returned (.int .i64 (fy a s))/\Below w.heap.size w w':=by
 go_enter func248,ntmps248
 go_wp2_with (go_at_call 249;refine(Tryz.strings_Compare _ _ _).mono ?_;rintro e w' ⟨rfl,rfl⟩)
 go_ret
 exact⟨rfl,(Below.refl _ _).alloc (aP _) _⟩
def acN (l:List Nm) (s:aj) (w:World) (i j:Value) (wr:World):Prop:=
 ∃p q:Nat,p<=q/\q<=l.length/\i=.int .i64 p/\j=.int .i64 q/\(∀k,k<p->fy (eo l k).name s<0)/\(∀k,q<=k->k<l.length->0<=fy (eo l k).name s)/\Below w.heap.size w wr
def Kj (l:List Nm) (s:aj) (w:World) (e:Ending) (w':World):Prop:=
 ∃k:Nat,Kh l s k/\e=.returned (.tuple #[.int .i64 k,.bool (fc l s k)])/\Below w.heap.size w w'
theorem P6(g n cap:Nat)(l:List Nm)(s:aj)(w w0:World)(L:List HP)(h:St w0 (lE 75 3 (.slice (some ⟨g,0,none⟩) n cap) n (cg l)::L) w)(Eo:n<1000000)(Gt:E0 l s):
 Calls prog 247 #[.slice (some ⟨g,0,none⟩) n cap,.string s,.func (.func 248) #[] #[]] w (Kj l s w):=by
 have hn:n=l.length:=by have :=h.yD;rw[xu]at this;omega
 have HN:=Lib.hid hn;have HS:=Lib.hid h;clear hn h
 go_enter func247,ntmps247
 go_wp2_with fail
 go_loopw [9,10] (fun i j wr=>acN l s w i j wr) (fun i j _=>(intOf j-intOf i).toNat)
 case atStart=>exact⟨0,n,by omega,by rw[HN.out];exact aP _,rfl,rfl,fun k hk=>by omega,fun k h1 h2=>by rw[<-HN.out]at h2;omega,Below.refl _ _⟩
 case round=>
  obtain⟨p,q,QZ,hq,rfl,rfl,h1,h2,MM⟩:=hrel;have NA:q<=n:=by rw[HN.out];exact hq
  have H1:=Lib.hid h1;have H2:=Lib.hid h2;have HB:=Lib.hid MM;clear h1 h2 MM hq;by_cases dN:p<q
  ·have hm:(p+q)/2<n:=by omega
   obtain⟨c0,c1,c2⟩:=nA HS.out (i:=(p+q)/2) (by rw[<-HN.out];exact hm);have d0:=Below.cells HB.out c0;have d1:=Below.cells HB.out c1;have d2:=Below.cells HB.out c2;clear c0 c1 c2
   go_wp2_with fail
   refine(Dm _ _ _ _ _).mono ?_;rintro e w1 ⟨rfl,kz⟩;have E3:=Lib.hid kz;clear kz d0 d1 d2;by_cases hc:fy (eo l ((p+q)/2)).name s<0
   ·have hd:decide (fy (eo l ((p+q)/2)).name s<0)=true:=by simpa using hc
    go_wp2_with fail
    go_roundw
    case rel=>
     refine⟨(p+q)/2+1,q,by omega,by rw[<-HN.out];exact NA,by go_num,rfl,fun k hk=>?_,H2.out,HB.out.trans (E3.out.mono HB.out.size)⟩;exact Gt k ((p+q)/2) ae (by rw[<-HN.out];exact hm) hc
    case measure=>simp[intOf];omega
   ·have hd:decide (fy (eo l ((p+q)/2)).name s<0)=false:=by simpa using hc
    go_wp2_with fail
    go_roundw
    case rel=>
     refine⟨p,(p+q)/2,by omega,by rw[<-HN.out];omega,rfl,by go_num,H1.out,fun k NF Aj=>?_,HB.out.trans (E3.out.mono HB.out.size)⟩;exact Int.not_lt.1 fun hk=>absurd (Gt _ k NF Aj hk) (Int.not_lt.2 hc)
    case measure=>simp[intOf];omega
  ·obtain rfl:p=q:=by omega
   by_cases wN:p<n
   ·obtain⟨c0,c1,c2⟩:=nA HS.out (i:=p) (by rw[<-HN.out];exact wN);have d0:=Below.cells HB.out c0;have d1:=Below.cells HB.out c1;have d2:=Below.cells HB.out c2;clear c0 c1 c2
    go_wp2_with fail
    refine(Dm _ _ _ _ _).mono ?_;rintro e w1 ⟨rfl,kz⟩;have E3:=Lib.hid kz;clear kz d0 d1 d2
    go_wp2_with fail
    go_ret2
    exact⟨p,⟨by rw[<-HN.out];omega,H1.out,H2.out⟩,by simp[fc,<-HN.out,wN],HB.out.trans (E3.out.mono HB.out.size)⟩
   ·go_wp2_with fail
    go_ret2
    exact⟨p,⟨by rw[<-HN.out];omega,H1.out,H2.out⟩,by simp[fc,<-HN.out,wN],HB.out⟩
theorem Tz(s:aj)(w:World):
 Calls prog 247 #[.slice none 0 0,.string s,.func (.func 248) #[] #[]] w (Kj [] s w):=by
 go_enter func247,ntmps247
 go_wp2_with fail
 refine wp_loop_rounds 1 ?_;rw[rounds_succ]
 go_wp2_with fail
 go_ret2
 exact⟨0,⟨by simp,fun p hp=>by omega,fun p _ hp=>by simp at hp⟩,by simp[fc],Below.refl _ _⟩
theorem pg(b off:Nat)(c:Array Value)(T:TypeId)(fz:Nat×Nat)(v:Value)(l:List Nm)(s:aj)(w w0:World)(L:List HP)(h:St w0 (bA b (.cells c T fz)::lE 75 3 v l.length (cg l)::L) w)(hc:c[off]? =some v)(Eo:l.length<1000000)(Gt:E0 l s):
 Calls prog 148 #[.pointer (some ⟨b,off,none⟩),.string s] w (Kj l s w):=by
 have eM:w.cell? ⟨b,off,none⟩=some v:=by rw[World.cell?,h.look.2];exact hc
 have HS:=Lib.hid h;clear h hc;rcases HS.out.drop.cC with⟨rfl,hz,hx,_⟩|⟨g,cap,cur,rfl,_⟩
 ·obtain rfl:l=[]:=List.eq_nil_of_length_eq_zero hz;clear hz hx
  go_enter func148,ntmps148
  go_wp2_with (go_at_call 247;refine(Tz _ _).mono ?_;rintro e w' ⟨k,hk,rfl,hb⟩)
  go_ret2
  exact⟨k,hk,rfl,hb⟩
 ·have jg:=P6 g l.length cap l s w w0 L HS.out.drop Eo Gt;have HC:=Lib.hid jg;clear jg Gt;generalize l.length=n at *
  go_enter func148,ntmps148
  go_wp2_with fail
  refine HC.out.mono ?_;rintro e w' ⟨k,hk,rfl,hb⟩
  go_wp2_with fail
  go_ret2
  exact⟨k,hk,rfl,hb⟩
theorem NZ(s:aj)(w:World)(hs:s.size<=9223372036854775807):
 Calls prog 239 #[.string s,.string rE] w fun e w'=>e=.returned (.string ⟨(Lib.trimS s.data.toList rE.data.toList).toArray⟩)/\Below w.heap.size w w':=
 Any.strings_Trim_laid Tryz.lays160 bC s rE w hs ah (ascii_of_all ah)
theorem xv(s:aj)(xQ:Nat)(w:World)(hs:s.size<=maxLen)(_hm:xQ<100):
 Calls prog 143 #[.string s,.int .i64 xQ] w fun e w'=>e=.returned (.bool (dc s xQ))/\Below w.heap.size w w':=by
 have aM:s.size<=9223372036854775807:=by unfold maxLen at hs;exact hs
 clear hs;have ht:=NZ s w aM;have HT:=Lib.hid ht;have HN:=Lib.hid (LK s);clear ht;by_cases h1:1<=s.size
 ·by_cases h2:s.size<=xQ
  ·have hd1:decide ((1:Int)<=(s.size:Int))=true:=by simp;omega
   have wQ:decide ((s.size:Int)<=(xQ:Int))=true:=by simp;omega
   by_cases h3:gB s=true
   ·have iW:dc s xQ=true:=by simp[dc,h1,h2,h3]
    have HF:=Lib.hid iW;have HE:=Lib.hid (HN.out.2 h3);clear iW h3
    go_enter func143,ntmps143
    go_wp2_with fail
    refine HT.out.mono ?_;rintro e w' ⟨rfl,hb⟩;rw[HE.out]
    go_wp2_with fail
    go_ret
    exact⟨fQ HF.out.symm,hb⟩
   ·have iW:dc s xQ=false:=by simp[dc,h3]
    have HF:=Lib.hid iW;have oo:Lib.trimS s.data.toList rE.data.toList≠[]:=fun h=>h3 (HN.out.1 h)
    obtain⟨x,xs,hx⟩:=List.exists_cons_of_ne_nil oo;have HE:=Lib.hid hx;clear iW h3 oo hx
    go_enter func143,ntmps143
    go_wp2_with fail
    refine HT.out.mono ?_;rintro e w' ⟨rfl,hb⟩;rw[HE.out]
    go_wp2_with fail
    go_ret
    exact⟨fQ HF.out.symm,hb⟩
  ·have hd1:decide ((1:Int)<=(s.size:Int))=true:=by simp;omega
   have wQ:decide ((s.size:Int)<=(xQ:Int))=false:=by simp;omega
   have iW:dc s xQ=false:=by simp[dc,h2]
   have HF:=Lib.hid iW;clear iW
   go_enter func143,ntmps143
   go_wp2_with fail
   go_ret
   exact⟨fQ HF.out.symm,Below.refl _ _⟩
 ·have hd1:decide ((1:Int)<=(s.size:Int))=false:=by simp;omega
  have iW:dc s xQ=false:=by simp[dc,h1]
  have HF:=Lib.hid iW;clear iW
  go_enter func143,ntmps143
  go_wp2_with fail
  go_ret
  exact⟨fQ HF.out.symm,Below.refl _ _⟩
theorem DL(s:aj)(b:Bool)(w:World)(hs:s.size<=maxLen)(hb:cH s=b):
 Calls prog 240 #[.string s] w fun e w'=>e=.returned (.bool b)/\Below w.heap.size w w':=by
 subst hb;have H:=Lib.hid (xv s 8 w hs ae)
 go_enter func240,ntmps240
 go_wp2_with fail
 refine H.out.mono ?_;rintro e w' ⟨rfl,hb⟩
 go_wp2_with fail
 go_ret
 exact⟨rfl,hb⟩
theorem TA(s:aj)(b:Bool)(w:World)(hs:s.size<=maxLen)(hb:fJ s=b):
 Calls prog 54 #[.string s] w fun e w'=>e=.returned (.bool b)/\Below w.heap.size w w':=by
 subst hb;have H:=Lib.hid (xv s 12 w hs ae)
 go_enter func54,ntmps54
 go_wp2_with fail
 refine H.out.mono ?_;rintro e w' ⟨rfl,hb⟩
 go_wp2_with fail
 go_ret
 exact⟨rfl,hb⟩
theorem L0(x:Nm)(w:World)(h1:x.name.size<=maxLen)(h2:x.gK.size<=maxLen):
 Calls prog 267 #[.agg x.cells.toArray] w fun e w'=>e=.returned (.bool (bK x))/\Below w.heap.size w w':=by
 obtain⟨a,b,n⟩:=x;simp only at h1 h2
 show Calls prog 267 #[.agg #[.string a,.string b,.int .i64 n]] w _
 have W1:∀(v:Bool) (w:World),cH a=v->Calls prog 240 #[.string a] w fun e w'=>e=.returned (.bool v)/\Below w.heap.size w w':=fun v w hv=>DL a v w h1 hv
 have W2:∀(v:Bool) (w:World),cH b=v->Calls prog 240 #[.string b] w fun e w'=>e=.returned (.bool v)/\Below w.heap.size w w':=fun v w hv=>DL b v w h2 hv
 have H1:=Lib.hid W1;have H2:=Lib.hid W2;clear W1 W2 h1 h2;have UT:Below w.heap.size w (w.alloc (.cells #[.string a,.string b,.int .i64 n] 75)):=(Below.refl _ _).alloc (aP _) _;have Zu:=Lib.hid UT;clear UT;cases hA:cH a with
 |false=>
  have HF:=Lib.hid (show bK ⟨a,b,n⟩=false by simp[bK,hA]);have HA:=Lib.hid hA;clear hA
  go_enter func267,ntmps267
  go_wp2_with fail
  refine(H1.out _ _ HA.out).mono ?_;rintro e w1 ⟨rfl,kz⟩;have E3:=Lib.hid (Zu.out.trans (kz.mono ai));clear kz
  go_wp2_with fail
  go_ret
  exact⟨fQ HF.out.symm,E3.out⟩
 |true=>
  have HA:=Lib.hid hA;by_cases Bi:n< -1
  ·have HF:=Lib.hid (show bK ⟨a,b,n⟩=false by simp[bK];omega);have hd:decide (n< -1)=true:=by simpa using Bi
   clear hA Bi
   go_enter func267,ntmps267
   go_wp2_with fail
   refine(H1.out _ _ HA.out).mono ?_;rintro e w1 ⟨rfl,kz⟩;have E3:=Lib.hid (Zu.out.trans (kz.mono ai));obtain⟨c0,c1,c2⟩:w1.cell? ⟨w.heap.size,0,none⟩=some (.string a)/\w1.cell? ⟨w.heap.size,1,none⟩=some (.string b)/\w1.cell? ⟨w.heap.size,2,none⟩=some (.int .i64 n):=
    ⟨Below.cells kz ai,Below.cells kz ai,Below.cells kz ai⟩
   clear kz
   go_wp2_with fail
   go_ret
   exact⟨fQ HF.out.symm,E3.out⟩
  ·by_cases Eo:n>=4
   ·have HF:=Lib.hid (show bK ⟨a,b,n⟩=false by simp[bK];omega);have hd:decide (n< -1)=false:=by simpa using Bi
    have wQ:decide ((4:Int)<=n)=true:=by simpa using Eo
    clear hA Bi Eo
    go_enter func267,ntmps267
    go_wp2_with fail
    refine(H1.out _ _ HA.out).mono ?_;rintro e w1 ⟨rfl,kz⟩;have E3:=Lib.hid (Zu.out.trans (kz.mono ai));obtain⟨c0,c1,c2⟩:w1.cell? ⟨w.heap.size,0,none⟩=some (.string a)/\w1.cell? ⟨w.heap.size,1,none⟩=some (.string b)/\w1.cell? ⟨w.heap.size,2,none⟩=some (.int .i64 n):=
     ⟨Below.cells kz ai,Below.cells kz ai,Below.cells kz ai⟩
    clear kz
    go_wp2_with fail
    go_ret
    exact⟨fQ HF.out.symm,E3.out⟩
   ·have hd:decide (n< -1)=false:=by simpa using Bi
    have wQ:decide ((4:Int)<=n)=false:=by simpa using Eo
    cases hB:cH b with
    |true=>
     have HF:=Lib.hid (show bK ⟨a,b,n⟩=true by simp[bK,hA,hB];omega);have HB:=Lib.hid hB;clear hA Bi Eo hB
     go_enter func267,ntmps267
     go_wp2_with fail
     refine(H1.out _ _ HA.out).mono ?_;rintro e w1 ⟨rfl,kz⟩;have E3:=Lib.hid (Zu.out.trans (kz.mono ai));obtain⟨c0,c1,c2⟩:w1.cell? ⟨w.heap.size,0,none⟩=some (.string a)/\w1.cell? ⟨w.heap.size,1,none⟩=some (.string b)/\w1.cell? ⟨w.heap.size,2,none⟩=some (.int .i64 n):=
      ⟨Below.cells kz ai,Below.cells kz ai,Below.cells kz ai⟩
     clear kz
     go_wp2_with fail
     refine(H2.out _ _ HB.out).mono ?_;rintro e w2 ⟨rfl,iw⟩;have Bu:=Lib.hid (E3.out.trans (iw.mono E3.out.size));clear iw
     go_wp2_with fail
     go_ret
     exact⟨fQ HF.out.symm,Bu.out⟩
    |false=>
     have HB:=Lib.hid hB;cases hE:gQ b with
     |false=>
      have HF:=Lib.hid (show bK ⟨a,b,n⟩=false by simp[bK,hB,hE]);have E6:b.toList.isEmpty=false:=hE;have fX:(b.toList==[])=false:=by simpa[gQ]using hE
      clear hA Bi Eo hB hE
      go_enter func267,ntmps267
      go_wp2_with fail
      refine(H1.out _ _ HA.out).mono ?_;rintro e w1 ⟨rfl,kz⟩;have E3:=Lib.hid (Zu.out.trans (kz.mono ai));obtain⟨c0,c1,c2⟩:w1.cell? ⟨w.heap.size,0,none⟩=some (.string a)/\w1.cell? ⟨w.heap.size,1,none⟩=some (.string b)/\w1.cell? ⟨w.heap.size,2,none⟩=some (.int .i64 n):=
       ⟨Below.cells kz ai,Below.cells kz ai,Below.cells kz ai⟩
      clear kz
      go_wp2_with fail
      refine(H2.out _ _ HB.out).mono ?_;rintro e w2 ⟨rfl,iw⟩;have Bu:=Lib.hid (E3.out.trans (iw.mono E3.out.size));have d0:=Below.cells iw c0;have d1:=Below.cells iw c1;have d2:=Below.cells iw c2;clear iw c0 c1 c2
      go_wp2_with fail
      go_ret
      exact⟨fQ HF.out.symm,Bu.out⟩
     |true=>
      have p1:decide (-1<=n)=true:=by simp;omega
      have p2:decide (n<=3)=true:=by simp;omega
      have HF:=Lib.hid (show bK ⟨a,b,n⟩=(n== -1)by simp only[bK,hA,hB,hE,p1,p2,Bool.true_and,Bool.false_or]);clear p1 p2;have E6:b.toList.isEmpty=true:=hE;have fX:b.toList=[]:=by simpa[gQ]using hE
      clear hA Bi Eo hB hE
      go_enter func267,ntmps267
      go_wp2_with fail
      refine(H1.out _ _ HA.out).mono ?_;rintro e w1 ⟨rfl,kz⟩;have E3:=Lib.hid (Zu.out.trans (kz.mono ai));obtain⟨c0,c1,c2⟩:w1.cell? ⟨w.heap.size,0,none⟩=some (.string a)/\w1.cell? ⟨w.heap.size,1,none⟩=some (.string b)/\w1.cell? ⟨w.heap.size,2,none⟩=some (.int .i64 n):=
       ⟨Below.cells kz ai,Below.cells kz ai,Below.cells kz ai⟩
      clear kz
      go_wp2_with fail
      refine(H2.out _ _ HB.out).mono ?_;rintro e w2 ⟨rfl,iw⟩;have Bu:=Lib.hid (E3.out.trans (iw.mono E3.out.size));have d0:=Below.cells iw c0;have d1:=Below.cells iw c1;have d2:=Below.cells iw c2;clear iw c0 c1 c2
      go_wp2_with fail
      go_ret
      exact⟨fQ HF.out.symm,Bu.out⟩
theorem AQ(w0:World)(L:List HP)(s:aj)(hs:s.size<=maxLen):KE prog 54 #[.string s] w0 L (fun u L'=>u=.bool (fJ s)/\L'=L):=KE.bU fun w _=>TA s _ w hs rfl
theorem Iy(w0:World)(L:List HP)(s:aj)(hs:s.size<=maxLen):KE prog 240 #[.string s] w0 L (fun u L'=>u=.bool (cH s)/\L'=L):=KE.bU fun w _=>DL s _ w hs rfl
theorem Ky(w0:World)(L:List HP)(m:Ms)(hb:m.body.size<=maxLen)(hq:m.queue.size<=maxLen):
 KE prog 145 #[.agg (dy m).toArray] w0 L (fun v L'=>v=.bool (bD m)/\L'=L):=by
 refine KE.mk (n:=41) func145 rfl ntmps145 ai ?_;intro w hw;refine Z2 ?_;refine KO.box rfl rfl aN rfl ?_;intro b1;refine jL ?_;have sM:¬0<=m.id\/(0<=m.id/\¬m.id<=1099511627776)\/(0<=m.id/\m.id<=1099511627776/\¬0<=m.pri)\/(0<=m.id/\m.id<=1099511627776/\0<=m.pri/\¬m.pri<=9)\/(0<=m.id/\m.id<=1099511627776/\0<=m.pri/\m.pri<=9/\fJ m.body=false)\/
  (0<=m.id/\m.id<=1099511627776/\0<=m.pri/\m.pri<=9/\fJ m.body=true/\cH m.queue=false)\/(0<=m.id/\m.id<=1099511627776/\0<=m.pri/\m.pri<=9/\fJ m.body=true/\cH m.queue=true/\¬0<=m.bF)\/
  (0<=m.id/\m.id<=1099511627776/\0<=m.pri/\m.pri<=9/\fJ m.body=true/\cH m.queue=true/\0<=m.bF):=by
  cases fJ m.body<;>cases cH m.queue<;>simp <;>omega
 have fin:∀(b:Bool) (w':World) (M:List HP),b=bD m->St w M w'->∃v L',Ending.returned (.bool b)=Ending.returned v/\(v=.bool (bD m)/\L'=L)/\St w0 L' w'/\Below w.heap.size w w':=fun b w' M e hs=>⟨_,_,rfl,⟨by rw[e],rfl⟩,hw.aA hs.below,hs.below⟩
 rcases sM with h1|⟨h1,h2⟩|⟨h1,h2,h3⟩|⟨h1,h2,h3,h4⟩|⟨h1,h2,h3,h4,h5⟩|⟨h1,h2,h3,h4,h5,h6⟩|⟨h1,h2,h3,h4,h5,h6,h7⟩|⟨h1,h2,h3,h4,h5,h6,h7⟩
 ·refine ab4 ?_;refine ET ?_;refine vK ?_;refine vK ?_;refine pF ?_
  (refine KO.no rfl rfl ?_ rfl ?_;(rfl))
  refine tW ?_;refine pF ?_
  (refine KO.no rfl rfl ?_ rfl ?_;(rfl))
  refine tW ?_;refine HJ ?_;exact KQ.aU rfl rfl (fun w' hs=>fin _ w' _ Vh hs)
 ·refine JZ ?_;refine Kc ?_;refine ET ?_;refine vK ?_;refine pF ?_
  (refine KO.no rfl rfl ?_ rfl ?_;(rfl))
  refine tW ?_;refine pF ?_
  (refine KO.no rfl rfl ?_ rfl ?_;(rfl))
  refine tW ?_;refine HJ ?_;exact KQ.aU rfl rfl (fun w' hs=>fin _ w' _ Vh hs)
 ·refine JZ ?_;refine t_ ?_;refine A7 ?_;refine qG ?_;refine sx ?_;refine ET ?_;refine pF ?_
  (refine KO.no rfl rfl ?_ rfl ?_;(rfl))
  refine tW ?_;refine pF ?_
  (refine KO.no rfl rfl ?_ rfl ?_;(rfl))
  refine tW ?_;refine HJ ?_;exact KQ.aU rfl rfl (fun w' hs=>fin _ w' _ Vh hs)
 ·refine JZ ?_;refine t_ ?_;refine A7 ?_;refine qG ?_;refine sx ?_;refine yW ?_;refine A7 ?_;refine Kc ?_;refine B9 ?_
  (refine KO.no rfl rfl ?_ rfl ?_;((simp;omega)))
  refine Fb ?_;refine pF ?_
  (refine KO.no rfl rfl ?_ rfl ?_;(rfl))
  refine tW ?_;refine HJ ?_;exact KQ.aU rfl rfl (fun w' hs=>fin _ w' _ Vh hs)
 ·refine JZ ?_;refine t_ ?_;refine A7 ?_;refine qG ?_;refine sx ?_;refine yW ?_;refine A7 ?_;refine t_ ?_;refine Cb ?_;refine sh ?_;refine EG ?_
  (refine KO.on rfl rfl ?_ ?_;(simp;omega);refine KO.ce (cp:=[]) rfl rfl rfl call54 rfl (AQ w _ _ hb) ?_;rintro v L' ⟨rfl,rfl⟩)
  refine sx ?_;refine Z1 ?_;refine B8 ?_
  (refine KO.no rfl rfl ?_ rfl ?_;(assumption))
  refine KO.lB rfl sE rfl rfl ?_;refine HJ ?_;exact KQ.aU rfl rfl (fun w' hs=>fin _ w' _ Vh hs)
 ·refine JZ ?_;refine t_ ?_;refine A7 ?_;refine qG ?_;refine sx ?_;refine yW ?_;refine A7 ?_;refine t_ ?_;refine Cb ?_;refine sh ?_;refine EG ?_
  (refine KO.on rfl rfl ?_ ?_;(simp;omega);refine KO.ce (cp:=[]) rfl rfl rfl call54 rfl (AQ w _ _ hb) ?_;rintro v L' ⟨rfl,rfl⟩)
  refine sx ?_;refine EP ?_;refine JM ?_;refine vI ?_;refine EG ?_
  (refine KO.on rfl rfl ?_ ?_;(assumption);refine KO.ce (cp:=[]) rfl rfl rfl call240 rfl (Iy w _ _ hq) ?_;rintro v L' ⟨rfl,rfl⟩)
  refine J1 ?_;refine Z1 ?_;refine B8 ?_;refine KO.no rfl rfl sE rfl ?_;refine KO.lB rfl sE rfl rfl ?_;refine TU ?_;exact KQ.aU rfl rfl (fun w' hs=>fin _ w' _ Vh hs)
 ·refine JZ ?_;refine t_ ?_;refine A7 ?_;refine qG ?_;refine sx ?_;refine yW ?_;refine A7 ?_;refine t_ ?_;refine Cb ?_;refine sh ?_;refine EG ?_
  (refine KO.on rfl rfl ?_ ?_;(simp;omega);refine KO.ce (cp:=[]) rfl rfl rfl call54 rfl (AQ w _ _ hb) ?_;rintro v L' ⟨rfl,rfl⟩)
  refine sx ?_;refine EP ?_;refine JM ?_;refine vI ?_;refine EG ?_
  (refine KO.on rfl rfl ?_ ?_;(assumption);refine KO.ce (cp:=[]) rfl rfl rfl call240 rfl (Iy w _ _ hq) ?_;rintro v L' ⟨rfl,rfl⟩)
  refine J1 ?_;refine EP ?_;refine NO ?_;refine vI ?_;refine sP ?_;refine vI ?_;refine qG ?_;refine J1 ?_;refine ET ?_;refine kq ?_;exact KQ.aU rfl rfl (fun w' hs=>fin _ w' _ Vh hs)
 ·refine JZ ?_;refine t_ ?_;refine A7 ?_;refine qG ?_;refine sx ?_;refine yW ?_;refine A7 ?_;refine t_ ?_;refine Cb ?_;refine sh ?_;refine EG ?_
  (refine KO.on rfl rfl ?_ ?_;(simp;omega);refine KO.ce (cp:=[]) rfl rfl rfl call54 rfl (AQ w _ _ hb) ?_;rintro v L' ⟨rfl,rfl⟩)
  refine sx ?_;refine EP ?_;refine JM ?_;refine vI ?_;refine EG ?_
  (refine KO.on rfl rfl ?_ ?_;(assumption);refine KO.ce (cp:=[]) rfl rfl rfl call240 rfl (Iy w _ _ hq) ?_;rintro v L' ⟨rfl,rfl⟩)
  refine J1 ?_;refine EP ?_;refine NO ?_;refine vI ?_;refine sP ?_;refine vI ?_;refine qG ?_;refine J1 ?_;refine yW ?_;refine NO ?_;refine J7 ?_;refine um ?_;refine sx ?_;refine kq ?_;exact KQ.aU rfl rfl (fun w' hs=>fin _ w' _ Vh hs)
theorem ZP(w0:World)(L:List HP)(b:Nat)(q:Qu)(m:Ms)(u:Int)(hq:Yt q)(hb:m.body.size<=maxLen)(hs:m.queue.size<=maxLen):
 KC prog 56 #[.pointer (some ⟨b,0,none⟩),.agg (dy m).toArray,.int .i64 u] w0 (jv b q::L) (fun v L'=>v=dj 70 (jC q m)/\L'=jv b (lU q m u)::L):=by
 have hl:=hq.len;refine KC.mk (n:=30) func56 rfl ntmps56 ai ?_;refine Z2 ?_;refine KO.box rfl rfl aN rfl ?_;intro b4;refine Hd ?_;refine di ?_;refine yl ?_;refine KO.ce (cp:=[]) rfl rfl rfl call145 rfl (Ky w0 _ m hb hs) ?_;rintro v L' ⟨rfl,rfl⟩;refine pC ?_;refine qV ?_;refine K.cond rfl (fun h=>?_) (fun h=>?_)
 ·have hr:bD m=false:=by simpa using h
  refine ya ?_;refine KQ.aU rfl rfl (fun w' hs=>⟨_,_,rfl,⟨by simp only[jC,hr,if_true];rfl,rfl⟩,?_⟩);rw[show lU q m u=q by simp[lU,jC,hr]];exact(hs.pick aQ).uh mN
 ·have hr:bD m=true:=by simpa using h
  have hp:=bG hr;refine m_ ?_;refine HW ?_;refine KO.ce (cp:=[]) rfl rfl rfl call146 rfl (UU w0 _ _ b q m.id aQ ae) ?_;rintro v L' ⟨rfl,rfl⟩;refine qV ?_;refine K.cond rfl (fun h1=>?_) (fun h1=>?_)
  ·refine ya ?_;refine KQ.aU rfl rfl (fun w' hs=>⟨_,_,rfl,⟨by simp only[jC,hr,h1,if_true,Bool.true_eq_false,if_false];rfl,rfl⟩,?_⟩);rw[show lU q m u=q by simp[lU,jC,hr,h1]];exact(hs.pick aQ).uh mN
  ·refine K.pk (A:=jv b q) aQ ?_;refine K.bV (fun _ h=>jW h) fun v=>?_
   refine K.fact (fun _ h=>bo h.drop) ?_;rintro⟨sa,cap,rfl,Be⟩;refine m_ ?_;refine TR ?_;refine Bb ?_;refine qG ?_;refine qV ?_;refine K.bn rfl (fun h2=>?_) (fun h2=>?_)
   ·have h3:20<=q.l.length:=by omega
    refine ya ?_;refine KQ.aU rfl rfl (fun w' hs=>⟨_,_,rfl,⟨by simp only[jC,hr,h1,h3,if_true,Bool.true_eq_false,Bool.false_eq_true,if_false];rfl,rfl⟩,?_⟩);rw[show lU q m u=q by simp[lU,jC,hr,h1,h3]];exact kQ ((hs.ey br br).Bo mN)
   ·have h3:¬20<=q.l.length:=by omega
    refine K.conv (fun _ h=>kQ h) ?_
    refine TJ ?_;refine cW ?_;refine Qe ?_;refine Z1 ?_;refine KO.cl (cp:=[]) rfl rfl rfl call147 rfl (KC.jN br (D6 w0 _ b q m u hq (by unfold small;omega))) ?_;rintro v L' ⟨rfl,rfl⟩;refine qO ?_;refine KQ.aU rfl rfl (fun w' hs=>⟨_,_,rfl,⟨by simp only[jC,hr,h1,h3,Bool.true_eq_false,Bool.false_eq_true,if_false];rfl,rfl⟩,?_⟩);rw[show lU q m u=dr q m u by simp[lU,jC,hr,h1,h3]];exact hs.uh mN
open Go Go.RowKit Go.Extern.Stop Go.Stop Go.Extern WB
theorem NV(t:Addr)(w:World):(ReflectliteValue.unpack (.iface 410 (.pointer (some t)))).run prog w
 =.ok (.agg #[.pointer (some ⟨10,410,none⟩),.pointer (some ⟨w.heap.size,0,none⟩),.int .u64 150]) (w.alloc (.cells #[.pointer (some t)] 410)):=by kernel_rfl
theorem Zx(a:Addr)(w:World):(ReflectliteValue.methodAny (ReflectliteValue.valueError "reflectlite.Value.Type" 0) (fun t _ _ _=>ReflectliteType.toType t) #[.agg #[.pointer (some ⟨10,410,none⟩),.pointer (some a),.int .u64 150]]).run prog w
 =.ok (.iface 367 (.agg #[.pointer (some ⟨10,410,none⟩)])) w:=by kernel_rfl
theorem I0(h:Value)(w:World):(Go.method (592) 367 (.agg #[h]) "Kind").run prog w=.ok (428,h) w:=by kernel_rfl
theorem aag(w:World):((ReflectliteType.abiMethod fun t=>Functor.map (fun a : Nat => Value.int IntKind.u8 (a:Int)) (Rtype.kind t)) #[.pointer (some ⟨10,410,none⟩)]).run prog w=.ok (.int .u8 22) w:=by kernel_rfl
theorem aah(w:World):((ReflectliteType.abiMethod fun t=>Functor.map (fun a : Nat => Value.int IntKind.u8 (a:Int)) (Rtype.kind t)) #[.pointer (some ⟨10,70,none⟩)]).run prog w=.ok (.int .u8 2) w:=by kernel_rfl
theorem rlm(z:Sem Value)(f:TypeId->Addr->Nat->Nat->Sem Value)(v:Value):
 ReflectliteValue.method z f #[v]=(do match <-ReflectliteValue.parts v with|none=>z|some (t,a,fl)=>f t a fl (fl%32)):=rfl
theorem Oy(a:Addr)(w:World):(ReflectliteValue.parts (.agg #[.pointer (some ⟨10,410,none⟩),.pointer (some a),.int .u64 150])).run prog w=.ok (some (410,a,150)) w:=by kernel_rfl
theorem V6(a p:Addr)(W:World)(ha:W.cell? a=some (.pointer (some p))):
 (ReflectliteValue.method (ReflectliteValue.valueError "reflectlite.Value.IsNil" 0) ReflectliteValue.isNil #[.agg #[.pointer (some ⟨10,410,none⟩),.pointer (some a),.int .u64 150]]).run prog W=.ok (.bool false) W:=by
 rw[rlm];simp only[Sem.run_bind,Oy,Result.andThen];simp[ReflectliteValue.isNil,loadVar,isAgg,underlying,underlying410,ha,Result.andThen]
theorem I1(h:Value)(w:World):(Go.method (592) 367 (.agg #[h]) "Elem").run prog w=.ok (438,.agg #[h]) w:=by kernel_rfl
theorem wz(h:Value)(w:World):(Go.method (592) 367 (.agg #[h]) "Implements").run prog w=.ok (439,.agg #[h]) w:=by kernel_rfl
theorem tD(h:Value)(w:World):(Go.method (592) 367 (.agg #[h]) "AssignableTo").run prog w=.ok (437,.agg #[h]) w:=by kernel_rfl
theorem abA(w:World):(ReflectliteType.method ReflectliteType.elem #[.agg #[.pointer (some ⟨10,410,none⟩)]]).run prog w=.ok (.iface 367 (.agg #[.pointer (some ⟨10,70,none⟩)])) w:=by kernel_rfl
theorem Gf(w:World):(ReflectliteType.relation "Implements" ReflectliteType.implements_ #[.agg #[.pointer (some ⟨10,70,none⟩)],.iface 367 (.agg #[.pointer (some ⟨10,31,none⟩)])]).run prog w=.ok (.bool true) w:=by kernel_rfl
theorem Ry(v:Value)(w:World):(ReflectliteType.typeOf #[.iface 70 v]).run prog w=.ok (.iface 367 (.agg #[.pointer (some ⟨10,70,none⟩)])) w:=by kernel_rfl
theorem Ha(w:World):(ReflectliteType.relation "AssignableTo" ReflectliteType.assignableTo #[.agg #[.pointer (some ⟨10,70,none⟩)],.iface 367 (.agg #[.pointer (some ⟨10,70,none⟩)])]).run prog w=.ok (.bool true) w:=by kernel_rfl
theorem NW(k:Int)(w:World):(ReflectliteValue.unpack (.iface 70 (.int .i64 k))).run prog w
 =.ok (.agg #[.pointer (some ⟨10,70,none⟩),.pointer (some ⟨w.heap.size,0,none⟩),.int .u64 130]) (w.alloc (.cells #[.int .i64 k] 70)):=by kernel_rfl
theorem Tn(w:World):(Rtype.elem? 410).run prog w=.ok (some 70) w:=by kernel_rfl
theorem mkE(p:Addr)(w:World):(ReflectliteValue.mk 70 p ReflectliteValue.flagAddr).run prog w=.ok (.agg #[.pointer (some ⟨10,70,none⟩),.pointer (some p),.int .u64 386]) w:=by kernel_rfl
theorem W9(a p:Addr)(W:World)(ha:W.cell? a=some (.pointer (some p))):
 (ReflectliteValue.method (ReflectliteValue.valueError "reflectlite.Value.Elem" 0) ReflectliteValue.elem #[.agg #[.pointer (some ⟨10,410,none⟩),.pointer (some a),.int .u64 150]]).run prog W
  =.ok (.agg #[.pointer (some ⟨10,70,none⟩),.pointer (some p),.int .u64 386]) W:=by
 rw[rlm];simp only[Sem.run_bind,Oy,Result.andThen];simp[ReflectliteValue.elem,loadVar,isAgg,underlying,underlying410,ha,Result.andThen,Tn,mkE]
theorem rls(v x:Value):ReflectliteValue.set #[v,x]=(do
 let(some (dst,a,fl),some (src,b,_)):=(<-ReflectliteValue.parts v,<-ReflectliteValue.parts x)
  |unsupported (.noEntry "extern/(internal/reflectlite.Value).Set.zeroValue")
 if fl/ReflectliteValue.flagAddr%2==0 then unsupported (.noEntry "extern/(internal/reflectlite.Value).Set.unaddressable")
 let val <-loadVar src b
 if <-Rtype.directlyAssignable dst src then storeVar dst a val
 else if <-Rtype.implements dst src then
  if(<-Rtype.kind src)==20 then
   match val with
   | .nilIface=>unsupported (.noEntry "extern/reflectlite: a nil value of one interface type handed on as a value of another")
   |_=>storeVar dst a val
  else storeVar dst a (.iface src val)
 else panicString ("reflectlite.Set: value of type "++(<-Rtype.spelt src)++ " is not assignable to type "++(<-Rtype.spelt dst))
 pure (.tuple #[])):=rfl
theorem Se(a:Addr)(w:World):(ReflectliteValue.parts (.agg #[.pointer (some ⟨10,70,none⟩),.pointer (some a),.int .u64 386])).run prog w=.ok (some (70,a,386)) w:=by kernel_rfl
theorem VO(a:Addr)(w:World):(ReflectliteValue.parts (.agg #[.pointer (some ⟨10,70,none⟩),.pointer (some a),.int .u64 130])).run prog w=.ok (some (70,a,130)) w:=by kernel_rfl
theorem Tq(w:World):(Rtype.directlyAssignable 70 70).run prog w=.ok true w:=by kernel_rfl
theorem aej(ta b:Addr)(k:Int)(Ii:Value)(W:World)(hb:W.cell? b=some (.int .i64 k))(ht:W.cell? ta=some Ii)(hf:W.frozen? ta=false):
 (ReflectliteValue.set #[.agg #[.pointer (some ⟨10,70,none⟩),.pointer (some ta),.int .u64 386],.agg #[.pointer (some ⟨10,70,none⟩),.pointer (some b),.int .u64 130]]).run prog W
  =.ok (.tuple #[]) (W.setCell ta (.int .i64 k)):=by
 rw[rls];simp only[Sem.run_bind,Se,VO,Result.andThen];simp[ReflectliteValue.flagAddr,loadVar,isAgg,underlying,underlying70,hb,Result.andThen,Tq,storeVar,Value.cells,storeCells,Addr.add];rw[run_store prog W ta _ _ (by rfl)];simp[ht,hf]
def fM (w:World):Prop:=w.cell? ⟨5,0,none⟩=some (.iface 367 (.agg #[.pointer (some ⟨10,31,none⟩)]))
theorem Xt(k:Int)(t:Addr)(Ii:Value)(w:World)(hg:w.cell? ⟨5,0,none⟩=some (.iface 367 (.agg #[.pointer (some ⟨10,31,none⟩)])))(ht0:w.cell? t=some Ii)(hf0:w.frozen? t=false):
 Calls prog 360 #[.iface 70 (.int .i64 k),.iface 410 (.pointer (some t))] w fun ev w'=>ev=.returned (.bool true)/\w'=((((w.alloc (.cells #[.pointer (some t)] 410)).alloc (.cells #[.pointer (some ⟨10,410,none⟩),.pointer (some ⟨w.heap.size,0,none⟩),.int .u64 150] 299)).alloc (.cells #[.pointer (some ⟨10,410,none⟩),.pointer (some ⟨w.heap.size,0,none⟩),.int .u64 150] 299)).alloc (.cells #[.int .i64 k] 70)).setCell t (.int .i64 k):=by
 have h6:=@run_callFunc_extern prog 209 _ (fun args=>ReflectliteValue.unpack (args.getD 0 (.tuple #[]))) func209 bC bC bC bC;have h7:=@run_callFunc_extern prog 393 _ (ReflectliteValue.methodAny (ReflectliteValue.valueError "reflectlite.Value.Type" 0) (fun t _ _ _=>ReflectliteType.toType t)) func393 bC bC bC bC;have h8:=@run_callFunc_extern prog 394 _ (ReflectliteValue.method (ReflectliteValue.valueError "reflectlite.Value.IsNil" 0) ReflectliteValue.isNil) func394 bC bC bC bC;have h27:=@run_callFunc_extern prog 428 _ (ReflectliteType.abiMethod fun t=>do pure (.int .u8 (<-Rtype.kind t))) func428 bC bC bC bC;have h37:=@run_callFunc_extern prog 438 _ (ReflectliteType.method ReflectliteType.elem) func438 bC bC bC bC;have h38:=@run_callFunc_extern prog 439 _ (ReflectliteType.relation "Implements" ReflectliteType.implements_) func439 bC bC bC bC;have Bn:=@run_callFunc_extern prog 408 _ ReflectliteType.typeOf func408 bC bC bC bC;have h35:=@run_callFunc_extern prog 437 _ (ReflectliteType.relation "AssignableTo" ReflectliteType.assignableTo) func437 bC bC bC bC
 have Ao:=@run_callFunc_extern prog 409 _ (ReflectliteValue.method (ReflectliteValue.valueError "reflectlite.Value.Elem" 0) ReflectliteValue.elem) func409 bC bC bC bC;have W0:=@run_callFunc_extern prog 410 _ ReflectliteValue.set func410 bC bC bC bC;have tO:=Ry;have mA:=tD;have a25:=Ha;have v25:=NW;have f6:=NV;have f7:=Zx;have mK:=I0;have mE:=I1;have mI:=wz;have k27:=aag;have k25:=aah;have e27:=abA;have i25:=Gf;have n8:=V6 ⟨w.heap.size,0,none⟩ t ((w.alloc (.cells #[.pointer (some t)] 410)).alloc (.cells #[.pointer (some ⟨10,410,none⟩),.pointer (some ⟨w.heap.size,0,none⟩),.int .u64 150] 299)) ai;have dN:5<w.heap.size:=by
  rcases Nat.lt_or_ge 5 w.heap.size with h|h
  ·exact h
  ·simp[World.cell?,Array.getElem?_eq_none h]at hg
 have Pt:((w.alloc (.cells #[.pointer (some t)] 410)).alloc (.cells #[.pointer (some ⟨10,410,none⟩),.pointer (some ⟨w.heap.size,0,none⟩),.int .u64 150] 299)).cell? ⟨5,0,none⟩=some (.iface 367 (.agg #[.pointer (some ⟨10,31,none⟩)])):=by
  rw[World.cell?_alloc_lt _ _ ⟨5,0,none⟩ (by simp <;>omega),World.cell?_alloc_lt _ _ ⟨5,0,none⟩ dN];exact hg
 have xy:t.block<w.heap.size:=by
  rcases Nat.lt_or_ge t.block w.heap.size with h|h
  ·exact h
  ·simp[World.cell?,Array.getElem?_eq_none h]at ht0
 have el:=W9 ⟨w.heap.size,0,none⟩ t (((w.alloc (.cells #[.pointer (some t)] 410)).alloc (.cells #[.pointer (some ⟨10,410,none⟩),.pointer (some ⟨w.heap.size,0,none⟩),.int .u64 150] 299)).alloc (.cells #[.pointer (some ⟨10,410,none⟩),.pointer (some ⟨w.heap.size,0,none⟩),.int .u64 150] 299)) (by rw[World.cell?_alloc_lt _ _ ⟨w.heap.size,0,none⟩ ez];simp);have st:=aej t ⟨w.heap.size+1+1+1,0,none⟩ k Ii ((((w.alloc (.cells #[.pointer (some t)] 410)).alloc (.cells #[.pointer (some ⟨10,410,none⟩),.pointer (some ⟨w.heap.size,0,none⟩),.int .u64 150] 299)).alloc (.cells #[.pointer (some ⟨10,410,none⟩),.pointer (some ⟨w.heap.size,0,none⟩),.int .u64 150] 299)).alloc (.cells #[.int .i64 k] 70))
  (by rw[World.cell?_alloc_at _ _ _ _ ai];rfl)
  (by rw[World.cell?_alloc_lt _ _ t ez,World.cell?_alloc_lt _ _ t ez,World.cell?_alloc_lt _ _ t ez,World.cell?_alloc_lt _ _ t xy];exact ht0)
  (by rw[World.frozen?_alloc_old _ _ t ez,World.frozen?_alloc_old _ _ t ez,World.frozen?_alloc_old _ _ t ez,World.frozen?_alloc_old _ _ t (Nat.ne_of_lt xy)];exact hf0)
 go_enter func360,ntmps360
 go_wp2
 refine wp_loop_rounds 1 ?_;rw[rounds_succ]
 go_wp2
 go_ret
 exact⟨rfl,rfl⟩
theorem N2(w:World):Calls prog 265 #[.nilIface] w fun e w'=>e=.returned (.int .i64 0)/\Below w.heap.size w w':=by
 go_enter func265,ntmps265
 go_wp2
 go_ret
 exact⟨rfl,Below.refl _ _⟩
theorem IB(k:Int)(w:World)(hg:fM w):Calls prog 265 #[.iface 70 (.int .i64 k)] w fun e w'=>e=.returned (.int .i64 k)/\Below w.heap.size w w':=by
 have dN:5<w.heap.size:=by
  rcases Nat.lt_or_ge 5 w.heap.size with h|h
  ·exact h
  ·simp[fM,World.cell?,Array.getElem?_eq_none h]at hg
 have Pt:(w.alloc (.cells #[.int .i64 0] 70)).cell? ⟨5,0,none⟩=some (.iface 367 (.agg #[.pointer (some ⟨10,31,none⟩)])):=by
  rw[World.cell?_alloc_lt _ _ ⟨5,0,none⟩ dN];exact hg
 have hc:=Xt k ⟨w.heap.size,0,none⟩ (.int .i64 0) (w.alloc (.cells #[.int .i64 0] 70)) Pt ai ai;have HC:=Lib.hid hc;clear hc Pt hg
 go_enter func265,ntmps265
 go_wp2_with fail
 refine HC.out.mono ?_;rintro e w1 ⟨rfl,hw⟩;have eM:w1.cell? ⟨w.heap.size,0,none⟩=some (.int .i64 k):=by
  rw[hw];refine World.cell?_setCell_same _ _ _ (u:=.int .i64 0) ?_;rw[World.cell?_alloc_lt _ _ _ ez,World.cell?_alloc_lt _ _ _ ez,World.cell?_alloc_lt _ _ _ ez,World.cell?_alloc_lt _ _ _ ai];simp
 have hb:Below w.heap.size w w1:=by
  rw[hw];exact((((((Below.refl _ _).alloc (aP _) _).alloc ai _).alloc ez _).alloc ez _).alloc ez _).setCell (aP _) _
 clear hw;have HB:=Lib.hid hb;clear hb
 go_wp2_with fail
 go_ret
 exact⟨rfl,HB.out⟩
end Go.Proofs.YtjhogocabcdjbabGreatDoor
namespace WB
open Go Go.RowKit
deriving instance DecidableEq for Ms
section
variable {P:Program} {w:World} {d:Nat} {xs ys:Array Value} {f:Field} {fs:List Field} {r:Bool}
theorem u3{T:TypeId}{off:Nat}{v:Value}(ha:(isAgg T).run P w=.ok false w)(hx:xs[off]? =some v):(part T xs off).run P w=.ok v w:=by
 simp[part,ha,hx]
theorem yR{k:IntKind}{a c:Int}(hn:f.name≠ "_")(hu:P.underlying f.type=some (.int k))(hT:(isAgg f.type).run P w=.ok false w)(hx:xs[f.offset]? =some (.int k a))(hy:ys[f.offset]? =some (.int k c))(h:(Op.eqFields (d+1) xs ys fs).run P w=.ok r w):
 (Op.eqFields (d+1) xs ys (f::fs)).run P w=.ok (decide (a=c)&&r) w:=by
 simp only[Op.eqFields,if_pos hn,Sem.run_bind,u3 hT hx,u3 hT hy,Result.andThen_ok,run_equalIn_int w d _ _ k a c hu];by_cases e:a=c
 ·subst e;simp[h]
 ·simp[e]
theorem yQ{a c:aj}(hn:f.name≠ "_")(hu:P.underlying f.type=some .string)(hT:(isAgg f.type).run P w=.ok false w)(hx:xs[f.offset]? =some (.string a))(hy:ys[f.offset]? =some (.string c))(h:(Op.eqFields (d+1) xs ys fs).run P w=.ok r w):
 (Op.eqFields (d+1) xs ys (f::fs)).run P w=.ok (decide (a=c)&&r) w:=by
 simp only[Op.eqFields,if_pos hn,Sem.run_bind,u3 hT hx,u3 hT hy,Result.andThen_ok,run_equalIn_string w d _ _ _ hu,toList_eq_iff];by_cases e:a=c
 ·subst e;simp[h]
 ·simp[e]
theorem Lj:(Op.eqFields d xs ys []).run P w=.ok true w:=by simp[Op.eqFields]
theorem OM(a b:Ms):(decide (a.id=b.id)&&(decide (a.pri=b.pri)&&(decide (a.body=b.body)&&(decide (a.queue=b.queue)&&(decide (a.bF=b.bF)&&true)))))=decide (a=b):=by
 obtain⟨a1,a2,a3,a4,a5⟩:=a;obtain⟨b1,b2,b3,b4,b5⟩:=b;rw[Bool.eq_iff_iff];simp
end
inductive iA:List HP->List HP->Prop
 |nil {L:List HP}:iA L []
 |cons {L R M:List HP} {A:HP} (p:bB L A R) (h:iA R M):iA L (A::M)
theorem iA.drop{A:HP}{L M:List HP}(h:iA L M):iA (A::L) M:=by
 induction h with
 |nil=>exact .nil
 |cons p _ ih=>exact .cons (.tail p) ih
theorem iA.refl:∀{L:List HP},iA L L
 |[]=>.nil
 |_::_=>.cons .head iA.refl
theorem iA.iR{L M:List HP}(h:iA L M):∀x,WB.iR L x->∃h1 h2,vL h1 h2/\x=qw h1 h2/\WB.iR M h2:=by
 induction h with
 |nil=>exact fun x _=>⟨x,fun _=>none,fun _=>.inr rfl,by rw[uD (fun _=>.inr rfl),yr fun _=>rfl],fun _=>rfl⟩
 |cons p _ ih=>
  intro x hx;obtain⟨h1,h2,d,rfl,a,b⟩:=p.iR hx;obtain⟨g1,g2,d2,rfl,c⟩:=ih h2 b;rw[mY]at d;refine⟨g1,qw h1 g2,mY.2 ⟨d.1.symm,d2⟩,?_,h1,g2,d.2,rfl,a,c⟩;rw[<-oO,<-oO,uD d.1]
theorem St.all{w0 w:World}{L M:List HP}(hw:St w0 L w)(h:iA L M):St w0 M w:=by
 obtain⟨x,hx,hs⟩:=hw.own;obtain⟨h1,h2,d,rfl,hm⟩:=h.iR x hs;refine {hw with own:=⟨h2,fun k o hk=>hx k o ?_,hm⟩};rw[uD d];unfold qw;rw[hk];rfl
def pk (a n:Int):Int:=(a%18446744073709551616)%n
section
variable {P:Program} {ops:Array Oper} {d:Bool} {Q:Exit->Act->World->Prop} {n:Nat} {D:List Deferred} {w0:World} {G:Env} {L R:List HP} {l:List (Kd×Oper)} {k:Kd}
 {t:Nat} {op:Op} {ty T T' E EN:TypeId} {pos:String} {af:Array Edge} {x y z:Operand} {v u:Value} {b:Bool} {i off:Nat} {a c r:Int} {ad:Addr} {kk:IntKind}
theorem KO.eqA{xs ys:Array Value}(hx:ev G x=some (.agg xs))(hy:ev G y=some (.agg ys))(hg:P.eqGuardType P.depth T=false)(hr:∀w,(Op.equalIn 10000 T (.agg xs) (.agg ys)).run P w=.ok b w)(ht:Nat.blt t n=true)(h:KO P ops d Q n D w0 ((t,.bool b)::G) L l):
 KO P ops d Q n D w0 G L ((k,⟨some t,.binOp .eql T x y T',ty,pos,af,none⟩)::l):=
 KO.val (fun a w ha=>by simp[execOp,ha.eval hx,ha.eval hy,run_eqGuard_agg w _ _ _ _ _ _ hg,run_eql_struct,hr w]) ht h
theorem KO.neA{xs ys:Array Value}(hx:ev G x=some (.agg xs))(hy:ev G y=some (.agg ys))(hg:P.eqGuardType P.depth T=false)(hr:∀w,(Op.equalIn 10000 T (.agg xs) (.agg ys)).run P w=.ok b w)(ht:Nat.blt t n=true)(h:KO P ops d Q n D w0 ((t,.bool (!b))::G) L l):
 KO P ops d Q n D w0 G L ((k,⟨some t,.binOp .neq T x y T',ty,pos,af,none⟩)::l):=
 KO.val (fun a w ha=>by simp[execOp,ha.eval hx,ha.eval hy,run_eqGuard_agg w _ _ _ _ _ _ hg,run_neq_struct,hr w]) ht h
theorem KO.eqN(hx:ev G x=some (dj EN c))(hT:P.underlying T=some (.interface (P.methodsAt T)))(ht:Nat.blt t n=true)(h:KO P ops d Q n D w0 ((t,.bool (decide (c=0)))::G) L l):
 KO P ops d Q n D w0 G L ((k,⟨some t,.binOp .eql T x (.const .nilIface) T',ty,pos,af,none⟩)::l):=
 KO.val (fun a w ha=>by
  simp only[execOp,ha.eval hx,show a.eval (.const .nilIface)=.nilIface from rfl];unfold dj;by_cases h0:c=0
  ·simp[h0,run_eql_nil_nil w T hT,eqGuard_nil_constR]
  ·simp[h0,run_eql_held_nil w T _ _ hT,eqGuard_at_iface]) ht h
theorem KO.neN(hx:ev G x=some (dj EN c))(hT:P.underlying T=some (.interface (P.methodsAt T)))(ht:Nat.blt t n=true)(h:KO P ops d Q n D w0 ((t,.bool (decide (c≠0)))::G) L l):
 KO P ops d Q n D w0 G L ((k,⟨some t,.binOp .neq T x (.const .nilIface) T',ty,pos,af,none⟩)::l):=
 KO.val (fun a w ha=>by
  simp only[execOp,ha.eval hx,show a.eval (.const .nilIface)=.nilIface from rfl];unfold dj;by_cases h0:c=0
  ·simp[h0,run_neq_nil_nil w T hT,eqGuard_nil_constR]
  ·simp[h0,run_neq_held_nil w T _ _ hT,eqGuard_at_iface]) ht h
def Uk {α:Type} (n:Nat) (D:List Deferred) (w0:World) (E:α->Env) (H:α->List HP) (φ:α->Prop) (a:Act) (w:World):Prop:= ∃y,φ y/\cD n D (E y) a/\St w0 (H y) w
theorem K.kT{α:Type}{c1 c2:Code}{L:List HP}(E:α->Env)(H:α->List HP)(φ:α->Prop)(h1:K P c1 (Exit.then (Uk n D w0 E H φ) Q) n D w0 G L)(h2:∀y,φ y->K P c2 Q n D w0 (E y) (H y)):K P (.seq c1 c2) Q n D w0 G L:=fun a w ha hw=>
 wp_seq (Go.wp_mono (h1 a w ha hw) fun e a w hq=>by
  cases e with
  |normal=>obtain⟨y,hy,ha,hw⟩:=hq;exact h2 y hy a w ha hw
  |_=>exact hq)
theorem K.cut{α:Type}{c1 c2:Code}{L:List HP}(E:α->Env)(H:α->List HP)(φ:α->Prop)(h1:K P c1 (Exit.then (Uk n D w0 E H φ) Q) n D w0 G L)(h2:∀y,φ y->K P c2 Q n D w0 (E y) (H y)):K P c1 (Exit.then (c2.wp P Q) Q) n D w0 G L:=fun a w ha hw=>
 Go.wp_mono (h1 a w ha hw) fun e a w hq=>by
  cases e with
  |normal=>obtain⟨y,hy,ha,hw⟩:=hq;exact h2 y hy a w ha hw
  |_=>exact hq
theorem KQ.kT{α:Type}{E:α->Env}{H:α->List HP}{φ:α->Prop}(y:α)(hy:φ y)(hG:EY G (E y))(hL:∀w,St w0 L w->St w0 (H y) w):KQ (Exit.then (Uk n D w0 E H φ) Q) .normal n D w0 G L:=fun _ w ha hw=>⟨y,hy,ha.sub hG,hL w hw⟩
theorem KO.bO{b:Nat}{cs:List Value}{fz:Nat×Nat}(hk:(!d||k != .pure)=true)(hx:ev G x=some (.pointer (some ad)))(hT:∀w,(isAgg T).run P w=.ok false w)(hp:bB L (bA b (.cells cs.toArray E fz)) R)(ha:ad=⟨b,i,none⟩)(hc:cs[i]? =some v)(ht:Nat.blt t n=true)(h:KO P ops d Q n D w0 ((t,v)::G) L l):KO P ops d Q n D w0 G L ((k,⟨some t,.load T x,ty,pos,af,none⟩)::l):=KO.ld hk (ha▸hx) hT hp hc ht h
theorem FM(v:Value):∀(i:Nat) (cs:List Value),i<cs.length->pY i [v] cs=cs.set i v
 |0,c::cs,_=>by simp[pY]
 |i+1,c::cs,h=>by simp[pY,FM v i cs Ic]
theorem KO.fu{b:Nat}{cs:List Value}(hk:(!d||k== .write)=true)(hx:ev G x=some (.pointer (some ad)))(hy:ev G y=some v)(hv:v.cells=[v].toArray)(hn:∀w,(Go.sizeOf T).run P w=.ok 1 w)(h1:v.oneCell'=true)(hp:bB L (bA b (.cells cs.toArray E (0,0))) R)(ha:ad=⟨b,i,none⟩)(hi:i<cs.length)(h:KO P ops d Q n D w0 G (bA b (.cells (cs.set i v).toArray E (0,0))::R) l):
 KO P ops d Q n D w0 G L ((k,⟨none,.store T x y,ty,pos,af,none⟩)::l):=
 KO.N6 hk (ha▸hx) hy hv hn Bt hp (by simp[Nat.ble_eq];omega) (FM v i cs hi) h
theorem KO.My{len cap sz:Nat}(hx:ev G x=some (.slice (some ad) len cap))(hy:ev G y=some (.int kk a))(hu:∀w,(underlying T).run P w=.ok (.slice E) w)(hs:∀w,(Go.sizeOf E).run P w=.ok sz w)(ha:a=(i:Int))(hb:i<len)(ht:Nat.blt t n=true)(h:KO P ops d Q n D w0 ((t,.pointer (some (ad.add (i *sz))))::G) L l):KO P ops d Q n D w0 G L ((k,⟨some t,.indexAddr T x y,ty,pos,af,none⟩)::l):=
 KO.val (fun a' w sN=>by
  subst ha;have :(0:Int)<=(i:Int)/\(i:Int)<(len:Int):=⟨by omega,by omega⟩
  simp[execOp,sN.eval hx,sN.eval hy,Instr.indexAt,hu w,asIntOf,hs w,this,hb]) ht h
theorem KO.abr{fs:Array Field}{f sz off:Nat}{fd:Field}(hx:ev G x=some (.pointer (some ad)))(hu:∀w,(underlying T).run P w=.ok (.struct fs) w)(hf:fs[f]? =some fd)(ho:fd.offset=off)(hs:∀w,(Go.sizeOf fd.type).run P w=.ok (sz+1) w)(ht:Nat.blt t n=true)(h:KO P ops d Q n D w0 ((t,.pointer (some (ad.add off)))::G) L l):KO P ops d Q n D w0 G L ((k,⟨some t,.fieldAddr T x f,ty,pos,af,none⟩)::l):=
 KO.fld hx hu hf hs ht (by rw[ho];exact h)
end
end WB
namespace Go.Proofs.YtjhogocabcdjbabGreatDoor
open Tryz
open Go Go.RowKit WB
theorem Vv(w0:World)(L:List HP)(k:Int)(hg:fM w0):KE prog 265 #[dj 70 k] w0 L (fun u L'=>u=.int .i64 k/\L'=L):=KE.bU fun w hw=>by
 unfold dj;split
 ·next h=>subst h;exact N2 w
 ·exact IB k w ((Ext.bU hw.below).cell hg)
theorem Ux(a b:Ms)(w:World):(Op.equalIn 10000 44 (.agg (dy a).toArray) (.agg (dy b).toArray)).run prog w=.ok (decide (a=b)) w:=by
 rw[run_equalIn_agg w 9999 44 _ _ bC bC,<-OM];simp only[Program.fieldsOf,underlying44];refine yR ah underlying3 (isAgg3 w) rfl rfl (yR ah underlying3 (isAgg3 w) rfl rfl (yQ ah underlying9 (isAgg9 w) rfl rfl (yQ ah underlying9 (isAgg9 w) rfl rfl (yR ah underlying3 (isAgg3 w) rfl rfl Lj))))
theorem oz(w0:World)(L:List HP)(v1 v2:Value)(xs ys:List Ms)(h1:∀w,St w0 L w->oM w 5 dy v1 xs)(h2:∀w,St w0 L w->oM w 5 dy v2 ys)(hx:xs.length<1000000000)(hy:ys.length<1000000000):
 KE prog 36 #[v1,v2] w0 L (fun u M=>u=.bool (decide (xs=ys))/\M=L):=by
 refine KE.mk (n:=26) func36 rfl ntmps36 ai ?_;intro w hw;obtain⟨a1,c1,rfl,WW,nW⟩:=h1 w hw;obtain⟨a2,c2,rfl,Zb,jg⟩:=h2 w hw;have fin:∀(b:Bool) (w':World) (M:List HP),b=decide (xs=ys)->St w M w'->∃v L',Ending.returned (.bool b)=Ending.returned v/\(v=.bool (decide (xs=ys))/\L'=L)/\St w0 L' w'/\Below w.heap.size w w':=fun b w' M e hs=>⟨_,_,rfl,⟨by rw[e],rfl⟩,hw.aA hs.below,hs.below⟩
 refine lg ?_;refine Is ?_;refine Z1 ?_;refine Is ?_;refine tY ?_;refine K.bn rfl (fun h=>?_) (fun h=>?_)
 ·refine kr ?_;refine KQ.aU rfl rfl (fun w' hs=>fin _ w' _ Y13 hs)
 ·have hlen:xs.length=ys.length:=by omega
  refine qp ?_;refine BY ?_;refine K.loop (fun k:Nat=>[(0,.slice a1 xs.length c1),(1,.slice a2 ys.length c2),(4,.bool false),(12,.int .i64 (xs.length:Nat)),(13,.int .i64 (k:Nat))]) (fun _=>[]) (fun k=>k<=xs.length/\xs.take k=ys.take k) (fun k=>xs.length-k) 0
   ⟨aH _,rfl⟩ ⟨rfl,rfl,rfl,rfl,rfl,trivial⟩ (fun _ h=>h) ?_
  rintro k ⟨hk,Es⟩;refine lW ?_;refine K.bn rfl (fun h3=>?_) (fun h3=>?_)
  ·obtain⟨g1,rfl⟩:=WW ae;obtain⟨g2,rfl⟩:=Zb ae;obtain⟨e1,E6⟩:∃e,xs[k]? =some e:=⟨xs[k],ak ae⟩;obtain⟨e2,fX⟩:∃e,ys[k]? =some e:=⟨ys[k],ak ae⟩;refine sy ?_;refine jL ?_;refine ab8 ?_;refine KO.gO rfl rfl runUnderlying49 sizeOf44 aN ae rfl ?_;refine KO.vf (cs:=(dy e1).toArray) rfl rfl isAgg44 sizeOf44 rfl (nW g1 rfl k e1 E6) rfl ?_;refine gZ ?_;refine KO.gO rfl rfl runUnderlying49 sizeOf44 aN ae rfl ?_;refine KO.vf (cs:=(dy e2).toArray) rfl rfl isAgg44 sizeOf44 rfl (jg g2 rfl k e2 fX) rfl ?_;refine KO.neA rfl rfl bC (Ux e1 e2) rfl ?_;refine Z3 ?_;refine K.cond rfl (fun h4=>?_) (fun h4=>?_)
   ·refine x7 ?_;refine KQ.aU rfl rfl (fun w' hs=>fin _ w' _ ?_ hs);rw[eq_comm,decide_eq_false_iff_not];rintro rfl;rw[E6]at fX;simp only[az]at fX;simp[fX]at h4
   ·have e12:e1=e2:=by simpa using h4
    refine lY ?_;refine KQ.round (k+1) ⟨by omega,by rw[a_ E6,a_ fX,Es,e12]⟩ ae ⟨rfl,rfl,rfl,rfl,rfl,trivial⟩ (fun _ hs=>hs)
  ·have mV:k=xs.length:=by omega
   refine yc ?_;refine KQ.aU rfl rfl (fun w' hs=>fin _ w' _ ?_ hs);rw[eq_comm,decide_eq_true_eq];rw[mV,List.take_length,hlen,List.take_length]at Es;exact Es
end Go.Proofs.YtjhogocabcdjbabGreatDoor
namespace WB
open Go Go.RowKit
variable {P:Program} {ops:Array Oper} {Q:Exit->Act->World->Prop}
def via (vN:List (List Nat)) (x i:Nat) (q:Nat×Nat):Bool:=(q.1==x||(vN.getD q.1 []).contains x)&&(q.2==i||(vN.getD i []).contains q.2)
theorem Cg{vN:List (List Nat)}(hb:ik ops=true)(ha:vG ops vN=true){l:List Nat}(hv:Valid ops l){q:Nat×Nat}(hE:∀p s,l=p++q.2::s->q.1∈p){x i:Nat}(h:via vN x i q=true):∀p s,l=p++i::s->x∈p:=by
 intro p s hl;unfold via at h;simp only[bm,Bool.or_eq_true,beq_iff_eq]at h;have lt:∀y,y∈l->y<ops.size:=fun y hy=>(hv.2.1 y).1 hy
 have h1:q.1∈p:=by
  rcases h.2 with e|e
  ·exact hE p s (by rw[e];exact hl)
  ·have :=sg hb ha hv i i (aP _) (lt i Ro) p s hl q.2 (List.contains_iff_mem.1 e);obtain⟨p1,p2,rfl⟩:=List.append_of_mem this;have :=hE p1 (p2++i::s) Ro;simp[this]
 rcases h.1 with e|e
 ·rw[<-e];exact h1
 ·obtain⟨p1,p2,rfl⟩:=List.append_of_mem h1;have :=sg hb ha hv q.1 q.1 (aP _) (lt q.1 Ro) p1 (p2++i::s) Ro x (List.contains_iff_mem.1 e);simp[this]
theorem zT{E:List (Nat×Nat)}{ks:List Kd}{vN:List (List Nat)}(hb:ik ops=true)(ha:vG ops vN=true){l:List Nat}(hv:Valid ops l)(hE:∀q∈E,∀p s,l=p++q.2::s->q.1∈p):
 ∀(s p rem:List Nat),l=p++s->(∀x,x∈rem↔x∈s)->
  lr (fun x i=> !(x==i)&&((vN.getD i []).contains x||(jH ops ks x i||E.any (via vN x i)))) rem=true->
  ∀a w,ja P ops Q (rem.map (item ops ks)) a w->wpOps P ops Q s a w
 |[],p,rem,hl,hm,hp,a,w,h=>by
  have :rem=[]:=List.eq_nil_iff_forall_not_mem.2 fun x hx=>by simpa using(hm x).1 hx
  subst this;exact h
 |i::s,p,rem,hl,hm,hp,a,w,h=>by
  have hi:i<ops.size:=(hv.2.1 i).1 Ro;have C_:=hv.1;rw[hl]at C_;have YU:∀x∈i::s,x∉p:=fun x hx SG=>(List.nodup_append.1 C_).2.2 x SG x hx rfl
  have BI:i∉s:=(bL.1 (List.nodup_append.1 C_).2.1).1;obtain⟨pre,post,rfl⟩:=List.append_of_mem ((hm i).2 List.mem_cons_self);obtain⟨h1,h2,h3⟩:=oE pre hp;have Wk:∀x∈pre,jH ops ks x i=true:=fun x hx=>by
   have hf:=h1 x hx;simp only[bm,Bool.or_eq_true]at hf;rcases hf.2 with hc|hc|hc
   ·have SG:=sg hb ha hv i i (aP _) hi p s hl x (List.contains_iff_mem.1 hc);exact absurd SG (YU x ((hm x).1 vP))
   ·exact hc
   ·obtain⟨q,hq,hqv⟩:=List.any_eq_true.1 hc;have SG:=Cg hb ha hv (hE q hq) hqv p s hl;exact absurd SG (YU x ((hm x).1 vP))
  have nI:=JH pre Wk a w h;have Il:∀x,x∈pre++post↔x∈s:=fun x=>by
   have hx:=hm x;constructor
   ·intro hxx;have Ij:x∈pre++i::post:=by
     rcases aO.1 hxx with e|e<;>simp[e]
    rcases aK.1 (hx.1 Ij)with rfl|e
    ·exfalso;rcases aO.1 hxx with e|e
     ·have :=h1 x e;simp at this
     ·have :=h3 x e;simp at this
    ·exact e
   ·intro tG;have :=hx.2 (List.mem_cons_of_mem _ tG);rcases aO.1 this with e|e
    ·simp[e]
    ·rcases aK.1 e with rfl|e
     ·exact absurd tG BI
     ·simp[e]
  have IH:=zT hb ha hv hE s (p++[i]) (pre++post) Ro Il h2;have wO:ops[i]? =some (item ops ks i).2:=by simp[item,hi]
  simp only[aJ]at nI;simp only[wpOps,wO];cases hw:Region.wanted (item ops ks i).2 (yielded ops a.tmps)with
  |false=>
   simp only[Bool.false_eq_true,if_false];rw[show item ops ks i=((item ops ks i).1,(item ops ks i).2)from rfl,q4 hw]at nI;exact IH _ _ nI
  |true=>
   simp only[if_true];left;rw[show item ops ks i=((item ops ks i).1,(item ops ks i).2)from rfl]at nI;by_cases dN:(item ops ks i).1.o0=true
   ·rw[ek dN hw]at nI;obtain⟨v,tH,hr⟩:=nI;have gP:stays (item ops ks i).1 w w:=by
     cases(item ops ks i).1<;>first|trivial|exact Ext.refl w|rfl
    unfold Oper.wp;rcases tH w gP with hg|⟨f,args,hg,fI⟩
    ·rw[hg];exact IH _ _ hr
    ·rw[hg];refine fI.mono ?_;rintro e w' ⟨rfl,rfl⟩;exact IH _ _ hr
   ·generalize hk:(item ops ks i).1=k at nI dN;cases k with
    |ef=>rw[hU hw]at nI;exact jB (fun a w hh=>IH _ _ hh.2) nI
    |write=>rw[eJ hw]at nI;exact jB (fun a w hh=>IH _ _ hh) nI
    |_=>exact absurd rfl dN
def ways:List (Nat×Nat)->List (List (Nat×Nat))
 |[]=>[[]]
 |q::r=>(ways r).map (q:: ·)++(ways r).map ((q.2,q.1):: ·)
theorem Cf{l:List Nat}(hn:l.Nodup):∀(X:List (Nat×Nat)),(∀q∈X,q.1∈l/\q.2∈l/\q.1≠q.2)->∃E∈ways X,(∀q∈E,∀p s,l=p++q.2::s->q.1∈p)/\∀q∈E,q.2∈l
 |[],_=>⟨[],by simp[ways],(fun _ h=>by cases h),fun _ h=>by cases h⟩
 |q::X,h=>by
  obtain⟨E,hE,cU,jy⟩:=Cf hn X fun q hq=>h q (List.mem_cons_of_mem _ hq)
  obtain⟨h1,h2,h3⟩:=h q List.mem_cons_self;obtain⟨p1,s1,hl⟩:=List.append_of_mem h2;have uniq:∀{y:Nat} {p s p' s':List Nat},l=p++y::s->l=p'++y::s'->p=p':=by
   intro y p s p' s' e1 e2;have :∀(p p' s s':List Nat),(p++y::s).Nodup->p++y::s=p'++y::s'->p=p':=by
    intro p
    induction p with
    |nil=>
     intro p' s s' hn e;cases p' with
     |nil=>rfl
     |cons x p'=>
      simp only[List.nil_append,bz,List.cons.injEq]at e;obtain⟨rfl,e⟩:=e;simp only[List.nil_append,bL]at hn;exact absurd (by rw[e];simp) hn.1
    |cons x p ih=>
     intro p' s s' hn e;cases p' with
     |nil=>
      simp only[List.nil_append,bz,List.cons.injEq]at e;obtain⟨rfl,e⟩:=e;simp only[bz,bL]at hn;exact absurd ai hn.1
     |cons x' p'=>
      simp only[bz,List.cons.injEq]at e;simp only[bz,bL]at hn;rw[e.1,ih p' s s' hn.2 e.2]
   exact this p p' s s' (e1▸hn) (e1.symm.trans e2)
  by_cases yM:q.1∈p1
  ·refine⟨q::E,by simp only[ways,aO,aB];exact .inl ⟨E,hE,rfl⟩,fun q' Ek p s e=>?_,fun q' Ek=>(aK.1 Ek).elim (fun e=>e▸h2) (jy q')⟩;rcases aK.1 Ek with rfl|Ek
   ·rw[<-uniq hl e];exact yM
   ·exact cU q' Ek p s e
  ·refine⟨(q.2,q.1)::E,by simp only[ways,aO,aB];exact .inr ⟨E,hE,rfl⟩,fun q' Ek p s e=>?_,fun q' Ek=>(aK.1 Ek).elim (fun e=>e▸h1) (jy q')⟩;rcases aK.1 Ek with rfl|Ek
   ·dsimp only at e ⊢;have h4:q.1∈s1:=by
     have :=h1;rw[hl]at this;simp only[aO,aK]at this;rcases this with a|a|a
     ·exact absurd a yM
     ·exact absurd a h3
     ·exact a
    obtain⟨p2,s2,rfl⟩:=List.append_of_mem h4;have e2:l=(p1++q.2::p2)++q.1::s2:=by rw[hl];simp
    rw[<-uniq e2 e];simp
   ·exact cU q' Ek p s e
def VS (ops:Array Oper) (ks:List Kd) (E:List (Nat×Nat)) (ord:List Nat):Bool:=
 let vN:=KS ops.toList []
 ik ops&&(vG ops vN&&((List.range ops.size).all (fun i=>ord.contains i)&&(ord.all (fun i=>Nat.blt i ops.size)&&
  lr (fun x i=> !(x==i)&&((vN.getD i []).contains x||(jH ops ks x i||E.any (via vN x i)))) ord)))
def P9 (ops:Array Oper) (E:List (Nat×Nat)):Bool:=
 let vN:=KS ops.toList []
 vG ops vN&&E.any fun q=>E.any (via vN q.2 q.1)
theorem JI{E:List (Nat×Nat)}(hb:ik ops=true){l:List Nat}(hv:Valid ops l)(hE:∀q∈E,∀p s,l=p++q.2::s->q.1∈p)(hm:∀q∈E,q.2∈l)(h:P9 ops E=true):False:=by
 simp only[P9,bm]at h;obtain⟨ha,h⟩:=h;obtain⟨q,hq,h⟩:=List.any_eq_true.1 h;obtain⟨q',Ek,h⟩:=List.any_eq_true.1 h;obtain⟨p1,s1,hl⟩:=List.append_of_mem (hm q hq);obtain⟨a,b,rfl⟩:=List.append_of_mem (hE q hq p1 s1 hl);have :=Cg hb ha hv (hE q' Ek) h a (b++q.2::s1) Ro;have hn:=hv.1;rw[hl]at hn;simp only[aR,bz]at hn;exact(List.nodup_append.1 hn).2.2 q.2 this q.2 ai rfl
def Uw (ops:Array Oper) (ks:List Kd):List (List (Nat×Nat))->List (List Nat)->Bool
 |[],[]=>true
 |E::r,O=>if P9 ops E then Uw ops ks r O else match O with|o::s=>VS ops ks E o&&Uw ops ks r s|[]=>false
 |_,_=>false
@[reducible] def M_ (f:List Nat->Prop):List (List Nat)->Prop
 |[]=>True
 |o::r=>f o/\M_ f r
theorem zR{ks:List Kd}{f:List Nat->Prop}{E:List (Nat×Nat)}:∀{W:List (List (Nat×Nat))} {O:List (List Nat)},Uw ops ks W O=true->M_ f O->E∈W->P9 ops E=true\/∃o,VS ops ks E o=true/\f o
 |[],_,_,_,h=>by cases h
 |F::r,O,h,hf,hE=>by
  cases hB:P9 ops F with
  |true=>
   have h2:Uw ops ks r O=true:=by unfold Uw at h;rw[hB]at h;simpa using h
   rcases aK.1 hE with rfl|hE
   ·exact .inl hB
   ·exact zR h2 hf hE
  |false=>
   unfold Uw at h;rw[hB]at h;cases O with
   |nil=>simp at h
   |cons o s=>
    simp only[Bool.false_eq_true,if_false,bm]at h;rcases aK.1 hE with rfl|hE
    ·exact .inr ⟨o,h.1,hf.1⟩
    ·exact zR h.2 hf.2 hE
theorem y5{id:Nat}{a:Act}{w:World}(ks:List Kd)(X:List (Nat×Nat))(O:List (List Nat))(wM:P.follows .mixedOrders=true)(hX:(ik ops&&X.all fun q=>Nat.blt q.1 ops.size&&(Nat.blt q.2 ops.size&& !(q.1==q.2)))=true)(qM:Uw ops ks (ways X) O=true)(h:M_ (fun ord=>ja P ops Q (ord.map (item ops ks)) a w.drew) O):(Code.region id ops true).wp P Q a w:=by
 rw[bm]at hX;obtain⟨hb,hX⟩:=hX;refine wp_region_draw fun t=>?_
 have hv:Valid ops (Region.schedule (P.follows .mixedOrders) ops t):=np _ wM _ _ fun i o ho d hd=>by
  have hi:i<ops.size:=(Array.getElem?_eq_some_iff.1 ho).1
  have h1:=aL.1 (aL.1 hb i (cE.2 hi)) d (by
   have :ops.toList.getD i default=o:=by
    simp[Array.getElem?_eq_getElem hi]at ho ⊢;simp[ho]
   rw[this];exact hd)
  simpa[Nat.blt_eq]using h1
 generalize Region.schedule (P.follows .mixedOrders) ops t=l at hv ⊢;obtain⟨E,hE,hEl,hEm⟩:=Cf hv.1 X fun q hq=>by
  have :=aL.1 hX q hq;simp only[bm,Nat.blt_eq,Bool.not_eq_true',beq_eq_false_iff_ne]at this;exact⟨(hv.2.1 _).2 this.1,(hv.2.1 _).2 this.2.1,this.2.2⟩
 rcases zR qM h hE with oG|⟨ord,qM,h⟩
 ·exact(JI hb hv hEl hEm oG).elim
 simp only[VS,bm]at qM;obtain⟨hb,ha,cU,dN,hp⟩:=qM;refine zT hb ha hv hEl l [] ord rfl (fun x=>?_) hp a _ h;rw[hv.2.1 x];constructor
 ·intro hx;simpa[Nat.blt_eq]using aL.1 dN x hx
 ·intro hx;exact List.contains_iff_mem.1 (aL.1 cU x (cE.2 hx))
theorem DI{f g:List Nat->Prop}(h:∀o,f o->g o):∀{O:List (List Nat)},M_ f O->M_ g O
 |[],_=>trivial
 |_::_,hf=>⟨h _ hf.1,DI h hf.2⟩
theorem K.sO{n:Nat}{D:List Deferred}{w0:World}{G:Env}{L:List HP}{id:Nat}(ks:List Kd)(X:List (Nat×Nat))(O:List (List Nat))(wM:P.follows .mixedOrders=true)(hX:(ik ops&&X.all fun q=>Nat.blt q.1 ops.size&&(Nat.blt q.2 ops.size&& !(q.1==q.2)))=true)(qM:Uw ops ks (ways X) O=true)(h:M_ (fun ord=>KO P ops true Q n D w0 G L (ord.map (item ops ks))) O):K P (.region id ops true) Q n D w0 G L:=fun a _ ha hw=>
 y5 ks X O wM hX qM (DI (fun _ hh=>hh a _ ha hw.drew) h)
end WB
namespace WB
open Go Go.RowKit
def Src {α:Type} (w:World) (cf:α->List Value) (v:Value) (xs:List α):Prop:=
 ∃a cap,v=.slice a xs.length cap/\(a=none->xs=[])/\∀ad,a=some ad->cz w ad (xs.flatMap cf)
section
variable {w0 w:World} {L R:List HP} {E:TypeId} {α:Type} {cf:α->List Value} {sz:Nat} {xs ys:List α} {v:Value}
theorem pd(dM:∀e,(cf e).length=sz):∀xs:List α,(xs.flatMap cf).length=xs.length *sz
 |[]=>by simp
 |a::l=>by simp[pd dM l,dM,Nat.succ_mul];omega
theorem cz.take{ad:Addr}{cs ds:List Value}(h:cz w ad (cs++ds)):cz w ad cs:=fun j c hj=>h j c (by rw[List.getElem?_append_left (aw.1 hj).1];exact hj)
theorem Src.of(hp:bB L (SL E sz cf v xs) R)(w:World)(hw:St w0 L w):Src w cf v xs:=by
 rcases(hw.pick hp).cC with⟨h1,h2,h3,_⟩|⟨g,cap,cur,h1,h2,h3,h4,h5,h6,h7⟩
 ·have :xs=[]:=List.eq_nil_of_length_eq_zero h2;exact⟨none,0,by rw[h1,this];rfl,fun _=>this,fun ad h=>(by cases h)⟩
 ·refine⟨some ⟨g,0,none⟩,cap,h1,(fun h=>by cases h),fun ad h=>?_⟩;cases h
  have hl:=h7.look.2;intro j c hj;rw[Addr.add_lit,World.cell?,hl];rw[<-h5,List.getElem?_take]at hj;split at hj
  ·simpa using hj
  ·simp at hj
theorem Src.take{a:Option Addr}{len cap:Nat}(h:Src w cf (.slice a len cap) xs)(k:Nat)(hk:k<=xs.length):Src w cf (.slice a k cap) (xs.take k):=by
 obtain⟨b,c,e,h1,h2⟩:=h;simp only[Value.slice.injEq]at e;obtain⟨rfl,rfl,rfl⟩:=e;refine⟨a,cap,by rw[bu,Nat.min_eq_left hk],fun e=>by rw[h1 e];simp,fun ad e=>?_⟩;have :=h2 ad e;rw[<-List.take_append_drop k xs,List.flatMap_append]at this;exact this.take
theorem Src.cut(dM:∀e,(cf e).length=sz){g len cap:Nat}(h:Src w cf (.slice (some ⟨g,0,none⟩) len cap) xs)(k:Nat)(hk:k<=xs.length)(hc:xs.length<=cap):Src w cf (.slice (some (cutAt g k sz cap)) (xs.length-k) (cap-k)) (xs.drop k):=by
 obtain⟨b,c,e,h1,h2⟩:=h;simp only[Value.slice.injEq]at e;obtain⟨rfl,rfl,rfl⟩:=e;refine⟨_,_,by rw[bf],(fun e=>by cases e),fun ad e=>?_⟩;cases e
 unfold cutAt;by_cases hck:cap=k
 ·have :xs.drop k=[]:=List.drop_eq_nil_of_le ae;rw[this];exact fun j c hj=>by simp at hj
 ·rw[if_neg hck];have :=h2 _ rfl;rw[<-List.take_append_drop k xs,List.flatMap_append]at this;intro j c hj
  have h3:=this (k *sz+j) c (by
   rw[bp (by rw[pd dM,bu];have :=Nat.mul_le_mul_right sz (Nat.min_le_left k xs.length);omega)];rw[pd dM,bu,Nat.min_eq_left hk]
   simpa using hj)
  rw[Addr.add_lit]at h3 ⊢;simpa using h3
theorem Src.ext{w':World}(h:Src w cf v xs)(e:Ext w w'):Src w' cf v xs:=by
 obtain⟨a,cap,h1,h2,h3⟩:=h;exact⟨a,cap,h1,h2,fun ad ha=>(h3 ad ha).ext e⟩
theorem EZ{g n cap:Nat}(hw:St w0 (SL E sz cf (.slice (some ⟨g,0,none⟩) n cap) xs::R) w):n=xs.length/\n<=cap:=by
 obtain⟨h1,h2,_⟩:=jq hw;exact⟨h1,h2⟩
end
section
variable {P:Program} {ops:Array Oper} {d:Bool} {Q:Exit->Act->World->Prop} {n:Nat} {D:List Deferred} {w0:World} {G:Env} {L R R' N:List HP} {l:List (Kd×Oper)} {k:Kd}
 {t:Nat} {op:Op} {ty T T' E E':TypeId} {pos:String} {af:Array Edge} {x y:Operand} {v u z:Value} {i j:Nat} {a c r:Int} {ad:Addr} {α:Type} {cf:α->List Value} {sz fk:Nat} {xs ys:List α} {e e':α}
theorem xM(w:World)(t e:TypeId)(sz:Nat)(hu:P.underlying t=some (.slice e))(hs:(Go.sizeOf e).run P w=.ok sz w):
 (Instr.buildSlice t 0 #[]).run P w=.ok (.slice (some ⟨w.heap.size,0,none⟩) 0 0) (w.alloc (.cells #[] e)):=by
 simp[Instr.buildSlice,run_underlying hu,hs,Instr.fill,newRow];rw[show Array.range 0=#[]from rfl,Array.map_empty]
theorem KO.Rl(cf:α->List Value)(hk:(!d||(k== .ef||k== .write))=true)(hT:P.underlying T=some (.slice E))(hs:∀w,(Go.sizeOf E).run P w=.ok sz w)(ht:Nat.blt t n=true)(h:∀bb,KO P ops d Q n D w0 ((t,.slice (some ⟨bb,0,none⟩) 0 0)::G) (SL E sz cf (.slice (some ⟨bb,0,none⟩) 0 0) []::L) l):KO P ops d Q n D w0 G L ((k,⟨some t,.buildSlice T 0 #[],ty,pos,af,none⟩)::l):=by
 refine KO.rZ hk (F:=fun bb=>.slice (some ⟨bb,0,none⟩) 0 0) (N:=fun bb=>SL E sz cf (.slice (some ⟨bb,0,none⟩) 0 0) []::L) (fun a w ha hw=>⟨w.heap.size,w.alloc (.cells #[] E),?_,Ext.alloc w _,?_⟩) ht h
 ·have hr:=xM (P:=P) w T E sz hT (hs w);simp[execOp,hr]
 ·exact(hw.alloc (.cells #[] E)).nz (n:=0) (cap:=0) (aP _) Vi ai ai
theorem xN(w:World)(t ty e:TypeId)(b:Option Addr)(m cap c s:Nat)(hu:P.underlying t=some (.slice e))(hs:(Go.sizeOf e).run P w=.ok s w)(h:m<=cap):
 (Builtin.append_ #[t,t] ty #[.slice b m cap,.slice none 0 c]).run P w=.ok (.slice b m cap) w:=by
 cases b<;>simp[Builtin.append_,run_underlying hu,hs,Builtin.lenOf,Builtin.firstCells,h,storeCells]
theorem KO.rH(hk:(!d||k== .write)=true)(hx:ev G x=some v)(hy:ev G y=some u)(hp:bB L (SL E sz cf v xs) R)(hs:∀w,St w0 L w->Src w cf u ys)(hT:P.underlying T=some (.slice E))(hi:(P.info? E).map (fun i=>(i.zero,i.size,i.bytes))=some (some z,sz,fk))(SF:z.cells.size=sz)(dM:∀e,(cf e).length=sz)(h1:∀e,(cf e).all Value.oneCell'=true)(hb:xs.length+ys.length<1000000000)(hby:fk<=10000)(ht:Nat.blt t n=true)(h:∀v',KO P ops d Q n D w0 ((t,v')::G) (SL E sz cf v' (xs++ys)::R) l):KO P ops d Q n D w0 G L ((k,⟨some t,.call ⟨.builtin .append,#[x,y],#[T,T]⟩,ty,pos,af,none⟩)::l):=by
 obtain⟨i0,Q8,yH,qb,BF⟩:=info_parts hi;refine KO.wvE hk (F:=fun v'=>SL E sz cf v' (xs++ys)::R) (fun a w ha hw=>?_) ht h;have SI:=hw.pick hp;obtain⟨sa,cap,rfl,hn,hc⟩:=hs w hw;cases sa with
 |none=>
  obtain rfl:=hn rfl;obtain⟨b,c2,rfl,iw⟩:∃b c2,v=.slice b xs.length c2/\xs.length<=c2:=by
   rcases SI.cC with⟨h1,h2,_⟩|⟨g,cap,cur,h1,h2,_⟩
   ·exact⟨none,0,by rw[h1,h2],by omega⟩
   ·exact⟨_,cap,h1,h2⟩
  refine⟨.slice b xs.length c2,w,mH x y T T rfl _ _ (ha.eval hx) (ha.eval hy) (xN (P:=P) w T ty E b _ c2 cap sz hT (by simp[Go.sizeOf,typeInfo,Q8,qb]) iw),?_⟩;rw[List.append_nil];exact SI
 |some ad=>
  have Jp:=hc ad rfl;have UQ:(xs.length+ys.length)*fk<=140737488355328:=by
   have :=Nat.mul_le_mul (show xs.length+ys.length<=1000000000 by omega) hby;omega
  obtain⟨v',w',hr,gP⟩:=sf (P:=P) T ty E i0 z sz fk hT Q8 yH qb BF SF SI ad ys.length cap (ys.flatMap cf) (pd dM ys) Jp (Ar (fun e u hu=>aL.1 (h1 e) u hu) ys) Vi UQ;refine⟨v',w',mH x y T T rfl v _ (ha.eval hx) (ha.eval hy) hr,?_⟩
  show St w0 (lE E sz v' (xs++ys).length ((xs++ys).flatMap cf)::R) w'
  rw[aW,List.flatMap_append];exact gP
theorem ud.nil:∀(M:List HP),ud [] M
 |[]=>.refl
 |_::M=>.drop (ud.nil M)
theorem KO.O8{s:aj}{b:UInt8}(hx:ev G x=some (.string s))(hy:ev G y=some (.int .i64 a))(hT:P.underlying T=some .string)(ha:a=(i:Int))(hc:s[i]? =some b)(ht:Nat.blt t n=true)(h:KO P ops d Q n D w0 ((t,.int .u8 (b.toNat:Nat))::G) L l):KO P ops d Q n D w0 G L ((k,⟨some t,.index T x y,ty,pos,af,none⟩)::l):=
 KO.val (fun a' w sN=>by
  subst ha
  simp[execOp,sN.eval hx,sN.eval hy,Instr.index,asIntOf,run_underlying hT,hc]) ht h
theorem KO.taN{T0:TypeId}{want:Array (String×TypeId)}(hx:ev G x=some (.iface T0 v))(hu:P.underlying T'=some (.interface want))(hl:(P.info? T0).map (fun i=>(lacking want i.methods).isEmpty)=some false)(hz:(P.info? T').map (·.zero)=some (some z))(ht:Nat.blt t n=true)(h:KO P ops d Q n D w0 ((t,.tuple #[z,.bool false])::G) L l):KO P ops d Q n D w0 G L ((k,⟨some t,.typeAssert x T T' true,ty,pos,af,none⟩)::l):=
 KO.val (fun a' w sN=>by
  simp[execOp,sN.eval hx,run_typeAssert_lacksB hu hl hz v T w]) ht h
def Sk (u:Option TypeDesc):Bool:=match u with|some (.interface _)=>false|none=>false|some _=>true
theorem KO.taC{T0:TypeId}(hx:ev G x=some (.iface T0 v))(hu:Sk (P.underlying T')=true)(oo:Nat.beq T0 T'=false)(hz:∀w,(zeroValue T').run P w=.ok z w)(ht:Nat.blt t n=true)(h:KO P ops d Q n D w0 ((t,.tuple #[z,.bool false])::G) L l):KO P ops d Q n D w0 G L ((k,⟨some t,.typeAssert x T T' true,ty,pos,af,none⟩)::l):=
 KO.val (fun a' w sN=>by
  have hn:¬T0=T':=fun e=>by rw[e,Nat.beq_refl]at oo;cases oo
  cases hd:P.underlying T' with
  |none=>rw[hd]at hu;cases hu
  |some dd=>
   rw[hd]at hu;simp only[execOp,sN.eval hx,Instr.typeAssert,run_underlying hd,Sem.run_bind,Result.andThen_ok]
   cases dd<;>first|(cases hu;done)|simp[hn,hz w]) ht h
theorem KO.OG{T0:TypeId}(hx:ev G x=some (.iface T0 v))(hT:P.underlying T=some (.interface (P.methodsAt T)))(ht:Nat.blt t n=true)(h:KO P ops d Q n D w0 ((t,.bool true)::G) L l):
 KO P ops d Q n D w0 G L ((k,⟨some t,.binOp .neq T x (.const .nilIface) T',ty,pos,af,none⟩)::l):=
 KO.val (fun a w ha=>by
  simp only[execOp,ha.eval hx,show a.eval (.const .nilIface)=.nilIface from rfl]
  simp[run_neq_held_nil w T _ _ hT,eqGuard_at_iface]) ht h
theorem KO.agb{T0:TypeId}(hx:ev G x=some (.iface T0 v))(hT:P.underlying T=some (.interface (P.methodsAt T)))(ht:Nat.blt t n=true)(h:KO P ops d Q n D w0 ((t,.bool false)::G) L l):
 KO P ops d Q n D w0 G L ((k,⟨some t,.binOp .eql T x (.const .nilIface) T',ty,pos,af,none⟩)::l):=
 KO.val (fun a w ha=>by
  simp only[execOp,ha.eval hx,show a.eval (.const .nilIface)=.nilIface from rfl]
  simp[run_eql_held_nil w T _ _ hT,eqGuard_at_iface]) ht h
theorem KO.aeu(hx:ev G x=some .nilIface)(hT:P.underlying T=some (.interface (P.methodsAt T)))(ht:Nat.blt t n=true)(h:KO P ops d Q n D w0 ((t,.bool false)::G) L l):
 KO P ops d Q n D w0 G L ((k,⟨some t,.binOp .neq T x (.const .nilIface) T',ty,pos,af,none⟩)::l):=
 KO.val (fun a w ha=>by
  simp only[execOp,ha.eval hx,show a.eval (.const .nilIface)=.nilIface from rfl]
  simp[run_neq_nil_nil w T hT,eqGuard_nil_constR]) ht h
theorem KO.agc(hx:ev G x=some .nilIface)(hT:P.underlying T=some (.interface (P.methodsAt T)))(ht:Nat.blt t n=true)(h:KO P ops d Q n D w0 ((t,.bool true)::G) L l):
 KO P ops d Q n D w0 G L ((k,⟨some t,.binOp .eql T x (.const .nilIface) T',ty,pos,af,none⟩)::l):=
 KO.val (fun a w ha=>by
  simp only[execOp,ha.eval hx,show a.eval (.const .nilIface)=.nilIface from rfl]
  simp[run_eql_nil_nil w T hT,eqGuard_nil_constR]) ht h
end
section
variable {P:Program} {fn:Func} {R:Ending->World->Prop} {n:Nat} {w0:World} {G:Env} {L M:List HP} {v v1 v2 v3:Value} {t t1 t2 t3:Nat} {T E:TypeId} {b:Nat} {cs:List Value} {fz:Nat×Nat}
end
theorem KE.DQ{P:Program}{f:FuncId}{args:Array Value}{w0:World}{L:List HP}{R R':Value->List HP->Prop}(h:KE P f args w0 L R)(hr:∀v M,R v M->∃M',R' v M'/\∀w,St w0 M w->St w0 M' w):KE P f args w0 L R':=fun w hw=>
 (h w hw).mono fun _ _ ⟨v,M,e,r,s,b⟩=>let⟨M',r',c⟩:=hr v M r;⟨v,M',e,r',c _ s,b⟩
end WB
namespace Go.Proofs.YtjhogocabcdjbabGreatDoor
open Tryz
open Go Go.RowKit WB
theorem kC(w0:World)(L:List HP)(n a b:Int):KE prog 118 #[.int .i64 n,.int .i64 a,.int .i64 b] w0 L (fun u M=>u=.bool (decide (a<=n)&&decide (n<=b))/\M=L):=by
 refine KE.mk (n:=15) func118 rfl ntmps118 ai ?_;intro w hw;refine x6 ?_;by_cases h:a<=n
 ·refine gY ?_;refine KO.leq rfl rfl rfl ?_;refine sC ?_;refine yW ?_;refine Kc ?_;refine kq ?_;refine KQ.aU rfl rfl (fun w' hs=>⟨_,_,rfl,⟨by simp[h],rfl⟩,hw.aA hs.below,hs.below⟩)
 ·refine gY ?_;refine KO.leq rfl rfl rfl ?_;refine ET ?_;refine kq ?_;refine KQ.aU rfl rfl (fun w' hs=>⟨_,_,rfl,⟨by simp[h],rfl⟩,hw.aA hs.below,hs.below⟩)
theorem O2(c:UInt8):isLet c=((decide ((97:Int)<=(c.toNat:Nat))&&decide (((c.toNat:Nat):Int)<=122))||(decide ((48:Int)<=(c.toNat:Nat))&&decide (((c.toNat:Nat):Int)<=57))):=by
 unfold isLet;have e:∀n:Fin 256,((97:UInt8)<=UInt8.ofNat n.val↔(97:Int)<=(n.val:Nat))/\(UInt8.ofNat n.val<=(122:UInt8)↔((n.val:Nat):Int)<=122)/\((48:UInt8)<=UInt8.ofNat n.val↔(48:Int)<=(n.val:Nat))/\(UInt8.ofNat n.val<=(57:UInt8)↔((n.val:Nat):Int)<=57):=by decide+kernel
 have h:=e ⟨c.toNat,c.toNat_lt⟩;simp only[UInt8.ofNat_toNat]at h;simp only[h.1,h.2.1,h.2.2.1,h.2.2.2]
theorem zr(w0:World)(L:List HP)(s:aj)(m:Nat)(hs:s.size<=maxLen):KE prog 271 #[.string s,.int .i64 (m:Nat)] w0 L (fun u M=>u=.bool (dc s m)/\M=L):=by
 refine KE.mk (n:=35) func271 rfl ntmps271 ai ?_;intro w hw;have hs9:s.size<=9223372036854775807:=by unfold maxLen at hs;exact hs
 refine lg ?_;refine H_ ?_;refine oL ?_;refine K.loop (fun k:Nat=>[(0,.string s),(1,.int .i64 (m:Nat)),(8,.int .i64 (s.size:Nat)),(9,.int .i64 (k:Nat))]) (fun _=>[]) (fun k=>k<=s.size/\∀j c,j<k->s[j]? =some c->isLet c=true) (fun k=>s.size-k) 0
  ⟨aH _,fun j c h=>by omega⟩ ⟨rfl,rfl,rfl,rfl,trivial⟩ (fun _ h=>h) ?_
 rintro k ⟨hk,cU⟩;refine lW ?_;refine K.bn rfl (fun h=>?_) (fun h=>?_)
 ·obtain⟨c,hc⟩:∃c,s[k]? =some c:=⟨s[k]' ae,getElem?_eq_some_iff.2 ⟨by omega,rfl⟩⟩;have hl:=O2 c;refine sy ?_;refine EJ ?_;refine KO.O8 rfl rfl underlying9 aN sE rfl ?_;refine jL ?_;refine K.cut (fun b:Bool=>[(29,.bool (!b)),(0,.string s),(1,.int .i64 (m:Nat)),(8,.int .i64 (s.size:Nat)),(9,.int .i64 (k:Nat))]) (fun _=>[]) (fun b=>b=isLet c) ?_ ?_
  ·by_cases h1:(97:Int)<=(c.toNat:Nat)
   all_goals by_cases h2:((c.toNat:Nat):Int)<=122
   all_goals by_cases h3:(48:Int)<=(c.toNat:Nat)
   all_goals by_cases h4:((c.toNat:Nat):Int)<=57
   all_goals first|(exfalso;omega)|skip
   all_goals (simp only[h1,h2,h3,h4,decide_true,decide_false,Bool.and_true,Bool.and_false,Bool.or_true,Bool.or_false,Bool.true_or,Bool.false_or]at hl)
   all_goals (
    refine cW ?_;refine qG ?_;refine Z1 ?_
    first|(refine KO.on rfl rfl ?_ ?_;(focus(simp only[decide_eq_true_eq,decide_eq_false_iff_not,Bool.not_eq_true,Bool.not_true,Bool.not_false,ne_eq];omega));(refine KO.mv rfl rfl ?_))|(refine KO.no rfl rfl ?_ rfl ?_;(focus(simp only[decide_eq_true_eq,decide_eq_false_iff_not,Bool.not_eq_true,Bool.not_true,Bool.not_false,ne_eq];omega)))
    first|(refine KO.on rfl rfl ?_ ?_;(focus(simp only[decide_eq_true_eq,decide_eq_false_iff_not,Bool.not_eq_true,Bool.not_true,Bool.not_false,ne_eq];omega));(refine KO.leq rfl rfl rfl ?_))|(refine KO.no rfl rfl ?_ rfl ?_;(focus(simp only[decide_eq_true_eq,decide_eq_false_iff_not,Bool.not_eq_true,Bool.not_true,Bool.not_false,ne_eq];omega)))
    first|(refine KO.oW rfl ?_ rfl rfl ?_;(focus(simp only[decide_eq_true_eq,decide_eq_false_iff_not,Bool.not_eq_true,Bool.not_true,Bool.not_false,ne_eq];omega)))|(refine KO.lB rfl ?_ rfl rfl ?_;(focus(simp only[decide_eq_true_eq,decide_eq_false_iff_not,Bool.not_eq_true,Bool.not_true,Bool.not_false,ne_eq];omega)))
    refine Z1 ?_
    first|(refine KO.on rfl rfl ?_ ?_;(focus first|rfl|(simp only[decide_eq_true_eq,decide_eq_false_iff_not,Bool.not_eq_true,Bool.not_true,Bool.not_false,ne_eq];omega));(refine KO.mv rfl rfl ?_))|(refine KO.no rfl rfl ?_ rfl ?_;(focus(simp only[decide_eq_true_eq,decide_eq_false_iff_not,Bool.not_eq_true,Bool.not_true,Bool.not_false,ne_eq];omega)))
    first|(refine KO.on rfl rfl ?_ ?_;(focus first|rfl|(simp only[decide_eq_true_eq,decide_eq_false_iff_not,Bool.not_eq_true,Bool.not_true,Bool.not_false,ne_eq];omega));(refine KO.geq rfl rfl rfl ?_))|(refine KO.no rfl rfl ?_ rfl ?_;(focus(simp only[decide_eq_true_eq,decide_eq_false_iff_not,Bool.not_eq_true,Bool.not_true,Bool.not_false,ne_eq];omega)))
    first|(refine KO.on rfl rfl ?_ ?_;(focus first|rfl|(simp only[decide_eq_true_eq,decide_eq_false_iff_not,Bool.not_eq_true,Bool.not_true,Bool.not_false,ne_eq];omega));(refine KO.mv rfl rfl ?_))|(refine KO.no rfl rfl ?_ rfl ?_;(focus(simp only[decide_eq_true_eq,decide_eq_false_iff_not,Bool.not_eq_true,Bool.not_true,Bool.not_false,ne_eq];omega)))
    first|(refine KO.on rfl rfl ?_ ?_;(focus(simp only[decide_eq_true_eq,decide_eq_false_iff_not,Bool.not_eq_true,Bool.not_true,Bool.not_false,ne_eq];omega));(refine KO.mv rfl rfl ?_))|(refine KO.no rfl rfl ?_ rfl ?_;(focus(simp only[decide_eq_true_eq,decide_eq_false_iff_not,Bool.not_eq_true,Bool.not_true,Bool.not_false,ne_eq];omega)))|refine KO.ZV rfl rfl rfl ?_
    first|(refine KO.on rfl rfl ?_ ?_;(focus(simp only[decide_eq_true_eq,decide_eq_false_iff_not,Bool.not_eq_true,Bool.not_true,Bool.not_false,ne_eq];omega));(refine KO.leq rfl rfl rfl ?_))|(refine KO.no rfl rfl ?_ rfl ?_;(focus(simp only[decide_eq_true_eq,decide_eq_false_iff_not,Bool.not_eq_true,Bool.not_true,Bool.not_false,ne_eq];omega)))|refine KO.ZV rfl rfl rfl ?_
    first|(refine KO.on rfl rfl ?_ ?_;(focus first|rfl|(simp only[decide_eq_true_eq,decide_eq_false_iff_not,Bool.not_eq_true,Bool.not_true,Bool.not_false,ne_eq];omega));(first|(refine KO.oW rfl ?_ rfl rfl ?_;(focus(simp only[decide_eq_true_eq,decide_eq_false_iff_not,Bool.not_eq_true,Bool.not_true,Bool.not_false,ne_eq];omega)))|(refine KO.lB rfl ?_ rfl rfl ?_;(focus(simp only[decide_eq_true_eq,decide_eq_false_iff_not,Bool.not_eq_true,Bool.not_true,Bool.not_false,ne_eq];omega)))))|(refine KO.no rfl rfl ?_ rfl ?_;(focus(simp only[decide_eq_true_eq,decide_eq_false_iff_not,Bool.not_eq_true,Bool.not_true,Bool.not_false,ne_eq];omega)))
    first|(refine KO.oW rfl ?_ rfl rfl ?_;(focus(simp only[decide_eq_true_eq,decide_eq_false_iff_not,Bool.not_eq_true,Bool.not_true,Bool.not_false,ne_eq];omega)))|(refine KO.lB rfl ?_ rfl rfl ?_;(focus first|rfl|(simp only[decide_eq_true_eq,decide_eq_false_iff_not,Bool.not_eq_true,Bool.not_true,Bool.not_false,ne_eq];omega)))
    refine pC ?_;refine jk ?_
    exact KQ.kT (isLet c) rfl ⟨by rw[hl];first|rfl|simp[cB,h1,h2,h3,h4],rfl,rfl,rfl,rfl,trivial⟩ (fun _ h=>h))
  rintro b rfl;refine K.cond rfl (fun h5=>?_) (fun h5=>?_)
  ·refine x7 ?_;refine KQ.aU rfl rfl (fun w' aM=>⟨_,_,rfl,⟨?_,rfl⟩,hw.aA aM.below,aM.below⟩);have :gB s=false:=by
    unfold gB;rw[List.all_eq_false];obtain⟨dN,rfl⟩:=getElem?_eq_some_iff.1 hc;exact⟨s[k],Array.mem_toList_iff.2 (Array.getElem_mem (xs:=s.data) dN),by simpa using h5⟩
   simp[dc,this]
  ·refine lY ?_;refine KQ.round (k+1) ⟨by omega,fun j d hj hd=>?_⟩ ae ⟨rfl,rfl,rfl,rfl,trivial⟩ (fun _ h=>h);by_cases Bk:j=k
   ·subst Bk;rw[hc]at hd;cases hd;simpa using h5
   ·exact cU j d ae hd
 ·have PA:gB s=true:=by
   unfold gB;rw[aL];intro c hc;obtain⟨j,hj,rfl⟩:=List.getElem_of_mem hc;have Et:j<s.size:=by simpa using hj
   exact cU j _ ae (getElem?_eq_some_iff.2 ⟨Et,rfl⟩)
  refine Ba ?_;refine H_ ?_;refine Z1 ?_;refine KO.ce (cp:=[]) rfl rfl rfl call118 rfl (kC w _ _ _ _) ?_;rintro v' L' ⟨rfl,rfl⟩;refine kq ?_;refine KQ.aU rfl rfl (fun w' aM=>⟨_,_,rfl,⟨?_,rfl⟩,hw.aA aM.below,aM.below⟩);simp only[dc,PA,Bool.and_true];congr 2
  ·exact decide_eq_decide.2 ae
  ·exact decide_eq_decide.2 ae
theorem lj(w0:World)(L:List HP)(s:aj)(hs:s.size<=maxLen):KE prog 269 #[.string s] w0 L (fun u M=>u=.bool (cH s)/\M=L):=by
 refine KE.mk (n:=5) func269 rfl ntmps269 ai ?_;intro w hw;refine lg ?_;refine KO.ce (cp:=[]) rfl rfl rfl call271 rfl (zr w _ s 8 hs) ?_;rintro v' L' ⟨rfl,rfl⟩;refine kq ?_;refine KQ.aU rfl rfl (fun w' aM=>⟨_,_,rfl,⟨rfl,rfl⟩,hw.aA aM.below,aM.below⟩)
theorem uW(w0:World)(L:List HP)(s:aj)(hs:s.size<=maxLen):KE prog 180 #[.string s] w0 L (fun u M=>u=.bool (fJ s)/\M=L):=by
 refine KE.mk (n:=5) func180 rfl ntmps180 ai ?_;intro w hw;refine lg ?_;refine KO.ce (cp:=[]) rfl rfl rfl call271 rfl (zr w _ s 12 hs) ?_;rintro v' L' ⟨rfl,rfl⟩;refine kq ?_;refine KQ.aU rfl rfl (fun w' aM=>⟨_,_,rfl,⟨rfl,rfl⟩,hw.aA aM.below,aM.below⟩)
theorem q9(w0:World)(L:List HP)(m:Ms)(hb:m.body.size<=maxLen)(hq:m.queue.size<=maxLen):KE prog 188 #[.agg (dy m).toArray] w0 L (fun u M=>u=.bool (bD m)/\M=L):=by
 refine KE.mk (n:=26) func188 rfl ntmps188 ai ?_;intro w hw;have fin:∀(b:Bool) (w':World) (M:List HP),b=bD m->St w M w'->∃v L',Ending.returned (.bool b)=Ending.returned v/\(v=.bool (bD m)/\L'=L)/\St w0 L' w'/\Below w.heap.size w w':=fun b w' M e hs=>⟨_,_,rfl,⟨by rw[e],rfl⟩,hw.aA hs.below,hs.below⟩
 have hd:bD m=((decide (0<=m.id)&&decide (m.id<=1099511627776))&&((decide (0<=m.pri)&&decide (m.pri<=9))&&(fJ m.body&&(cH m.queue&&(decide (0<=m.bF)&&decide (m.bF<=3)))))):=by
  unfold bD;rw[show decide (m.bF<4)=decide (m.bF<=3)from decide_eq_decide.2 ae];simp only[Bool.and_assoc]
 refine Z2 ?_;refine KO.box rfl rfl aN rfl ?_;intro b1;refine jL ?_;generalize nW:(decide (0<=m.id)&&decide (m.id<=1099511627776))=c1 at hd;generalize jg:(decide (0<=m.pri)&&decide (m.pri<=9))=c2 at hd;generalize Jr:fJ m.body=c3 at hd;generalize hc4:cH m.queue=c4 at hd;generalize hc5:(decide (0<=m.bF)&&decide (m.bF<=3))=c5 at hd;cases c1
 ·refine Nk ?_;refine KO.ce (cp:=[]) rfl rfl rfl call118 rfl (kC w _ _ _ _) ?_;rintro v' L' ⟨rfl,rfl⟩;rw[nW];refine vK ?_;refine vK ?_;refine HJ ?_;exact KQ.aU rfl rfl (fun w' hs=>fin _ w' _ (by simp[hd]) hs)
 cases c2
 ·refine Nk ?_;refine KO.ce (cp:=[]) rfl rfl rfl call118 rfl (kC w _ _ _ _) ?_;rintro v' L' ⟨rfl,rfl⟩;rw[nW];refine qW ?_;refine Qf ?_;refine sA ?_;refine KO.on rfl rfl rfl ?_;refine KO.ce (cp:=[]) rfl rfl rfl call118 rfl (kC w _ _ _ _) ?_;rintro v' L' ⟨rfl,rfl⟩;rw[jg];refine uk ?_;refine vK ?_;refine HJ ?_;exact KQ.aU rfl rfl (fun w' hs=>fin _ w' _ (by simp[hd]) hs)
 cases c3
 ·refine Nk ?_;refine KO.ce (cp:=[]) rfl rfl rfl call118 rfl (kC w _ _ _ _) ?_;rintro v' L' ⟨rfl,rfl⟩;rw[nW];refine qW ?_;refine Qf ?_;refine sA ?_;refine KO.on rfl rfl rfl ?_;refine KO.ce (cp:=[]) rfl rfl rfl call118 rfl (kC w _ _ _ _) ?_;rintro v' L' ⟨rfl,rfl⟩;rw[jg];refine EO ?_;refine Cb ?_;refine A5 ?_;refine KO.on rfl rfl rfl ?_;refine KO.ce (cp:=[]) rfl rfl rfl call180 rfl (uW w _ _ hb) ?_;rintro v' L' ⟨rfl,rfl⟩;rw[Jr];refine uk ?_;refine HJ ?_;exact KQ.aU rfl rfl (fun w' hs=>fin _ w' _ (by simp[hd]) hs)
 cases c4
 ·refine Nk ?_;refine KO.ce (cp:=[]) rfl rfl rfl call118 rfl (kC w _ _ _ _) ?_;rintro v' L' ⟨rfl,rfl⟩;rw[nW];refine qW ?_;refine Qf ?_;refine sA ?_;refine KO.on rfl rfl rfl ?_;refine KO.ce (cp:=[]) rfl rfl rfl call118 rfl (kC w _ _ _ _) ?_;rintro v' L' ⟨rfl,rfl⟩;rw[jg];refine EO ?_;refine Cb ?_;refine A5 ?_;refine KO.on rfl rfl rfl ?_;refine KO.ce (cp:=[]) rfl rfl rfl call180 rfl (uW w _ _ hb) ?_;rintro v' L' ⟨rfl,rfl⟩;rw[Jr];refine EO ?_;refine JM ?_;refine A5 ?_;refine KO.on rfl rfl rfl ?_;refine KO.ce (cp:=[]) rfl rfl rfl call269 rfl (lj w _ _ hq) ?_;rintro v' L' ⟨rfl,rfl⟩;rw[hc4];refine uk ?_;refine TU ?_;exact KQ.aU rfl rfl (fun w' hs=>fin _ w' _ (by simp[hd]) hs)
 ·refine Nk ?_;refine KO.ce (cp:=[]) rfl rfl rfl call118 rfl (kC w _ _ _ _) ?_;rintro v' L' ⟨rfl,rfl⟩;rw[nW];refine qW ?_;refine Qf ?_;refine sA ?_;refine KO.on rfl rfl rfl ?_;refine KO.ce (cp:=[]) rfl rfl rfl call118 rfl (kC w _ _ _ _) ?_;rintro v' L' ⟨rfl,rfl⟩;rw[jg];refine EO ?_;refine Cb ?_;refine A5 ?_;refine KO.on rfl rfl rfl ?_;refine KO.ce (cp:=[]) rfl rfl rfl call180 rfl (uW w _ _ hb) ?_;rintro v' L' ⟨rfl,rfl⟩;rw[Jr];refine EO ?_;refine JM ?_;refine A5 ?_;refine KO.on rfl rfl rfl ?_;refine KO.ce (cp:=[]) rfl rfl rfl call269 rfl (lj w _ _ hq) ?_;rintro v' L' ⟨rfl,rfl⟩;rw[hc4];refine EO ?_;refine NO ?_;refine sA ?_;refine KO.on rfl rfl rfl ?_;refine KO.ce (cp:=[]) rfl rfl rfl call118 rfl (kC w _ _ _ _) ?_;rintro v' L' ⟨rfl,rfl⟩;rw[hc5];refine ER ?_;exact KQ.aU rfl rfl (fun w' hs=>fin _ w' _ (by simp[hd]) hs)
theorem Xp(w0:World)(L:List HP)(k:Int):KE prog 82 #[.int .i64 k] w0 L (fun u M=>u=.agg [Value.int .i64 k,.int .i64 (-1)].toArray/\M=L):=by
 refine KE.mk (n:=5) func82 rfl ntmps82 ai ?_;intro w hw;refine Z2 ?_;refine KO.alloc rfl zeroValue167 aN rfl ?_;intro b2;refine EI ?_;refine KO.P7 (pl:=[(0,1),(1,1)]) [.int .i64 k,.int .i64 (-1)] rfl zeroValue167 runUnderlying167 (by intro w;simp[sizeOf3,sizeOf70]) rfl rfl ?_;refine KO.oQ rfl rfl rfl aN (by exact sizeOf167) aN br aN ?_;refine Z5 ?_;refine KQ.aem rfl rfl isAgg167 br (by exact sizeOf167) (fun w' hs=>⟨_,_,rfl,⟨rfl,rfl⟩,hw.aA hs.below,hs.below⟩)
theorem R8(w0:World)(L:List HP)(k:Int)(hg:fM w0):KE prog 168 #[dj 70 k] w0 L (fun u M=>u=.tuple #[.int .i64 k,.int .i64 (-1)]/\M=L):=by
 refine KE.mk (n:=38) func168 rfl ntmps168 ai ?_;intro w hw;have Io:fM w:=(Ext.bU hw.below).cell hg;refine iz ?_;refine jo ?_;refine KO.ce (cp:=[]) rfl rfl rfl call265 rfl (Vv w _ k Io) ?_;rintro v' L' ⟨rfl,rfl⟩;refine Hd ?_;refine K.loop (fun _:Unit=>[(0,dj 70 k),(4,.int .i64 k)]) (fun _=>[]) (fun _=>True) (fun _=>0) () trivial ⟨rfl,rfl,trivial⟩ (fun _ h=>h) ?_;rintro _ _;refine m_ ?_;refine Yj ?_;refine K.bn rfl (fun h=>?_) (fun h=>?_)
 ·rw[show dj 70 k=.iface 70 (.int .i64 k)from if_neg h];refine sy ?_;refine KO.taC rfl bC aN zeroValue247 rfl ?_;refine qQ ?_;refine pF ?_;refine A6 ?_;refine cW ?_;refine KO.taN (z:=Value.nilIface) rfl underlying346 bC bC rfl ?_;refine qQ ?_;refine A4 ?_;refine Ym ?_;refine cW ?_;refine nP ?_;refine KQ.dG rfl rfl rfl (fun w' hs=>⟨_,_,rfl,⟨rfl,rfl⟩,hw.aA hs.below,hs.below⟩)
 ·refine Ba ?_;refine nP ?_;refine KQ.dG rfl rfl rfl (fun w' hs=>⟨_,_,rfl,⟨rfl,rfl⟩,hw.aA hs.below,hs.below⟩)
theorem aeF(w0:World)(L:List HP)(k e p:Int)(hg:fM w0):KE prog 81 #[dj 70 k,.agg [Value.int .i64 e,.int .i64 p].toArray] w0 L (fun u M=>u=.bool (decide (k=e)&&decide (-1=p))/\M=L):=by
 refine KE.mk (n:=22) func81 rfl ntmps81 ai ?_;intro w hw;have Io:fM w:=(Ext.bU hw.below).cell hg;refine Z2 ?_;refine KO.box rfl rfl aN rfl ?_;intro b3;refine jo ?_;refine KO.ce (cp:=[]) rfl rfl rfl call168 rfl (R8 w _ k Io) ?_;rintro v' L' ⟨rfl,rfl⟩;refine rJ ?_;by_cases h:k=e
 ·refine cW ?_;refine ab7 ?_;refine EF ?_;refine sC ?_;refine KO.fG (off:=1) rfl runUnderlying167 rfl rfl sizeOf3 rfl ?_;refine J7 ?_;refine EF ?_;refine sx ?_;refine kq ?_;refine KQ.aU rfl rfl (fun w' hs=>⟨_,_,rfl,⟨by simp[h],rfl⟩,hw.aA hs.below,hs.below⟩)
 ·refine cW ?_;refine ab7 ?_;refine EF ?_;refine Nl ?_;refine Fb ?_;refine kq ?_;refine KQ.aU rfl rfl (fun w' hs=>⟨_,_,rfl,⟨by simp[h],rfl⟩,hw.aA hs.below,hs.below⟩)
theorem cF(w0:World)(L:List HP)(k e:Int)(hg:fM w0):KE prog 29 #[dj 70 k,.int .i64 e] w0 L (fun u M=>u=.bool (decide (k=e))/\M=L):=by
 refine KE.mk (n:=9) func29 rfl ntmps29 ai ?_;intro w hw;have Io:fM w:=(Ext.bU hw.below).cell hg;refine yb ?_;refine KO.ce (cp:=[]) rfl rfl rfl call82 rfl (Xp w _ e) ?_;rintro v' L' ⟨rfl,rfl⟩;refine KO.ce (cp:=[]) rfl rfl rfl call81 rfl (aeF w _ k e (-1) Io) ?_;rintro v' L' ⟨rfl,rfl⟩;refine kq ?_;refine KQ.aU rfl rfl (fun w' hs=>⟨_,_,rfl,⟨by simp,rfl⟩,hw.aA hs.below,hs.below⟩)
theorem RD(w0:World)(L:List HP)(m:Ms):KE prog 174 #[.agg (dy m).toArray] w0 L (fun u M=>u=.bool (decide (m.body.size<=60)&&decide (m.queue.size<=60))/\M=L):=by
 refine KE.mk (n:=13) func174 rfl ntmps174 ai ?_;intro w hw;have fin:∀(b:Bool) (w':World) (M:List HP),b=(decide (m.body.size<=60)&&decide (m.queue.size<=60))->St w M w'->∃v L',Ending.returned (.bool b)=Ending.returned v/\(v=.bool (decide (m.body.size<=60)&&decide (m.queue.size<=60))/\L'=L)/\St w0 L' w'/\Below w.heap.size w w':=fun b w' M e hs=>⟨_,_,rfl,⟨by rw[e],rfl⟩,hw.aA hs.below,hs.below⟩
 refine Z2 ?_;refine KO.box rfl rfl aN rfl ?_;intro b1;refine jL ?_;by_cases h:((m.body.size:Nat):Int)<=60
 ·refine di ?_;refine Cb ?_;refine JU ?_;refine yW ?_;refine JM ?_;refine sh ?_;refine EG ?_;refine Hx ?_;refine Kc ?_;refine kq ?_;refine KQ.aU rfl rfl (fun w' hs=>fin _ w' _ ?_ hs);have h1:m.body.size<=60:=by omega
  simp only[h1,decide_true,Bool.true_and];exact decide_eq_decide.2 ae
 ·refine di ?_;refine Cb ?_;refine JU ?_;refine Nl ?_;refine Fb ?_;refine kq ?_;refine KQ.aU rfl rfl (fun w' hs=>fin _ w' _ ?_ hs);have h1:¬m.body.size<=60:=by omega
  simp[h1]
end Go.Proofs.YtjhogocabcdjbabGreatDoor
namespace WB
open Go Go.RowKit Go.ChangeMaps Go.MapKept
theorem List.qA(s v:Value):∀(l:List MapEntry) (j:Nat),(l.modify j fun e=>{e with key:=s,val:=v}).map (·.born)=l.map (·.born)
 |[],_=>by simp
 |_::_,0=>by simp
 |_::l,j+1=>by simp[List.qA s v l j]
structure KeyLaw {κ:Type} (d:TypeDesc) (kv:κ->Value):Prop where
 isKey:∀k,IsKey d (kv k)
 inj:∀a b,kv a=kv b->a=b
theorem dD:KeyLaw (κ:=aj) .string Value.string:=⟨fun _=>⟨⟩,fun _ _ h=>by cases h;rfl⟩
theorem I_:KeyLaw (κ:=Int) (.int .i64) (Value.int .i64):=⟨fun _=>rfl,fun _ _ h=>by cases h;rfl⟩
section
variable {κ:Type} [DecidableEq κ]
def gj {β:Type} (m:List (κ×β)) (k:κ):Option β:=match m with
 |[]=>none
 |x::r=>if x.1=k then some x.2 else gj r k
def iU {β:Type} (m:List (κ×β)) (k:κ) (v:β):List (κ×β):=match m with
 |[]=>[(k,v)]
 |x::r=>if x.1=k then(x.1,v)::r else x::iU r k v
def JA {β:Type} (m:List (κ×β)) (k:κ):List (κ×β):=match m with
 |[]=>[]
 |x::r=>if x.1=k then r else x::JA r k
theorem sb{β:Type}(s t:κ)(v:β):∀m:List (κ×β),gj (iU m s v) t=if s=t then some v else gj m t
 |[]=>rfl
 |x::r=>by
  unfold iU;by_cases h:x.1=s
  ·rw[if_pos h,gj,gj,h];by_cases h2:s=t<;>simp[h2]
  ·rw[if_neg h,gj,gj,sb s t v r];by_cases h2:x.1=t
   ·have :¬s=t:=fun e=>h (h2.trans e.symm)
    simp[h2,this]
   ·simp[h2]
variable {d:TypeDesc} {kv:κ->Value}
def MW (kv:κ->Value) (es:List MapEntry) (m:List (κ×Value)):Prop:=es.map (fun e=>(e.key,e.val))=m.map (fun x=>(kv x.1,x.2))
structure esB (kv:κ->Value) (es:List MapEntry) (iJ:Nat) (m:List (κ×Value)):Prop where
 W8:MW kv es m
 Ii:∀e∈es,e.born<iJ
 nodup:(es.map (·.born)).Nodup
def bP (kv:κ->Value) (b:Nat) (m:List (κ×Value)):HP:=ex fun es:Array MapEntry=>ex fun iJ:Nat=>sep (Mb (esB kv es.toList iJ m)) (bA b (.map es iJ))
theorem PN(K:KeyLaw d kv)(s:κ):∀(es:List MapEntry) (m:List (κ×Value)) (i:Nat),MW kv es m->
 (gj m s=none/\Instr.findNow d (kv s) es i=some none/\(∀v iJ,MW kv (es++[{key:=kv s,val:=v,born:=iJ}]) (iU m s v))/\JA m s=m)\/
 ∃j e,gj m s=some e.val/\es[j]? =some e/\e.key=kv s/\Instr.findNow d (kv s) es i=some (some (i+j,e.val))/\
  (∀v,MW kv (es.modify j fun e=>{e with key:=kv s,val:=v}) (iU m s v))/\MW kv (es.eraseIdx j) (JA m s)
 |[],[],i,_=>Or.inl ⟨rfl,rfl,fun v iJ=>rfl,rfl⟩
 |[],_::_,_,h=>by simp[MW]at h
 |_::_,[],_,h=>by simp[MW]at h
 |e::es,x::m,i,h=>by
  unfold MW at h;simp only[aJ,List.cons.injEq,Prod.mk.injEq]at h;obtain⟨⟨hk,hv⟩,hr⟩:=h;obtain⟨r,hr1,hr2⟩:=sameNow_of_keys (K.isKey s) (show IsKey d e.key by rw[hk];exact K.isKey x.1);by_cases hx:x.1=s
  ·have hrt:r=true:=hr2.2 (by rw[hk,hx]);refine Or.inr ⟨0,e,by simp[gj,hx,hv],rfl,by rw[hk,hx],?_,fun v=>?_,?_⟩
   ·unfold Instr.findNow;rw[hr1,hrt];rfl
   ·unfold MW;simp[iU,hx];exact hr
   ·unfold MW;simp[JA,hx];exact hr
  ·have hrf:r=false:=by
    cases r with
    |false=>rfl
    |true=>exact absurd (K.inj _ _ ((hr2.1 rfl).trans hk)) (fun e=>hx e.symm)
   have hf:Instr.findNow d (kv s) (e::es) i=Instr.findNow d (kv s) es (i+1):=by
    conv=>lhs;unfold Instr.findNow
    rw[hr1,hrf]
   rcases PN K s es m (i+1) hr with⟨h1,h2,h3,h4⟩|⟨j,e0,h1,h2,h3,h4,h5,h6⟩
   ·refine Or.inl ⟨by simp[gj,hx,h1],by rw[hf,h2],fun v iJ=>?_,by simp[JA,hx,h4]⟩;have :=h3 v iJ;unfold MW at this ⊢;simp[iU,hx,hk,hv]at this ⊢;exact this
   ·refine Or.inr ⟨j+1,e0,by simp[gj,hx,h1],by simpa using h2,h3,by rw[hf,h4];simp;omega,fun v=>?_,?_⟩
    ·have :=h5 v;unfold MW at this ⊢;simp[iU,hx,hk,hv]at this ⊢;exact this
    ·unfold MW at h6 ⊢;simp[JA,hx,hk,hv]at h6 ⊢;exact h6
variable {w0 w:World} {L:List HP} {P:Program} {b:Nat} {m:List (κ×Value)}
omit [DecidableEq κ]in
theorem IV(h:St w0 L w):St w0 (bP kv w.heap.size []::L) (w.alloc (.map #[] 0)):=
 St.GR #[] (St.GR 0 (St.join (St.BB (p:=esB kv (#[]:Array MapEntry).toList 0 []) ⟨rfl,(fun e h=>by cases h),.nil⟩ (h.alloc (.map #[] 0)))))
theorem zQ(K:KeyLaw d kv)(h:St w0 (bP kv b m::L) w){w1:World}(he:Ext w w1){t k E:TypeId}(ht:P.underlying t=some (.map k E))(hk:P.underlying k=some d){z:Value}(hz:(zeroValue E).run P w1=.ok z w1)(s:κ)(ok:Bool):
 (Instr.lookup t (.map (some b)) (kv s) ok).run P w1=.ok (if ok then .tuple #[(gj m s).getD z,.bool (gj m s).isSome]else(gj m s).getD z) w1:=by
 obtain⟨es,h⟩:=h.Iq;obtain⟨iJ,h⟩:=h.Iq;obtain⟨hr,h⟩:=h.split.xP;have dN:=h.lt;obtain⟨_,hb⟩:=h.look;have hb:w1.heap[b]? =some (.map es iJ):=by rw[he.2 b dN];exact hb
 rcases PN K s _ m 0 hr.W8 with⟨h2,h3,_,_⟩|⟨j,e,h2,h3,h4,h5,_,_⟩
 ·cases ok<;>simp[Instr.lookup,run_underlying ht,run_getObj_map hb,run_checkKey hk (K.isKey s),run_findKey hk h3,Result.andThen,h2,hz]
 ·cases ok<;>simp[Instr.lookup,run_underlying ht,run_getObj_map hb,run_checkKey hk (K.isKey s),run_findKey hk h5,Result.andThen,h2]
theorem CR(K:KeyLaw d kv)(h:St w0 (bP kv b m::L) w){t k E:TypeId}(ht:P.underlying t=some (.map k E))(hk:P.underlying k=some d)(s:κ)(v:Value):
 ∃w',(Instr.mapUpdate t (.map (some b)) (kv s) v).run P w=.ok () w'/\St w0 (bP kv b (iU m s v)::L) w':=by
 obtain⟨es,h⟩:=h.Iq;obtain⟨iJ,h⟩:=h.Iq;obtain⟨hr,h⟩:=h.split.xP;obtain⟨_,hb⟩:=h.look;have up:∀(o:Obj),St w0 (bA b o::L) {w with heap:=w.heap.setIfInBounds b o}:=fun o=>
  h.upd rfl rfl rfl ai (by have :=h.lt;simp[this]) (fun k hk=>by simp[Array.getElem?_setIfInBounds,Ne.symm hk])
 rcases PN K s _ m 0 hr.W8 with⟨_,h3,h4,_⟩|⟨j,e,_,h3,h4,h5,h6,_⟩
 ·refine⟨_,?_,St.GR (es.push {key:=kv s,val:=v,born:=iJ}) (St.GR (iJ+1) (St.join (St.BB (p:=esB kv (es.push {key:=kv s,val:=v,born:=iJ}).toList (iJ+1) (iU m s v)) ?_ (up (.map (es.push {key:=kv s,val:=v,born:=iJ}) (iJ+1))))))⟩
  ·simp[Instr.mapUpdate,run_underlying ht,run_getObj_map hb,run_checkKey hk (K.isKey s),run_findKey hk h3,run_setObj_map _ hb,Result.andThen]
  ·refine⟨by simpa using h4 v iJ,fun e he=>?_,?_⟩
   ·rw[Array.toList_push]at he;rcases aO.1 he with he|he
    ·have :=hr.Ii e he;omega
    ·simp at he;subst he;exact Nat.lt_succ_self _
   ·rw[Array.toList_push,aZ,aJ,List.map_nil,List.nodup_append];refine⟨hr.nodup,by simp,fun a ha b hb=>?_⟩;obtain⟨e,he,rfl⟩:=aB.1 ha;simp at hb;subst hb;have :=hr.Ii e he;omega
 ·have hj:es[j]? =some e:=by simpa using h3
  refine⟨_,?_,St.GR (es.modify j fun e=>{e with key:=kv s,val:=v}) (St.GR iJ (St.join (St.BB (p:=esB kv (es.modify j fun e=>{e with key:=kv s,val:=v}).toList iJ (iU m s v)) ?_ (up (.map (es.modify j fun e=>{e with key:=kv s,val:=v}) iJ)))))⟩
  ·simp[Instr.mapUpdate,run_underlying ht,run_getObj_map hb,run_checkKey hk (K.isKey s),run_findKey hk h5,hj,h4,run_keyThatStays (K.isKey s),run_setObj_map _ hb,Result.andThen]
  ·have hm:((es.modify j fun e=>{e with key:=kv s,val:=v}).toList.map (·.born))=es.toList.map (·.born):=by
    rw[Array.toList_modify,List.qA]
   refine⟨by simpa using h6 v,fun e he=>?_,by rw[hm];exact hr.nodup⟩;have hb:e.born∈es.toList.map (·.born):=by rw[<-hm];exact List.mem_map_of_mem he
   obtain⟨e2,fX,iw⟩:=aB.1 hb;rw[<-iw];exact hr.Ii e2 fX
end
section
variable {κ:Type} [DecidableEq κ] {kd:TypeDesc} {kv:κ->Value}
variable {P:Program} {ops:Array Oper} {d:Bool} {Q:Exit->Act->World->Prop} {n:Nat} {D:List Deferred} {w0:World} {G:Env} {L R:List HP} {l:List (Kd×Oper)} {k:Kd}
 {t:Nat} {ty T KT E:TypeId} {pos:String} {af:Array Edge} {x y u:Operand} {v z:Value} {b:Nat} {m:List (κ×Value)}
omit [DecidableEq κ]in
theorem KO.ZZ(kv:κ->Value)(hk:(!d||(k== .ef||k== .write))=true)(ht:Nat.blt t n=true)(h:∀bb,KO P ops d Q n D w0 ((t,.map (some bb))::G) (bP kv bb []::L) l):
 KO P ops d Q n D w0 G L ((k,⟨some t,.makeMap T none,ty,pos,af,none⟩)::l):=
 KO.rZ hk (F:=fun bb=>.map (some bb)) (N:=fun bb=>bP kv bb []::L) (fun a w ha hw=>⟨w.heap.size,w.alloc (.map #[] 0),by simp[execOp,run_makeMap],Ext.alloc w _,IV hw⟩) ht h
theorem KO.zW(K:KeyLaw kd kv)(s:κ)(hk:(!d||k != .pure)=true)(hx:ev G x=some (.map (some b)))(hy:ev G y=some (kv s))(hT:P.underlying T=some (.map KT E))(hK:P.underlying KT=some kd)(hz:∀w,(zeroValue E).run P w=.ok z w)(hp:bB L (bP kv b m) R)(ht:Nat.blt t n=true)(h:KO P ops d Q n D w0 ((t,(gj m s).getD z)::G) L l):KO P ops d Q n D w0 G L ((k,⟨some t,.lookup T x y false,ty,pos,af,none⟩)::l):=
 KO.rd hk (fun a w w' ha hw e=>by
  have :=zQ (P:=P) K (hw.pick hp) e hT hK (hz w') s false
  simp[execOp,ha.eval hx,ha.eval hy,this]) ht h
theorem KO.KV(K:KeyLaw kd kv)(s:κ)(hk:(!d||k != .pure)=true)(hx:ev G x=some (.map (some b)))(hy:ev G y=some (kv s))(hT:P.underlying T=some (.map KT E))(hK:P.underlying KT=some kd)(hz:∀w,(zeroValue E).run P w=.ok z w)(hp:bB L (bP kv b m) R)(ht:Nat.blt t n=true)(h:KO P ops d Q n D w0 ((t,.tuple #[(gj m s).getD z,.bool (gj m s).isSome])::G) L l):KO P ops d Q n D w0 G L ((k,⟨some t,.lookup T x y true,ty,pos,af,none⟩)::l):=
 KO.rd hk (fun a w w' ha hw e=>by
  have :=zQ (P:=P) K (hw.pick hp) e hT hK (hz w') s true
  simp[execOp,ha.eval hx,ha.eval hy,this]) ht h
theorem KO.Yz(K:KeyLaw kd kv)(s:κ)(hk:(!d||k== .write)=true)(hx:ev G x=some (.map (some b)))(hy:ev G y=some (kv s))(hu:ev G u=some v)(hT:P.underlying T=some (.map KT E))(hK:P.underlying KT=some kd)(hp:bB L (bP kv b m) R)(h:KO P ops d Q n D w0 G (bP kv b (iU m s v)::R) l):KO P ops d Q n D w0 G L ((k,⟨none,.mapUpdate T x y u,ty,pos,af,none⟩)::l):=
 KO.Fe hk (fun a w ha hw=>by
  obtain⟨w',hr,hs⟩:=CR (P:=P) K (hw.pick hp) hT hK s v
  exact⟨w',by simp[execOp,ha.eval hx,ha.eval hy,ha.eval hu,hr],hs⟩) h
end
def strip (e:It):It:={e with line:=0}
def aiS (t:It) (l:List It):List It:=l.filter (fun e=>decide (t.m.pri<=e.m.pri))++t::l.filter (fun e=> !decide (t.m.pri<=e.m.pri))
def af6 (v:Int):List It->List It
 |[]=>[]
 |e::l=>if gA e=true then {e with gC:=v}::l else e::af6 v l
def agi:List It->List It
 |[]=>[]
 |e::l=>if gA e=true then l else e::agi l
def ahL (u:Int) (back:Bool) (l:List It):List It:=(l.filter fun e=> !qN u back e).map (qj u)
def ml (e:It):Ms×Int:=(e.m,e.line)
def Ord (x y:It):Prop:=x.m.id≠y.m.id/\(y.m.pri<x.m.pri\/(x.m.pri=y.m.pri/\x.m.id<y.m.id))
structure QIn (n:Int) (q:Qu):Prop where
 ord:q.l.Pairwise Ord
 ids:∀e∈q.l,0<=e.m.id/\e.m.id<n
 rk:∀e∈q.l,0<=e.m.pri/\e.m.pri<=9
 lines:∀e∈q.l,0<=e.line/\e.line<q.next
 len:q.l.length<=20
 next:0<=q.next/\q.next<=n
theorem n5{p:It->Bool}{l:List It}(h:l.Pairwise fun x y=>p y=true->p x=true):l.takeWhile p=l.filter p/\l.dropWhile p=l.filter fun e=> !p e:=by
 induction l with
 |nil=>exact⟨rfl,rfl⟩
 |cons a l ih=>
  obtain⟨h1,h2⟩:=List.pairwise_cons.1 h;obtain⟨i1,i2⟩:=ih h2;by_cases ha:p a=true
  ·simp[ha,i1,i2]
  ·have cU:∀e∈l,p e=false:=fun e he=>by
    by_cases hp:p e=true
    ·exact absurd (h1 e he hp) ha
    ·simpa using hp
   have e1:l.filter p=[]:=List.filter_eq_nil_iff.2 fun e he=>by simp[cU e he]
   have e2:(l.filter fun e=> !p e)=l:=bJ.2 fun e he=>by simp[cU e he]
   simp[ha,e1,e2]
theorem ng{α:Type}(p:α->Bool):∀l:List α,l.take (l.takeWhile p).length=l.takeWhile p/\l.drop (l.takeWhile p).length=l.dropWhile p
 |[]=>⟨rfl,rfl⟩
 |a::l=>by
  by_cases h:p a=true
  ·simp[h,ng p l]
  ·simp[h]
section
variable {n:Int} {q:Qu} {m:Ms} {u:Int}
end
def aky (v:Int) (l:List It):Option Nat->List It
 |none=>l
 |some k=>l.set k {o4 l k with gC:=v}
def oth (u:Int) (l:List It):List It:=l.filter fun e=> !decide (e.put=u)
structure alj (u n:Int) (a b:Qu):Prop where
 ha:QIn n a
 hb:QIn n b
 rel:b.l.map strip=oth u (a.l.map strip)
 gC:∀e∈a.l,e.gC≠u
section
variable {u n:Int} {a b:Qu}
end
structure ah7 (l:List It) (g:List (Int×Go.Value)) (ls:List Int):Prop where
 ord:l.Pairwise Ord
 ids:∀e∈l,0<=e.m.id/\e.m.id<1000
 rk:∀e∈l,0<=e.m.pri/\e.m.pri<=9
 len:ls.length=10
 fresh:∀e∈l,gA e=true->gj g e.m.id=none/\ls.getD e.m.pri.toNat 0<=e.m.id
open Go Go.RowKit
structure Ri where
 m:Ms
 put:Int
 gC:Int
instance:Inhabited Ri:=⟨⟨default,0,0⟩⟩
def pU (x:Ri):List Value:=[.int .i64 x.m.id,.int .i64 x.m.pri,.string x.m.body,.string x.m.queue,.int .i64 x.m.bF,.int .i64 x.put,.int .i64 x.gC]
def sZ (id:Int) (e:Ri):Bool:=decide (e.m.id=id)
def ri (l:List Ri) (id:Int):Int:=oH (sZ id) l
def sY (u:Int):Int:=if u<0 then -1 else u
def eT (l:List Ri) (m:Ms) (u:Int):List Ri:=l++[⟨m,sY u,-1⟩]
def iK (l:List Ri) (m:Ms):Int:=if bD m=false then 1 else if 0<=ri l m.id then 9 else if 20<=l.length then 12 else 0
def q_ (l:List Ri) (m:Ms) (u:Int):List Ri:=if iK l m=0 then eT l m u else l
def fE (e:Ri):Bool:=decide (e.put<0)&&decide (e.gC<0)
def uK (l:List Ri) (p:Nat):List Nat:=(List.range l.length).filter fun i=>decide ((l.getD i default).m.pri=(p:Int))
def l3 (l:List Ri):Nat->List Nat
 |0=>[]
 |n+1=>uK l n++l3 l n
def eW (l:List Ri):List Nat:=l3 l 10
def lp (l:List Ri) (i:Nat):Ri:=l.getD i default
def l5 (l:List Ri):Option Nat:=(eW l).find? fun i=>fE (lp l i)
def oA (l:List Ri) (u:Int):List Ri:=match l5 l with|none=>l|some i=>if 0<=u then l.set i {lp l i with gC:=u}else l.eraseIdx i
def kK (l:List Ri):Ms:=match l5 l with|none=>iP|some i=>(lp l i).m
def qy (l:List Ri):Int:=match l5 l with|none=>8|some _=>0
def pT (l:List Ri) (id:Int):Option Nat:=l.findIdx? (sZ id)
def dR (l:List Ri) (id:Int):List Ri:=match pT l id with|none=>l|some i=>l.eraseIdx i
def sW (l:List Ri) (id:Int):Ms:=match pT l id with|none=>iP|some i=>(lp l i).m
def sX (l:List Ri) (id:Int):Int:=match pT l id with|none=>7|some _=>0
def kL (u:Int) (back:Bool) (x:Ri):Bool:=(decide (x.put=u)&&back)||(decide (x.gC=u)&& !back)
def fB (u:Int) (x:Ri):Ri:={x with put:=if x.put=u then -1 else x.put,gC:=if x.gC=u then -1 else x.gC}
def dL (l:List Ri) (u:Int) (back:Bool):List Ri:=if u<0 then l else(l.filter fun e=> !kL u back e).map (fB u)
def eO (l:List Ri):List Ms:=((eW l).filter fun i=>fE (lp l i)).map fun i=>(lp l i).m
def iL (l:List Ri):List Ms:=((eW l).filter fun i=>decide ((lp l i).put<0)).map fun i=>(lp l i).m
theorem pW{l:List Ri}{k:Nat}{e:Ri}(h:l[k]? =some e):lp l k=e:=by simp[lp,au,h]
def niC (i:Nat):List Value:=[.int .i64 (i:Nat)]
theorem LY{l:List Ri}{p i:Nat}(h:i∈uK l p):i<l.length/\(lp l i).m.pri=p:=by
 unfold uK at h;obtain⟨h1,h2⟩:=aF.1 h;exact⟨cE.1 h1,by simpa[lp]using h2⟩
theorem Cw{l:List Ri}:∀{n i:Nat},i∈l3 l n->i<l.length/\(lp l i).m.pri<n
 |0,_,h=>by simp[l3]at h
 |n+1,i,h=>by
  rcases aO.1 h with h|h
  ·have :=LY h;omega
  ·have :=Cw h;omega
theorem Cx(l:List Ri):∀n,(l3 l n).length<=n *l.length
 |0=>by simp[l3]
 |n+1=>by
  have h1:=Cx l n;have h2:(uK l n).length<=l.length:=by have :=List.length_filter_le (fun i=>decide ((l.getD i default).m.pri=(n:Int))) (List.range l.length);simpa[uK]using this
  rw[l3,aW,Nat.succ_mul];omega
theorem uJ(l:List Ri):(eW l).length<=10*l.length:=Cx l 10
theorem rS{l:List Ri}{k i:Nat}(h:(eW l)[k]? =some i):i<l.length:=(Cw (ax h)).1
theorem uX(p:Nat->Bool)(k:Nat):(List.range (k+1)).filter p=(List.range k).filter p++(if p k=true then[k]else[]):=by
 rw[List.range_succ,bY];by_cases h:p k=true<;>simp[h]
theorem Dp{β:Type}(p:Nat->Bool)(f:Nat->β){l:List Nat}{k i:Nat}(h:l[k]? =some i):((l.take (k+1)).filter p).map f=((l.take k).filter p).map f++(if p i=true then[f i]else[]):=by
 rw[a_ h,bY,aZ];by_cases hp:p i=true<;>simp[hp]
end WB
namespace Go.Proofs.YtjhogocabcdjbabGreatDoor
open Tryz
open Go Go.RowKit WB
abbrev s8 (v:Value) (xs:List Ri):HP:=SL 271 7 pU v xs
abbrev DT (b:Nat) (v:Value):HP:=bA b (.cells [v].toArray 171 (0,0))
def gR (b:Nat) (l:List Ri):HP:=ex fun v=>sep (DT b v) (s8 v l)
theorem gF{w0 w:World}{b:Nat}{l:List Ri}{L:List HP}(h:St w0 (gR b l::L) w):∃v,St w0 (DT b v::s8 v l::L) w:=by
 obtain⟨v,h⟩:=h.Iq;exact⟨v,h.split⟩
theorem lR{w0 w:World}{b:Nat}{l:List Ri}{v:Value}{L:List HP}(h:St w0 (DT b v::s8 v l::L) w):St w0 (gR b l::L) w:=St.GR (F:=fun v=>sep (DT b v) (s8 v l)) v h.join
theorem gv:(prog.info? 271).map (fun i=>(i.zero,i.size,i.bytes))=some (some (Value.agg #[.int .i64 0,.int .i64 0,.string ⟨#[]⟩,.string ⟨#[]⟩,.int .i64 0,.int .i64 0,.int .i64 0]),7,72):=by kernel_rfl
theorem KB(w0:World)(L R:List HP)(b:Nat)(l:List Ri)(id:Int)(hp:bB L (gR b l) R)(hq:l.length<900000):
 KE prog 272 #[.pointer (some ⟨b,0,none⟩),.int .i64 id] w0 L (fun u L'=>u=.int .i64 (ri l id)/\L'=L):=by
 refine KE.mk (n:=24) func272 rfl ntmps272 ai ?_;intro w vj;obtain⟨v,hw⟩:=gF (vj.pick hp);obtain⟨sa,cap,rfl,Be,hc⟩:=oM.of (E:=271) (sz:=7) (cf:=pU) (fun _=>rfl) bB.head w hw.drop;refine lg ?_;refine XW ?_;refine KO.ldb hw rfl rfl isAgg169 br aN rfl ?_;refine TM ?_;refine K.loop (fun k:Nat=>[(0,.pointer (some ⟨b,0,none⟩)),(1,.int .i64 id),(10,.slice sa l.length cap),(11,.int .i64 (l.length:Nat)),(12,.int .i64 (k:Nat))]) (fun _=>[]) (fun k=>k<=l.length/\∀j u,j<k->l[j]? =some u->sZ id u=false) (fun k=>l.length-k) 0
  ⟨aH _,fun j u h=>by omega⟩ ⟨rfl,rfl,rfl,rfl,rfl,trivial⟩ (fun _ h=>h) ?_
 rintro k ⟨hk,cU⟩;refine lW ?_;refine K.bn rfl (fun h=>?_) (fun h=>?_)
 ·obtain⟨g,rfl⟩:=Be ae;obtain⟨e,he⟩:∃e,l[k]? =some e:=⟨l[k],ak ae⟩;refine si ?_;refine ab1 ?_;refine KO.alloc rfl zeroValue271 aN rfl ?_;intro b6;refine Z8 ?_;refine Nh ?_;refine rK ?_;refine QC ?_;refine HW ?_;refine Z1 ?_;refine mM ?_;refine K.bn rfl (fun h5=>?_) (fun h5=>?_)
  ·refine m_ ?_;refine nX ?_;refine KQ.aU rfl rfl (fun w' hs=>⟨_,_,rfl,⟨?_,rfl⟩,vj.aA hs.below,hs.below⟩);rw[ri,rB he (by simp[sZ,h5]) cU]
  ·refine lY ?_;refine KQ.round (k+1) ⟨by omega,fun j u hj hu=>?_⟩ ae ⟨rfl,rfl,rfl,rfl,rfl,trivial⟩ (fun _ h=>h.all (by with_reducible repeat(exact iA.nil)));by_cases Bk:j=k
   ·subst Bk;rw[he]at hu;cases hu;simp[sZ,h5]
   ·exact cU j u ae hu
 ·refine yc ?_;refine KQ.aU rfl rfl (fun w' hs=>⟨_,_,rfl,⟨?_,rfl⟩,vj.aA hs.below,hs.below⟩);rw[ri,ph fun j u hu=>cU j u Y15 hu]
theorem DU(w0:World)(L:List HP)(b:Nat)(l:List Ri)(m:Ms)(u:Int)(hq:l.length<900000):
 KC prog 186 #[.pointer (some ⟨b,0,none⟩),.agg (dy m).toArray,.int .i64 u] w0 (gR b l::L) (fun v L'=>v=.tuple #[]/\L'=gR b (eT l m u)::L):=by
 refine KC.mk (n:=22) func186 rfl ntmps186 ai ?_;refine kO ?_;refine K.bV (fun _ h=>gF h) fun v=>?_
 refine di ?_;refine KO.box rfl rfl aN rfl ?_;intro b4;refine Z0 ?_;refine HZ ?_;refine Z3 ?_;refine K.cut (fun _:Unit=>[(0,.pointer (some ⟨b,0,none⟩)),(2,.int .i64 (sY u)),(4,.pointer (some ⟨b4,0,none⟩))]) (fun _=>[bA b4 (.cells (dy m).toArray 44 (0,0)),DT b v,s8 v l]++L) (fun _=>True) ?_ ?_
 ·refine K.bn rfl (fun h=>?_) (fun h=>?_)
  ·refine di ?_;refine rL ?_;exact KQ.kT () trivial ⟨rfl,by simp[cB,sY,h],rfl,trivial⟩ (fun _ h=>h)
  ·refine K.skip ?_;exact KQ.kT () trivial ⟨rfl,by simp[sY,h,qm,cB],rfl,trivial⟩ (fun _ h=>h)
 rintro _ _
 show K _ _ _ _ _ _ _ (bA b4 (.cells (dy m).toArray 44 (0,0))::DT b v::s8 v l::L)
 refine K.sO [.pure,.ef,.pure,.pure,.pure,.read,.write,.read,.pure,.pure,.ef,.write,.pure,.pure,.write] [(6,7),(6,10),(1,10)] [[0,2,3,4,5,8,1,6,7,9,10,11,12,13,14],[0,2,3,4,5,7,8,9,1,6,10,11,12,13,14],[0,2,3,4,5,7,8,9,1,10,6,11,12,13,14],[0,2,3,4,5,7,8,9,10,1,6,11,12,13,14]] bC bC bC ⟨?_,?_,?_,?_,trivial⟩
 focus
  show KO _ _ _ _ _ _ _ _ _ _
  refine gZ ?_;refine No ?_;refine Z1 ?_;refine KO.Rl pU rfl underlying169 sizeOf271 rfl ?_;intro b9;refine KO.rH (cf:=pU) (E:=271) (z:=Value.agg #[.int .i64 0,.int .i64 0,.string ⟨#[]⟩,.string ⟨#[]⟩,.int .i64 0,.int .i64 0,.int .i64 0]) (sz:=7) (fk:=72) (xs:=[]) (ys:=l) rfl rfl rfl br (fun w hw=>Src.of aQ w hw) underlying169 gv rfl (fun _=>rfl) (fun _=>rfl) ez ah rfl ?_;intro v6;rw[List.nil_append];refine KO.fact (fun _ hs=>bo hs) ?_;rintro⟨a6,c6,rfl,-⟩;refine Qe ?_;refine Uc ?_;refine KO.sw (z:=(Value.agg #[.int .i64 0,.int .i64 0,.string ⟨#[]⟩,.string ⟨#[]⟩,.int .i64 0,.int .i64 0,.int .i64 0])) (sz:=7) (fk:=72) rfl rfl underlying169 bC aN aN ah ah rfl ?_;intro U7;refine KO.app (z:=Value.agg #[.int .i64 0,.int .i64 0,.string ⟨#[]⟩,.string ⟨#[]⟩,.int .i64 0,.int .i64 0,.int .i64 0]) (sz:=7) (fk:=72) rfl rfl rfl aQ br underlying169 gv rfl (⟨m,sY u,-1⟩:Ri) aN aN aN ae ah rfl ?_;intro v';refine KO.fact (fun _ hs=>bo hs) ?_;rintro⟨a',c',rfl,-⟩;refine JT ?_
 rotate_left
 focus
  show KO _ _ _ _ _ _ _ _ _ _
  refine gZ ?_;refine No ?_;refine yl ?_;refine Z1 ?_;refine Uc ?_;refine KO.Rl pU rfl underlying169 sizeOf271 rfl ?_;intro b9;refine KO.rH (cf:=pU) (E:=271) (z:=Value.agg #[.int .i64 0,.int .i64 0,.string ⟨#[]⟩,.string ⟨#[]⟩,.int .i64 0,.int .i64 0,.int .i64 0]) (sz:=7) (fk:=72) (xs:=[]) (ys:=l) rfl rfl rfl br (fun w hw=>Src.of aQ w hw) underlying169 gv rfl (fun _=>rfl) (fun _=>rfl) ez ah rfl ?_;intro v6;rw[List.nil_append];refine KO.fact (fun _ hs=>bo hs) ?_;rintro⟨a6,c6,rfl,-⟩;refine KO.sw (z:=(Value.agg #[.int .i64 0,.int .i64 0,.string ⟨#[]⟩,.string ⟨#[]⟩,.int .i64 0,.int .i64 0,.int .i64 0])) (sz:=7) (fk:=72) rfl rfl underlying169 bC aN aN ah ah rfl ?_;intro U7;refine KO.app (z:=Value.agg #[.int .i64 0,.int .i64 0,.string ⟨#[]⟩,.string ⟨#[]⟩,.int .i64 0,.int .i64 0,.int .i64 0]) (sz:=7) (fk:=72) rfl rfl rfl aQ br underlying169 gv rfl (⟨m,sY u,-1⟩:Ri) aN aN aN ae ah rfl ?_;intro v';refine KO.fact (fun _ hs=>bo hs) ?_;rintro⟨a',c',rfl,-⟩;refine JT ?_
 rotate_left
 focus
  show KO _ _ _ _ _ _ _ _ _ _
  refine gZ ?_;refine No ?_;refine yl ?_;refine Z1 ?_;refine Uc ?_;refine KO.Rl pU rfl underlying169 sizeOf271 rfl ?_;intro b9;refine KO.sw (z:=(Value.agg #[.int .i64 0,.int .i64 0,.string ⟨#[]⟩,.string ⟨#[]⟩,.int .i64 0,.int .i64 0,.int .i64 0])) (sz:=7) (fk:=72) rfl rfl underlying169 bC aN aN ah ah rfl ?_;intro U7;refine KO.rH (cf:=pU) (E:=271) (z:=Value.agg #[.int .i64 0,.int .i64 0,.string ⟨#[]⟩,.string ⟨#[]⟩,.int .i64 0,.int .i64 0,.int .i64 0]) (sz:=7) (fk:=72) (xs:=[]) (ys:=l) rfl rfl rfl aQ (fun w hw=>Src.of aQ w hw) underlying169 gv rfl (fun _=>rfl) (fun _=>rfl) ez ah rfl ?_;intro v6;rw[List.nil_append];refine KO.fact (fun _ hs=>bo hs) ?_;rintro⟨a6,c6,rfl,-⟩;refine KO.app (z:=Value.agg #[.int .i64 0,.int .i64 0,.string ⟨#[]⟩,.string ⟨#[]⟩,.int .i64 0,.int .i64 0,.int .i64 0]) (sz:=7) (fk:=72) rfl rfl rfl br br underlying169 gv rfl (⟨m,sY u,-1⟩:Ri) aN aN aN ae ah rfl ?_;intro v';refine KO.fact (fun _ hs=>bo hs) ?_;rintro⟨a',c',rfl,-⟩;refine JT ?_
 rotate_left
 focus
  show KO _ _ _ _ _ _ _ _ _ _
  refine gZ ?_;refine No ?_;refine yl ?_;refine Z1 ?_;refine Uc ?_;refine KO.sw (z:=(Value.agg #[.int .i64 0,.int .i64 0,.string ⟨#[]⟩,.string ⟨#[]⟩,.int .i64 0,.int .i64 0,.int .i64 0])) (sz:=7) (fk:=72) rfl rfl underlying169 bC aN aN ah ah rfl ?_;intro U7;refine KO.Rl pU rfl underlying169 sizeOf271 rfl ?_;intro b9;refine KO.rH (cf:=pU) (E:=271) (z:=Value.agg #[.int .i64 0,.int .i64 0,.string ⟨#[]⟩,.string ⟨#[]⟩,.int .i64 0,.int .i64 0,.int .i64 0]) (sz:=7) (fk:=72) (xs:=[]) (ys:=l) rfl rfl rfl br (fun w hw=>Src.of aQ w hw) underlying169 gv rfl (fun _=>rfl) (fun _=>rfl) ez ah rfl ?_;intro v6;rw[List.nil_append];refine KO.fact (fun _ hs=>bo hs) ?_;rintro⟨a6,c6,rfl,-⟩;refine KO.app (z:=Value.agg #[.int .i64 0,.int .i64 0,.string ⟨#[]⟩,.string ⟨#[]⟩,.int .i64 0,.int .i64 0,.int .i64 0]) (sz:=7) (fk:=72) rfl rfl rfl br br underlying169 gv rfl (⟨m,sY u,-1⟩:Ri) aN aN aN ae ah rfl ?_;intro v';refine KO.fact (fun _ hs=>bo hs) ?_;rintro⟨a',c',rfl,-⟩;refine JT ?_
 rotate_left
 all_goals (
  refine KQ.wV rfl (fun w' hs=>⟨_,_,rfl,⟨rfl,rfl⟩,?_⟩);unfold eT
  exact lR ((hs.ey br br).Bo mN))
theorem KG(w0:World)(L:List HP)(b:Nat)(l:List Ri)(i:Nat)(hi:i<l.length)(hq:l.length<900000):
 KC prog 273 #[.pointer (some ⟨b,0,none⟩),.int .i64 (i:Nat)] w0 (gR b l::L) (fun v L'=>v=.tuple #[]/\L'=gR b (l.eraseIdx i)::L):=by
 refine KC.mk (n:=23) func273 rfl ntmps273 ai ?_;refine K.bV (fun _ h=>gF h) fun v=>?_
 refine K.fact (fun w hw=>qt (hw.pick aQ) hi) ?_;rintro⟨g,cap,rfl⟩;refine K.fact (fun w hw=>EZ (hw.pick (A:=s8 (.slice (some ⟨g,0,none⟩) l.length cap) l) aQ)) ?_;rintro⟨-,xW⟩;refine K.sO [.pure,.ef,.pure,.pure,.pure,.read,.pure,.pure,.write,.pure,.pure,.pure,.read,.pure,.pure,.pure,.write,.pure,.pure,.write] [(8,12)] [[0,2,3,4,5,6,7,9,10,11,13,14,1,8,12,15,16,17,18,19],[0,2,3,4,5,6,7,9,10,11,12,13,14,15,1,8,16,17,18,19]] bC bC bC ⟨?_,?_,trivial⟩
 focus
  show KO _ _ _ _ _ _ _ _ _ _
  refine gZ ?_;refine J6 ?_;refine Z1 ?_;refine KO.vD rfl rfl underlying169 sizeOf271 aN ae rfl ?_;refine Z1 ?_;refine XW ?_;refine Z1 ?_;refine vO ?_;refine KO.Rl pU rfl underlying169 sizeOf271 rfl ?_;intro b5;refine KO.rH (cf:=pU) (E:=271) (z:=Value.agg #[.int .i64 0,.int .i64 0,.string ⟨#[]⟩,.string ⟨#[]⟩,.int .i64 0,.int .i64 0,.int .i64 0]) (sz:=7) (fk:=72) (xs:=[]) (ys:=l.take i) rfl rfl rfl br (fun w hw=>(Src.of (E:=271) (sz:=7) (xs:=l) aQ w hw).take i ae) underlying169 gv rfl (fun _=>rfl) (fun _=>rfl) ez ah rfl ?_;intro v8;rw[List.nil_append];refine KO.fact (fun _ hs=>bo hs) ?_;rintro⟨a8,c8,rfl,-⟩;refine KO.ld rfl rfl isAgg169 aQ aN rfl ?_;refine abZ ?_;refine KO.rH (cf:=pU) (E:=271) (z:=Value.agg #[.int .i64 0,.int .i64 0,.string ⟨#[]⟩,.string ⟨#[]⟩,.int .i64 0,.int .i64 0,.int .i64 0]) (sz:=7) (fk:=72) (xs:=l.take i) (ys:=l.drop (i+1)) rfl rfl rfl br (fun w hw=>Src.cut (cf:=pU) (sz:=7) (fun _=>rfl) (Src.of (E:=271) (sz:=7) (cf:=pU) (v:=.slice (some ⟨g,0,none⟩) l.length cap) (xs:=l) aQ w hw) (i+1) ae xW) underlying169 gv rfl (fun _=>rfl) (fun _=>rfl) ez ah rfl ?_;intro v16;refine KO.fact (fun _ hs=>bo hs) ?_;rintro⟨a16,c16,rfl,-⟩;refine JT ?_
 rotate_left
 focus
  show KO _ _ _ _ _ _ _ _ _ _
  refine gZ ?_;refine J6 ?_;refine Z1 ?_;refine KO.vD rfl rfl underlying169 sizeOf271 aN ae rfl ?_;refine Z1 ?_;refine J6 ?_;refine Z1 ?_;refine vO ?_;refine abZ ?_;refine KO.Rl pU rfl underlying169 sizeOf271 rfl ?_;intro b5;refine KO.rH (cf:=pU) (E:=271) (z:=Value.agg #[.int .i64 0,.int .i64 0,.string ⟨#[]⟩,.string ⟨#[]⟩,.int .i64 0,.int .i64 0,.int .i64 0]) (sz:=7) (fk:=72) (xs:=[]) (ys:=l.take i) rfl rfl rfl br (fun w hw=>(Src.of (E:=271) (sz:=7) (xs:=l) aQ w hw).take i ae) underlying169 gv rfl (fun _=>rfl) (fun _=>rfl) ez ah rfl ?_;intro v8;rw[List.nil_append];refine KO.fact (fun _ hs=>bo hs) ?_;rintro⟨a8,c8,rfl,-⟩;refine KO.rH (cf:=pU) (E:=271) (z:=Value.agg #[.int .i64 0,.int .i64 0,.string ⟨#[]⟩,.string ⟨#[]⟩,.int .i64 0,.int .i64 0,.int .i64 0]) (sz:=7) (fk:=72) (xs:=l.take i) (ys:=l.drop (i+1)) rfl rfl rfl br (fun w hw=>Src.cut (cf:=pU) (sz:=7) (fun _=>rfl) (Src.of (E:=271) (sz:=7) (cf:=pU) (v:=.slice (some ⟨g,0,none⟩) l.length cap) (xs:=l) aQ w hw) (i+1) ae xW) underlying169 gv rfl (fun _=>rfl) (fun _=>rfl) ez ah rfl ?_;intro v16;refine KO.fact (fun _ hs=>bo hs) ?_;rintro⟨a16,c16,rfl,-⟩;refine JT ?_
 rotate_left
 all_goals (
  refine KQ.wV rfl (fun w' hs=>⟨_,_,rfl,⟨rfl,rfl⟩,?_⟩);rw[List.eraseIdx_eq_take_drop_succ]
  exact lR ((hs.ey br br).Bo mN))
theorem VF(w0:World)(L:List HP)(b:Nat)(l:List Ri)(m:Ms)(u:Int)(hq:l.length<900000)(hb:m.body.size<=maxLen)(hqs:m.queue.size<=maxLen):
 KC prog 183 #[.pointer (some ⟨b,0,none⟩),.agg (dy m).toArray,.int .i64 u] w0 (gR b l::L) (fun v L'=>v=.int .i64 (iK l m)/\L'=gR b (q_ l m u)::L):=by
 refine KC.mk (n:=25) func183 rfl ntmps183 ai ?_;refine Z2 ?_;refine KO.box rfl rfl aN rfl ?_;intro b4;refine oK ?_;refine yl ?_;refine KO.ce (cp:=[]) rfl rfl rfl call188 rfl (q9 w0 _ m hb hqs) ?_;rintro v' L' ⟨rfl,rfl⟩;refine oJ ?_;refine K.cond rfl (fun h=>?_) (fun h=>?_)
 ·have h1:bD m=false:=by simpa using h
  refine kr ?_;refine KQ.aU rfl rfl (fun w' hs=>⟨_,_,rfl,⟨?_,rfl⟩,?_⟩)
  ·simp[iK,h1]
  ·rw[show q_ l m u=l by simp[q_,iK,h1]];exact(hs.pick aQ).uh mN
 have h1:bD m=true:=by simpa using h
 refine qp ?_;refine HW ?_;refine KO.ce (cp:=[]) rfl rfl rfl call272 rfl (KB w0 _ _ b l m.id aQ hq) ?_;rintro v' L' ⟨rfl,rfl⟩;refine qG ?_;refine Z3 ?_;refine K.bn rfl (fun h2=>?_) (fun h2=>?_)
 ·refine kr ?_;refine KQ.aU rfl rfl (fun w' hs=>⟨_,_,rfl,⟨?_,rfl⟩,?_⟩)
  ·simp[iK,h1,h2]
  ·rw[show q_ l m u=l by simp[q_,iK,h1,h2]];exact(hs.pick aQ).uh mN
 refine Z6 ?_;refine Qn ?_;refine K.bV (fun _ h=>gF h) fun v=>?_
 refine K.fact (fun w hw=>bo (hw.pick (A:=s8 v l) aQ)) ?_;rintro⟨a',c',rfl,-⟩;refine cW ?_;refine J6 ?_;refine KO.len rfl underlying169 rfl ?_;refine qG ?_;refine Z3 ?_;refine K.conv (L':=gR b l::bA b4 (.cells (dy m).toArray 44 (0,0))::L) (fun w hw=>lR hw) ?_
 refine K.bn rfl (fun h3=>?_) (fun h3=>?_)
 ·refine kr ?_;refine KQ.aU rfl rfl (fun w' hs=>⟨_,_,rfl,⟨?_,rfl⟩,?_⟩)
  ·have :20<=l.length:=by omega
   simp[iK,h1,h2,this]
  ·rw[show q_ l m u=l by have :20<=l.length:=by omega
                         simp[q_,iK,h1,h2,this]]
   exact(hs.pick br).uh mN
 ·have h4:¬20<=l.length:=by omega
  refine qp ?_;refine Qe ?_;refine Z1 ?_;refine KO.cl (cp:=[]) rfl rfl rfl call186 rfl (DU w0 _ b l m u hq) ?_;rintro v' L' ⟨rfl,rfl⟩;refine qO ?_;refine KQ.aU rfl rfl (fun w' hs=>⟨_,_,rfl,⟨?_,rfl⟩,?_⟩)
  ·simp[iK,h1,h2,h4]
  ·rw[show q_ l m u=eT l m u by simp[q_,iK,h1,h2,h4]];exact(hs.pick br).uh mN
abbrev YG (v:Value) (xs:List Nat):HP:=SL 3 1 niC v xs
theorem Sm:(prog.info? 3).map (fun i=>(i.zero,i.size,i.bytes))=some (some (Value.int .i64 0),1,8):=by kernel_rfl
theorem D_(w0:World)(L R:List HP)(b:Nat)(l:List Ri)(hp:bB L (gR b l) R)(hq:l.length<=90000):
 KE prog 175 #[.pointer (some ⟨b,0,none⟩)] w0 L (fun v L'=>L'=YG v (eW l)::L):=by
 refine KE.mk (n:=32) func175 rfl ntmps175 ai ?_;intro w vj;obtain⟨v,hw⟩:=gF (vj.pick hp);obtain⟨sa,cap,rfl,Be,hc⟩:=oM.of (E:=271) (sz:=7) (cf:=pU) (fun _=>rfl) bB.head w hw.drop;have Ad:=uJ l;refine Z2 ?_;refine oK ?_;refine oK ?_;refine Hf ?_;refine K.loop (fun s:Nat×Value×List Nat=>[(0,.pointer (some ⟨b,0,none⟩)),(3,s.2.1),(4,.int .i64 ((s.1:Nat)-1:Int))]) (fun s=>[YG s.2.1 s.2.2]) (fun s=>s.1<=10/\s.2.2++l3 l s.1=eW l) (fun s=>s.1) (10,.slice none 0 0,[])
  ⟨aP _,rfl⟩ ⟨rfl,rfl,rfl,trivial⟩ (fun _ h=>cw h) ?_
 rintro⟨n,vo,acc⟩ ⟨hn,PB⟩;dsimp only at hn PB ⊢;refine m_ ?_;refine qG ?_;refine Z3 ?_;refine K.bn rfl (fun h=>?_) (fun h=>?_)
 ·obtain⟨p,rfl⟩:∃p,n=p+1:=⟨n-1,by omega⟩;have om:((p+1:Nat):Int)-1=(p:Int):=by omega
  rw[om];have sv:acc.length+(uK l p).length<=1000000:=by
   have :=congrArg List.length PB;rw[l3,aW,aW]at this;omega
  refine sy ?_;refine XW ?_;refine KO.ldb hw rfl rfl isAgg169 br aN rfl ?_;refine TM ?_;refine K.loop (fun s:Nat×Value=>[(0,.pointer (some ⟨b,0,none⟩)),(3,s.2),(4,.int .i64 (p:Int)),(14,.slice sa l.length cap),(15,.int .i64 (l.length:Nat)),(16,.int .i64 (s.1:Nat))]) (fun s=>[YG s.2 (acc++(List.range s.1).filter fun i=>decide ((l.getD i default).m.pri=(p:Int)))]) (fun s=>s.1<=l.length) (fun s=>l.length-s.1) (0,vo)
   (aH _) ⟨rfl,rfl,rfl,rfl,rfl,rfl,trivial⟩ (fun _ h=>by simpa using h) ?_
  rintro⟨k,vi⟩ hk;dsimp only at hk ⊢;refine lW ?_;refine K.bn rfl (fun h2=>?_) (fun h2=>?_)
  ·obtain⟨g,rfl⟩:=Be ae;obtain⟨e,he⟩:∃e,l[k]? =some e:=⟨l[k],ak ae⟩;have cQ:=uX (fun i=>decide ((l.getD i default).m.pri=(p:Int))) k;have hgd:l.getD k default=e:=by simp[au,he]
   rw[hgd]at cQ;have MJ:((List.range k).filter fun i=>decide ((l.getD i default).m.pri=(p:Int))).length<=k:=by
    have :=List.length_filter_le (fun i=>decide ((l.getD i default).m.pri=(p:Int))) (List.range k);simpa using this
   refine si ?_;refine ab1 ?_;refine KO.alloc rfl zeroValue271 aN rfl ?_;intro b6;refine Z8 ?_;refine Nh ?_;refine rK ?_;refine QC ?_;refine Qf ?_;refine sP ?_;refine Z1 ?_;refine mM ?_;refine K.bn rfl (fun h3=>?_) (fun h3=>?_)
   ·rw[if_pos Yq]at cQ;refine gY ?_;refine KO.sw (z:=(Value.int .i64 0)) (sz:=1) (fk:=8) rfl rfl underlying23 bC aN aN ah ah rfl ?_;intro b28;refine KO.app (z:=Value.int .i64 0) (sz:=1) (fk:=8) rfl rfl rfl aQ br underlying23 Sm rfl k aN aN aN (by rw[aW];omega) ah rfl ?_;intro v';refine qq ?_;refine KQ.round (k+1,v') fZ fZ ⟨rfl,rfl,rfl,rfl,rfl,rfl,trivial⟩ (fun _ h=>?_);dsimp only;rw[cQ,<-aR];exact(h.pick br).uh mN
   ·rw[if_neg Yq,List.append_nil]at cQ;refine lY ?_;refine KQ.round (k+1,vi) fZ fZ ⟨rfl,rfl,rfl,rfl,rfl,rfl,trivial⟩ (fun _ h=>?_);dsimp only;rw[cQ];exact(h.pick aQ).uh mN
  ·have mV:k=l.length:=by omega
   refine acv ?_;refine cW ?_;refine Nc ?_;refine rL ?_;refine KQ.round (p,vi,acc++uK l p) ⟨by dsimp only;omega,by rw[<-PB,l3,aR]⟩ fZ ⟨rfl,rfl,rfl,trivial⟩ (fun _ h=>?_);rw[mV]at h;exact h
 ·have Wq:n=0:=by omega
  subst Wq;rw[l3,List.append_nil]at PB;refine Hy ?_;refine KQ.aU rfl rfl (fun w' hs=>⟨_,_,rfl,rfl,?_,hs.below⟩);rw[PB]at hs;exact vj.stack hs
theorem N9(w0:World)(L:List HP)(b:Nat)(l:List Ri)(hq:l.length<=90000):
 KC prog 90 #[.pointer (some ⟨b,0,none⟩)] w0 (gR b l::L) (fun v L'=>L'=oN v (eO l)::gR b l::L):=by
 have Ad:=uJ l;refine KC.mk (n:=36) func90 rfl ntmps90 ai ?_;refine Z2 ?_;refine BZ ?_;refine KO.ce (cp:=[]) rfl rfl rfl call175 rfl (D_ w0 _ _ b l br hq) ?_;rintro v8 L' rfl;refine KO.fact (fun _ hs=>bo hs) ?_;rintro⟨a8,c8,rfl,ha8⟩;refine JY ?_;refine Qn ?_;refine K.bV (fun _ h=>gF h) fun v=>?_
 refine K.fact (fun w hw=>bo (hw.pick (A:=s8 v l) aQ)) ?_;rintro⟨aq,cq,rfl,WU⟩;refine K.loop (fun s:Nat×Value=>[(0,.pointer (some ⟨b,0,none⟩)),(3,s.2),(8,.slice a8 (eW l).length c8),(9,.int .i64 ((eW l).length:Nat)),(10,.int .i64 (s.1:Nat))]) (fun s=>oN s.2 ((((eW l).take s.1).filter fun i=>fE (lp l i)).map fun i=>(lp l i).m)::DT b (.slice aq l.length cq)::s8 (.slice aq l.length cq) l::YG (.slice a8 (eW l).length c8) (eW l)::L) (fun s=>s.1<=(eW l).length) (fun s=>(eW l).length-s.1) (0,.slice none 0 0)
  (aH _) ⟨rfl,rfl,rfl,rfl,rfl,trivial⟩ (fun _ h=>cw h) ?_
 rintro⟨k,vo⟩ hk;dsimp only at hk ⊢;refine lW ?_;refine K.bn rfl (fun h=>?_) (fun h=>?_)
 ·obtain⟨g8,rfl⟩:=ha8 ae;obtain⟨i,hi⟩:∃e,(eW l)[k]? =some e:=⟨(eW l)[k]' ae,ak _⟩;have kD:=rS hi;obtain⟨gq,rfl⟩:=WU ae;obtain⟨e,he⟩:∃e,l[i]? =some e:=⟨l[i],ak kD⟩;have MN:=pW he;have hlen:((((eW l).take k).filter fun i=>fE (lp l i)).map fun i=>(lp l i).m).length<900000:=by
   have :=List.length_filter_le (fun i=>fE (lp l i)) ((eW l).take k);simp at this ⊢;omega
  have cQ:(((eW l).take (k+1)).filter fun i=>fE (lp l i)).map (fun i=>(lp l i).m)=(((eW l).take k).filter fun i=>fE (lp l i)).map (fun i=>(lp l i).m)++(if fE e=true then[e.m]else[]):=by
   have h9:=Dp (fun i=>fE (lp l i)) (fun i=>(lp l i).m) hi;simpa only[MN]using h9
  refine si ?_;refine Yc ?_;refine jo ?_;refine No ?_;refine QF ?_;refine XM ?_;refine KO.alloc rfl zeroValue271 aN rfl ?_;intro b6;refine Nh ?_;refine Z0 ?_;by_cases h1:e.put<0
  ·refine di ?_;refine Qx ?_;refine sP ?_;refine um ?_;refine yW ?_;refine TY ?_;refine J7 ?_;refine um ?_;refine B2 ?_;refine K.bn rfl (fun h2=>?_) (fun h2=>?_)
   ·rw[if_pos (by simp[fE,h1,h2])]at cQ;refine cW ?_;refine QC ?_
    (refine KO.I6 rfl rfl isAgg44 sizeOf44 br Y9 aN rfl ?_)
    refine KO.sw (z:=(Value.agg #[.int .i64 0,.int .i64 0,.string ⟨#[]⟩,.string ⟨#[]⟩,.int .i64 0])) (sz:=5) (fk:=56) rfl rfl underlying49 bC aN aN ah ah rfl ?_;intro b32;refine KO.app (z:=Value.agg #[.int .i64 0,.int .i64 0,.string ⟨#[]⟩,.string ⟨#[]⟩,.int .i64 0]) (sz:=5) (fk:=56) rfl rfl rfl aQ br underlying49 yF rfl e.m aN aN aN ae ah rfl ?_;intro v';refine qq ?_;refine KQ.round (k+1,v') fZ fZ ⟨rfl,rfl,rfl,rfl,rfl,trivial⟩ (fun _ h=>?_);dsimp only;rw[cQ];exact(h.pick br).uh mN
   ·rw[if_neg (by simp[fE,h2]),List.append_nil]at cQ;refine lY ?_;refine KQ.round (k+1,vo) fZ fZ ⟨rfl,rfl,rfl,rfl,rfl,trivial⟩ (fun _ h=>?_);dsimp only;rw[cQ];exact(h.pick aQ).uh mN
  ·rw[if_neg (by simp[fE,h1]),List.append_nil]at cQ;refine di ?_;refine Qx ?_;refine sP ?_;refine um ?_;refine ET ?_;refine Z3 ?_;refine oI ?_;refine lY ?_;refine KQ.round (k+1,vo) fZ fZ ⟨rfl,rfl,rfl,rfl,rfl,trivial⟩ (fun _ h=>?_);dsimp only;rw[cQ];exact(h.pick aQ).uh mN
 ·have mV:k=(eW l).length:=by omega
  refine Hy ?_;refine KQ.aU rfl rfl (fun w' hs=>⟨_,_,rfl,rfl,?_⟩);rw[mV,List.take_length]at hs;have h3:=((hs.pick (A:=DT b (.slice aq l.length cq)) aQ).Ks (B:=s8 (.slice aq l.length cq) l) aQ);exact((lR h3).pick (A:=oN vo (eO l)) (by exact .tail .head)).Bo mN
theorem RO(w0:World)(L:List HP)(b:Nat)(l:List Ri)(hq:l.length<=90000):
 KC prog 91 #[.pointer (some ⟨b,0,none⟩)] w0 (gR b l::L) (fun v L'=>L'=oN v (iL l)::gR b l::L):=by
 have Ad:=uJ l;refine KC.mk (n:=31) func91 rfl ntmps91 ai ?_;refine Z2 ?_;refine BZ ?_;refine KO.ce (cp:=[]) rfl rfl rfl call175 rfl (D_ w0 _ _ b l br hq) ?_;rintro v8 L' rfl;refine KO.fact (fun _ hs=>bo hs) ?_;rintro⟨a8,c8,rfl,ha8⟩;refine JY ?_;refine Qn ?_;refine K.bV (fun _ h=>gF h) fun v=>?_
 refine K.fact (fun w hw=>bo (hw.pick (A:=s8 v l) aQ)) ?_;rintro⟨aq,cq,rfl,WU⟩;refine K.loop (fun s:Nat×Value=>[(0,.pointer (some ⟨b,0,none⟩)),(3,s.2),(8,.slice a8 (eW l).length c8),(9,.int .i64 ((eW l).length:Nat)),(10,.int .i64 (s.1:Nat))]) (fun s=>oN s.2 ((((eW l).take s.1).filter fun i=>decide ((lp l i).put<0)).map fun i=>(lp l i).m)::DT b (.slice aq l.length cq)::s8 (.slice aq l.length cq) l::YG (.slice a8 (eW l).length c8) (eW l)::L) (fun s=>s.1<=(eW l).length) (fun s=>(eW l).length-s.1) (0,.slice none 0 0)
  (aH _) ⟨rfl,rfl,rfl,rfl,rfl,trivial⟩ (fun _ h=>cw h) ?_
 rintro⟨k,vo⟩ hk;dsimp only at hk ⊢;refine lW ?_;refine K.bn rfl (fun h=>?_) (fun h=>?_)
 ·obtain⟨g8,rfl⟩:=ha8 ae;obtain⟨i,hi⟩:∃e,(eW l)[k]? =some e:=⟨(eW l)[k]' ae,ak _⟩;have kD:=rS hi;obtain⟨gq,rfl⟩:=WU ae;obtain⟨e,he⟩:∃e,l[i]? =some e:=⟨l[i],ak kD⟩;have MN:=pW he;have hlen:((((eW l).take k).filter fun i=>decide ((lp l i).put<0)).map fun i=>(lp l i).m).length<900000:=by
   have :=List.length_filter_le (fun i=>decide ((lp l i).put<0)) ((eW l).take k);simp at this ⊢;omega
  have cQ:(((eW l).take (k+1)).filter fun i=>decide ((lp l i).put<0)).map (fun i=>(lp l i).m)=(((eW l).take k).filter fun i=>decide ((lp l i).put<0)).map (fun i=>(lp l i).m)++(if decide (e.put<0)=true then[e.m]else[]):=by
   have h9:=Dp (fun i=>decide ((lp l i).put<0)) (fun i=>(lp l i).m) hi;simpa only[MN]using h9
  refine si ?_;refine Yc ?_;refine jo ?_;refine No ?_;refine QF ?_;refine XM ?_;refine KO.alloc rfl zeroValue271 aN rfl ?_;intro b6;refine Nh ?_;refine rK ?_;refine Qx ?_;refine sP ?_;refine qo ?_;refine K.bn rfl (fun h2=>?_) (fun h2=>?_)
  ·rw[if_pos Vg]at cQ;refine cW ?_;refine QC ?_
   (refine KO.I6 rfl rfl isAgg44 sizeOf44 br Y9 aN rfl ?_)
   refine KO.sw (z:=(Value.agg #[.int .i64 0,.int .i64 0,.string ⟨#[]⟩,.string ⟨#[]⟩,.int .i64 0])) (sz:=5) (fk:=56) rfl rfl underlying49 bC aN aN ah ah rfl ?_;intro qU;refine KO.app (z:=Value.agg #[.int .i64 0,.int .i64 0,.string ⟨#[]⟩,.string ⟨#[]⟩,.int .i64 0]) (sz:=5) (fk:=56) rfl rfl rfl aQ br underlying49 yF rfl e.m aN aN aN ae ah rfl ?_;intro v';refine qq ?_;refine KQ.round (k+1,v') fZ fZ ⟨rfl,rfl,rfl,rfl,rfl,trivial⟩ (fun _ h=>?_);dsimp only;rw[cQ];exact(h.pick br).uh mN
  ·rw[if_neg Vg,List.append_nil]at cQ;refine lY ?_;refine KQ.round (k+1,vo) fZ fZ ⟨rfl,rfl,rfl,rfl,rfl,trivial⟩ (fun _ h=>?_);dsimp only;rw[cQ];exact(h.pick aQ).uh mN
 ·have mV:k=(eW l).length:=by omega
  refine Hy ?_;refine KQ.aU rfl rfl (fun w' hs=>⟨_,_,rfl,rfl,?_⟩);rw[mV,List.take_length]at hs;have h3:=((hs.pick (A:=DT b (.slice aq l.length cq)) aQ).Ks (B:=s8 (.slice aq l.length cq) l) aQ);exact((lR h3).pick (A:=oN vo (iL l)) (by exact .tail .head)).Bo mN
theorem VJ(w0:World)(L:List HP)(b:Nat)(l:List Ri)(u:Int)(hq:l.length<=90000):
 KC prog 185 #[.pointer (some ⟨b,0,none⟩),.int .i64 u] w0 (gR b l::L) (fun v L'=>v=.tuple #[.agg (dy (kK l)).toArray,.int .i64 (qy l)]/\L'=gR b (oA l u)::L):=by
 have Ad:=uJ l;refine KC.mk (n:=51) func185 rfl ntmps185 ai ?_;refine Z2 ?_;refine KO.alloc rfl zeroValue44 aN rfl ?_;intro b4;refine jo ?_;refine KO.ce (cp:=[]) rfl rfl rfl call175 rfl (D_ w0 _ _ b l aQ hq) ?_;rintro v8 L' rfl;refine KO.fact (fun _ hs=>bo hs) ?_;rintro⟨a8,c8,rfl,ha8⟩;refine JY ?_;refine Qn ?_;refine K.bV (fun _ h=>gF h) fun v=>?_
 refine K.fact (fun w hw=>bo (hw.pick (A:=s8 v l) aQ)) ?_;rintro⟨aq,cq,rfl,WU⟩;refine K.loop (fun k:Nat=>[(0,.pointer (some ⟨b,0,none⟩)),(1,.int .i64 u),(4,.pointer (some ⟨b4,0,none⟩)),(11,.slice a8 (eW l).length c8),(12,.int .i64 ((eW l).length:Nat)),(13,.int .i64 (k:Nat))]) (fun k=>DT b (.slice aq l.length cq)::s8 (.slice aq l.length cq) l::YG (.slice a8 (eW l).length c8) (eW l)::bA b4 (.cells (dy iP).toArray 44 (0,0))::L) (fun k=>k<=(eW l).length/\∀j i,j<k->(eW l)[j]? =some i->fE (lp l i)=false) (fun k=>(eW l).length-k) 0
  ⟨aH _,fun j i h=>by omega⟩ ⟨rfl,rfl,rfl,rfl,rfl,rfl,trivial⟩ (fun _ h=>h) ?_
 rintro k ⟨hk,cU⟩;refine lW ?_;refine K.bn rfl (fun h=>?_) (fun h=>?_)
 ·obtain⟨g8,rfl⟩:=ha8 ae;obtain⟨i,hi⟩:∃e,(eW l)[k]? =some e:=⟨(eW l)[k]' ae,ak _⟩;have kD:=rS hi;obtain⟨gq,rfl⟩:=WU ae;obtain⟨e,he⟩:∃e,l[i]? =some e:=⟨l[i],ak kD⟩;have MN:=pW he;refine si ?_;refine Yc ?_;refine jo ?_;refine J6 ?_;refine QF ?_;refine jL ?_;have next:fE e=false->∀j i,j<k+1->(eW l)[j]? =some i->fE (lp l i)=false:=fun hav j i hj S4=>by
   by_cases Bk:j=k
   ·subst Bk;rw[hi]at S4;cases S4;rw[MN];exact hav
   ·exact cU j i ae S4
  by_cases h1:0<=e.put
  ·refine g_ ?_;refine Yb ?_;refine qG ?_;refine Nl ?_;refine KO.no rfl rfl Y5 rfl ?_;refine sx ?_;refine Br ?_;refine Qi ?_;refine TG ?_;refine KQ.round (k+1) ⟨by omega,next (by simp[fE];omega)⟩ ae ⟨rfl,rfl,rfl,rfl,rfl,rfl,trivial⟩ (fun _ h=>h.all Nv)
  by_cases h2:0<=e.gC
  ·refine g_ ?_;refine Yb ?_;refine qG ?_;refine sC ?_;refine BU ?_;refine XE ?_;refine sh ?_;refine KO.ldE rfl rfl isAgg3 aQ (fun _=>rfl) sE aN aN rfl ?_;refine sh ?_;refine qG ?_;refine HU ?_;refine K.bW rfl Ug ?_;refine Qi ?_;refine TG ?_;refine KQ.round (k+1) ⟨by omega,next (by simp[fE];omega)⟩ ae ⟨rfl,rfl,rfl,rfl,rfl,rfl,trivial⟩ (fun _ h=>h.all Nv)
  have hav:fE e=true:=by simp[fE];omega
  have hI:l5 l=some i:=by
   unfold l5;rw[List.find?_eq_some_iff_getElem];obtain⟨NF,Aj⟩:=aw.1 hi;refine⟨by rw[MN];exact hav,k,NF,Aj,fun j hj=>?_⟩;have :=cU j ((eW l)[j]' ae) hj (ak _);simp[this]
  refine g_ ?_;refine Yb ?_;refine qG ?_;refine sC ?_;refine BU ?_;refine XE ?_;refine sh ?_;refine KO.ldE rfl rfl isAgg3 aQ (fun _=>rfl) sE aN aN rfl ?_;refine sh ?_;refine qG ?_;refine HU ?_;refine K.ct rfl Ug ?_;refine Z6 ?_;refine g_ ?_;refine KO.fo (off:=0) rfl runUnderlying271 rfl rfl sizeOf44 rfl ?_
  (refine KO.Sz rfl rfl isAgg44 sizeOf44 aQ (fun _=>rfl) sE Y9 aN rfl ?_)
  refine KO.alloc rfl zeroValue44 aN rfl ?_;intro b9;refine tX ?_;refine cW ?_;refine qG ?_;refine Z3 ?_;refine K.bn rfl (fun h3=>?_) (fun h3=>?_)
  ·(skip)
   refine JO ?_;refine XE ?_;refine KO.ZG rfl rfl rfl aN uc aN aQ (fun _=>rfl) he rfl {e with gC:=u} rfl ?_;refine HD ?_;refine J9 ?_;refine nX ?_;refine KQ.gT rfl rfl isAgg44 br yX rfl (fun w' hs=>⟨_,_,rfl,⟨?_,rfl⟩,?_⟩)
   ·simp only[kK,qy,hI,MN];rfl
   ·rw[show oA l u=l.set i {e with gC:=u}by simp only[oA,hI,h3,if_true,MN]];exact lR ((hs.ey aQ aQ).Bo mN)
  ·(skip)
   refine acj ?_;refine KO.cl (cp:=[]) rfl rfl rfl call273 rfl (KG w0 _ b l i kD ae) ?_;rintro v' L' ⟨rfl,rfl⟩;refine HD ?_;refine J9 ?_;refine nX ?_;refine KQ.gT rfl rfl isAgg44 br yX rfl (fun w' hs=>⟨_,_,rfl,⟨?_,rfl⟩,?_⟩)
   ·simp only[kK,qy,hI,MN];rfl
   ·rw[show oA l u=l.eraseIdx i by simp only[oA,hI,h3,if_false]];exact(hs.pick aQ).uh mN
 ·have hI:l5 l=none:=by
   unfold l5;rw[List.find?_eq_none];intro i hi;obtain⟨j,hj,rfl⟩:=List.getElem_of_mem hi;have :=cU j _ ae (ak hj);simp[this]
  refine Z9 ?_;refine di ?_;refine Z36 ?_;refine Hz ?_;refine KQ.gT rfl rfl isAgg44 br yX rfl (fun w' hs=>⟨_,_,rfl,⟨?_,rfl⟩,?_⟩)
  ·simp only[kK,qy,hI];rfl
  ·rw[show oA l u=l by simp only[oA,hI]];exact lR ((hs.ey aQ aQ).Bo mN)
theorem Kt(w0:World)(L:List HP)(b:Nat)(l:List Ri)(id:Int)(hq:l.length<900000):
 KC prog 187 #[.pointer (some ⟨b,0,none⟩),.int .i64 id] w0 (gR b l::L) (fun v L'=>v=.tuple #[.agg (dy (sW l id)).toArray,.int .i64 (sX l id)]/\L'=gR b (dR l id)::L):=by
 refine KC.mk (n:=26) func187 rfl ntmps187 ai ?_;refine Z2 ?_;refine KO.alloc rfl zeroValue44 aN rfl ?_;intro b4;refine EJ ?_;refine KO.ce (cp:=[]) rfl rfl rfl call272 rfl (KB w0 _ _ b l id aQ hq) ?_;rintro v' L' ⟨rfl,rfl⟩;refine jo ?_;refine qo ?_;refine K.bn rfl (fun h=>?_) (fun h=>?_)
 ·have hn:pT l id=none:=rA h;refine Nd ?_;refine Hm ?_;refine KQ.gT rfl rfl isAgg44 br yX rfl (fun w' hs=>⟨_,_,rfl,⟨?_,rfl⟩,?_⟩)
  ·simp only[sW,sX,hn];rfl
  ·rw[show dR l id=l by simp only[dR,hn]];exact(hs.pick aQ).uh mN
 ·obtain⟨i,e,S6,he,hp0,kD,K9⟩:=lK (Int.not_lt.1 h);have hn:pT l id=some i:=K9;have MN:=pW he;rw[show ri l id=(i:Int)from S6];refine Z6 ?_;refine Qn ?_;refine K.bV (fun _ h=>gF h) fun v=>?_
  refine K.fact (fun w hw=>qt (hw.pick (A:=s8 v l) aQ) kD) ?_;rintro⟨gq,cq,rfl⟩;refine cW ?_;refine J6 ?_;refine QF ?_;refine KO.fo (off:=0) rfl runUnderlying271 rfl rfl sizeOf44 rfl ?_
  (refine KO.Sz rfl rfl isAgg44 sizeOf44 aQ (fun _=>rfl) sE Y9 aN rfl ?_)
  refine KO.alloc rfl zeroValue44 aN rfl ?_;intro b7;refine tX ?_;refine acj ?_;refine KO.cl (cp:=[]) rfl rfl rfl call273 rfl (KG w0 _ b l i kD hq) ?_;rintro v' L' ⟨rfl,rfl⟩;refine HD ?_;refine Hz ?_;refine KQ.gT rfl rfl isAgg44 br yX rfl (fun w' hs=>⟨_,_,rfl,⟨?_,rfl⟩,?_⟩)
  ·simp only[sW,sX,hn,MN];rfl
  ·rw[show dR l id=l.eraseIdx i by simp only[dR,hn]];exact(hs.pick aQ).uh mN
theorem KD(w0:World)(L:List HP)(b:Nat)(l:List Ri)(u:Int)(back:Bool)(hq:l.length<900000):
 KC prog 177 #[.pointer (some ⟨b,0,none⟩),.int .i64 u,.bool back] w0 (gR b l::L) (fun v L'=>v=.tuple #[]/\L'=gR b (dL l u back)::L):=by
 refine KC.mk (n:=42) func177 rfl ntmps177 ai ?_;refine m_ ?_;refine qo ?_;refine K.bn rfl (fun h=>?_) (fun h=>?_)
 ·repeat(first|(with_reducible refine KQ.nf ?_)|(with_reducible refine K.ret ?_))
  refine KQ.VL rfl (fun w' hs=>⟨_,_,rfl,⟨rfl,rfl⟩,?_⟩);rw[show dL l u back=l by simp only[dL,h,if_true]];exact hs
 rw[show dL l u back=(l.filter fun e=> !kL u back e).map (fB u)by simp only[dL,h,if_false]];refine qP ?_;refine jL ?_;refine K.bV (fun _ h=>gF h) fun v=>?_
 refine K.fact (fun w hw=>bo (hw.pick (A:=s8 v l) aQ)) ?_;rintro⟨aq,cq,rfl,WU⟩;refine cW ?_;refine J6 ?_;refine TM ?_;refine K.loop (fun s:Nat×Value=>[(0,.pointer (some ⟨b,0,none⟩)),(1,.int .i64 u),(2,.bool back),(6,s.2),(14,.slice aq l.length cq),(15,.int .i64 (l.length:Nat)),(16,.int .i64 (s.1:Nat))]) (fun s=>s8 s.2 (((l.take s.1).filter fun e=> !kL u back e).map (fB u))::DT b (.slice aq l.length cq)::s8 (.slice aq l.length cq) l::L) (fun s=>s.1<=l.length) (fun s=>l.length-s.1) (0,.slice none 0 0)
  (aH _) ⟨rfl,rfl,rfl,rfl,rfl,rfl,rfl,trivial⟩ (fun _ h=>cw h) ?_
 rintro⟨k,vo⟩ hk;dsimp only at hk ⊢;refine lW ?_;refine K.bn rfl (fun h1=>?_) (fun h1=>?_)
 ·obtain⟨gq,rfl⟩:=WU ae;obtain⟨e,he⟩:∃e,l[k]? =some e:=⟨l[k],ak ae⟩;have hlen:(((l.take k).filter fun e=> !kL u back e).map (fB u)).length<900000:=by
   have :=List.length_filter_le (fun e=> !kL u back e) (l.take k);simp at this ⊢;omega
  have cQ:(((l.take (k+1)).filter fun e=> !kL u back e).map (fB u))=(((l.take k).filter fun e=> !kL u back e).map (fB u))++(if kL u back e=true then[]else[fB u e]):=by
   rw[a_ he,bY,aZ];by_cases ha:kL u back e=true<;>simp[ha]
  refine si ?_;refine KO.gO rfl rfl runUnderlying169 sizeOf271 aN ae rfl ?_;refine XM ?_;refine KO.alloc rfl zeroValue271 aN rfl ?_;intro b8;refine Nh ?_;refine rK ?_;refine Qx ?_;refine sP ?_;refine Z1 ?_;refine mM ?_;refine K.bn rfl (fun h2=>?_) (fun h2=>?_)
  ·refine m_ ?_;refine Z3 ?_;refine K.cond rfl (fun h3=>?_) (fun h3=>?_)
   ·have h4:True:=trivial;rw[if_pos Y33]at cQ;rw[List.append_nil]at cQ;refine Qi ?_;refine TG ?_;refine KQ.round (k+1,vo) fZ fZ ⟨rfl,rfl,rfl,rfl,rfl,rfl,rfl,trivial⟩ (fun _ h=>?_);dsimp only;rw[cQ];exact(h.pick aQ).uh mN
   ·refine Nb ?_;refine di ?_;refine Qx ?_
    (refine KO.N6 rfl rfl rfl aN uc aN br aN Y0 ?_)
    refine rK ?_;refine TY ?_;refine sP ?_;refine Z1 ?_;refine mM ?_;refine K.bn rfl (fun h4=>?_) (fun h4=>?_)
    ·refine m_ ?_;refine oJ ?_;have vy:back=false:=by simpa using h3
     refine K.bW rfl (by simp[vy]) ?_;rw[if_pos (by simp_all [kL])]at cQ;rw[List.append_nil]at cQ;refine Qi ?_;refine TG ?_;refine KQ.round (k+1,vo) fZ fZ ⟨rfl,rfl,rfl,rfl,rfl,rfl,rfl,trivial⟩ (fun _ h=>?_);dsimp only;rw[cQ];exact(h.pick aQ).uh mN
    ·have h3:back=false:=by simpa using h3
     refine Nb ?_;refine K.conv (L':=bA b8 (.cells (pU (fB u e)).toArray 271 (0,0))::s8 vo (((l.take k).filter fun e=> !kL u back e).map (fB u))::DT b (.slice (some ⟨gq,0,none⟩) l.length cq)::s8 (.slice (some ⟨gq,0,none⟩) l.length cq) l::L) (fun w hw=>by rw[show pU (fB u e)=[Value.int .i64 e.m.id,.int .i64 e.m.pri,.string e.m.body,.string e.m.queue,.int .i64 e.m.bF,.int .i64 (-1),.int .i64 e.gC]by simp[fB,h2,h4,pU]];exact hw) ?_
     rw[if_neg Y33]at cQ;refine X2 ?_;refine KO.sw (z:=(Value.agg #[.int .i64 0,.int .i64 0,.string ⟨#[]⟩,.string ⟨#[]⟩,.int .i64 0,.int .i64 0,.int .i64 0])) (sz:=7) (fk:=72) rfl rfl underlying169 bC aN aN ah ah rfl ?_;intro b35;refine KO.app (z:=Value.agg #[.int .i64 0,.int .i64 0,.string ⟨#[]⟩,.string ⟨#[]⟩,.int .i64 0,.int .i64 0,.int .i64 0]) (sz:=7) (fk:=72) rfl rfl rfl aQ br underlying169 gv rfl (fB u e) aN aN aN ae ah rfl ?_;intro v';refine qq ?_;refine KQ.round (k+1,v') fZ fZ ⟨rfl,rfl,rfl,rfl,rfl,rfl,rfl,trivial⟩ (fun _ h=>?_);dsimp only;rw[cQ];exact(h.pick br).uh mN
  ·refine qP ?_;refine TY ?_;refine sP ?_;refine Z1 ?_;refine mM ?_;refine K.bn rfl (fun h4=>?_) (fun h4=>?_)
   ·refine m_ ?_;refine oJ ?_;refine K.cond rfl (fun h3=>?_) (fun h3=>?_)
    ·have h3:back=false:=by simpa using h3
     rw[if_pos (by simp_all [kL])]at cQ;rw[List.append_nil]at cQ;refine Qi ?_;refine TG ?_;refine KQ.round (k+1,vo) fZ fZ ⟨rfl,rfl,rfl,rfl,rfl,rfl,rfl,trivial⟩ (fun _ h=>?_);dsimp only;rw[cQ];exact(h.pick aQ).uh mN
    ·have h3:back=true:=by simpa using h3
     refine Nb ?_;refine di ?_;refine TY ?_
     (refine KO.N6 rfl rfl rfl aN uc aN br aN Y0 ?_)
     refine Z3 ?_;refine K.conv (L':=bA b8 (.cells (pU (fB u e)).toArray 271 (0,0))::s8 vo (((l.take k).filter fun e=> !kL u back e).map (fB u))::DT b (.slice (some ⟨gq,0,none⟩) l.length cq)::s8 (.slice (some ⟨gq,0,none⟩) l.length cq) l::L) (fun w hw=>by rw[show pU (fB u e)=[Value.int .i64 e.m.id,.int .i64 e.m.pri,.string e.m.body,.string e.m.queue,.int .i64 e.m.bF,.int .i64 e.put,.int .i64 (-1)]by simp[fB,h2,h4,pU]];exact hw) ?_
     rw[if_neg Y33]at cQ;refine X2 ?_;refine KO.sw (z:=(Value.agg #[.int .i64 0,.int .i64 0,.string ⟨#[]⟩,.string ⟨#[]⟩,.int .i64 0,.int .i64 0,.int .i64 0])) (sz:=7) (fk:=72) rfl rfl underlying169 bC aN aN ah ah rfl ?_;intro b35;refine KO.app (z:=Value.agg #[.int .i64 0,.int .i64 0,.string ⟨#[]⟩,.string ⟨#[]⟩,.int .i64 0,.int .i64 0,.int .i64 0]) (sz:=7) (fk:=72) rfl rfl rfl aQ br underlying169 gv rfl (fB u e) aN aN aN ae ah rfl ?_;intro v';refine qq ?_;refine KQ.round (k+1,v') fZ fZ ⟨rfl,rfl,rfl,rfl,rfl,rfl,rfl,trivial⟩ (fun _ h=>?_);dsimp only;rw[cQ];exact(h.pick br).uh mN
   ·have h3:True:=trivial;refine Nb ?_;refine K.conv (L':=bA b8 (.cells (pU (fB u e)).toArray 271 (0,0))::s8 vo (((l.take k).filter fun e=> !kL u back e).map (fB u))::DT b (.slice (some ⟨gq,0,none⟩) l.length cq)::s8 (.slice (some ⟨gq,0,none⟩) l.length cq) l::L) (fun w hw=>by rw[show pU (fB u e)=pU e by simp[fB,h2,h4,pU]];exact hw) ?_
    rw[if_neg Y33]at cQ;refine X2 ?_;refine KO.sw (z:=(Value.agg #[.int .i64 0,.int .i64 0,.string ⟨#[]⟩,.string ⟨#[]⟩,.int .i64 0,.int .i64 0,.int .i64 0])) (sz:=7) (fk:=72) rfl rfl underlying169 bC aN aN ah ah rfl ?_;intro b35;refine KO.app (z:=Value.agg #[.int .i64 0,.int .i64 0,.string ⟨#[]⟩,.string ⟨#[]⟩,.int .i64 0,.int .i64 0,.int .i64 0]) (sz:=7) (fk:=72) rfl rfl rfl aQ br underlying169 gv rfl (fB u e) aN aN aN ae ah rfl ?_;intro v';refine qq ?_;refine KQ.round (k+1,v') fZ fZ ⟨rfl,rfl,rfl,rfl,rfl,rfl,rfl,trivial⟩ (fun _ h=>?_);dsimp only;rw[cQ];exact(h.pick br).uh mN
 ·have mV:k=l.length:=by omega
  refine K.fact (fun w hw=>bo (hw.pick (A:=s8 vo (((l.take k).filter fun e=> !kL u back e).map (fB u))) br)) ?_;rintro⟨ao,co,rfl,-⟩;refine Qi ?_;refine gY ?_;refine JT ?_;refine KQ.wV rfl (fun w' hs=>⟨_,_,rfl,⟨rfl,rfl⟩,?_⟩);rw[mV,List.take_length]at hs;exact lR ((hs.ey br br).Bo mN)
theorem IY:(prog.info? 75).map (fun i=>(i.zero,i.size,i.bytes))=some (some (Value.agg #[.string ⟨#[]⟩,.string ⟨#[]⟩,.int .i64 0]),3,40):=by kernel_rfl
theorem SC(w w0:World)(L:List HP)(v:Value)(n:Nat)(xs vs:List Value)(bv:Nat)(h:St w0 (lE 75 3 v n xs::bA bv (.cells vs.toArray 75 (0,0))::L) w)(hv:vs.length=3)(h1:∀u∈vs,u.oneCell'=true)(hn:n<1000000):
 Calls prog 268 #[v,.int .i64 n,.slice (some ⟨bv,0,none⟩) 1 1] w fun e w'=> ∃v',e=.returned v'/\St w0 (lE 75 3 v' (n+1) (xs++vs)::L) w':=by
 obtain⟨i0,hi,yH,qb,BF⟩:=info_parts IY;have rv:cz w ⟨bv,0,none⟩ vs:=by
  have h2:=h.pick (.tail .head);exact h2.fj fun j u hj=>by simpa using hj
 obtain⟨v',w1,hr,gP⟩:=sf (P:=prog) 86 86 75 i0 _ 3 40 underlying86 hi yH qb BF rfl h ⟨bv,0,none⟩ 1 1 vs (by rw[hv]) rv h1 Vi ae;have HR:=Lib.hid hr;have HS:=Lib.hid gP;have sM:v=.slice none 0 0/\n=0\/∃g cap,v=.slice (some ⟨g,0,none⟩) n cap/\n<=cap:=by
  rcases h.cC with⟨h1,h2,_⟩|⟨g,cap,_,h1,h2,_⟩
  ·exact .inl ⟨h1,h2⟩
  ·exact .inr ⟨g,cap,h1,h2⟩
 clear h hr gP rv hi yH qb BF;rcases sM with⟨rfl,rfl⟩|⟨g,cap,rfl,Ag⟩
 ·go_enter func268,ntmps268
  go_wp2_with (at_builtin;refine Lib.wpList_append_run _ rfl _ _ _ _ rfl _ _ rfl rfl _ _ HR.out ?_)
  go_ret
  exact⟨_,rfl,HS.out.lZ.drop⟩
 ·have hE:((n:Int)==(n:Int))=true:=by simp
  by_cases WK:cap=n
  ·have WJ:n=cap:=WK.symm;subst WJ
   go_enter func268,ntmps268
   go_wp2_with (at_builtin;refine Lib.wpList_append_run _ rfl _ _ _ _ rfl _ _ rfl rfl _ _ HR.out ?_)
   go_ret
   exact⟨_,rfl,HS.out.lZ.drop⟩
  ·go_enter func268,ntmps268
   go_wp2_with (at_builtin;refine Lib.wpList_append_run _ rfl _ _ _ _ rfl _ _ rfl rfl _ _ HR.out ?_)
   go_ret
   exact⟨_,rfl,HS.out.lZ.drop⟩
end Go.Proofs.YtjhogocabcdjbabGreatDoor
