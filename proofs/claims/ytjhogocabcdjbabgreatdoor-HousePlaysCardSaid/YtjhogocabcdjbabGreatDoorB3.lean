import Derived.Maps.RangeRun
import Derived.Sort.EncStr
import Derived.Test.YtjhogocabcdjbabGreatDoorB2
set_option linter.unusedSimpArgs false
set_option linter.unusedVariables false
set_option maxRecDepth 100000
set_option maxHeartbeats 8000000
namespace WB
open Go Go.RowKit
namespace Ho
def rI (H:Ho) (j:Nat):Qu:=H.all.getD j default
def eN (H:Ho) (j:Nat) (q:Qu):Ho:=if j<4 then H.iG j q else H.eA (j-4) q
end Ho
section
variable {n:Nat} {H:Ho} {q:Qu} {i j:Nat}
theorem sS(j:Nat)(q:Qu):(H.eN j q).names=H.names:=by unfold Ho.eN;split<;>rfl
theorem uG(j:Nat)(q:Qu):(H.eN j q).aI.map (·.1)=H.aI.map (·.1):=by
 unfold Ho.eN;split
 ·rfl
 ·exact ia _ _
theorem Cs(j:Nat)(q:Qu):(H.eN j q).aI.length=H.aI.length:=by
 have :=congrArg List.length (uG (H:=H) j q);simpa using this
theorem jr(j:Nat)(q:Qu):(H.eN j q).ay=H.ay:=by unfold Ho.eN;split<;>rfl
theorem pR(j:Nat)(q:Qu):(H.eN j q).batch=H.batch:=by unfold Ho.eN;split<;>rfl
theorem yu(j:Nat)(q:Qu):(H.eN j q).id=H.id:=by unfold Ho.eN;split<;>rfl
theorem oR(j:Nat)(q:Qu):(H.eN j q).used=H.used:=by unfold Ho.eN;split<;>rfl
theorem LS(j:Nat)(q:Qu):(H.eN j q).down=H.down:=by unfold Ho.eN;split<;>rfl
theorem LR(j:Nat)(q:Qu):(H.eN j q).dC=H.dC:=by unfold Ho.eN;split<;>rfl
theorem rR(j:Nat)(q:Qu):(H.eN j q).bT=H.bT:=by unfold Ho.eN;split<;>rfl
theorem mr(j:Nat)(q:Qu):(H.eN j q).aC=H.aC:=by unfold Ho.eN;split<;>rfl
theorem LQ(j:Nat)(q:Qu):(H.eN j q).ways.length=H.ways.length:=by unfold Ho.eN;split<;>simp[Ho.iG,Ho.eA]
theorem AY(h4:H.ways.length=4)(j:Nat)(q:Qu):(H.eN j q).all=H.all.set j q:=by
 unfold Ho.eN;split
 ·exact ko ae q
 ·rw[iy h4,show 4+(j-4)=j by omega]
theorem Hc(hj:j<H.all.length):H.all[j]? =some (H.rI j):=by
 unfold Ho.rI;rw[au,ak hj];rfl
theorem abR(h4:H.ways.length=4)(hj:j<4):H.rI j=H.iY j:=by
 have h1:=pB h4 hj;have h2:H.all[j]? =some (H.rI j):=Hc (by rw[mL h4];omega);rw[h1]at h2;exact(Option.some.inj h2).symm
theorem cx.a(h:cx n H)(hj:j<H.all.length):QB n (H.rI j):=h.qs _ (ax (Hc hj))
theorem cx.eN(h:cx n H)(hq:QB n q)(j:Nat):cx n (H.eN j q):=by
 unfold Ho.eN;split
 ·exact h.iG hq sE
 ·exact h.eA hq _
end
theorem KQ.RW{P:Program}{fn:Func}{R:Ending->World->Prop}{n:Nat}{w0:World}{G:Env}{L:List HP}{v1 v2 v3 v4:Value}{t1 t2 t3 t4:Nat}(hr:fn.results=#[.tmp t1,.tmp t2,.tmp t3,.tmp t4])(h1:cB G t1=some v1)(h2:cB G t2=some v2)(h3:cB G t3=some v3)(h4:cB G t4=some v4)(h:∀w,St w0 L w->R (.returned (.tuple #[v1,v2,v3,v4])) w):KQ (bodyPost P fn R) .ret n [] w0 G L:=
 KQ.fin (fun a w ha _=>by simp[results,hr,Array.getD_eq_getD_getElem?,ha.get _ _ h1,ha.get _ _ h2,ha.get _ _ h3,ha.get _ _ h4]) h
def jX (H:Ho) (s:aj):aj×Int×Int:=
 if(fg H.names (H.names.length+1) s).2.2≠0 then(⟨#[]⟩,0,(fg H.names (H.names.length+1) s).2.2)
 else if(fg H.names (H.names.length+1) s).2.1<0\/(fg H.names (H.names.length+1) s).2.1=H.id then
  if cP H.names (fg H.names (H.names.length+1) s).1=false then(⟨#[]⟩,0,7)else((fg H.names (H.names.length+1) s).1,-1,0)
 else((fg H.names (H.names.length+1) s).1,(fg H.names (H.names.length+1) s).2.1,0)
def mD (H:Ho) (s:aj):Nat:=if(jX H s).2.1<0 then 4+(H.qI (jX H s).1).getD 0 else(jX H s).2.1.toNat
theorem zB{l:List Nm}:∀{n:Nat} {s t:aj} {k:Int},fg l n s=(t,k,0)->k= -1\/∃x∈l,x.bF=k/\0<=k
 |0,s,t,k,h=>by simp[fg]at h
 |n+1,s,t,k,h=>by
  rw[fg]at h;split at h
  ·simp at h
  ·rename_i x hx;split at h
   ·simp at h;exact .inl h.2.symm
   ·split at h
    ·rename_i h2;simp at h;refine .inr ⟨x,?_,h.2,h.2▸h2⟩;unfold look at hx;split at hx
     ·rename_i h3;simp only[az]at hx;subst hx;unfold eo;have :=tJ h3;rw[au,ak this];exact List.getElem_mem this
     ·cases hx
    ·exact zB h
theorem u9{n:Nat}{H:Ho}(hB:cx n H){s:aj}(h:cP H.names s=true):∃i,H.qI s=some i:=by
 unfold cP at h;cases hl:look H.names s with
 |none=>rw[hl]at h;cases h
 |some x=>
  rw[hl]at h;rw[gk hB.sorted]at hl;obtain⟨h1,h2⟩:=p9 hl;obtain⟨i,hi⟩:=hB.loc x h1 (by simp only[jI]at h;exact of_decide_eq_true h);exact⟨i,by rw[<-h2];exact hi⟩
theorem tv{n:Nat}{H:Ho}(hB:cx n H){s:aj}(h:(jX H s).2.2=0):mD H s<H.all.length/\((jX H s).2.1<0->(jX H s).2.1= -1/\∃i,H.qI (jX H s).1=some i/\mD H s=4+i)/\(¬(jX H s).2.1<0->mD H s<4/\(jX H s).2.1=((mD H s:Nat):Int)):=by
 rw[mL hB.ways];unfold mD;unfold jX at h ⊢;split
 ·rename_i h1;rw[if_pos h1]at h;exact absurd h h1
 ·rename_i h1;rw[if_neg h1]at h;have Bn:(fg H.names (H.names.length+1) s).2.2=0:=by simpa using h1
  generalize hr:fg H.names (H.names.length+1) s=r at *;obtain⟨t,k,e⟩:=r;dsimp only at h Bn ⊢;subst Bn;split
  ·rename_i h2;rw[if_pos h2]at h;split
   ·rename_i h3;rw[if_pos h3]at h;cases h
   ·rename_i h3;obtain⟨i,hi⟩:=u9 hB (s:=t) Yq;have :=(fC hi).1;dsimp only;rw[if_pos ah];refine⟨by rw[hi];simp;omega,fun _=>⟨rfl,i,hi,by rw[hi];rfl⟩,fun h=>absurd ah h⟩
  ·rename_i h2;dsimp only;have h3:¬k<0:=fun h=>h2 (.inl h)
   rw[if_neg h3];rcases zB hr with h4|⟨x,hx,hk,h0⟩
   ·omega
   ·obtain⟨-,-,-,h5⟩:=gu (hB.right x hx);exact⟨by omega,fun h=>absurd h h3,fun _=>⟨by omega,by omega⟩⟩
theorem Sv{l:List Nm}{s:aj}{x:Nm}(h:look l s=some x):x∈l/\x.name=s:=by
 unfold look at h;split at h
 ·rename_i h3;simp only[az]at h;subst h;have :=tJ h3;refine⟨?_,?_⟩
  ·unfold eo;rw[au,ak this];exact List.getElem_mem this
  ·unfold fc at h3;rw[bm]at h3;exact ov (by simpa using h3.2)
 ·cases h
theorem CJ{l:List Nm}(hr:∀x∈l,bK x=true):∀{n:Nat} {s t:aj} {k:Int},fg l n s=(t,k,0)->cH t=true
 |0,s,t,k,h=>by simp[fg]at h
 |n+1,s,t,k,h=>by
  rw[fg]at h;split at h
  ·simp at h
  ·rename_i x hx;obtain⟨h1,h2⟩:=Sv hx;obtain⟨w1,w2,-,-⟩:=gu (hr x h1);split at h
   ·simp at h;rw[<-h.1,<-h2];exact w1
   ·rename_i he;split at h
    ·simp at h;rw[<-h.1];rcases w2 with w2|w2
     ·exact w2
     ·exact absurd (by rw[jI,w2];rfl) he
    ·exact CJ hr h
theorem Ov{n:Nat}{H:Ho}(hB:cx n H){s:aj}(h:(jX H s).2.2=0):cH (jX H s).1=true:=by
 unfold jX at h ⊢;split
 ·rename_i h1;rw[if_pos h1]at h;exact absurd h h1
 ·rename_i h1;rw[if_neg h1]at h;have Bn:(fg H.names (H.names.length+1) s).2.2=0:=by simpa using h1
  generalize hr:fg H.names (H.names.length+1) s=r at *;obtain⟨t,k,e⟩:=r;dsimp only at h Bn ⊢;subst Bn;have :=CJ hB.right hr;split
  ·rename_i h2;rw[if_pos h2]at h;split
   ·rename_i h3;rw[if_pos h3]at h;cases h
   ·exact this
  ·exact this
def fR (H:Ho) (s:aj) (pri:Int) (body:aj):Ms:=⟨H.next *4+H.id,pri,body,(jX H s).1,if(jX H s).2.1<0 then H.id else(jX H s).2.1⟩
def gN (H:Ho) (u:Int) (s:aj) (pri:Int) (body:aj):Int:=
 if u<0\/5<=u then 2 else if(pri<0\/9<pri)\/fJ body=false then 1 else if(jX H s).2.2≠0 then(jX H s).2.2 else if H.down=true then 6
 else jC (H.rI (mD H s)) (fR H s pri body)
def cA (H:Ho) (u:Nat) (x:pI):Ho:={H with ay:=H.ay.set u x}
def lA (H:Ho) (u:Int) (s:aj) (pri:Int) (body:aj):Ho:=
 if gN H u s pri body=0 then
  cA {H.eN (mD H s) (lU (H.rI (mD H s)) (fR H s pri body) u)with next:=H.next+1} u.toNat ⟨(H.dW u.toNat).aT++[(fR H s pri body,(jX H s).2.1)],(H.dW u.toNat).aY⟩
 else H
def D4 (H:Ho) (u:Int) (s:aj) (pri:Int) (body:aj):Int:=if gN H u s pri body=0 then(fR H s pri body).id else 0
def gX (H:Ho) (u:Int) (s:aj):Int:=
 if u<0\/5<=u then 2 else match H.qI s with
 |none=>7
 |some i=>if s≠cr/\cP H.names s=false then 7 else if H.down=true then 6 else l7 (H.dZ i)
def getM (H:Ho) (u:Int) (s:aj):Ms:=if gX H u s=0 then l6 (H.dZ ((H.qI s).getD 0))else iP
def kH (H:Ho) (u:Int) (s:aj):Ho:=
 if gX H u s=0 then cA (H.eA ((H.qI s).getD 0) (lz (H.dZ ((H.qI s).getD 0)) u)) u.toNat ⟨(H.dW u.toNat).aT,(H.dW u.toNat).aY++[((l6 (H.dZ ((H.qI s).getD 0))).id,s)]⟩else H
theorem cx.cA{n:Nat}{H:Ho}(h:cx n H)(u:Nat)(x:pI):cx n (cA H u x):=⟨h.id,h.used,h.next,h.sorted,h.fT,h.oV,h.qs,h.nodup,h.ways,by simp[WB.cA,h.ay],h.batch,h.bT,h.aC,h.right,h.loc,h.ext⟩
theorem cx.put{n:Nat}{H:Ho}(h:cx n H)(u:Int)(s:aj)(pri:Int)(body:aj):cx (n+1) (lA H u s pri body):=by
 unfold lA;split
 ·rename_i h0;unfold gN at h0;split at h0
  ·cases h0
  ·split at h0
   ·cases h0
   ·split at h0
    ·exact absurd h0 sE
    ·rename_i h1;split at h0
     ·cases h0
     ·have hj:=(tv h (s:=s) Yp).1;have hn:H.next+1<=274877906945:=by
       unfold jC at h0;cases hr:bD (fR H s pri body)with
       |false=>rw[if_pos hr]at h0;cases h0
       |true=>
        have h2:=(bG hr).2.1;have :=h.id;unfold fR at h2;dsimp only at h2;omega
      have hx:=h.next
      exact cx.cA (((h.le (Nat.le_succ n)).eN ((h.a hj).put _ u) _).BD ⟨by omega,hn⟩) _ _
 ·exact h.le (Nat.le_succ n)
theorem cx.get{n:Nat}{H:Ho}(h:cx n H)(u:Int)(s:aj):cx n (kH H u s):=by
 unfold kH;split
 ·rename_i h0;unfold gX at h0;split at h0
  ·cases h0
  ·cases hq:H.qI s with
   |none=>rw[hq]at h0;cases h0
   |some i=>exact cx.cA (h.eA ((h.qa (fC hq).1).get u) _) _ _
 ·exact h
open Go Go.RowKit Go.ChangeMaps Go.MapKept
section
variable {κ:Type}
structure itB (kv:κ->Value) (es:Array MapEntry) (iJ:Nat) (seen:Array Nat) (m left:List (κ×Value)) (cur:Option (κ×Value)):Prop where
 esb:esB kv es.toList iJ m
 left:((leftOf es seen).toList.map fun e=>(e.key,e.val))=left.map fun x=>(kv x.1,x.2)
 cur:∀x,cur=some x->∃e∈es.toList,e.key=kv x.1/\e.val=x.2/\∃s:Array Nat,seen=s.push e.born
def CY (kv:κ->Value) (b r:Nat) (m left:List (κ×Value)) (cur:Option (κ×Value)):HP:=
 ex fun es:Array MapEntry=>ex fun iJ:Nat=>ex fun seen:Array Nat=>sep (Mb (itB kv es iJ seen m left cur)) (sep (bA b (.map es iJ)) (bA r (.mapIter (some b) iJ seen iJ)))
variable {kv:κ->Value} {w0 w:World} {L:List HP} {P:Program} {b r:Nat} {m left:List (κ×Value)} {cur:Option (κ×Value)}
theorem z_(h:St w0 (CY kv b r m left cur::L) w):∃es iJ seen,itB kv es iJ seen m left cur/\St w0 (bA b (.map es iJ)::bA r (.mapIter (some b) iJ seen iJ)::L) w:=by
 obtain⟨es,h⟩:=h.Iq;obtain⟨iJ,h⟩:=h.Iq;obtain⟨seen,h⟩:=h.Iq;obtain⟨hi,h⟩:=h.split.xP;exact⟨es,iJ,seen,hi,h.split⟩
theorem O0{es:Array MapEntry}{iJ:Nat}{seen:Array Nat}(hi:itB kv es iJ seen m left cur)(h:St w0 (bA b (.map es iJ)::bA r (.mapIter (some b) iJ seen iJ)::L) w):St w0 (CY kv b r m left cur::L) w:=
 St.GR es (St.GR iJ (St.GR seen (St.join (St.BB hi h.join))))
theorem O1(h:St w0 (CY kv b r m left cur::L) w):St w0 (bP kv b m::L) w:=by
 obtain⟨es,iJ,seen,hi,h⟩:=z_ h;exact St.GR es (St.GR iJ (St.join (St.BB hi.esb (h.pick (.tail .head)).drop)))
theorem I5(es:Array MapEntry):leftOf es #[]=es:=by
 unfold leftOf;rw[Array.filter_eq_self];intro e _;simp
theorem Mu(h:St w0 (bP kv b m::L) w){t k E:TypeId}(ht:P.underlying t=some (.map k E)):
 ∃w',(Instr.range t (.map (some b))).run P w=.ok (.pointer (some ⟨w.heap.size,0,none⟩)) w'/\Ext w w'/\St w0 (CY kv b w.heap.size m m none::L) w':=by
 obtain⟨es,h⟩:=h.Iq;obtain⟨iJ,h⟩:=h.Iq;obtain⟨hr,h⟩:=h.split.xP;refine⟨_,run_range_map w t k E b es iJ ht h.look.2,Ext.alloc w _,O0 (es:=es) (iJ:=iJ) (seen:=#[]) ⟨hr,?_,fun x hx=>by cases hx⟩ (h.alloc (.mapIter (some b) iJ #[] iJ)).lZ⟩;rw[I5];exact hr.W8
theorem Ax:∀{l:List MapEntry} {i:Nat} {e:MapEntry},(l.map (·.born)).Nodup->l[i]? =some e->l.filter (fun f=> !(f.born==e.born))=l.eraseIdx i
 |[],_,_,_,h=>by simp at h
 |a::l,0,e,hn,h=>by
  simp only[List.getElem?_cons_zero,az]at h;subst h;rw[aJ,bL]at hn;simp only[c_,BEq.rfl,Bool.not_true,Bool.false_eq_true,if_false,List.eraseIdx_cons_zero];rw[bJ];intro f hf;have :f.born≠a.born:=fun e=>hn.1 (aB.2 ⟨f,hf,e⟩)
  simp[this]
 |a::l,i+1,e,hn,h=>by
  simp only[List.getElem?_cons_succ]at h;rw[aJ,bL]at hn;have :a.born≠e.born:=fun ee=>hn.1 (aB.2 ⟨e,ax h,ee.symm⟩)
  simp only[c_,List.eraseIdx_cons_succ];rw[if_pos (by simp[this]),Ax hn.2 h]
theorem OZ(h:St w0 (CY kv b r m left cur::L) w)(ty:TypeId):
 (left=[]/\(Instr.next (.pointer (some ⟨r,0,none⟩)) false ty).run P w=.ok (.tuple #[.bool false]) w)\/
 ∃(i:Nat) (x:κ×Value) (w':World),left[i]? =some x/\(Instr.next (.pointer (some ⟨r,0,none⟩)) false ty).run P w=.ok (.tuple #[.bool true,kv x.1,x.2]) w'/\St w0 (CY kv b r m (left.eraseIdx i) (some x)::L) w':=by
 obtain⟨es,iJ,seen,hi,h⟩:=z_ h;have hb:=h.look.2;have hr:=h.drop.look.2;rcases run_next_at (P:=P) w ty r b iJ iJ seen es iJ hr hb hi.esb.Ii (aP _)with⟨h0,Wh⟩|⟨e,he,w1,SJ,Wh⟩
 ·left;refine⟨?_,Wh⟩;have :=congrArg List.length hi.left;simp[h0]at this;exact List.eq_nil_of_length_eq_zero this.symm
 ·right;obtain⟨i,WC,WD⟩:=List.getElem_of_mem he;have Q6:(leftOf es seen).toList.length=left.length:=by have :=congrArg List.length hi.left;simpa using this
  have jy:e∈es.toList:=by
   have :=he;unfold leftOf at this;rw[Array.toList_filter]at this;exact(aF.1 this).1
  have hx:∃x,left[i]? =some x/\e.key=kv x.1/\e.val=x.2:=by
   have kD:i<left.length:=by omega
   refine⟨left[i],ak kD,?_⟩;have :=congrArg (fun l=>l[i]?) hi.left;simp only[aG,ak WC,ak kD,Option.map_some,az,Prod.mk.injEq]at this;rw[WD]at this;exact this
  obtain⟨x,Jd,Ij,hx3⟩:=hx;have gP:St w0 (bA b (.map es iJ)::bA r (.mapIter (some b) iJ seen iJ)::L) w1:=by
   rcases SJ with rfl|rfl
   ·exact h
   ·exact h.drew
  refine⟨i,x,_,Jd,by rw[Wh,Ij,hx3],O0 (es:=es) (iJ:=iJ) (seen:=seen.push e.born) ⟨hi.esb,?_,fun y hy=>?_⟩ ?_⟩
  ·have h1:(leftOf es (seen.push e.born)).toList=(leftOf es seen).toList.filter fun f=> !(f.born==e.born):=by
    unfold leftOf;rw[Array.toList_filter,Array.toList_filter,dm];congr 1;funext f;simp only[Array.contains_push,Bool.not_or];exact Bool.and_comm _ _
   have hn:((leftOf es seen).toList.map (·.born)).Nodup:=by
    unfold leftOf;rw[Array.toList_filter];exact(List.filter_sublist.map _).nodup hi.esb.nodup
   rw[h1,Ax hn (i:=i) (by rw[ak WC,WD]),map_eraseIdx,map_eraseIdx,hi.left]
  ·cases hy
   exact⟨e,jy,Ij,hx3,seen,rfl⟩
  ·refine(St.lZ (h.lZ.upd (w':=setBlock w1 r (.mapIter (some b) iJ (seen.push e.born) iJ)) ?_ ?_ ?_ ?_ ?_ ?_))
   ·rcases SJ with rfl|rfl<;>rfl
   ·rcases SJ with rfl|rfl<;>rfl
   ·rcases SJ with rfl|rfl<;>rfl
   ·rcases SJ with rfl|rfl<;>simp[setBlock]
   ·have dN:r<w.heap.size:=h.drop.lt;rcases SJ with rfl|rfl<;>simp[setBlock,dN]
   ·intro k hk;rcases SJ with rfl|rfl
    ·simp[setBlock,Array.getElem?_setIfInBounds,Ne.symm hk]
    ·simp[setBlock,Array.getElem?_setIfInBounds,Ne.symm hk];rfl
theorem Mv{x:κ×Value}(h:St w0 (CY kv b r m left (some x)::L) w){w1:World}(he:Ext w w1):
 (Instr.entry (.pointer (some ⟨r,0,none⟩))).run P w1=.ok (.tuple #[kv x.1,x.2]) w1:=by
 obtain⟨es,iJ,seen,hi,h⟩:=z_ h;obtain⟨e,hm,h1,h2,s,rfl⟩:=hi.cur x rfl;have hb:=h.look.2;have hr:=h.drop.look.2;have kz:w1.heap[b]? =some (.map es iJ):=by rw[he.2 b h.lt];exact hb
 have hr1:w1.heap[r]? =some (.mapIter (some b) iJ (s.push e.born) iJ):=by rw[he.2 r h.drop.lt];exact hr
 rw[run_entry_at w1 r b iJ s es iJ e hr1 kz hm hi.esb.nodup,h1,h2]
end
section
variable {κ:Type} {kv:κ->Value}
variable {P:Program} {ops:Array Oper} {d:Bool} {Q:Exit->Act->World->Prop} {n:Nat} {D:List Deferred} {w0:World} {G:Env} {L R:List HP} {l:List (Kd×Oper)} {k:Kd}
 {t:Nat} {op:Op} {ty T KT E:TypeId} {pos:String} {af:Array Edge} {x y u:Operand} {v z:Value} {b r:Nat} {m left:List (κ×Value)} {cur:Option (κ×Value)} {e:κ×Value}
theorem KO.wvP{ι:Type}(hk:(!d||k== .write)=true){φ:ι->Value->Prop}{N:ι->List HP}(hr:∀a w,cD n D G a->St w0 L w->∃v w' p,(execOp a.eval ⟨some t,op,ty,pos,af,none⟩).run P w=.ok (.value v) w'/\φ p v/\St w0 (N p) w')(ht:Nat.blt t n=true)(h:∀p v,φ p v->KO P ops d Q n D w0 ((t,v)::G) (N p) l):KO P ops d Q n D w0 G L ((k,⟨some t,op,ty,pos,af,none⟩)::l):=fun a w ha hw=>by
 obtain⟨v,w',p,hr,hp,hs⟩:=hr a w ha hw;refine mO hk rfl ?_;unfold Oper.wp;rw[hr];exact h p v hp _ w' (iI ha _ ht) hs
theorem KO.YC(hk:(!d||(k== .ef||k== .write))=true)(hx:ev G x=some (.map (some b)))(hT:P.underlying T=some (.map KT E))(hp:bB L (bP kv b m) R)(ht:Nat.blt t n=true)(h:∀r,KO P ops d Q n D w0 ((t,.pointer (some ⟨r,0,none⟩))::G) (CY kv b r m m none::R) l):KO P ops d Q n D w0 G L ((k,⟨some t,.range T x,ty,pos,af,none⟩)::l):=
 KO.rZ hk (F:=fun bb=>.pointer (some ⟨bb,0,none⟩)) (N:=fun r=>CY kv b r m m none::R) (fun a w ha hw=>by
  obtain⟨w',h1,h2,h3⟩:=Mu (P:=P) (hw.pick hp) hT
  exact⟨w.heap.size,w',by simp[execOp,ha.eval hx,h1],h2,h3⟩) ht h
theorem KO.BD(hk:(!d||k== .write)=true)(hx:ev G x=some (.pointer (some ⟨r,0,none⟩)))(hp:bB L (CY kv b r m left cur) R)(ht:Nat.blt t n=true)(h0:left=[]->KO P ops d Q n D w0 ((t,.tuple #[.bool false])::G) (bP kv b m::R) l)(h1:∀(i:Nat) (e:κ×Value),left[i]? =some e->KO P ops d Q n D w0 ((t,.tuple #[.bool true,kv e.1,e.2])::G) (CY kv b r m (left.eraseIdx i) (some e)::R) l):
 KO P ops d Q n D w0 G L ((k,⟨some t,.next x false,ty,pos,af,none⟩)::l):=
 KO.wvP (ι:=Option (Nat×(κ×Value))) hk (φ:=fun p v=>match p with|none=>left=[]/\v=.tuple #[.bool false]|some (i,e)=>left[i]? =some e/\v=.tuple #[.bool true,kv e.1,e.2])
  (N:=fun p=>match p with|none=>bP kv b m::R|some (i,e)=>CY kv b r m (left.eraseIdx i) (some e)::R) (fun a w ha hw=>by
   rcases OZ (P:=P) (hw.pick hp) ty with⟨g0,g1⟩|⟨i,e,w',g0,g1,g2⟩
   ·exact⟨_,w,none,by simp[execOp,ha.eval hx,g1],⟨g0,rfl⟩,O1 (hw.pick hp)⟩
   ·exact⟨_,w',some (i,e),by simp[execOp,ha.eval hx,g1],⟨g0,rfl⟩,g2⟩) ht
  (fun p v Gl=>by
   match p,Gl with
   |none,⟨g0,g1⟩=>subst g1;exact h0 g0
   |some (i,e),⟨g0,g1⟩=>subst g1;exact h1 i e g0)
theorem KO.Re(hk:(!d||k != .pure)=true)(hx:ev G x=some (.pointer (some ⟨r,0,none⟩)))(hp:bB L (CY kv b r m left (some e)) R)(ht:Nat.blt t n=true)(h:KO P ops d Q n D w0 ((t,.tuple #[kv e.1,e.2])::G) L l):KO P ops d Q n D w0 G L ((k,⟨some t,.entry x,ty,pos,af,none⟩)::l):=
 KO.rd hk (fun a w w' ha hw he=>by
  have :=Mv (P:=P) (hw.pick hp) he
  simp[execOp,ha.eval hx,this]) ht h
end
theorem KO.Xe{P:Program}{ops:Array Oper}{d:Bool}{Q:Exit->Act->World->Prop}{n:Nat}{D:List Deferred}{w0:World}{G:Env}{L:List HP}{l:List (Kd×Oper)}{k:Kd}{t:Nat}{ty T:TypeId}{pos:String}{af:Array Edge}{x:Operand}{ad:Addr}{len sz:Nat}(hx:ev G x=some (.pointer (some ad)))(hT:P.underlying T=some (.array (P.arrayLen T) (P.elem T)))(hl:P.arrayLen T=len+1)(hs:∀w,(Go.sizeOf (P.elem T)).run P w=.ok sz w)(ht:Nat.blt t n=true)(h:KO P ops d Q n D w0 ((t,.slice (some (ad.add 0)) (len+1) (len+1))::G) L l):KO P ops d Q n D w0 G L ((k,⟨some t,.slice T x none none none,ty,pos,af,none⟩)::l):=
 KO.val (fun a w ha=>by
  have :=run_sliceAt_array_all (P:=P) w T ad hT;rw[hs w]at this
  simp[execOp,ha.eval hx,this,slicedAt,hl]) ht h
theorem KO.Ur{P:Program}{ops:Array Oper}{d:Bool}{Q:Exit->Act->World->Prop}{n:Nat}{D:List Deferred}{w0:World}{G:Env}{L R:List HP}{l:List (Kd×Oper)}{k:Kd}{ty T E:TypeId}{pos:String}{af:Array Edge}{x y:Operand}{v:Value}{off b:Nat}{ad:Addr}{cs Dv us:List Value}(hk:(!d||k== .write)=true)(hx:ev G x=some (.pointer (some ad)))(ha:ad=⟨b,off,none⟩)(hy:ev G y=some v)(hv:v.cells=us.toArray)(hn:∀w,(Go.sizeOf T).run P w=.ok us.length w)(h1:us.all Value.oneCell'=true)(hp:bB L (bA b (.cells cs.toArray E (0,0))) R)(o9:off+us.length<=cs.length)(hc:pY off us cs=Dv)(h:KO P ops d Q n D w0 G (bA b (.cells Dv.toArray E (0,0))::R) l):
  KO P ops d Q n D w0 G L ((k,⟨none,.store T x y,ty,pos,af,none⟩)::l):=by
 subst ha;exact KO.N6 hk hx hy hv hn h1 hp (by simpa[Nat.ble_eq]using o9) hc h
def cv (H:Ho) (u:Int):Ho:={H with ways:=H.ways.map (fun q=>fw q u true),aI:=H.aI.map (fun x=>(x.1,fw x.2 u true))}
theorem r_(H:Ho)(u:Int):(cv H u).all=H.all.map fun q=>fw q u true:=by
 unfold cv Ho.all;simp
def kg (u:Int) (l:List Qu) (js:List Nat):List Qu:=js.foldl (fun l j=>l.set j (fw (l.getD j default) u true)) l
theorem wU(u:Int):∀(js:List Nat) (l:List Qu),(kg u l js).length=l.length
 |[],_=>rfl
 |j::js,l=>by
  have :=wU u js (l.set j (fw (l.getD j default) u true));rw[List.length_set]at this;exact this
theorem Ds(u:Int):∀(js:List Nat) (l:List Qu) (i:Nat),js.Nodup->(kg u l js)[i]? =if i∈js then(l[i]?).map (fun q=>fw q u true)else l[i]?
 |[],l,i,_=>by simp[kg]
 |j::js,l,i,h=>by
  rw[bL]at h;have ih:=Ds u js (l.set j (fw (l.getD j default) u true)) i h.2;rw[show kg u l (j::js)=kg u (l.set j (fw (l.getD j default) u true)) js from rfl,ih];by_cases e:j=i
  ·subst e;rw[if_neg h.1,if_pos ai,List.getElem?_set,if_pos rfl];split
   ·rename_i hj;rw[au,ak hj];rfl
   ·rename_i hj;rw[cc ae];rfl
  ·rw[List.getElem?_set,if_neg e];simp only[aK,Ne.symm e,false_or]
theorem Dr(u:Int){js:List Nat}{l:List Qu}(h:js.Perm (List.range l.length)):kg u l js=l.map fun q=>fw q u true:=by
 apply List.ext_getElem?;intro i;rw[Ds u js l i (h.nodup_iff.2 List.nodup_range),aG];split
 ·rfl
 ·rename_i hi;rw[h.mem_iff,cE]at hi;rw[cc ae];rfl
theorem AA{n:Nat}(u:Int):∀(js:List Nat) (l:List Qu),(∀q∈l,QB n q)->∀q∈kg u l js,QB n q
 |[],_,h,q,hq=>h q hq
 |j::js,l,h,q,hq=>AA u js (l.set j (fw (l.getD j default) u true)) (fun q hq=>by
  rcases aD hq with h1|rfl
  ·exact h q h1
  ·rcases Nat.lt_or_ge j l.length with hj|hj
   ·rw[au,ak hj];exact(h _ (List.getElem_mem hj)).ends u true
   ·rw[List.set_eq_of_length_le hj]at hq
    exact h _ hq) q hq
theorem Az{u:Int}{l:List Qu}{js:List Nat}{k j:Nat}(hj:js[k]? =some j):kg u l (js.take (k+1))=(kg u l (js.take k)).set j (fw ((kg u l (js.take k)).getD j default) u true):=by
 rw[a_ hj];unfold kg;rw[List.foldl_append];rfl
theorem cx.cv{n:Nat}{H:Ho}(h:cx n H)(u:Int):cx n (cv H u):=by
 have hf:(WB.cv H u).aI.map (·.1)=H.aI.map (·.1):=by unfold WB.cv;simp
 have hq:∀s,(WB.cv H u).qI s=H.qI s:=fun s=>by rw[oC,oC,hf]
 refine⟨h.id,h.used,h.next,h.sorted,h.fT,by unfold WB.cv;simpa using h.oV,fun q hq=>?_,by rw[hf];exact h.nodup,by unfold WB.cv;simpa using h.ways,h.ay,h.batch,h.bT,h.aC,h.right,fun x hx ht=>by(rw[hq];exact h.loc x hx ht),h.ext⟩;rw[r_]at hq;obtain⟨q0,h0,rfl⟩:=aB.1 hq;exact(h.qs q0 h0).ends u true
def cy:pI:=⟨[],[]⟩
def AS (H:Ho) (u:Int):Int:=if u<0\/5<=u then 2 else if(H.dW u.toNat).aT.length+(H.dW u.toNat).aY.length=0 then 8 else if H.down=true then 6 else 0
def BP (H:Ho) (u:Int):Ho:=if AS H u=0 then cA (cv H u) u.toNat cy else H
theorem cx.bk{n:Nat}{H:Ho}(h:cx n H)(u:Int):cx n (BP H u):=by
 unfold BP;split
 ·exact(h.cv u).cA _ _
 ·exact h
def gh (g:Int×aj):aj:=ck g.1++sp++g.2
def mB (x:pI):aj:=cK (x.aT.map (·.1))++bZ 47++cY (x.aY.map gh) plus
def nU (x:pI):aj:=⟨#[117,58]⟩++cK (x.aT.map (·.1))++bZ 47++cY (x.aY.map gh) plus
def ji (H:Ho) (u:Int):Int:=if u<0\/5<=u then 2 else if(H.dW u.toNat).aT.length+(H.dW u.toNat).aY.length=0 then 8 else 0
def yS (H:Ho) (D:Dk) (u:Int):Int:=if ji H u≠0 then ji H u else ec H D
def uj (H:Ho) (D:Dk) (u:Int):Ho:=if ji H u≠0 then H else if ec H D≠0 then eC H D else(eK (cA (cv (eC H D) u) u.toNat cy) (mB (H.dW u.toNat))).1
def xX (H:Ho) (D:Dk) (u:Int):Dk:=if ji H u≠0 then D else gg H D (nU (H.dW u.toNat))
structure f_ (x:pI):Prop where
 aT:∀p∈x.aT,bD p.1=true
 aY:∀g∈x.aY,0<=g.1/\g.1<=1099511627776/\cH g.2=true
 many:x.aT.length+x.aY.length<=700
section
variable {x:pI}
theorem f_.bad(h:f_ x):jM (x.aT.map (·.1))=none:=M7 fun j m hm=>by
 obtain⟨p,hp,rfl⟩:=aB.1 (ax hm);exact h.aT p hp
theorem Dg{g:Int×aj}(h:0<=g.1/\g.1<=1099511627776/\cH g.2=true):(gh g).size<=30:=by
 have h1:=cL (n:=g.1) ⟨by omega,by omega⟩;have h2:=(hP h.2.2).2;have h3:sp.size=1:=rfl;unfold gh;simp only[aV];omega
theorem f_.abl(h:f_ x):(cY (x.aY.map gh) plus).size<=700*31:=by
 have :=jx plus 30 (x.aY.map gh) (fun y hy=>by
  obtain⟨g,hg,rfl⟩:=aB.1 hy
  exact Dg (h.aY g hg))
 have h2:=h.many;have h3:plus.size=1:=rfl;rw[h3,aX]at this;omega
theorem f_.ZQ(h:f_ x):(cK (x.aT.map (·.1))).size<=700*101:=by
 have :=qY (l:=x.aT.map (·.1)) (fun m hm=>by
  obtain⟨p,hp,rfl⟩:=aB.1 hm
  exact h.aT p hp)
 have h2:=h.many;rw[aX]at this;omega
theorem f_.size(h:f_ x):(mB x).size<=72000:=by
 have h2:=h.many;have h1:(bZ 47).size=1:=rfl;have h3:plus.size=1:=rfl
 have a:=jx plus 30 (x.aY.map gh) (fun y hy=>by
  obtain⟨g,hg,rfl⟩:=aB.1 hy
  exact Dg (h.aY g hg))
 have b:=qY (l:=x.aT.map (·.1)) (fun m hm=>by
  obtain⟨p,hp,rfl⟩:=aB.1 hm
  exact h.aT p hp)
 rw[h3,aX]at a;rw[aX]at b;unfold mB;simp only[aV];omega
theorem rX{c:UInt8}(h1:c.toNat≠45/\(c.toNat<48\/57<c.toNat))(h2:isLet c=false)(h3:c≠32/\c≠43){l:List Ms}(h:∀m∈l,bD m=true):p7 c (cK l):=fun b hb=>by
 unfold cK at hb;rcases mQ hb with hb|⟨y,hy,hb⟩
 ·simp[plus]at hb;subst hb;exact fun e=>h3.2 e.symm
 ·obtain⟨m,hm,rfl⟩:=aB.1 hy;obtain⟨-,-,-,-,m5,m6,-,-⟩:=bG (h m hm);rw[wo]at hb;have aaJ:∀s:aj,gB s=true->b∈s.data.toList->b≠c:=fun s hs hb e=>by
   subst e;unfold gB at hs;rw[aL]at hs;rw[hs b hb]at h2;cases h2
  rcases mQ hb with hb|⟨z,hz,hb⟩
  ·simp[sp]at hb;subst hb;exact fun e=>h3.1 e.symm
  ·simp only[aK,List.not_mem_nil,or_false]at hz;rcases hz with rfl|rfl|rfl|rfl|rfl
   ·exact fV _ h1 b hb
   ·exact fV _ h1 b hb
   ·exact aaJ _ (AP m5) hb
   ·exact aaJ _ (i_ m6) hb
   ·exact fV _ h1 b hb
theorem f_.cut(h:f_ x):cZ 47 (mB x)=(cK (x.aT.map (·.1)),cY (x.aY.map gh) plus,true):=by
 unfold mB
 exact cutB_hit (rX ah ah ah fun m hm=>by
  obtain⟨p,hp,rfl⟩:=aB.1 hm
  exact h.aT p hp) _
theorem f_.read(h:f_ x):wx (cZ 47 (mB x)).1=some (x.aT.map (·.1)):=by
 rw[h.cut];exact wq h.bad
theorem yA(x:pI):nU x=bZ 117++bZ 58++mB x:=by
 unfold nU mB;rw[show(⟨#[117,58]⟩:aj)=bZ 117++bZ 58 by decide];simp only[ByteArray.append_assoc]
theorem py(x:pI):cZ 58 (nU x)=(bZ 117,mB x,true):=by rw[yA];exact cutB_hit (d_ ah) _
theorem f_.ZN(h:f_ x):fp 700 (nU x):=by
 have h1:=h.size;refine⟨?_,fun _ l hl=>?_,fun hk=>?_⟩
 ·have e1:(bZ 117).size=1:=rfl;have e2:(bZ 58).size=1:=rfl;rw[yA];simp only[aV];omega
 ·rw[py,h.read]at hl;simp only[az]at hl;subst hl;have :=h.many;simp;omega
 ·rw[py]at hk;exact absurd (show bZ 117=bZ 114 from hk) ah
end
theorem zV(H:Ho)(D:Dk):(eC H D).ay=H.ay:=by
 unfold eC;split
 ·rfl
 ·split<;>rfl
theorem cx.cm{n:Nat}{H:Ho}{D:Dk}(h:cx n H)(u:Int)(hu:∀x∈H.ay,f_ x):cx (n+(H.dW u.toNat).aT.length) (uj H D u):=by
 unfold uj;split
 ·exact h.le ae
 ·rename_i h1;split
  ·exact(h.log (D:=D)).le ae
  ·have K3:u.toNat<5:=by
    unfold ji at h1;rcases Decidable.em (u<0\/5<=u)with h2|h2
    ·rw[if_pos h2]at h1;exact absurd ah h1
    ·omega
   have hx:f_ (H.dW u.toNat):=by
    apply hu;unfold Ho.dW;rw[au,ak (by rw[h.ay];exact K3)];exact List.getElem_mem _
   refine(((h.log (D:=D)).cv u).cA _ _).ends (fun l hl=>?_) (fun l hl=>?_) ae
   ·rw[hx.read]at hl;simp only[az]at hl;subst hl;exact eV hx.bad
   ·rw[hx.read]at hl;simp only[az]at hl;subst hl;simp
section
variable {κ:Type} [DecidableEq κ] {kv:κ->Value} {kd:TypeDesc}
variable {P:Program} {ops:Array Oper} {d:Bool} {Q:Exit->Act->World->Prop} {n:Nat} {D:List Deferred} {w0:World} {G:Env} {L R:List HP} {l:List (Kd×Oper)} {k:Kd}
 {ty T KT E:TypeId} {pos:String} {af:Array Edge} {x y u:Operand} {v:Value} {b:Nat} {m:List (κ×Value)}
theorem KO.ins(K:KeyLaw kd kv)(s:κ)(hk:(!d||k== .write)=true)(hx:ev G x=some (.map (some b)))(hy:ev G y=some (kv s))(hu:ev G u=some v)(hT:P.underlying T=some (.map KT E))(hK:P.underlying KT=some kd)(hp:bB L (bP kv b m) R)(h:KO P ops d Q n D w0 G (bP kv b (iU m s v)::R) l):KO P ops d Q n D w0 G L ((k,⟨none,.insert T x y u,ty,pos,af,none⟩)::l):=
 KO.Fe hk (fun a w ha hw=>by
  obtain⟨w',hr,hs⟩:=CR (P:=P) K (hw.pick hp) hT hK s v
  exact⟨w',by simp[execOp,ha.eval hx,ha.eval hy,ha.eval hu,hr],hs⟩) h
end
theorem rC{α β:Type}{f:α->β->HP}{w0 w:World}{L:List HP}{p:α}{x:β}(hf:∀L,St w0 L w->St w0 (f p x::L) w)(n:Nat)(h:St w0 L w):St w0 (bI f (List.replicate n p) (List.replicate n x)::L) w:=by
 refine Jy ?_
 induction n with
 |zero=>exact h
 |succ n ih=>exact hf _ ih
def gx (id:Int):Ho:=⟨id,0,false,-1,0,[],[(cr,⟨[],0⟩)],List.replicate 4 ⟨[],0⟩,List.replicate 5 ⟨[],[]⟩,List.replicate 4 [],List.replicate 4 0,List.replicate 4 0⟩
theorem Jt{id:Int}(h:0<=id/\id<4):cx 10 (gx id):=by
 refine⟨h,by simp[gx],by simp[gx],zf,by simp[gx],by simp[gx],fun q hq=>?_,by simp[gx],rfl,rfl,rfl,rfl,rfl,(fun x hx=>by simp[gx]at hx),(fun x hx=>by simp[gx]at hx),⟨fun l hl=>by simp[gx]at hl;subst hl;simp,fun x hx=>by simp[gx]at hx;subst hx;omega,fun x hx=>by simp[gx]at hx;subst hx;omega⟩⟩;have :q=⟨[],0⟩:=by simp[gx,Ho.all]at hq;exact hq
 subst this;exact QB.nil
structure nQ (H H':Ho):Prop where
 id:H'.id=H.id
 used:H'.used=H.used
 down:H'.down=H.down
 dC:H'.dC=H.dC
 ay:H'.ay=H.ay
 batch:H'.batch=H.batch
 bT:H'.bT=H.bT
 aC:H'.aC=H.aC
theorem nQ.refl(H:Ho):nQ H H:=⟨rfl,rfl,rfl,rfl,rfl,rfl,rfl,rfl⟩
theorem nQ.trans{A B C:Ho}(h:nQ A B)(g:nQ B C):nQ A C:=⟨g.id.trans h.id,g.used.trans h.used,g.down.trans h.down,g.dC.trans h.dC,g.ay.trans h.ay,g.batch.trans h.batch,g.bT.trans h.bT,g.aC.trans h.aC⟩
theorem r6(H:Ho)(x:Nm):nQ H (eS H x):=by unfold eS;split<;>exact⟨rfl,rfl,rfl,rfl,rfl,rfl,rfl,rfl⟩
theorem Jg{H H1:Ho}{m:Ms}(h:gG H m=some H1):nQ H H1:=by
 unfold gG at h;dsimp only at h;split at h
 ·simp only[az]at h;subst h;exact⟨rfl,rfl,rfl,rfl,rfl,rfl,rfl,rfl⟩
 ·split at h
  ·cases h
  ·simp only[az]at h;subst h;exact⟨rfl,rfl,rfl,rfl,rfl,rfl,rfl,rfl⟩
theorem qe:∀(l:List Ms) (H:Ho),nQ H (fW H l).1
 |[],H=>.refl H
 |m::l,H=>by
  unfold fW;cases hp:gG H m with
  |none=>exact⟨rfl,rfl,rfl,rfl,rfl,rfl,rfl,rfl⟩
  |some H1=>exact(Jg hp).trans (qe l H1)
theorem Jn{H H1:Ho}{s:aj}(h:gV H s=some H1):nQ H H1:=by
 unfold gV at h;split at h
 ·cases h
 ·split at h
  ·cases h
  ·split at h
   ·simp only[az]at h;subst h;exact⟨rfl,rfl,rfl,rfl,rfl,rfl,rfl,rfl⟩
   ·cases h
theorem Ak:∀(l:List aj) (H:Ho),nQ H (gH H l).1
 |[],H=>.refl H
 |s::l,H=>by
  unfold gH;cases hp:gV H s with
  |none=>exact .refl H
  |some H1=>exact(Jn hp).trans (Ak l H1)
theorem qh(H:Ho)(s:aj):nQ H (eK H s).1:=by
 unfold eK;split
 ·exact .refl H
 ·split
  ·exact .refl H
  ·rename_i l hl;split
   ·exact qe l H
   ·split
    ·exact qe l H
    ·exact(qe l H).trans (Ak _ _)
structure pH (H H':Ho):Prop where
 id:H'.id=H.id
 used:H'.used=H.used
 down:H'.down=H.down
 dC:H'.dC=H.dC
 ay:H'.ay=H.ay
theorem pH.refl(H:Ho):pH H H:=⟨rfl,rfl,rfl,rfl,rfl⟩
theorem pH.trans{A B C:Ho}(h:pH A B)(g:pH B C):pH A C:=⟨g.id.trans h.id,g.used.trans h.used,g.down.trans h.down,g.dC.trans h.dC,g.ay.trans h.ay⟩
theorem nQ.p{H H':Ho}(h:nQ H H'):pH H H':=⟨h.id,h.used,h.down,h.dC,h.ay⟩
theorem Jl(H:Ho)(s:aj):pH H (je H s).1:=by
 unfold je;split
 ·split
  ·exact⟨rfl,rfl,rfl,rfl,rfl⟩
  ·exact .refl H
 ·exact .refl H
theorem Gv(H:Ho)(s:aj):pH H (fF H s).1:=by
 unfold fF;split
 ·split
  ·exact⟨rfl,rfl,rfl,rfl,rfl⟩
  ·exact .refl H
 ·exact .refl H
theorem rz:∀(l:List (Ms×aj)) (H:Ho),pH H (ep H l).1
 |[],H=>.refl H
 |(m,t)::l,H=>by
  unfold ep;split
  ·exact .refl H
  ·rename_i i _;exact pH.trans (B:=H.eA i (dr (H.dZ i) m (-1))) ⟨rfl,rfl,rfl,rfl,rfl⟩ (rz l _)
theorem Jq(H:Ho)(s:aj):pH H (jf H s).1:=by
 unfold jf;split
 ·rename_i a b c _;split
  ·rename_i k l _ _;split
   ·split
    ·have h1:=rz (l.zip (dH 43 c)) H;exact⟨h1.id,h1.used,h1.down,h1.dC,h1.ay⟩
    ·exact rz _ H
   ·exact .refl H
  ·exact .refl H
 ·exact .refl H
theorem gm(H:Ho)(s:aj):pH H (hplays H s).1:=by
 unfold hplays;split
 ·split
  ·exact .refl H
  ·exact(r6 H _).p
 ·split
  ·exact⟨rfl,rfl,rfl,rfl,rfl⟩
  ·split
   ·exact(qh H _).p
   ·split
    ·exact Jl H _
    ·split
     ·exact Gv H _
     ·split
      ·exact Jq H _
      ·exact .refl H
def iM (D:Dk):Nat->Ho->Ho
 |0,H=>H
 |f+1,H=>match gU (H.used:Nat) (D.places.getD H.used ⟨#[]⟩)with
  |none=>H
  |some s=>if(hplays H s).2=false then(hplays H s).1 else iM D f {(hplays H s).1 with used:=H.used+1}
def ij (id:Int) (D:Dk):Ho:=iM D 300 (gx id)
structure E4 (D:Dk):Prop where
 len:D.places.length=300
 left: -4000000000000000000<=D.left/\D.left<=9223372036854775807
 size:∀t∈D.places,t.size<=800000
 nT:∀(k:Nat) t s,D.places[k]? =some t->gU (k:Nat) t=some s->fp 250 s
theorem cx.Uo{n:Nat}{H:Ho}(h:cx n H){k:Nat}(hk:k<=300):cx n {H with used:=k}:=⟨h.id,hk,h.next,h.sorted,h.fT,h.oV,h.qs,h.nodup,h.ways,h.ay,h.batch,h.bT,h.aC,h.right,h.loc,h.ext⟩
theorem cx.ZA{n:Nat}{H:Ho}(h:cx n H)(k:Int):cx n {H with dC:=k}:=⟨h.id,h.used,h.next,h.sorted,h.fT,h.oV,h.qs,h.nodup,h.ways,h.ay,h.batch,h.bT,h.aC,h.right,h.loc,h.ext⟩
theorem FW{D:Dk}(hD:E4 D):∀(f:Nat) (H:Ho),H.used+f<=300->cx (10+250*H.used) H->cx (260+250*(iM D f H).used) (iM D f H)
 |0,H,hu,h=>h.le (by simp only[iM];omega)
 |f+1,H,hu,h=>by
  unfold iM;obtain⟨t,ht⟩:∃t,D.places[H.used]? =some t:=⟨_,ak (by rw[hD.len];omega)⟩;have e:D.places.getD H.used ⟨#[]⟩=t:=by rw[au,ht];rfl
  rw[e];split
  ·exact h.le ae
  ·rename_i s hs;have hr:=hD.nT _ t s ht hs;have h1:=h.KK hr ae;split
   ·exact h1.le (by rw[(gm H s).used];omega)
   ·have h2:=(h1.Uo (k:=H.used+1) ae).le (k:=10+250*(H.used+1)) ae;exact FW hD f _ fZ h2
theorem OE{id:Int}(h:0<=id/\id<4){D:Dk}(hD:E4 D):cx (260+250*(ij id D).used) (ij id D):=FW hD 300 _ (by simp[gx]) ((Jt h).le ae)
def iV (H:Ho) (s:aj):List Ms:=match H.qI s with
 |some i=>ig (H.dZ i)
 |none=>[]
def iQ (H:Ho) (s:aj):Int:=match H.qI s with
 |none=>7
 |some _=>if s≠cr/\cP H.names s=false then 7 else 0
def lQ (H:Ho) (s:aj):List Ms:=if iQ H s=0 then eX (H.dZ ((H.qI s).getD 0))else[]
theorem zP(D:Dk):∀(f:Nat) (H:Ho),(iM D f H).id=H.id/\(iM D f H).down=H.down/\(iM D f H).dC=H.dC/\(iM D f H).ay=H.ay
 |0,H=>⟨rfl,rfl,rfl,rfl⟩
 |f+1,H=>by
  unfold iM;split
  ·exact⟨rfl,rfl,rfl,rfl⟩
  ·rename_i s hs;have h:=gm H s;split
   ·exact⟨h.id,h.down,h.dC,h.ay⟩
   ·obtain⟨a,b,c,d⟩:=zP D f {(hplays H s).1 with used:=H.used+1};exact⟨a.trans h.id,b.trans h.down,c.trans h.dC,d.trans h.ay⟩
def cS (xs:List aj):List aj:=((xs.map (·.data.toList)).mergeSort fun x y=>decide (x<=y)).map toB
theorem nj(xs:List aj):(cS xs).Perm xs:=by
 unfold cS;refine((List.mergeSort_perm _ _).map toB).trans ?_;rw[List.map_map];have :toB∘(fun x:aj=>x.data.toList)=id:=by funext x;simp[toB]
 rw[this,List.map_id]
section
open Go.Sort Go.Shelf Go.Proofs
variable {w0 w:World} {L R:List HP} {E:TypeId} {xs ys:List aj} {v:Value} {g n cap:Nat}
def Xj (l:List UInt8):List Value:=[encStr l]
def Ir (s:aj):List Value:=[.string s]
theorem QK(E:TypeId)(v:Value)(xs:List aj):SL E 1 Ir v xs=SL E 1 Xj v (xs.map (·.data.toList)):=by
 unfold SL;rw[aX,List.flatMap_map];rfl
theorem Dj(d:Array (List UInt8))(j:Nat)(hj:j<d.size):(flatK Xj 1 d)[j]! =encStr d[j]! :=by
 rw[get_flatK _ _ _ _ ae,Nat.div_one,Nat.mod_one];rfl
theorem IP(w:World)(g:Nat)(d:Array (List UInt8)):putRow encStr w g 0 d=putRowK Xj 1 w g 0 d:=by
 unfold putRowK putRow;congr 1;funext c;unfold putCells;congr 1;funext k x;have :(flatK Xj 1 d).size=d.size:=by simp
 rw[this];by_cases h:0<=k/\k<0+d.size
 ·rw[if_pos h,if_pos h,Nat.sub_zero,Dj d k ae];rfl
 ·rw[if_neg h,if_neg h]
theorem holds_one{d:Array (List UInt8)}(h:HoldsK Xj 1 w g 0 d):Holds encStr w g 0 d:=fun j hj=>by
 have :=h j (by simpa using hj);rw[Dj d j hj]at this;exact this
theorem Cm{P:Program}{f:FuncId}(h0:∀(p:Option Addr) (cap:Nat) (w:World),Calls P f #[.slice p 0 cap] w fun e w'=>e=.returned (.tuple #[])/\w'=w)(h1:∀(bA off cap:Nat) (ss:List (List UInt8)) (w:World),Holds encStr w bA off ss.toArray->bA<w.heap.size->ss.length<4611686018427387904->
  Calls P f #[.slice (some ⟨bA,off,none⟩) ss.length cap] w fun e w'=>e=.returned (.tuple #[])/\∃n os,w'=Go.Sort.grow (putRow encStr (Go.Sort.ahead w n) bA off (ss.mergeSort fun x y=>decide (x<=y)).toArray) os)(w0:World)(L:List HP)(v:Value)(xs:List aj)(hl:xs.length<1000000):
 KC P f #[v] w0 (SL E 1 Ir v xs::L) (fun u M=>u=.tuple #[]/\M=SL E 1 Ir v (cS xs)::L):=fun w hw=>by
 obtain⟨a,cap,rfl,ha⟩:=bo hw;by_cases hz:xs=[]
 ·subst hz;refine(h0 a cap w).mono ?_;rintro e w' ⟨rfl,rfl⟩;exact⟨_,_,rfl,⟨rfl,rfl⟩,by rw[show cS []=[]by simp[cS]];exact hw⟩
 ·have hlen:0<xs.length:=List.length_pos_iff.2 hz;obtain⟨g,rfl⟩:=ha hlen;rw[QK]at hw;have hH:=holds_one (C6 (cf:=Xj) (fun _=>rfl) hw);obtain⟨-,-,-,cur,-,-,h6⟩:=jq hw;have dN:=h6.lt;have hc:=h1 g 0 cap (xs.map (·.data.toList)) w hH dN Zs;rw[aX]at hc;refine hc.mono ?_;rintro e w' ⟨rfl,q,os,rfl⟩;refine⟨_,_,rfl,⟨rfl,rfl⟩,?_⟩;rw[IP];have hs:=St.sorted (cf:=Xj) (fun _=>rfl) hw (ys:=(xs.map (·.data.toList)).mergeSort fun x y=>decide (x<=y)) ai q os;rw[QK];have e:(cS xs).map (·.data.toList)=(xs.map (·.data.toList)).mergeSort fun x y=>decide (x<=y):=by
   unfold cS;rw[List.map_map];have :(fun x:aj=>x.data.toList)∘toB=id:=by funext l;simp[toB]
   rw[this,List.map_id]
  rw[e];exact hs
end
open Go
structure En where
 j:Nat
 m:Ms
 put:Int
 gC:Int
def kZ (j:Nat) (e:It):En:=⟨j,e.m,e.put,e.gC⟩
def Re (j:Nat) (l:List It):List En:=l.map (kZ j)
def vw (l:List Qu):List En:=l.zipIdx.flatMap fun x=>Re x.2 x.1.l
def vr (l:List Qu) (j:Nat):List En:=(l.zipIdx.eraseIdx j).flatMap fun x=>Re x.2 x.1.l
theorem rW{α:Type}:∀{l:List α} {i:Nat} {x:α},l[i]? =some x->l.Perm (x::l.eraseIdx i)
 |[],i,x,h=>by simp at h
 |a::l,0,x,h=>by simp at h;subst h;exact .refl _
 |a::l,i+1,x,h=>((rW (l:=l) Ic).cons a).trans (.swap _ _ _)
theorem FN{α:Type}:∀{l:List α} {i:Nat} {x:α} (y:α),l[i]? =some x->(l.set i y).Perm (y::l.eraseIdx i)
 |[],i,x,y,h=>by simp at h
 |a::l,0,x,y,h=>.refl _
 |a::l,i+1,x,y,h=>((FN (l:=l) y Ic).cons a).trans (.swap _ _ _)
theorem D8{α β:Type}{f:α->List β}{l l':List α}(h:l.Perm l'):(l.flatMap f).Perm (l'.flatMap f):=by
 induction h with
 |nil=>exact .refl _
 |cons a _ ih=>rw[bj,bj];exact(List.Perm.refl _).append ih
 |swap a b l=>
  rw[bj,bj,bj,bj,<-aR,<-aR];exact List.perm_append_comm.append (.refl _)
 |trans _ _ h1 h2=>exact h1.trans h2
theorem uz{l:List Qu}{j:Nat}{q:Qu}(h:l[j]? =some q):(vw l).Perm (Re j q.l++vr l j):=by
 unfold vw vr;have h1:l.zipIdx[j]? =some (q,j):=by rw[List.getElem?_zipIdx,h];simp
 exact D8 (rW h1)
theorem Iw(l:List Qu)(j:Nat)(q:Qu):(l.set j q).zipIdx=l.zipIdx.set j (q,j):=by
 apply List.ext_getElem?;intro i;rw[List.getElem?_zipIdx,List.getElem?_set,List.getElem?_set,List.getElem?_zipIdx,List.length_zipIdx];by_cases e:j=i
 ·subst e;rw[if_pos rfl,if_pos rfl];split<;>simp
 ·rw[if_neg e,if_neg e]
theorem Vp(l:List Qu)(j:Nat)(q:Qu):vr (l.set j q) j=vr l j:=by
 unfold vr;rw[Iw,List.eraseIdx_set_eq]
theorem Iz{l:List Qu}{j:Nat}{q:Qu}(q':Qu)(h:l[j]? =some q):(vw (l.set j q')).Perm (Re j q'.l++vr l j):=by
 have h1:(l.set j q')[j]? =some q':=by rw[List.getElem?_set_self (aw.1 h).1]
 have :=uz h1
 rwa [Vp]at this
theorem vQ{l:List Qu}{e:En}:e∈vw l↔ ∃q,l[e.j]? =some q/\∃x∈q.l,e=kZ e.j x:=by
 unfold vw Re;rw[List.mem_flatMap];constructor
 ·rintro⟨⟨q,j⟩,h1,h2⟩;rw[aB]at h2;obtain⟨x,hx,rfl⟩:=h2;rw[List.mem_zipIdx_iff_getElem?]at h1;exact⟨q,h1,x,hx,rfl⟩
 ·rintro⟨q,h1,x,hx,he⟩;refine⟨(q,e.j),List.mem_zipIdx_iff_getElem?.2 h1,?_⟩;rw[aB];exact⟨x,hx,he.symm⟩
theorem yp{l:List Qu}{j:Nat}{q:Qu}(m:Ms)(u:Int)(h:l[j]? =some q):(vw (l.set j (dr q m u))).Perm (⟨j,m,max u (-1),-1⟩::vw l):=by
 refine(Iz _ h).trans (List.Perm.trans ?_ (((uz h).symm).cons _));have h1:(dr q m u).l.Perm (eG q m u::q.l):=by
  unfold dr;dsimp only;refine List.perm_middle.trans ?_;rw[List.take_append_drop]
 have h2:=h1.map (kZ j);exact h2.append (.refl _)
theorem Fi{l:List Qu}{j k:Nat}{q:Qu}{x:It}(h:l[j]? =some q)(hx:q.l[k]? =some x)(nx:Int):(vw l).Perm (kZ j x::vw (l.set j ⟨q.l.eraseIdx k,nx⟩)):=by
 refine(uz h).trans (List.Perm.trans ?_ ((Iz _ h).symm.cons _));exact((rW hx).map (kZ j)).append (.refl _)
theorem LH{l:List Qu}{j k:Nat}{q:Qu}{x:It}(y:It)(h:l[j]? =some q)(hx:q.l[k]? =some x)(nx:Int):∃R,(vw l).Perm (kZ j x::R)/\(vw (l.set j ⟨q.l.set k y,nx⟩)).Perm (kZ j y::R):=by
 refine⟨Re j (q.l.eraseIdx k)++vr l j,?_,?_⟩
 ·exact(uz h).trans (((rW hx).map (kZ j)).append (.refl _))
 ·exact(Iz _ h).trans (((FN y hx).map (kZ j)).append (.refl _))
def gI (u:Int) (e:En):En:=⟨e.j,e.m,if e.put=u then -1 else e.put,if e.gC=u then -1 else e.gC⟩
theorem Rw{l:List Qu}{u:Int}(hu:0<=u):vw (l.map fun q=>fw q u true)=((vw l).filter fun e=> !decide (e.put=u)).map (gI u):=by
 unfold vw;rw[List.zipIdx_map,List.flatMap_map,List.filter_flatMap,List.map_flatMap];congr 1;funext x;unfold Re;dsimp only[Prod.map];rw[show(fw x.1 u true).l=(x.1.l.filter fun e=> !qN u true e).map (qj u)by unfold fw;rw[if_neg ae]];rw[List.map_map,List.filter_map,List.map_map];have :(fun e=> !qN u true e)=((fun e:En=> !decide (e.put=u))∘kZ x.2):=by
  funext e;unfold qN kZ;simp
 rw[this];rfl
def eb (e:En):Int:=e.m.id
def hv (H:Ho):List En:=vw H.all
def j9 (e:En):Bool:=decide (e.put<0)
def ru (e:En):Nat×Ms:=(e.j,e.m)
def hk (H:Ho):List (Nat×Ms):=((hv H).filter j9).map ru
def aiP (H:Ho) (s:aj):Option Nat:=(H.qI s).map (4+ ·)
def bw (H:Ho):List aj:=H.aI.map (·.1)
theorem bH{H H':Ho}(h:bw H'=bw H)(s:aj):H'.qI s=H.qI s:=by rw[oC,oC];unfold bw at h;rw[h]
theorem Lu{n:Nat}{H:Ho}(hB:cx n H){i:Nat}(hi:i<H.aI.length):H.all[4+i]? =some (H.dZ i):=l9 hB.ways hi
theorem Oq{n:Nat}{H:Ho}(hB:cx n H){m:Ms}{i:Nat}(hm:m.bF=H.id)(hq:H.qI m.queue=some i):∃H1,gG H m=some H1/\(hv H1).Perm (⟨4+i,m,-1,-1⟩::hv H)/\bw H1=bw H/\H1.names=H.names/\H1.ways=H.ways/\H1.next=max H.next (m.id/4+1)/\nQ H H1:=by
 have hi:=(fC hq).1;let H0:Ho:={H with next:=max H.next (m.id/4+1)};refine⟨H0.eA i (dr (H0.dZ i) m (-1)),?_,?_,?_,rfl,rfl,rfl,⟨rfl,rfl,rfl,rfl,rfl,rfl,rfl,rfl⟩⟩
 ·unfold gG;dsimp only;rw[if_neg (by rw[hm];simp)];rw[hq];rfl
 ·unfold hv;rw[iy (H:=H0) hB.ways];have :=yp (l:=H0.all) m (-1) (Lu hB hi);exact this
 ·unfold bw;exact ia (H:=H0) i _
theorem jE{α β:Type}{f:α->β}{l:List α}(h:(l.map f).Nodup){x y:α}(hx:x∈l)(hy:y∈l)(e:f x=f y):x=y:=by
 induction l with
 |nil=>cases hx
 |cons a l ih=>
  rw[aJ,bL]at h;rcases aK.1 hx with h1|h1<;>rcases aK.1 hy with h2|h2
  ·rw[h1,h2]
  ·exact absurd (by rw[<-h1,e];exact List.mem_map_of_mem (f:=f) h2) h.1
  ·exact absurd (by rw[<-h2,<-e];exact List.mem_map_of_mem (f:=f) h1) h.1
  ·exact ih h.2 h1 h2
theorem Dn{l R:List En}{e:En}(h:(l.map eb).Nodup)(hp:l.Perm (e::R)):R.Perm (l.filter fun x=> !decide (eb x=eb e)):=by
 have h1:=hp.filter (fun x=> !decide (eb x=eb e));have h2:(e::R).filter (fun x=> !decide (eb x=eb e))=R:=by
  rw[c_,if_neg ai];rw[bJ];intro x hx;have hn:=(hp.map eb).nodup_iff.1 h;rw[aJ,bL]at hn;have :eb x≠eb e:=fun e2=>hn.1 (e2▸List.mem_map_of_mem (f:=eb) hx)
  simpa using this
 rw[h2]at h1;exact h1.symm
theorem Lp(g:Int×aj):cZ 32 (gh g)=(ck g.1,g.2,true):=by
 unfold gh;rw[show(sp:aj)=bZ 32 from rfl];exact cutB_hit (fV _ ah) _
theorem PJ{n:Nat}{H:Ho}(hB:cx n H){g:Int×aj}(hg:0<=g.1/\g.1<=1099511627776/\cH g.2=true){i:Nat}(hq:H.qI g.2=some i)(hn:((hv H).map eb).Nodup){e:En}(he:e∈hv H)(hj:e.j=4+i)(hid:eb e=g.1):
 ∃H1,gV H (gh g)=some H1/\(hv H1).Perm ((hv H).filter fun x=> !decide (eb x=g.1))/\bw H1=bw H/\H1.names=H.names/\H1.ways=H.ways/\H1.next=H.next/\nQ H H1:=by
 have hi:=(fC hq).1;obtain⟨q,h1,x,hx,hex⟩:=vQ.1 he;rw[hj]at h1;have h2:=Lu hB hi;rw[h2]at h1;simp only[az]at h1;subst h1;have aeL:x.m.id=g.1:=by rw[<-hid,hex];rfl
 obtain⟨k,hk⟩:∃k,oB (H.dZ i) g.1=some k:=by
  unfold oB;cases hf:(H.dZ i).l.findIdx? (K2 g.1)with
  |some k=>exact⟨k,rfl⟩
  |none=>
   rw[List.findIdx?_eq_none_iff]at hf;have :=hf x hx;unfold K2 at this;simp[aeL]at this
 obtain⟨mV,UM,-⟩:=List.findIdx?_eq_some_iff_getElem.1 hk;have Wv:(H.dZ i).l[k]? =some (H.dZ i).l[k]:=ak mV;have Wx:((H.dZ i).l[k]).m.id=g.1:=by unfold K2 at UM;simpa using UM
 refine⟨H.eA i (eF (H.dZ i) g.1),?_,?_,by unfold bw;exact ia i _,rfl,rfl,rfl,⟨rfl,rfl,rfl,rfl,rfl,rfl,rfl,rfl⟩⟩
 ·unfold gV;rw[Lp];dsimp only;rw[jD ⟨by omega,by omega⟩];dsimp only;rw[hq];dsimp only;rw[if_pos (by unfold kS;rw[hk])]
 ·unfold hv;rw[iy hB.ways];have e1:eF (H.dZ i) g.1=⟨(H.dZ i).l.eraseIdx k,(H.dZ i).next⟩:=by unfold eF;rw[hk]
  rw[e1];have hp:=Fi (l:=H.all) h2 Wv (H.dZ i).next
  have :=Dn hn hp;rw[show eb (kZ (4+i) (H.dZ i).l[k])=g.1 from Wx]at this;exact this
theorem GM{n:Nat}:∀(l:List (Int×aj)) {H:Ho},cx n H->((hv H).map eb).Nodup->(l.map (·.1)).Nodup->(∀g∈l,(0<=g.1/\g.1<=1099511627776/\cH g.2=true)/\∃i,H.qI g.2=some i/\∃e∈hv H,e.j=4+i/\eb e=g.1)->
 ∃H1,gH H (l.map gh)=(H1,true)/\(hv H1).Perm ((hv H).filter fun x=> !decide (eb x∈l.map (·.1)))/\bw H1=bw H/\H1.names=H.names/\H1.ways=H.ways/\H1.next=H.next/\nQ H H1/\cx n H1
 |[],H,hB,_,_,_=>⟨H,rfl,by rw[bJ.2 (fun _ _=>by simp)],rfl,rfl,rfl,rfl,.refl _,hB⟩
 |g::l,H,hB,hn,hd,h=>by
  obtain⟨hr,i,hi,e,he,hj,hid⟩:=h g ai;obtain⟨H1,e1,p1,k1,n1,w1,x1,s1⟩:=PJ hB hr hi hn he hj hid;have kG:=hB.W5 e1;rw[aJ,bL]at hd;have Bi:((hv H1).map eb).Nodup:=by
   refine(p1.map eb).nodup_iff.2 ?_;exact hn.sublist (List.filter_sublist.map _)
  obtain⟨H2,e2,p2,k2,n2,w2,x2,s2,Bm⟩:=GM l kG Bi hd.2 fun g' Q9=>by
   obtain⟨hr',i',hi',e',he',YY,aaT⟩:=h g' (by simp[Q9]);refine⟨hr',i',by rw[bH k1];exact hi',e',?_,YY,aaT⟩;rw[p1.mem_iff,aF];refine⟨he',?_⟩;have :eb e'≠g.1:=by rw[aaT];exact fun e=>hd.1 (e▸List.mem_map_of_mem (f:=(·.1)) Q9)
   simpa using this
  refine⟨H2,?_,?_,k2.trans k1,n2.trans n1,w2.trans w1,x2.trans x1,s1.trans s2,Bm⟩
  ·rw[aJ,gH,e1];exact e2
  ·refine p2.trans ((p1.filter _).trans ?_);rw[dm];refine List.Perm.of_eq (List.filter_congr fun x _=>?_);rw[aJ];by_cases h1:eb x=g.1<;>by_cases h2:eb x∈l.map (·.1)<;>simp[h1,h2]
theorem wi{c:UInt8}:∀{l:List aj},l≠[]->(∀p∈l,p7 c p)->dH c (cY l (bZ c))=l
 |[],h,_=>absurd rfl h
 |[p],_,h=>by rw[kX];exact lC (h p ai)
 |p::q::l,_,h=>by
  rw[gl,jn (h p ai),wi ai fun x hx=>h x vP]
theorem GL{g:Int×aj}(h:cH g.2=true){c:UInt8}(h1:c.toNat≠45/\(c.toNat<48\/57<c.toNat))(h2:isLet c=false)(h3:c≠32):p7 c (gh g):=by
 unfold gh;refine dO (dO (fV _ h1) ?_) ?_
 ·exact fun b hb=>by simp[sp]at hb;subst hb;exact fun e=>h3 e.symm
 ·intro b hb e;subst e;have hw:=i_ h;unfold gB at hw;rw[aL]at hw;rw[hw b hb]at h2;cases h2
theorem Dh{l:List (Int×aj)}(h:∀g∈l,cH g.2=true)(h0:l≠[]):cY (l.map gh) plus≠⟨#[]⟩/\dH 43 (cY (l.map gh) plus)=l.map gh:=by
 have h2:dH 43 (cY (l.map gh) plus)=l.map gh:=by
  rw[show(plus:aj)=bZ 43 from rfl];refine wi Zo fun p hp=>?_
  obtain⟨g,hg,rfl⟩:=aB.1 hp;exact GL (h g hg) ah ah ah
 refine⟨fun e=>?_,h2⟩;rw[e,show dH 43 ⟨#[]⟩=[⟨#[]⟩]from lC (fun b hb=>by simp at hb)]at h2
 match l,h0 with
 |g::l,_=>
  rw[aJ,List.cons.injEq]at h2;have :=congrArg ByteArray.size h2.1;unfold gh at this;have h3:sp.size=1:=rfl;simp only[aV]at this;have h4:(⟨#[]⟩:aj).size=0:=rfl;omega
inductive nS:Ho->List aj->Ho->Prop
 |nil (H:Ho):nS H [] H
 |cons {H H1 H':Ho} {s:aj} {R:List aj} (h:hplays H s=(H1,true)) (t:nS {H1 with used:=H.used+1} R H'):nS H (s::R) H'
theorem nS.snoc{H H' H1:Ho}{R:List aj}{s:aj}(h:nS H R H')(hs:hplays H' s=(H1,true)):nS H (R++[s]) {H1 with used:=H'.used+1}:=by
 induction h with
 |nil H=>exact .cons hs (.nil _)
 |cons e _ ih=>exact .cons e (ih hs)
theorem nS.used{H H':Ho}{R:List aj}(h:nS H R H'):H'.used=H.used+R.length:=by
 induction h with
 |nil H=>rfl
 |cons e _ ih=>rw[ih];simp;omega
theorem nS.same{H H':Ho}{R:List aj}(h:nS H R H'):H'.id=H.id/\H'.down=H.down/\H'.dC=H.dC/\H'.ay=H.ay:=by
 induction h with
 |nil H=>exact⟨rfl,rfl,rfl,rfl⟩
 | @cons H H1 H' s R e _ ih=>
  have :=gm H s;rw[e]at this;obtain⟨a,b,c,d⟩:=ih;exact⟨a.trans this.id,b.trans this.down,c.trans this.dC,d.trans this.ay⟩
structure kt (D:Dk) (R:List aj):Prop where
 len:D.places.length=300
 many:R.length<=300
 on:∀(k:Nat) s,R[k]? =some s->D.places[k]? =some (ew (k:Nat) s)
 off:∀(k:Nat) t,R.length<=k->D.places[k]? =some t->gU (k:Nat) t=none
 size:∀t∈D.places,t.size<=800000
 nT:∀s∈R,fp 250 s/\p7 124 s
theorem kt.ok{D:Dk}{R:List aj}(h:kt D R)(hl: -4000000000000000000<=D.left/\D.left<=9223372036854775807):E4 D:=by
 refine⟨h.len,hl,h.size,fun k t s ht hs=>?_⟩;rcases Nat.lt_or_ge k R.length with hk|hk
 ·have h1:=h.on k R[k] (ak hk);rw[ht]at h1;simp only[az]at h1;rw[h1,tC (h.nT _ (List.getElem_mem hk)).2]at hs;simp only[az]at hs;rw[<-hs];exact(h.nT _ (List.getElem_mem hk)).1
 ·rw[h.off k t hk ht]at hs;cases hs
theorem Sg{D:Dk}{R:List aj}(h:kt D R){H H':Ho}{R2:List aj}(hp:nS H R2 H'):∀{pre:List aj},R=pre++R2->H.used=pre.length->∀f,f+H.used=300->iM D f H=H':=by
 induction hp with
 |nil H=>
  intro pre he hu f hf;rw[List.append_nil]at he;subst he
  match f with
  |0=>rfl
  |f+1=>
   unfold iM;obtain⟨t,ht⟩:∃t,D.places[H.used]? =some t:=⟨_,ak (by rw[h.len];omega)⟩;have e:D.places.getD H.used ⟨#[]⟩=t:=by rw[au,ht];rfl
   rw[e,h.off H.used t ae ht]
 | @cons H H1 H' s R2 e hp ih=>
  intro pre he hu f hf;have hm:=h.many;have hl:R.length=pre.length+(R2.length+1):=by rw[he];simp
  have hk:R[H.used]? =some s:=by rw[he,bp ae,hu];simp
  obtain⟨f',rfl⟩:∃f',f=f'+1:=⟨f-1,by omega⟩;unfold iM;have ht:=h.on _ _ hk;have e2:D.places.getD H.used ⟨#[]⟩=ew (H.used:Nat) s:=by rw[au,ht];rfl
  have hs:s∈R:=ax hk;rw[e2,tC (h.nT s hs).2];dsimp only;rw[e];dsimp only;rw[if_neg ai];exact ih (pre:=pre++[s]) (by rw[he];simp) ez f' fZ
theorem tB{D:Dk}{R:List aj}(h:kt D R){id:Int}{H':Ho}(hp:nS (gx id) R H'):ij id D=H':=Sg h hp (pre:=[]) rfl rfl 300 rfl
theorem xG(s:aj)(dC:Int):(AB s dC).size<=s.size:=by unfold AB;simp;omega
theorem kt.cut{D:Dk}{R:List aj}(h:kt D R)(n:Int):kt (kN D n) R:=⟨h.len,h.many,h.on,h.off,h.size,h.nT⟩
theorem kt.bad{D:Dk}{R:List aj}(h:kt D R){s:aj}(hs:s.size<=700000)(hb:p7 124 s){dC:Int}(ho:lL D=true)(hr:R.length<300):kt (fq D R.length (ew (R.length:Nat) s) dC) R:=by
 unfold fq;rw[if_pos ho];split
 ·rename_i ht;refine⟨by simpa using h.len,h.many,fun k x hk=>?_,fun k t hk hx=>?_,fun t hx=>?_,h.nT⟩
  ·have :=(aw.1 hk).1;dsimp only;rw[List.getElem?_set_ne ae];exact h.on k x hk
  ·dsimp only at hx;rw[List.getElem?_set]at hx;split at hx
   ·rename_i e;subst e;split at hx
    ·simp only[az]at hx;subst hx;unfold AB;have h0:=sU (R.length:Nat) s;exact zO hb ae
    ·cases hx
   ·exact h.off k t hk hx
  ·dsimp only at hx;rcases aD hx with h1|rfl
   ·exact h.size t h1
   ·have :=xG (ew (R.length:Nat) s) dC;have :=uH (k:=(R.length:Nat)) ⟨by omega,by omega⟩ hs;omega
 ·exact h
theorem kt.abm{D:Dk}{R:List aj}(h:kt D R){s:aj}(hs:s.size<=700000)(hb:p7 124 s)(lH:fp 250 s){dC:Int}(ho:¬lL D=true)(hr:R.length<300):kt (fq D R.length (ew (R.length:Nat) s) dC) (R++[s]):=by
 unfold fq;rw[if_neg ho];have hl:=h.len;refine⟨by simpa using h.len,by simp;omega,fun k x hk=>?_,fun k t hk hx=>?_,fun t hx=>?_,fun x hx=>?_⟩
 ·dsimp only;rcases Nat.lt_or_ge k R.length with dN|Ip
  ·rw[List.getElem?_append_left dN]at hk;rw[List.getElem?_set_ne ae];exact h.on k x hk
  ·have :=(aw.1 hk).1;simp at this;obtain rfl:k=R.length:=by omega
   rw[bp (aP _)]at hk;simp at hk;subst hk;rw[List.getElem?_set_self ae]
 ·dsimp only at hx;simp at hk;rw[List.getElem?_set_ne ae]at hx;exact h.off k t ae hx
 ·dsimp only at hx;rcases aD hx with h1|rfl
  ·exact h.size t h1
  ·have :=uH (k:=(R.length:Nat)) ⟨by omega,by omega⟩ hs;omega
 ·rcases aO.1 hx with hx|hx
  ·exact h.nT x hx
  ·simp at hx;subst hx;exact⟨lH,hb⟩
theorem wW:kt qD []:=by
 refine⟨List.length_replicate,by simp,fun k s h=>by simp at h,fun k t _ ht=>?_,fun t ht=>?_,fun s h=>by cases h⟩
 ·have :t=⟨#[]⟩:=List.eq_of_mem_replicate (ax ht);subst this;exact Mf _
 ·have :t=⟨#[]⟩:=List.eq_of_mem_replicate ht;subst this;decide
theorem yE{c:UInt8}(h2:isLet c=false){s:aj}(h:gB s=true):p7 c s:=fun b hb e=>by
 subst e;unfold gB at h;rw[aL]at h;rw[h b hb]at h2;cases h2
theorem yU{x:pI}(h:f_ x):p7 124 (nU x):=by
 rw[yA];unfold mB;refine dO (dO (d_ ah) (d_ ah)) (dO (dO (rX ah ah ah fun m hm=>?_) (d_ ah)) fun b hb=>?_)
 ·obtain⟨p,hp,rfl⟩:=aB.1 hm;exact h.aT p hp
 ·rcases mQ hb with hb|⟨y,hy,hb⟩
  ·simp[plus]at hb;subst hb;decide
  ·obtain⟨g,hg,rfl⟩:=aB.1 hy;exact GL (h.aY g hg).2.2 ah ah ah b hb
theorem P8{x:Nm}(h:bK x=true):p7 124 (jY x):=by
 obtain⟨h1,h2,-,-⟩:=gu h;rw[F0];have hd:p7 124 (ki x.gK):=by
  unfold ki;split
  ·exact d_ ah
  ·rename_i h3;rcases h2 with h2|h2
   ·exact yE ah (i_ h2)
   ·exact absurd h2 h3
 exact dO (dO (d_ ah) (d_ ah)) (dO (dO (yE ah (i_ h1)) (d_ ah)) (dO (dO hd (d_ ah)) (fV _ ah)))
theorem f_.VM{x:pI}(h:f_ x){k:Nat}(hk:x.aT.length<=k):fp k (nU x):=by
 have h1:=h.ZN;refine⟨h1.size,fun _ l hl=>?_,fun Aj=>?_⟩
 ·rw[py,h.read]at hl;simp only[az]at hl;subst hl;simpa using hk
 ·rw[py]at Aj;exact absurd (show bZ 117=bZ 114 from Aj) ah
theorem fp.mono{k m:Nat}{s:aj}(h:fp k s)(hk:k<=m):fp m s:=⟨h.size,fun e l hl=>Nat.le_trans (h.many e l hl) hk,fun e a b c l h1 h2=>⟨Nat.le_trans (h.Ts e a b c l h1 h2).1 hk,(h.Ts e a b c l h1 h2).2⟩⟩
theorem MD{x:Nm}(h:bK x=true):tI (x.name++bZ 32++(ki x.gK++bZ 32++ck x.bF))=some x:=by
 obtain⟨h1,h2,h5,h6⟩:=gu h;have hd:p7 32 (ki x.gK):=by
  unfold ki;split
  ·exact d_ ah
  ·rename_i h3;rcases h2 with h2|h2
   ·exact yE ah (i_ h2)
   ·exact absurd h2 h3
 unfold tI;rw[jn (yE ah (i_ h1)),jn hd,lC (fV _ ah)];dsimp only;rw[jD ⟨by omega,by omega⟩];have hda:dash (ki x.gK)=x.gK:=by
  unfold ki;split
  ·rename_i h3;rw[h3];decide
  ·rename_i h3;unfold dash Lib.trimPrefix;rw[if_neg]
   ·rfl
   ·rcases h2 with h2|h2
    ·have hl:=i_ h2;unfold gB at hl;rw[aL]at hl;intro hp;cases ht:x.gK.data.toList with
     |nil=>rw[ht]at hp;revert hp;decide
     |cons b r=>
      rw[ht]at hp;have hb:(45:UInt8)=b:=by unfold Lib.hasPrefix at hp;simpa using hp
      have :=hl b (by rw[ht];simp);rw[<-hb]at this
      revert this;decide
    ·exact absurd h2 h3
 rw[hda];rfl
theorem xB{H:Ho}{x:Nm}(h:cu H.names x=0):hplays H (jY x)=(eS H x,true):=by
 unfold hplays;rw[tQ];dsimp only;rw[if_pos rfl,MD (mo h)];dsimp only;unfold Gk;rw[h];rfl
theorem xA{H:Ho}(x:pI):hplays H (nU x)=eK H (mB x):=by
 unfold hplays;rw[py];dsimp only;rw[if_neg ah,if_neg ah,if_pos rfl]
structure UI (H:Ho) (u:Nat) (x:pI) (c:Nat):Prop where
 many:x.aT.length+x.aY.length<=c
 aT:∀p∈x.aT,bD p.1=true/\p.1.bF=H.id/\∃i,H.qI p.1.queue=some i/\∃e∈hv H,e.j=4+i/\e.m=p.1/\e.put=(u:Int)
 pn:(x.aT.map fun p=>p.1.id).Nodup
 aY:∀g∈x.aY,cH g.2=true/\∃i,H.qI g.2=some i/\∃e∈hv H,e.j=4+i/\eb e=g.1/\e.put<0/\e.gC=(u:Int)
 gn:(x.aY.map (·.1)).Nodup
structure agB (W:aj->Prop) (id:Int) (c:Nat) (H H0:Ho) (D:Dk) (R:List aj) (T:List Int) (P G:Nat->List Int):Prop where
 hid:H.id=id
 B:cx (1000+250*c) H
 dk:kt D R
 rl:R.length<=3+c
 left: -(10+(c:Int))<=D.left/\D.left<=10
 pl:nS (gx id) R H0
 used:H.used=R.length
 names:H0.names=H.names
 keys:bw H0=bw H
 ways:(∀q∈H.ways,q.l=[])/\∀q∈H0.ways,q.l=[]
 pc:∀e∈hv H0,e.put= -1/\e.gC= -1
 Bd:(hk H).Perm ((hv H0).map ru)
 u4:((hv H).map eb).Nodup
 lt:∀e∈hv H,0<=e.m.id/\e.m.id<=1099511627776/\e.m.id/4<H.next
 Mj:∀e∈hv H0,e.m.id/4<H0.next
 unit:∀(u:Nat) x,H.ay[u]? =some x->UI H u x c/\(x.aT.map fun p=>p.1.id)=P u/\x.aY.map (·.1)=G u
 tn:T.Nodup
 te:T.Perm ((hk H).map (·.2.id))
 loc:∀s,W s->cH s=true/\jX H s=(s,-1,0)
section
variable {W:aj->Prop} {id:Int} {c:Nat} {H H0:Ho} {D:Dk} {R:List aj} {T:List Int} {P G:Nat->List Int}
theorem WA(H:Ho):(hk H).map (·.2.id)=((hv H).filter j9).map eb:=by unfold hk;rw[List.map_map];rfl
theorem uC{us:List pI}{u v:Nat}{x y:pI}(hu:u<us.length)(h:(us.set u y)[v]? =some x):(v=u/\x=y)\/(v≠u/\us[v]? =some x):=by
 rw[List.getElem?_set]at h;split at h
 ·rename_i e;simp only[hu,if_true,az]at h;exact .inl ⟨e.symm,h.symm⟩
 ·rename_i e;exact .inr ⟨fun e2=>e e2.symm,h⟩
def upd (P:Nat->List Int) (u:Nat) (l:List Int):Nat->List Int:=fun v=>if v=u then l else P v
theorem nb{u:Nat}(h:cx c H)(hu:u<5):H.ay[u]? =some (H.dW u):=by
 unfold Ho.dW;rw[au,ak (by rw[h.ay];exact hu)];rfl
end
section
variable {W:aj->Prop} {id:Int} {c:Nat} {H H0:Ho} {D:Dk} {R:List aj} {T:List Int} {P G:Nat->List Int}
def agq (T:List Int) (k:Int):List Int:=if k∈T then T else T++[k]
def agh (T:List Int) (k:Int):List Int:=T.filter fun x=> !decide (x=k)
def ahO (T p g:List Int):List Int:=g.foldl agh (p.foldl agq T)
theorem An(H:Ho){u:Int}(hu:0<=u):hv (cv H u)=((hv H).filter fun e=> !decide (e.put=u)).map (gI u):=by
 unfold hv;rw[r_,Rw hu]
end
section
variable {W:aj->Prop} {id:Int} {c:Nat} {H H0:Ho} {D:Dk} {R:List aj} {T:List Int} {P G:Nat->List Int}
theorem Du{D:Dk}:ou D=0↔ ¬lL D=true:=by
 unfold ou;split<;>simp_all
theorem vB{D:Dk}{k:Nat}{s:aj}{dC:Int}:(fq D k s dC).left=if lL D=true then D.left else D.left-1:=by
 unfold fq;split
 ·split<;>rfl
 ·rfl
end
def O5:aj:=⟨#[105,110]⟩
def IS:aj:=⟨#[111,117,116]⟩
def PO:aj:=⟨#[102,97,114]⟩
def YF (j:Int) (i:Nat):Nm:=if i=0 then⟨O5,⟨#[]⟩,-1⟩else if i=1 then⟨IS,⟨#[]⟩,-1⟩else⟨PO,O5,j⟩
def nmH (j:Int) (s:Ho×Dk):Nat->Ho×Dk
 |0=>s
 |i+1=>(jF (nmH j s i).1 (nmH j s i).2 (YF j i),jZ (nmH j s i).1 (nmH j s i).2 (YF j i))
def Sp (id j:Int) (u:Nat) (ns:List Nm) (qs:List (aj×Qu)):Ho:=⟨id,u,false,-1,0,ns,qs,List.replicate 4 ⟨[],0⟩,List.replicate 5 ⟨[],[]⟩,List.replicate 4 [],List.replicate 4 0,List.replicate 4 0⟩
def aew (id j:Int):Ho:=Sp id j 3 [⟨PO,O5,j⟩,⟨O5,⟨#[]⟩,-1⟩,⟨IS,⟨#[]⟩,-1⟩] [(cr,⟨[],0⟩),(O5,⟨[],0⟩),(IS,⟨[],0⟩)]
def aev (j:Int):List aj:=[jY (YF j 0),jY (YF j 1),jY (YF j 2)]
def Vo (s:aj):Prop:=s=O5\/s=IS
section
variable {κ:Type} [DecidableEq κ] {d:TypeDesc} {kv:κ->Value} {w0 w:World} {L:List HP} {P:Program} {b:Nat} {m:List (κ×Value)}
end
section
variable {κ:Type} [DecidableEq κ] {kd:TypeDesc} {kv:κ->Value}
variable {P:Program} {ops:Array Oper} {d:Bool} {Q:Exit->Act->World->Prop} {n:Nat} {D:List Deferred} {w0:World} {G:Env} {L R:List HP} {l:List (Kd×Oper)} {k:Kd}
 {t:Nat} {ty T KT E:TypeId} {pos:String} {af:Array Edge} {x y u:Operand} {v z:Value} {b:Nat} {m:List (κ×Value)}
end
def ais (T:List Int):List (Int×Value):=T.map fun k=>(k,.bool true)
section
variable {P:Program} {ops:Array Oper} {d:Bool} {Q:Exit->Act->World->Prop} {n:Nat} {D:List Deferred} {w0:World} {G:Env} {L R:List HP} {l:List (Kd×Oper)} {k:Kd}
 {t:Nat} {ty T:TypeId} {pos:String} {af:Array Edge} {x y z:Operand} {i:Nat} {a c:Int} {kk kk':IntKind}
end
def qS:aj:=⟨#[113]⟩
def aS:aj:=⟨#[97]⟩
def bS:aj:=⟨#[98]⟩
def nmQ:Nm:=⟨qS,⟨#[]⟩,-1⟩
def ka (u:Nat) (nx:Int) (q:Qu) (u0 u2:pI):Ho:=⟨1,u,false,-1,nx,[nmQ],[(cr,⟨[],0⟩),(qS,q)],List.replicate 4 ⟨[],0⟩,[u0,⟨[],[]⟩,u2,⟨[],[]⟩,⟨[],[]⟩],List.replicate 4 [],List.replicate 4 0,List.replicate 4 0⟩
def YH:Ms:=⟨1,3,aS,qS,1⟩
def kbM:Ms:=⟨5,3,bS,qS,1⟩
def k1:Ho:=ka 1 0 ⟨[],0⟩ ⟨[],[]⟩ ⟨[],[]⟩
def k2:Ho:=ka 1 1 ⟨[⟨YH,0,0,-1⟩],1⟩ ⟨[(YH,-1)],[]⟩ ⟨[],[]⟩
def k3:Ho:=ka 2 1 ⟨[⟨YH,1,-1,-1⟩],2⟩ ⟨[],[]⟩ ⟨[],[]⟩
def k4:Ho:=ka 2 2 ⟨[⟨YH,1,-1,-1⟩,⟨kbM,2,2,-1⟩],3⟩ ⟨[],[]⟩ ⟨[(kbM,-1)],[]⟩
def k5:Ho:=ka 2 1 ⟨[⟨YH,0,-1,-1⟩],1⟩ ⟨[],[]⟩ ⟨[],[]⟩
def kd1:Dk:=jZ (gx 1) qD nmQ
def kd3:Dk:=xX k2 kd1 0
def kU:pI:=⟨[(YH,-1)],[]⟩
theorem GX:E4 qD:=wW.ok ⟨by show(-4000000000000000000:Int)<=0;omega,by show(0:Int)<=9223372036854775807;omega⟩
theorem OB(id:Int):ij id qD=gx id:=tB wW (.nil _)
structure AcK where
 cR:Int
 k:Int
 n:Int
 m:Int
 unit:Int
def ak9 (x:AcK):List Value:=[.int .i64 x.cR,.int .i64 x.k,.int .i64 x.n,.int .i64 x.m,.int .i64 x.unit]
def iC (x:Int):List Value:=[.int .i64 x]
structure Hs where
 i:Nat
 bh:Nat
 H:Ho
 H0:Ho
 D:Dk
 R:List aj
 T:List Int
 us:List Value
 P:List (List Int)
 vs:List Value
 G:List (List Int)
structure aln (c:Nat) (s:Hs):Prop where
 L:agB Vo 0 c s.H s.H0 s.D s.R s.T (fun u=>s.P.getD u []) (fun u=>s.G.getD u [])
 us:s.us.length=5
 P:s.P.length=5
 vs:s.vs.length=5
 G:s.G.length=5
def qOf (k:Nat):aj:=if k=0 then O5 else IS
structure Dd where
 put:Bool
 m:Ms
 q:Nat
instance:Inhabited Dd:=⟨⟨false,default,0⟩⟩
structure Rh where
 id:Int
 names:List Nm
 keys:List aj
 all:List (List Ri)
 ay:List (List Dd)
 count:Int
 fD:Int
 bQ:List (List Int)
 made:List Int
 aC:List Int
 used:Int
 down:Bool
 off:Bool
 left:Int
namespace Rh
def kI (R:Rh) (s:aj):Option Nat:=R.keys.findIdx? fun x=>decide (x=s)
def lq (R:Rh) (q:Nat):List Ri:=R.all.getD q []
def uq (R:Rh) (u:Nat):List Dd:=R.ay.getD u []
def jJ (R:Rh) (k:Nat):List Int:=R.bQ.getD k []
def md (R:Rh) (k:Nat):Int:=R.made.getD k 0
def ar (R:Rh) (k:Nat):Int:=R.aC.getD k 0
def ff (R:Rh) (q:Nat) (l:List Ri):Rh:={R with all:=R.all.set q l}
end Rh
def CA (id:Int):Rh:=⟨id,[],[cr],List.replicate 5 [],List.replicate 5 [],0,0,List.replicate 4 [],List.replicate 4 0,List.replicate 4 0,0,false,false,0⟩
def FE (R:Rh) (n:Int):Rh:={R with off:=decide (0<=n),left:=n}
def cO (R:Rh) (u:Nat):Rh:={R with all:=R.all.map (fun l=>dL l (u:Int) true),ay:=R.ay.set u []}
def dX (R:Rh):Rh:={(List.range 5).foldl cO R with down:=false,count:=R.fD}
def eB (R:Rh):Int:=if R.down=true then 6 else if 300<=R.used then 4 else if R.off=true/\R.left=0 then 14 else 0
def eP (R:Rh):Rh:=if R.down=true then R else if 300<=R.used then R else if R.off=true/\R.left=0 then {R with down:=true}else {R with left:=wrap64 (R.left-1),used:=R.used+1}
def ln (R:Rh) (x:Nm):Int:=if kV R.names x≠0 then kV R.names x else if x.name=cr then 5 else eB R
def sK (R:Rh) (s:aj):Rh:={R with keys:=R.keys++[s],all:=R.all++[[]]}
def sI (R:Rh) (x:Nm):Rh:=
 let R1:={R with names:=iN R.names x}
 if x.gK=⟨#[]⟩/\R.kI x.name=none then sK R1 x.name else R1
def jt (R:Rh) (x:Nm):Rh:=if kV R.names x≠0 then R else if x.name=cr then R else if eB R≠0 then eP R else sI (eP R) x
def zx (R:Rh) (s:aj):Int:=if lk R.names s=none then 7 else if eB R≠0 then eB R else og R.names s
def DW (R:Rh) (s:aj):Rh:=if lk R.names s=none then R else if eB R≠0 then eP R else {eP R with names:=fU R.names s}
def kA (R:Rh) (s:aj):Option Nat:=if s=cr\/dJ R.names s=true then(R.kI s).map (4+ ·)else none
def dP (R:Rh) (s:aj):aj×Int×Int:=sj R.names (R.names.length+1) [] s
def lS (R:Rh) (s:aj):Int:=if(dP R s).2.1<0 then R.id else(dP R s).2.1
def cT (R:Rh) (s:aj):Nat:=if lS R s=R.id then 4+(R.kI (dP R s).1).getD 0 else(lS R s).toNat
def CB (R:Rh) (s:aj) (pri:Int) (body:aj):Ms:=⟨R.count *4+R.id,pri,body,(dP R s).1,lS R s⟩
def fO (R:Rh) (u:Int) (s:aj) (pri:Int) (body:aj):Int:=
 if ¬(0<=u/\u<=4)then 2 else if ¬(0<=pri/\pri<=9/\fJ body=true)then 1 else if(dP R s).2.2≠0 then(dP R s).2.2
 else if lS R s=R.id/\dJ R.names (dP R s).1=false then 7 else if R.down=true then 6 else iK (R.lq (cT R s)) (CB R s pri body)
def n7 (R:Rh) (u:Int) (s:aj) (pri:Int) (body:aj):Rh:=
 if fO R u s pri body≠0 then R else
 {R.ff (cT R s) (eT (R.lq (cT R s)) (CB R s pri body) u)with count:=R.count+1,ay:=R.ay.set u.toNat (R.uq u.toNat++[⟨true,CB R s pri body,cT R s⟩])}
def rf (R:Rh) (u:Int) (s:aj) (pri:Int) (body:aj):Int:=if fO R u s pri body≠0 then 0 else R.count *4+R.id
def gM (R:Rh) (u:Int) (s:aj):Int:=
 if ¬(0<=u/\u<=4)then 2 else match kA R s with
 |none=>7
 |some q=>if R.down=true then 6 else qy (R.lq q)
def nr (R:Rh) (u:Int) (s:aj):Ms:=if ¬(0<=u/\u<=4)then iP else match kA R s with
 |none=>iP
 |some q=>if R.down=true then iP else kK (R.lq q)
def nt (R:Rh) (u:Int) (s:aj):Rh:=if gM R u s≠0 then R else match kA R s with
 |none=>R
 |some q=>{R.ff q (oA (R.lq q) u)with ay:=R.ay.set u.toNat (R.uq u.toNat++[⟨false,kK (R.lq q),q⟩])}
def dS (R:Rh) (d:Dd):Rh:=if d.put=true then {R.ff d.q (eT (R.lq d.q) d.m (-1))with fD:=max R.fD (d.m.id/4+1)}else R
def dY (R:Rh) (d:Dd):Rh:=if d.put=true then R else R.ff d.q (dR (R.lq d.q) d.m.id)
def lT (R:Rh) (u:Int):Int:=if ¬(0<=u/\u<=4)then 2 else if R.uq u.toNat=[]then 8 else eB R
def ael (R:Rh) (u:Nat):Rh:=let l:=R.uq u;l.foldl dY (l.foldl dS (cO R u))
def qx (R:Rh) (u:Int):Rh:=if ¬(0<=u/\u<=4)then R else if R.uq u.toNat=[]then R else if eB R≠0 then eP R else
 (R.uq u.toNat).foldl dY ((R.uq u.toNat).foldl dS (cO (eP R) u.toNat))
def oU (R:Rh) (u:Int):Int:=if ¬(0<=u/\u<=4)then 2 else if R.uq u.toNat=[]then 8 else if R.down=true then 6 else 0
def xO (R:Rh) (u:Int):Rh:=if oU R u≠0 then R else cO R u.toNat
def jR (R:Rh) (s:aj):Int:=match kA R s with|none=>7|some _=>0
def jm (R:Rh) (s:aj):List Ms:=match kA R s with|none=>[]|some q=>eO (R.lq q)
def dA (R:Rh) (k:Int):Bool:=decide (0<=k)&&decide (k<=3)&&decide (k≠R.id)
def jl (R:Rh) (k:Int):Int:=if dA R k=true then 0 else 2
def s_ (R:Rh) (k:Int):List Ms:=if dA R k=true then iL (R.lq k.toNat)else[]
def jT (R:Rh) (k:Int):Bool:=dA R k&& !R.down&&decide (R.jJ k.toNat=[])&&decide (eO (R.lq k.toNat)≠[])
def jU (R:Rh) (k:Int):Int:=if dA R k=false then 2 else if R.down=true then 6 else if R.jJ k.toNat≠[]then 0 else if eO (R.lq k.toNat)=[]then 8 else eB R
def jb (R:Rh) (k:Int):Rh:=if jT R k=false then R else if eB R≠0 then eP R else
 {eP R with bQ:=R.bQ.set k.toNat (((eO (R.lq k.toNat)).take 3).map (·.id)),made:=R.made.set k.toNat (R.md k.toNat+1)}
def rF (m:Ms) (ds:List Int):List Ms:=ds.flatMap fun i=>if m.id=i then[m]else[]
def zA (R:Rh) (k:Int):List Ms:=(iL (R.lq k.toNat)).flatMap fun m=>rF m (R.jJ k.toNat)
def uT (R:Rh) (k:Int):Int:=if jU R k≠0 then 0 else(jb R k).md k.toNat
def nu (R:Rh) (k:Int):List Ms:=if jU R k≠0 then[]else zA (jb R k) k
def sJ (R:Rh) (k n:Int):Int:=if dA R k=false then 2 else if R.down=true then 6 else if R.jJ k.toNat=[]\/n≠R.md k.toNat then 8 else eB R
def uR (R:Rh) (k n:Int):Rh:=if dA R k=false then R else if R.down=true then R else if R.jJ k.toNat=[]\/n≠R.md k.toNat then R else if eB R≠0 then eP R else
 {(eP R).ff k.toNat ((R.jJ k.toNat).foldl dR (R.lq k.toNat))with bQ:=R.bQ.set k.toNat []}
def gS (R:Rh) (m:Ms):Bool:= !bD m|| !decide (m.bF=R.id)||decide (m.id%4=R.id)
def iS (R:Rh) (i:Int):Bool:=(R.all.drop 4).any fun l=>l.any fun e=>decide (e.m.id=i)
def h_:List Int->(Int->Bool)->Bool
 |[],_=>false
 |i::r,p=>p i||h_ r (fun j=>p j||decide (j=i))
def fP (R:Rh) (m:Ms):Nat:=if dJ R.names m.queue=true/\((R.lq (4+(R.kI m.queue).getD 0)).length<20)then 4+(R.kI m.queue).getD 0 else 4+(R.kI cr).getD 0
def dB (R:Rh) (m:Ms):Rh:=R.ff (fP R m) (eT (R.lq (fP R m)) m (-1))
def rV (R:Rh) (k n:Int):Bool:=dA R k&& !R.down&&decide (n=R.ar k.toNat+1)
def nw (R:Rh) (k n:Int) (l:List Ms):Int:=if dA R k=false then 2 else if R.down=true then 6 else if n<=R.ar k.toNat then 0 else if R.ar k.toNat+1<n then 10
 else if l.any (gS R)=true then 1 else if h_ (l.map (·.id)) (iS R)=true then 9 else eB R
def pV (R:Rh) (k n:Int) (l:List Ms):Bool:=rV R k n&& !l.any (gS R)&& !h_ (l.map (·.id)) (iS R)
def qJ (R:Rh) (k n:Int) (l:List Ms):Rh:=if pV R k n l=false then R else if eB R≠0 then eP R else l.foldl dB {eP R with aC:=R.aC.set k.toNat (R.ar k.toNat+1)}
def rh (R:Rh) (k n:Int) (l:List Ms):Int:=if nw R k n l≠0 then 0 else if n<=R.ar k.toNat then R.ar k.toNat else R.ar k.toNat+1
def eZ (ks:List aj) (ps:List Nat):List (aj×Value):=List.zipWith (fun k p=>(k,Value.pointer (some ⟨p,0,none⟩))) ks ps
theorem F_:∀(ks:List aj) (ps:List Nat) (s:aj),ps.length=ks.length->
 gj (eZ ks ps) s=(ks.findIdx? fun x=>decide (x=s)).bind fun i=>(ps[i]?).map fun p=>Value.pointer (some ⟨p,0,none⟩)
 |[],[],_,_=>rfl
 |x::ks,p::ps,s,h=>by
  have ih:=F_ ks ps s Ic;unfold eZ at *;rw[List.zipWith_cons_cons,gj,List.findIdx?_cons];by_cases e:x=s
  ·simp[e]
  ·simp only[e,decide_false,if_false];rw[ih];cases List.findIdx? (fun x=>decide (x=s)) ks<;>simp
theorem F9:∀(ks:List aj) (ps:List Nat) (s:aj) (p:Nat),ps.length=ks.length->(ks.findIdx? fun x=>decide (x=s))=none->
 iU (eZ ks ps) s (Value.pointer (some ⟨p,0,none⟩))=eZ (ks++[s]) (ps++[p])
 |[],[],_,_,_,_=>rfl
 |x::ks,p'::ps,s,p,h,h2=>by
  rw[List.findIdx?_cons]at h2;by_cases e:x=s
  ·simp[e]at h2
  ·simp only[e,decide_false,Bool.false_eq_true,if_false]at h2;have ih:=F9 ks ps s p Ic Vg;unfold eZ at *;simp only[bz,List.zipWith_cons_cons];rw[iU];simp only[e,if_false];rw[ih]
def GY (ps:List Nat) (d:Dd):List Value:=.bool d.put::(dy d.m++[.pointer (some ⟨ps.getD d.q 0,0,none⟩)])
structure Bc where
 nv:Value
 mb:Nat
 ps:List Nat
 us:List Value
 ds:List Value
structure dz (V:Bc) (R:Rh):Prop where
 ps:V.ps.length=R.all.length
 al:R.all.length=4+R.keys.length
 us:V.us.length=5
 un:R.ay.length=5
 ds:V.ds.length=4
 db:R.bQ.length=4
 md:R.made.length=4
 ar:R.aC.length=4
 dq:∀l∈R.ay,∀d∈l,d.q<R.all.length
theorem dz.same{V:Bc}{R R':Rh}(h:dz V R)(e1:R'.all=R.all)(e2:R'.keys=R.keys)(e3:R'.ay=R.ay)(e4:R'.bQ=R.bQ)(e5:R'.made.length=R.made.length)(e6:R'.aC.length=R.aC.length):dz V R':=
 ⟨by rw[e1];exact h.ps,by rw[e1,e2];exact h.al,h.us,by rw[e3];exact h.un,h.ds,by rw[e4];exact h.db,by rw[e5];exact h.md,by rw[e6];exact h.ar,by rw[e1,e3];exact h.dq⟩
def du (V:Bc) (R:Rh):List Value:=
 [.int .i64 R.id,V.nv,.map (some V.mb)]++((V.ps.take 4).map (fun p=>Value.pointer (some ⟨p,0,none⟩))++(V.us++([.int .i64 R.count,.int .i64 R.fD]++(V.ds++(R.made.map (Value.int .i64)++(R.aC.map (Value.int .i64)++[.int .i64 R.used,.bool R.down,.bool R.off,.int .i64 R.left]))))))
theorem da{α:Type}{A B:List α}{a:Nat}(h:A.length=a)(i:Nat):(A++B)[a+i]? =B[i]? :=by rw[bp ae,h,Nat.add_sub_cancel_left]
theorem cN{α:Type}{A B:List α}{a:Nat}(h:A.length=a)(i:Nat)(v:α):(A++B).set (a+i) v=A++B.set i v:=by rw[List.set_append_right _ _ ae,h,Nat.add_sub_cancel_left]
theorem pA{α:Type}{A B:List α}{i:Nat}(h:i<A.length):(A++B)[i]? =A[i]? :=List.getElem?_append_left h
theorem nO{α:Type}{A B:List α}{i:Nat}(h:i<A.length)(v:α):(A++B).set i v=A.set i v++B:=List.set_append_left _ _ h
section
variable {V:Bc} {R:Rh}
theorem dz.w4(h:dz V R):((V.ps.take 4).map (fun p=>Value.pointer (some ⟨p,0,none⟩))).length=4:=by have :=h.ps;have :=h.al;simp;omega
theorem fL(h:dz V R):(du V R).length=30:=by
 have :=h.w4;unfold du;simp only[aW,aX,h.us,h.ds,h.md,h.ar,List.length_cons,List.length_nil]at this ⊢;omega
theorem uS(h:dz V R){j p:Nat}(hj:j<4)(hp:V.ps[j]? =some p):(du V R)[3+j]? =some (.pointer (some ⟨p,0,none⟩)):=by
 unfold du;rw[da (a:=3) rfl,pA (by rw[h.w4];exact hj),aG,List.getElem?_take,if_pos hj,hp];rfl
theorem DX(h:dz V R){u:Nat}(hu:u<5):(du V R)[7+u]? =V.us[u]? :=by
 unfold du;rw[show 7+u=3+(4+u)by omega,da (a:=3) rfl,da h.w4,pA (by rw[h.us];exact hu)]
theorem td(h:dz V R){u:Nat}(hu:u<5)(v:Value):(du V R).set (7+u) v=du {V with us:=V.us.set u v} R:=by
 unfold du;rw[show 7+u=3+(4+u)by omega,cN (a:=3) rfl,cN h.w4,nO (by rw[h.us];exact hu)]
theorem Oe(h:dz V R){i:Nat}(hi:i<2):(du V R)[12+i]? =[Value.int .i64 R.count,.int .i64 R.fD][i]? :=by
 unfold du;rw[show 12+i=3+(4+(5+i))by omega,da (a:=3) rfl,da h.w4,da h.us,pA (by simpa using hi)]
theorem CH(h:dz V R)(c:Int):(du V R).set 12 (.int .i64 c)=du V {R with count:=c}:=by
 unfold du;rw[show 12=3+(4+(5+0))by omega,cN (a:=3) rfl,cN h.w4,cN h.us,nO ai];rfl
theorem L5(h:dz V R)(c:Int):(du V R).set 13 (.int .i64 c)=du V {R with fD:=c}:=by
 unfold du;rw[show 13=3+(4+(5+1))by omega,cN (a:=3) rfl,cN h.w4,cN h.us,nO ai];rfl
theorem vW(h:dz V R){k:Nat}(hk:k<4):(du V R)[14+k]? =V.ds[k]? :=by
 unfold du;rw[show 14+k=3+(4+(5+(2+k)))by omega,da (a:=3) rfl,da h.w4,da h.us,da (a:=2) rfl,pA (by rw[h.ds];exact hk)]
theorem zz(h:dz V R){k:Nat}(hk:k<4)(v:Value):(du V R).set (14+k) v=du {V with ds:=V.ds.set k v} R:=by
 unfold du;rw[show 14+k=3+(4+(5+(2+k)))by omega,cN (a:=3) rfl,cN h.w4,cN h.us,cN (a:=2) rfl,nO (by rw[h.ds];exact hk)]
theorem DY(h:dz V R){k:Nat}(hk:k<4):(du V R)[18+k]? =some (.int .i64 (R.md k)):=by
 have hm:=h.md;unfold du;rw[show 18+k=3+(4+(5+(2+(4+k))))by omega,da (a:=3) rfl,da h.w4,da h.us,da (a:=2) rfl,da h.ds,pA ez,aG];unfold Rh.md;rw[au,ak ae];rfl
theorem zy(h:dz V R){k:Nat}(hk:k<4)(x:Int):(du V R).set (18+k) (.int .i64 x)=du V {R with made:=R.made.set k x}:=by
 have hm:=h.md;unfold du;rw[show 18+k=3+(4+(5+(2+(4+k))))by omega,cN (a:=3) rfl,cN h.w4,cN h.us,cN (a:=2) rfl,cN h.ds,nO ez,<-List.map_set]
theorem IM(h:dz V R){k:Nat}(hk:k<4):(du V R)[22+k]? =some (.int .i64 (R.ar k)):=by
 have hm:=h.md;have ha:=h.ar;unfold du;rw[show 22+k=3+(4+(5+(2+(4+(4+k)))))by omega,da (a:=3) rfl,da h.w4,da h.us,da (a:=2) rfl,da h.ds,da ez,pA ez,aG];unfold Rh.ar;rw[au,ak ae];rfl
theorem IL(h:dz V R){k:Nat}(hk:k<4)(x:Int):(du V R).set (22+k) (.int .i64 x)=du V {R with aC:=R.aC.set k x}:=by
 have hm:=h.md;have ha:=h.ar;unfold du;rw[show 22+k=3+(4+(5+(2+(4+(4+k)))))by omega,cN (a:=3) rfl,cN h.w4,cN h.us,cN (a:=2) rfl,cN h.ds,cN ez,nO ez,<-List.map_set]
theorem jS(h:dz V R)(i:Nat):(du V R)[26+i]? =[Value.int .i64 R.used,.bool R.down,.bool R.off,.int .i64 R.left][i]? :=by
 have hm:=h.md;have ha:=h.ar;unfold du;rw[show 26+i=3+(4+(5+(2+(4+(4+(4+i))))))by omega,da (a:=3) rfl,da h.w4,da h.us,da (a:=2) rfl,da h.ds,da ez,da ez]
theorem rU(h:dz V R)(i:Nat)(v:Value):(du V R).set (26+i) v=
 [.int .i64 R.id,V.nv,.map (some V.mb)]++((V.ps.take 4).map (fun p=>Value.pointer (some ⟨p,0,none⟩))++(V.us++([.int .i64 R.count,.int .i64 R.fD]++(V.ds++(R.made.map (Value.int .i64)++(R.aC.map (Value.int .i64)++([.int .i64 R.used,.bool R.down,.bool R.off,.int .i64 R.left].set i v))))))):=by
 have hm:=h.md;have ha:=h.ar;unfold du;rw[show 26+i=3+(4+(5+(2+(4+(4+(4+i))))))by omega,cN (a:=3) rfl,cN h.w4,cN h.us,cN (a:=2) rfl,cN h.ds,cN ez,cN ez]
theorem L4(h:dz V R)(x:Int):(du V R).set 26 (.int .i64 x)=du V {R with used:=x}:=rU h 0 _
theorem CG(h:dz V R)(x:Bool):(du V R).set 27 (.bool x)=du V {R with down:=x}:=rU h 1 _
theorem CD(h:dz V R)(x:Bool):(du V R).set 28 (.bool x)=du V {R with off:=x}:=rU h 2 _
theorem CF(h:dz V R)(x:Int):(du V R).set 29 (.int .i64 x)=du V {R with left:=x}:=rU h 3 _
end
structure gd (n:Nat) (R:Rh):Prop where
 id:0<=R.id/\R.id<=3
 fT:R.names.length<=20
 right:∀x∈R.names,bK x=true
 al:R.all.length=4+R.keys.length
 Ed:R.keys.length<=1000
 nodup:R.keys.Nodup
 dead:∃i,R.kI cr=some i
 loc:∀s,dJ R.names s=true->∃i,R.kI s=some i
 len:∀l∈R.all,l.length<=n
 ids:∀l∈R.all,∀e∈l,0<=e.m.id/\e.m.id<=1099511627776
 un:R.ay.length=5
 Bw:∀l∈R.ay,l.length<=n
 dq:∀l∈R.ay,∀d∈l,d.q<R.all.length/\0<=d.m.id/\d.m.id<=1099511627776
 count:0<=R.count/\R.count<=274877906945
 fD:0<=R.fD/\R.fD<=274877906945
 db:R.bQ.length=4
 GV:∀l∈R.bQ,l.length<=3
 md:R.made.length=4/\∀x∈R.made,0<=x/\x<=(n:Int)
 ar:R.aC.length=4/\∀x∈R.aC,0<=x/\x<=(n:Int)
 used:0<=R.used/\R.used<=300
 left: -9223372036854775808<=R.left/\R.left<=9223372036854775807
end WB
namespace Go.Proofs.YtjhogocabcdjbabGreatDoor
open Tryz
open Go Go.RowKit WB
abbrev fK (p:Nat):Value:=.pointer (some ⟨p,0,none⟩)
abbrev mZ (ps:List Nat) (v:Value) (l:List Dd):HP:=SL 278 7 (GY ps) v l
abbrev ly (v:Value) (l:List Int):HP:=SL 3 1 iC v l
abbrev l4 (b:Nat) (V:Bc) (R:Rh) (L:List HP):List HP:=
 bA b (.cells (du V R).toArray 97 (0,0))::fb V.nv R.names::bP Value.string V.mb (eZ R.keys (V.ps.drop 4))::bI gR V.ps R.all::bI (mZ V.ps) V.us R.ay::bI ly V.ds R.bQ::L
def gL (b:Nat) (R:Rh):HP:=ex fun V:Bc=>sep (Mb (dz V R)) (iR (l4 b V R []))
theorem cI{w0 w:World}{b:Nat}{R:Rh}{L:List HP}(h:St w0 (gL b R::L) w):∃V:{V:Bc//dz V R},St w0 (l4 b V.1 R L) w:=by
 obtain⟨V,h⟩:=h.Iq;obtain⟨hV,h⟩:=h.split.xP;exact⟨⟨V,hV⟩,by have :=h.splits;exact this⟩
theorem bX{w0 w:World}{b:Nat}{R:Rh}{L:List HP}(V:Bc)(hV:dz V R)(h:St w0 (l4 b V R L) w):St w0 (gL b R::L) w:=
 St.GR (F:=fun V=>sep (Mb (dz V R)) (iR (l4 b V R []))) V (St.join (St.BB hV (St.KZ (L:=l4 b V R []) h)))
theorem iH{w0 w:World}{b:Nat}{R:Rh}{L M:List HP}(h:St w0 L w)(hp:bB L (gL b R) M):
 ∃V,dz V R/\∀i v,(du V R)[i]? =some v->w.cell? ⟨b,i,none⟩=some v:=by
 obtain⟨V,h1⟩:=cI (h.pick hp);refine⟨V.1,V.2,fun i v hv=>?_⟩;rw[World.cell?,h1.look.2];simpa using hv
theorem RT(w0:World)(L:List HP)(b:Nat)(R:Rh)(n:Int):KC prog 37 #[fK b,.int .i64 n] w0 (gL b R::L) (fun u M=>u=.tuple #[]/\M=gL b (FE R n)::L):=by
 refine KC.mk (n:=13) func37 rfl ntmps37 ai ?_;refine K.bV (fun _ h=>cI h) ?_;rintro⟨V,hV⟩;dsimp only;have hl:=fL hV;have lI:dz V {R with off:=decide (0<=n)}:=hV.same rfl rfl rfl rfl rfl rfl;have Bj:=fL lI;refine cW ?_;refine gZ ?_;refine qG ?_;refine sB ?_;refine KO.fG (off:=28) rfl runUnderlying97 rfl rfl sizeOf4 rfl ?_;refine KO.fu (i:=28) rfl rfl rfl aN Zr rfl br rfl (by rw[hl];omega) ?_;rw[CD hV];refine iD ?_;refine Qw ?_;refine KO.fu (i:=29) rfl rfl rfl aN uc rfl br rfl (by rw[Bj];omega) ?_;rw[CF lI];refine jk ?_;refine KQ.wV rfl (fun w' aM=>⟨_,_,rfl,⟨rfl,rfl⟩,?_⟩);exact bX V (lI.same rfl rfl rfl rfl rfl rfl) (aM.all ft)
theorem rT(w0:World)(L M:List HP)(b:Nat)(R:Rh)(k:Int)(hp:bB L (gL b R) M):KE prog 89 #[fK b,.int .i64 k] w0 L (fun u N=>u=.bool (dA R k)/\N=L):=by
 refine KE.mk (n:=15) func89 rfl ntmps89 ai ?_;intro w hw;obtain⟨V,hV,hc⟩:=iH hw hp;have WL:=hc 0 _ rfl;refine x6 ?_;by_cases h1:0<=k/\k<=3
 ·refine cW ?_;refine KO.ce (cp:=[]) rfl rfl rfl call118 rfl (kC w _ _ _ _) ?_;rintro v' L' ⟨rfl,rfl⟩;rw[show(decide ((0:Int)<=k)&&decide (k<=3))=true by simp[h1.1,h1.2]];refine BQ ?_;refine Hw ?_;refine Ka ?_;refine KO.on rfl rfl rfl ?_;refine KO.sl rfl rfl isAgg3 WL rfl ?_;refine Ni ?_;refine ER ?_;refine KQ.aU rfl rfl (fun w' hs=>⟨_,_,rfl,⟨?_,rfl⟩,hw.aA hs.below,hs.below⟩);unfold dA;simp[h1.1,h1.2]
 ·refine cW ?_;refine KO.ce (cp:=[]) rfl rfl rfl call118 rfl (kC w _ _ _ _) ?_;rintro v' L' ⟨rfl,rfl⟩;rw[show(decide ((0:Int)<=k)&&decide (k<=3))=false by simpa using h1];refine BW ?_;refine vH ?_;refine KQ.aU rfl rfl (fun w' hs=>⟨_,_,rfl,⟨?_,rfl⟩,hw.aA hs.below,hs.below⟩);unfold dA;rw[show(decide ((0:Int)<=k)&&decide (k<=3))=false by simpa using h1];rfl
end Go.Proofs.YtjhogocabcdjbabGreatDoor
namespace WB
open Go Go.RowKit
def kJ {α:Type} [Inhabited α] (f:α->α) (l:List α) (js:List Nat):List α:=js.foldl (fun l j=>l.set j (f (l.getD j default))) l
section
variable {α:Type} [Inhabited α] {f:α->α}
theorem zg(l:List α)(js:List Nat)(j:Nat):kJ f l (js++[j])=(kJ f l js).set j (f ((kJ f l js).getD j default)):=by unfold kJ;rw[List.foldl_append];rfl
theorem Cn:∀(js:List Nat) (l:List α),(kJ f l js).length=l.length
 |[],_=>rfl
 |j::js,l=>by
  show(kJ f (l.set j _) js).length=_
  rw[Cn js,List.length_set]
theorem Cp{p:α->Prop}(hf:∀x,p x->p (f x)):∀(js:List Nat) (l:List α),(∀x∈l,p x)->∀x∈kJ f l js,p x
 |[],_,h=>h
 |j::js,l,h=>by
  refine Cp hf js (l.set j (f (l.getD j default))) fun x hx=>?_
  rcases aD hx with h1|h1
  ·exact h x h1
  ·by_cases hj:j<l.length
   ·rw[h1];refine hf _ (h _ ?_);rw[au,ak hj];exact List.getElem_mem hj
   ·rw[List.set_eq_of_length_le ae]at hx;exact h x hx
theorem Co:∀(js:List Nat) (l:List α),js.Nodup->∀i,(kJ f l js)[i]? =if i∈js then(l[i]?).map f else l[i]?
 |[],l,_,i=>by simp[kJ]
 |j::js,l,h,i=>by
  obtain⟨h1,h2⟩:=bL.1 h
  show(kJ f (l.set j (f (l.getD j default))) js)[i]? =_
  rw[Co js _ h2 i,List.getElem?_set];by_cases e:i=j
  ·subst e;rw[if_neg h1,if_pos rfl];rw[if_pos (show i∈i::js from List.mem_cons_self ..)];by_cases hl:i<l.length
   ·rw[if_pos hl,ak hl,au,ak hl];rfl
   ·rw[if_neg hl,cc ae];rfl
  ·have e2:¬j=i:=fun x=>e x.symm
   rw[if_neg e2];by_cases hm:i∈js
   ·rw[if_pos hm,if_pos (List.mem_cons_of_mem _ hm)]
   ·rw[if_neg hm,if_neg (by simp[e,hm])]
theorem LO{l:List α}{js:List Nat}(h:js.Perm (List.range l.length)):kJ f l js=l.map f:=by
 apply List.ext_getElem?;intro i;rw[Co js l (h.nodup_iff.2 List.nodup_range),aG];by_cases hi:i<l.length
 ·rw[if_pos (h.mem_iff.2 (cE.2 hi))]
 ·rw[if_neg fun hm=>hi (cE.1 (h.mem_iff.1 hm)),cc ae];rfl
end
theorem CL(l:List Ri)(u:Int)(b:Bool):(dL l u b).length<=l.length:=by
 unfold dL;split
 ·exact aP _
 ·rw[aX];exact List.length_filter_le _ _
theorem L7{l:List Ri}{u:Int}{b:Bool}(h:∀e∈l,0<=e.m.id/\e.m.id<=1099511627776):∀e∈dL l u b,0<=e.m.id/\e.m.id<=1099511627776:=by
 unfold dL;split
 ·exact h
 ·intro e he;obtain⟨a,ha,rfl⟩:=aB.1 he;exact h a (aF.1 ha).1
theorem vU{l:List Ri}{i:Int}{e:Ri}(h:e∈dR l i):e∈l:=by
 unfold dR at h;split at h
 ·exact h
 ·exact List.mem_of_mem_eraseIdx h
theorem Ct(l:List Ri)(i:Int):(dR l i).length<=l.length:=by
 unfold dR;split
 ·exact aP _
 ·rw[List.length_eraseIdx];split<;>omega
section
variable {n:Nat} {R:Rh}
theorem gd.le(h:gd n R){k:Nat}(hk:n<=k):gd k R:=
 ⟨h.id,h.fT,h.right,h.al,h.Ed,h.nodup,h.dead,h.loc,fun l hl=>Nat.le_trans (h.len l hl) hk,h.ids,h.un,fun l hl=>Nat.le_trans (h.Bw l hl) hk,h.dq,h.count,h.fD,h.db,h.GV,
  ⟨h.md.1,fun x hx=>by have :=h.md.2 x hx;omega⟩,⟨h.ar.1,fun x hx=>by have :=h.ar.2 x hx;omega⟩,h.used,h.left⟩
theorem gd.lq(h:gd n R)(q:Nat):(R.lq q).length<=n/\∀e∈R.lq q,0<=e.m.id/\e.m.id<=1099511627776:=by
 unfold Rh.lq;rw[au];cases hq:R.all[q]? with
 |none=>exact⟨aH _,fun e he=>by cases he⟩
 |some l=>exact⟨h.len l (ax hq),h.ids l (ax hq)⟩
theorem nB{q:Nat}(hq:q<R.all.length):R.all[q]? =some (R.lq q):=by
 unfold Rh.lq;rw[au,ak hq];rfl
theorem uB{u:Nat}(hu:u<R.ay.length):R.ay[u]? =some (R.uq u):=by
 unfold Rh.uq;rw[au,ak hu];rfl
theorem AH{k:Nat}(hk:k<R.bQ.length):R.bQ[k]? =some (R.jJ k):=by
 unfold Rh.jJ;rw[au,ak hk];rfl
theorem CW{s:aj}{i:Nat}(h:R.kI s=some i):i<R.keys.length:=(List.findIdx?_eq_some_iff_getElem.1 h).1
theorem gd.of(h:gd n R){s:aj}{q:Nat}(hq:kA R s=some q):q<R.all.length:=by
 unfold kA at hq;split at hq
 ·cases hk:R.kI s with
  |none=>rw[hk]at hq;cases hq
  |some i=>rw[hk]at hq;have :=CW hk;have :=h.al;simp only[Option.map_some,az]at hq;omega
 ·cases hq
theorem gd.take(h:gd n R)(u:Nat):gd n (cO R u):=by
 have hd:(cO R u).all.length=R.all.length:=by unfold cO;simp
 refine⟨h.id,h.fT,h.right,by rw[hd];exact h.al,h.Ed,h.nodup,h.dead,h.loc,fun l hl=>?_,fun l hl=>?_,by unfold cO;simp[h.un],fun l hl=>?_,fun l hl d wQ=>?_,h.count,h.fD,h.db,h.GV,h.md,h.ar,h.used,h.left⟩
 ·obtain⟨a,ha,rfl⟩:=aB.1 hl;exact Nat.le_trans (CL _ _ _) (h.len a ha)
 ·obtain⟨a,ha,rfl⟩:=aB.1 hl;exact L7 (h.ids a ha)
 ·rcases aD hl with h1|h1
  ·exact h.Bw l h1
  ·rw[h1];exact aH _
 ·rw[hd];rcases aD hl with h1|h1
  ·exact h.dq l h1 d wQ
  ·rw[h1]at wQ;cases wQ
theorem gd.uE:∀(us:List Nat) {R:Rh},gd n R->gd n (us.foldl cO R)
 |[],_,h=>h
 |u::us,_,h=>gd.uE us (h.take u)
theorem gd.cells(h:gd n R){R':Rh}(e1:R'.id=R.id)(e2:R'.names=R.names)(e3:R'.keys=R.keys)(e4:R'.all=R.all)(e5:R'.ay=R.ay)(e6:R'.bQ=R.bQ)(hc:0<=R'.count/\R'.count<=274877906945)(hb:0<=R'.fD/\R'.fD<=274877906945)(hm:R'.made.length=4/\∀x∈R'.made,0<=x/\x<=(n:Int))(ha:R'.aC.length=4/\∀x∈R'.aC,0<=x/\x<=(n:Int))(hu:0<=R'.used/\R'.used<=300)(hl: -9223372036854775808<=R'.left/\R'.left<=9223372036854775807):gd n R':=
 ⟨by rw[e1];exact h.id,by rw[e2];exact h.fT,by rw[e2];exact h.right,by rw[e3,e4];exact h.al,by rw[e3];exact h.Ed,by rw[e3];exact h.nodup,by obtain⟨i,hi⟩:=h.dead;exact⟨i,by unfold Rh.kI;rw[e3];exact hi⟩,
  fun s hs=>by rw[e2]at hs;obtain⟨i,hi⟩:=h.loc s hs;exact⟨i,by unfold Rh.kI;rw[e3];exact hi⟩,by rw[e4];exact h.len,by rw[e4];exact h.ids,by rw[e5];exact h.un,by rw[e5];exact h.Bw,by rw[e4,e5];exact h.dq,hc,hb,by rw[e6];exact h.db,by rw[e6];exact h.GV,hm,ha,hu,hl⟩
theorem wrap64_in(x:Int): -9223372036854775808<=wrap64 x/\wrap64 x<=9223372036854775807:=by unfold wrap64;omega
theorem ib(R:Rh):(eP R).id=R.id/\(eP R).names=R.names/\(eP R).keys=R.keys/\(eP R).all=R.all/\(eP R).ay=R.ay/\(eP R).bQ=R.bQ/\(eP R).count=R.count/\(eP R).fD=R.fD/\(eP R).made=R.made/\(eP R).aC=R.aC:=by
 unfold eP;split
 ·exact⟨rfl,rfl,rfl,rfl,rfl,rfl,rfl,rfl,rfl,rfl⟩
 ·split
  ·exact⟨rfl,rfl,rfl,rfl,rfl,rfl,rfl,rfl,rfl,rfl⟩
  ·split<;>exact⟨rfl,rfl,rfl,rfl,rfl,rfl,rfl,rfl,rfl,rfl⟩
theorem gd.w(h:gd n R):gd n (eP R):=by
 have hu:=h.used;unfold eP;split
 ·exact h
 ·split
  ·exact h
  ·split
   ·exact h.cells rfl rfl rfl rfl rfl rfl h.count h.fD h.md h.ar h.used h.left
   ·exact h.cells rfl rfl rfl rfl rfl rfl h.count h.fD h.md h.ar ⟨by dsimp only;omega,by dsimp only;omega⟩ (wrap64_in _)
theorem gd.ff(h:gd n R){q:Nat}{l:List Ri}(h1:l.length<=n)(h2:∀e∈l,0<=e.m.id/\e.m.id<=1099511627776):gd n (R.ff q l):=by
 have hd:(R.ff q l).all.length=R.all.length:=by unfold Rh.ff;simp
 refine⟨h.id,h.fT,h.right,by rw[hd];exact h.al,h.Ed,h.nodup,h.dead,h.loc,fun x hx=>?_,fun x hx=>?_,h.un,h.Bw,fun x hx d wQ=>by rw[hd];exact h.dq x hx d wQ,h.count,h.fD,h.db,h.GV,h.md,h.ar,h.used,h.left⟩
 ·rcases aD hx with h3|h3
  ·exact h.len x h3
  ·rw[h3];exact h1
 ·rcases aD hx with h3|h3
  ·exact h.ids x h3
  ·rw[h3];exact h2
end
section
variable {P:Program} {ops:Array Oper} {d:Bool} {Q:Exit->Act->World->Prop} {n:Nat} {D:List Deferred} {w0:World} {G:Env} {L R:List HP} {l:List (Kd×Oper)} {k:Kd}
 {t:Nat} {ty T T':TypeId} {pos:String} {af:Array Edge} {x y:Operand} {a c:Int}
theorem KO.aee(hx:ev G x=some (.int .i64 a))(hy:ev G y=some (.int .i64 c))(ht:Nat.blt t n=true)(h:KO P ops d Q n D w0 ((t,.int .i64 (wrap64 (a-c)))::G) L l):KO P ops d Q n D w0 G L ((k,⟨some t,.binOp .sub T x y T',ty,pos,af,none⟩)::l):=
 KO.val (fun b w ha=>by
  have e:IntKind.i64.wrap (a-c)=wrap64 (a-c):=by rw[IntKind.wrap_i64];unfold wrap64;omega
  simp[execOp,ha.eval hx,ha.eval hy,eqGuard_at_int,binOp_sub,Op.intArith,e]) ht h
end
theorem oe{α:Type}:∀{l:List α} {i:Nat} (h:i<l.length),(l[i]::l.eraseIdx i).Perm l
 |a::l,0,_=>.refl _
 |a::l,i+1,h=>(List.Perm.swap _ _ _).trans ((oe (l:=l) (i:=i) Ic).cons a)
theorem p8{α β:Type}(f:α->β):∀(l:List α) (i:Nat),(l.map f).eraseIdx i=(l.eraseIdx i).map f
 |[],_=>rfl
 |a::l,0=>rfl
 |a::l,i+1=>by simp[p8 f l i]
theorem SA{ks:List aj}{ps:List Nat}(h:ps.length=ks.length){r:Nat}(hr:r<ks.length):∃s,(eZ ks ps).getD r default=(s,Value.pointer (some ⟨ps.getD r 0,0,none⟩)):=by
 obtain⟨x,hx⟩:∃e,ks[r]? =some e:=⟨_,ak hr⟩;obtain⟨p,hp⟩:∃e,ps[r]? =some e:=⟨_,ak ae⟩;refine⟨x,?_⟩;unfold eZ;rw[au,List.getElem?_zipWith,hx,hp,au,hp];rfl
theorem tF{ks:List aj}{ps:List Nat}(h:ps.length=ks.length):(List.range ks.length).map (fun r=>(eZ ks ps).getD r default)=eZ ks ps:=by
 have hl:(eZ ks ps).length=ks.length:=by unfold eZ;rw[List.length_zipWith];omega
 rw[<-hl];apply List.ext_getElem
 ·simp
 ·intro i h1 h2;simp[au,ak h2]
theorem MU{α β:Type}{f g:α->β->HP}:∀(ps:List α) {xs:List β},(∀x∈xs,∀p,f p x=g p x)->bI f ps xs=bI g ps xs:=fun ps {xs} h=>by
 unfold bI;congr 1
 induction ps generalizing xs with
 |nil=>rfl
 |cons p ps ih=>
  cases xs with
  |nil=>rfl
  |cons x xs=>
   rw[List.zipWith_cons_cons,List.zipWith_cons_cons,h x ai,ih fun y hy p=>h y (List.mem_cons_of_mem _ hy) p]
theorem tL{α β:Type}{f g:α->List β}:∀{l:List α},(∀x∈l,f x=g x)->l.flatMap f=l.flatMap g
 |[],_=>rfl
 |a::l,h=>by rw[bj,bj,h a ai,tL fun x hx=>h x (List.mem_cons_of_mem _ hx)]
theorem PV{E:TypeId}{ps:List Nat}{b:Nat}{us:List Value}{xs:List (List Dd)}(h:∀l∈xs,∀d∈l,d.q<ps.length):
 bI (fun v l=>SL E 7 (GY ps) v l) us xs=bI (fun v l=>SL E 7 (GY (ps++[b])) v l) us xs:=by
 refine MU us fun l hl v=>?_
 show SL E 7 (GY ps) v l=SL E 7 (GY (ps++[b])) v l
 unfold SL;rw[tL (f:=GY ps) (g:=GY (ps++[b])) fun d hd=>?_];unfold GY;rw[au,au,List.getElem?_append_left (h l hl d hd)]
def OH (id:Int) (mb:Nat) (k:List Nat):List Value:=
 [.int .i64 id,.slice none 0 0,.map (some mb)]++((k.map (fun p=>Value.pointer (some ⟨p,0,none⟩))++List.replicate (4-k.length) (.pointer none))++(List.replicate 5 (.slice none 0 0)++([.int .i64 0,.int .i64 0]++(List.replicate 4 (.slice none 0 0)++(List.replicate 4 (.int .i64 0)++(List.replicate 4 (.int .i64 0)++[.int .i64 0,.bool false,.bool false,.int .i64 0]))))))
theorem KM{id:Int}{mb:Nat}{k:List Nat}(p:Nat)(h:k.length<4):(OH id mb k).set (3+k.length) (.pointer (some ⟨p,0,none⟩))=OH id mb (k++[p])/\(OH id mb k).length=30:=by
 constructor
 ·unfold OH;have e:∀j,4-k.length=j+1->(k.map (fun p=>Value.pointer (some ⟨p,0,none⟩))++List.replicate (4-k.length) (Value.pointer none)).set k.length (Value.pointer (some ⟨p,0,none⟩))=((k++[p]).map (fun p=>Value.pointer (some ⟨p,0,none⟩))++List.replicate (4-(k++[p]).length) (Value.pointer none)):=fun j hj=>by
   rw[hj,show 4-(k++[p]).length=j by simp;omega,List.set_append_right _ _ ai,aX,Nat.sub_self,List.replicate_succ,List.set_cons_zero,aZ];simp
  rw[cN (a:=3) rfl,nO ez,e (3-k.length) ae]
 ·unfold OH;simp;omega
theorem I2{l:List Nm}{s:aj}{x:Nm}(h:lk l s=some x):x∈l/\x.name=s:=by
 unfold lk at h;exact⟨List.mem_of_find?_eq_some h,by simpa using List.find?_some h⟩
theorem tf{l:List Nm}(h:∀x∈l,bK x=true):∀(n:Nat) (seen:List aj) (s:aj),(sj l n seen s).2.1<=3/\((sj l n seen s).2.2=0->cH (sj l n seen s).1=true)
 |0,_,_=>⟨show(0:Int)<=3 by decide,fun e=>by cases e⟩
 |n+1,seen,s=>by
  unfold sj;split
  ·exact⟨show(0:Int)<=3 by decide,fun e=>by cases e⟩
  ·cases hk:lk l s with
   |none=>exact⟨show(0:Int)<=3 by decide,fun e=>by cases e⟩
   |some x=>
    obtain⟨hx,he⟩:=I2 hk;have hr:=h x hx;unfold bK at hr;simp only[bm,Bool.or_eq_true,decide_eq_true_eq]at hr;obtain⟨r1,r2,r3,r4⟩:=hr;dsimp only;split
    ·exact⟨show(-1:Int)<=3 by decide,fun _=>by dsimp only;rw[<-he];exact r1⟩
    ·rename_i ht;split
     ·refine⟨r3,fun _=>?_⟩;rcases r4 with r4|r4
      ·exact r4
      ·rw[jI]at r4;exact absurd (of_decide_eq_true r4.1) ht
     ·exact tf h n _ _
section
variable {n:Nat} {R:Rh}
theorem gd.dto(h:gd n R)(s:aj):0<=lS R s/\lS R s<=3:=by
 have h1:=(tf h.right (R.names.length+1) [] s).1;have h2:=h.id;unfold lS dP;split<;>omega
theorem gd.OT(h:gd n R){s:aj}(hl:lS R s=R.id->dJ R.names (dP R s).1=true):cT R s<R.all.length/\(lS R s=R.id->R.kI (dP R s).1=some (cT R s-4)/\4<=cT R s):=by
 have h1:=h.dto s;have h2:=h.al;unfold cT;split
 ·rename_i e;obtain⟨i,hi⟩:=h.loc _ (hl e);have :=CW hi;rw[hi];exact⟨by simp;omega,fun _=>⟨by simp,by simp⟩⟩
 ·rename_i e;exact⟨by omega,fun e2=>absurd e2 e⟩
end
theorem q7{a b:List aj}(h:a.Perm b):cS a=cS b:=by
 unfold cS;congr 1;have tr:∀x y z:List UInt8,decide (x<=y)=true->decide (y<=z)=true->decide (x<=z)=true:=fun x y z h1 h2=>by
  simp only[decide_eq_true_eq]at *;exact List.le_trans h1 h2
 have to':∀x y:List UInt8,(decide (x<=y)||decide (y<=x))=true:=fun x y=>by
  simp only[Bool.or_eq_true,decide_eq_true_eq];exact List.le_total x y
 have p:((a.map (·.data.toList)).mergeSort fun x y=>decide (x<=y)).Perm ((b.map (·.data.toList)).mergeSort fun x y=>decide (x<=y)):=
  (List.mergeSort_perm _ _).trans ((h.map _).trans (List.mergeSort_perm _ _).symm)
 refine List.Perm.eq_of_pairwise ?_ (List.pairwise_mergeSort tr to' _) (List.pairwise_mergeSort tr to' _) p;intro x y _ _ h1 h2;simp only[decide_eq_true_eq]at h1 h2;exact List.le_antisymm h1 h2
def my (R:Rh) (s:aj):List Ms:=match R.kI s with|some i=>iL (R.lq (4+i))|none=>[]
def iT (R:Rh):List Ms:=(cS R.keys).flatMap (my R)
theorem Ku(l:List Ri):(eW l).length<=10*l.length:=by
 unfold eW;have :∀n,(l3 l n).length<=n *l.length:=fun n=>by
  induction n with
  |zero=>simp[l3]
  |succ n ih=>
   rw[l3,aW,Nat.succ_mul];have :(uK l n).length<=l.length:=by unfold uK;exact Nat.le_trans (List.length_filter_le _ _) ai
   omega
 exact this 10
theorem uL(l:List Ri):(iL l).length<=10*l.length:=by
 unfold iL;rw[aX];exact Nat.le_trans (List.length_filter_le _ _) (Ku l)
theorem gd.Ou{n:Nat}{R:Rh}(h:gd n R)(d:Dd)(hd:0<=d.m.id/\d.m.id<=1099511627776):gd (n+1) (dS R d):=by
 unfold dS;split
 ·have h1:=(h.le (Nat.le_succ n)).ff (q:=d.q) (l:=eT (R.lq d.q) d.m (-1)) (by unfold eT;have :=(h.lq d.q).1;simp;omega) (fun e he=>by
   unfold eT at he;rcases aO.1 he with h2|h2
   ·exact(h.lq d.q).2 e h2
   ·rw[List.mem_singleton.1 h2];exact hd)
  have hb:=h1.fD;refine h1.cells rfl rfl rfl rfl rfl rfl h1.count ⟨by dsimp only;omega,?_⟩ h1.md h1.ar h1.used h1.left;have hb:R.fD<=274877906945:=h.fD.2;dsimp only;omega
 ·exact h.le (Nat.le_succ n)
theorem gd.zL{R:Rh}:∀(l:List Dd) {n:Nat} {R:Rh},gd n R->(∀d∈l,0<=d.m.id/\d.m.id<=1099511627776)->gd (n+l.length) (l.foldl dS R)
 |[],_,_,h,_=>h
 |d::l,n,R,h,hd=>by
  have :=gd.zL (R:=R) l (h.Ou d (hd d ai)) fun e he=>hd e (List.mem_cons_of_mem _ he)
  rw[List.foldl_cons,List.length_cons]
  rwa [show n+(l.length+1)=n+1+l.length by omega]
theorem gd.N5{n:Nat}{R:Rh}(h:gd n R)(d:Dd):gd n (dY R d):=by
 unfold dY;split
 ·exact h
 ·exact h.ff (Nat.le_trans (Ct _ _) (h.lq d.q).1) fun e he=>(h.lq d.q).2 e (vU he)
theorem gd.zb:∀(l:List Dd) {n:Nat} {R:Rh},gd n R->gd n (l.foldl dY R)
 |[],_,_,h=>h
 |d::l,_,_,h=>gd.zb l (h.N5 d)
theorem Ma(R:Rh)(d:Dd):(dS R d).all.length=R.all.length:=by unfold dS Rh.ff;split<;>simp
theorem zK:∀(l:List Dd) (R:Rh),(l.foldl dS R).all.length=R.all.length
 |[],_=>rfl
 |d::l,R=>by rw[List.foldl_cons,zK l,Ma]
theorem LM(R:Rh)(d:Dd):(dY R d).all.length=R.all.length:=by unfold dY Rh.ff;split<;>simp
theorem za:∀(l:List Dd) (R:Rh),(l.foldl dY R).all.length=R.all.length
 |[],_=>rfl
 |d::l,R=>by rw[List.foldl_cons,za l,LM]
theorem dz.ff{V:Bc}{R:Rh}(h:dz V R)(q:Nat)(l:List Ri):dz V (R.ff q l):=
 ⟨by unfold Rh.ff;simp[h.ps],by unfold Rh.ff;simp[h.al],h.us,h.un,h.ds,h.db,h.md,h.ar,fun x hx d hd=>by
  have e:(R.ff q l).all.length=R.all.length:=by unfold Rh.ff;simp
  rw[e];exact h.dq x hx d hd⟩
theorem dz.Ou{V:Bc}{R:Rh}(h:dz V R)(d:Dd):dz V (dS R d):=by
 unfold dS;split
 ·exact(h.ff _ _).same rfl rfl rfl rfl rfl rfl
 ·exact h
theorem dz.zL{V:Bc}:∀(l:List Dd) {R:Rh},dz V R->dz V (l.foldl dS R)
 |[],_,h=>h
 |d::l,_,h=>dz.zL l (h.Ou d)
theorem dz.N5{V:Bc}{R:Rh}(h:dz V R)(d:Dd):dz V (dY R d):=by
 unfold dY;split
 ·exact h
 ·exact h.ff _ _
theorem dz.zb{V:Bc}:∀(l:List Dd) {R:Rh},dz V R->dz V (l.foldl dY R)
 |[],_,h=>h
 |d::l,_,h=>dz.zb l (h.N5 d)
theorem AN(m:Ms):∀ds:List Int,(rF m ds).length<=ds.length
 |[]=>aP _
 |i::ds=>by
  have :=AN m ds;unfold rF at this ⊢;rw[bj,aW,List.length_cons];have h1:(if m.id=i then[m]else([]:List Ms)).length<=1:=by split<;>simp
  omega
theorem gd.jJ{n:Nat}{R:Rh}(h:gd n R)(k:Nat):(R.jJ k).length<=3:=by
 unfold Rh.jJ;rw[au];cases hq:R.bQ[k]? with
 |none=>exact aH _
 |some l=>exact h.GV l (ax hq)
theorem gd.mdk{n:Nat}{R:Rh}(h:gd n R)(k:Nat):0<=R.md k/\R.md k<=n:=by
 unfold Rh.md;rw[au];cases hq:R.made[k]? with
 |none=>exact⟨Int.le_refl _,by simp⟩
 |some x=>exact h.md.2 x (ax hq)
theorem gd.ark{n:Nat}{R:Rh}(h:gd n R)(k:Nat):0<=R.ar k/\R.ar k<=n:=by
 unfold Rh.ar;rw[au];cases hq:R.aC[k]? with
 |none=>exact⟨Int.le_refl _,by simp⟩
 |some x=>exact h.ar.2 x (ax hq)
theorem gd.bt{n:Nat}{R:Rh}(h:gd n R)(k:Int):gd (n+1) (jb R k):=by
 have hw:=h.w;obtain⟨w1,w2,w3,w4,w5,w6,w7,w8,w9,w10⟩:=ib R;unfold jb;split
 ·exact h.le (Nat.le_succ n)
 ·split
  ·exact hw.le (Nat.le_succ n)
  ·have h1:=hw.le (Nat.le_succ n);refine⟨h1.id,h1.fT,h1.right,h1.al,h1.Ed,h1.nodup,h1.dead,h1.loc,h1.len,h1.ids,h1.un,h1.Bw,h1.dq,h1.count,h1.fD,by simp[h.db],fun l hl=>?_,⟨by simp[h.md.1],fun x hx=>?_⟩,h1.ar,h1.used,h1.left⟩
   ·rcases aD hl with h2|h2
    ·exact h.GV l h2
    ·rw[h2];simp;omega
   ·rcases aD hx with h2|h2
    ·have :=h.md.2 x h2;omega
    ·rw[h2];have :=h.mdk k.toNat;omega
end WB
namespace Go.Proofs.YtjhogocabcdjbabGreatDoor
open Tryz
open Go Go.RowKit WB
theorem oT(w0:World)(L:List HP)(b n:Nat)(V:Bc)(R:Rh)(hV:dz V R)(hB:gd n R):KC prog 86 #[fK b] w0 (bA b (.cells (du V R).toArray 97 (0,0))::L) (fun u M=>u=.int .i64 (eB R)/\M=bA b (.cells (du V (eP R)).toArray 97 (0,0))::L):=by
 have Je:=hB.used;have hlf:=hB.left;refine KC.mk (n:=43) func86 rfl ntmps86 ai ?_;refine kO ?_;have hl:=fL hV;have c26:(du V R)[26]? =some (.int .i64 R.used):=jS hV 0;have P4:(du V R)[27]? =some (.bool R.down):=jS hV 1;have c28:(du V R)[28]? =some (.bool R.off):=jS hV 2;have c29:(du V R)[29]? =some (.int .i64 R.left):=jS hV 3;refine di ?_;refine Hd ?_;refine g_ ?_;refine Xy ?_;refine qV ?_;refine K.cond rfl (fun hd=>?_) (fun hd=>?_)
 ·refine x7 ?_;refine KQ.aU rfl rfl (fun w' aM=>⟨_,_,rfl,⟨by unfold eB;rw[if_pos hd],rfl⟩,?_⟩);rw[show eP R=R by unfold eP;rw[if_pos hd]];exact aM.all ft
 have Eu:¬R.down=true:=by rw[hd];decide
 refine m_ ?_;refine iD ?_;refine J8 ?_;refine KO.bO (i:=26) rfl rfl isAgg3 br rfl c26 rfl ?_;refine qG ?_;refine qV ?_;refine K.bn rfl (fun h3=>?_) (fun h3=>?_)
 ·have h3:300<=R.used:=h3;refine x7 ?_;refine KQ.aU rfl rfl (fun w' aM=>⟨_,_,rfl,⟨by unfold eB;rw[if_neg Eu,if_pos h3],rfl⟩,?_⟩);rw[show eP R=R by unfold eP;rw[if_neg Eu,if_pos h3]];exact aM.all ft
 have h3:¬300<=R.used:=h3;refine kO ?_;by_cases ho:R.off=true/\R.left=0
 ·obtain⟨Wn,ho2⟩:=ho;rw[Wn]at c28;rw[ho2]at c29;refine g_ ?_;refine Ya ?_;refine JS ?_;refine Qw ?_;refine KO.on rfl rfl rfl ?_;refine KO.bO (i:=29) rfl rfl isAgg3 br rfl c29 rfl ?_;refine BV ?_;refine uk ?_;refine Z8 ?_;refine Br ?_;refine m_ ?_;refine iD ?_;refine Nq ?_;refine KO.fu (i:=27) rfl rfl rfl aN Zr rfl br rfl (by rw[hl];omega) ?_;rw[CG hV];refine rK ?_;refine nX ?_;refine KQ.aU rfl rfl (fun w' aM=>⟨_,_,rfl,⟨by unfold eB;rw[if_neg Eu,if_neg h3,if_pos ⟨Wn,ho2⟩],rfl⟩,?_⟩);rw[show eP R={R with down:=true}by unfold eP;rw[if_neg Eu,if_neg h3,if_pos ⟨Wn,ho2⟩]];exact aM.all ft
 have lI:dz V {R with left:=wrap64 (R.left-1)}:=hV.same rfl rfl rfl rfl rfl rfl;have Bj:=fL lI;have agl:(du V {R with left:=wrap64 (R.left-1)})[26]? =some (.int .i64 R.used):=jS lI 0;refine K.cut (fun _:Unit=>[(0,fK b),(14,.bool false)]) (fun _=>bA b (.cells (du V R).toArray 97 (0,0))::L) (fun _=>True) ?_ ?_
 ·cases Wn:R.off with
  |false=>
   rw[Wn]at c28;refine g_ ?_;refine Ya ?_;refine pF ?_;refine XB ?_;refine tW ?_;refine rL ?_;exact KQ.kT () trivial ⟨rfl,rfl,trivial⟩ (fun _ h=>h.all ft)
  |true=>
   have h0:¬R.left=0:=fun e=>ho ⟨Wn,e⟩
   rw[Wn]at c28;refine g_ ?_;refine Ya ?_;refine JS ?_;refine Qw ?_;refine KO.on rfl rfl rfl ?_;refine KO.bO (i:=29) rfl rfl isAgg3 br rfl c29 rfl ?_;refine KO.on rfl rfl rfl ?_;refine KO.eqI rfl rfl rfl ?_;rw[show decide (R.left=0)=false by simpa using h0];refine uk ?_;refine rL ?_;exact KQ.kT () trivial ⟨rfl,rfl,trivial⟩ (fun _ h=>h.all ft)
 rintro⟨⟩-;refine oI ?_;refine TJ ?_;refine g_ ?_;refine Qw ?_;refine KO.bO (i:=29) rfl rfl isAgg3 br rfl c29 rfl ?_;refine KO.aee rfl rfl rfl ?_;refine iD ?_;refine Qw ?_;refine KO.fu (i:=29) rfl rfl rfl aN uc rfl br rfl (by rw[hl];omega) ?_;rw[CF hV];refine Z0 ?_;refine g_ ?_;refine J8 ?_;refine KO.bO (i:=26) rfl rfl isAgg3 br rfl agl rfl ?_;refine Hn ?_;refine J8 ?_;refine KO.fu (i:=26) rfl rfl rfl aN uc rfl br rfl (by rw[Bj];omega) ?_;rw[L4 lI];refine qO ?_;refine KQ.aU rfl rfl (fun w' aM=>⟨_,_,rfl,⟨by unfold eB;rw[if_neg Eu,if_neg h3,if_neg ho],rfl⟩,?_⟩);rw[show eP R={R with left:=wrap64 (R.left-1),used:=R.used+1}by unfold eP;rw[if_neg Eu,if_neg h3,if_neg ho]];exact aM.all ft
theorem zw{V:Bc}{R:Rh}(hV:dz V R):dz V (eP R):=by
 obtain⟨-,-,h3,h4,h5,h6,-,-,h9,Bn⟩:=ib R;exact hV.same h4 h3 h5 h6 (by rw[h9]) (by rw[Bn])
theorem zt(w0:World)(L:List HP)(b n:Nat)(R:Rh)(hB:gd n R):KC prog 86 #[fK b] w0 (gL b R::L) (fun u M=>u=.int .i64 (eB R)/\M=gL b (eP R)::L):=fun w hw=>by
 obtain⟨⟨V,hV⟩,h⟩:=cI hw;refine(oT w0 (fb V.nv R.names::bP Value.string V.mb (eZ R.keys (V.ps.drop 4))::bI gR V.ps R.all::bI (mZ V.ps) V.us R.ay::bI ly V.ds R.bQ::L) b n V R hV hB w (h.all ft)).mono ?_;rintro e w' ⟨v,M,rfl,⟨rfl,rfl⟩,aM⟩;refine⟨_,_,rfl,⟨rfl,rfl⟩,?_⟩;obtain⟨-,h2,h3,h4,h5,h6,-⟩:=ib R;refine bX V (zw hV) ?_;unfold l4;rw[h2,h3,h4,h5,h6];exact aM.all ft
theorem vV{V:Bc}{R:Rh}(hV:dz V R)(s:aj):(gj (eZ R.keys (V.ps.drop 4)) s).getD (.pointer none)=match R.kI s with|none=>.pointer none|some i=>fK (V.ps.getD (4+i) 0):=by
 have h1:=hV.ps;have h2:=hV.al;rw[F_ _ _ _ (by rw[bf];omega)];unfold Rh.kI;cases hi:R.keys.findIdx? (fun x=>decide (x=s))with
 |none=>rfl
 |some i=>
  have kD:=(List.findIdx?_eq_some_iff_getElem.1 hi).1;obtain⟨p,hp⟩:∃e,V.ps[4+i]? =some e:=⟨_,ak ae⟩;simp[List.getElem?_drop,hp]
theorem Oa(w0:World)(L:List HP)(b:Nat)(V:Bc)(R:Rh)(s:aj)(hV:dz V R)(hn:R.names.length<=20):
 KC prog 184 #[fK b,.string s] w0 (l4 b V R L) (fun u M=>u=(match kA R s with|none=>.pointer none|some q=>fK (V.ps.getD q 0))/\M=l4 b V R L):=by
 have MK:=vV hV s;have gC:kA R s=none\/kA R s=(R.kI s).map (4+ ·):=by unfold kA;split;exact .inr rfl;exact .inl rfl
 have hv:(s=cr\/dJ R.names s=true)->(gj (eZ R.keys (V.ps.drop 4)) s).getD (.pointer none)=(match kA R s with|none=>.pointer none|some q=>fK (V.ps.getD q 0)):=fun h=>by
  rw[MK,show kA R s=(R.kI s).map (4+ ·)by unfold kA;rw[if_pos h]];cases R.kI s<;>rfl
 refine KC.mk (n:=20) func184 rfl ntmps184 ai ?_;refine x6 ?_;by_cases K6:s=cr
 ·have E5:=hv (.inl K6);have vn:decide (s=⟨#[100,101,97,100]⟩)=true:=by rw[K6];rfl
  refine cW ?_;refine KO.Ze rfl rfl rfl ?_;rw[show(decide (s=(⟨#[100,101,97,100]⟩:aj)))=true from vn];refine pF ?_;refine XB ?_;refine EV ?_;refine m_ ?_;refine iD ?_;refine Qy ?_;refine Z1 ?_;refine KO.zW dD s rfl rfl rfl underlying89 underlying9 zeroValue90 aQ rfl ?_;rw[E5];refine AZ ?_;refine KQ.aU rfl rfl (fun w' aM=>⟨_,_,rfl,⟨rfl,rfl⟩,aM.all ft⟩)
 have vn:decide (s=⟨#[100,101,97,100]⟩)=false:=decide_eq_false K6;cases Jm:dJ R.names s with
 |true=>
  have E5:=hv (.inr Jm);refine cW ?_;refine KO.Ze rfl rfl rfl ?_;rw[show(decide (s=(⟨#[100,101,97,100]⟩:aj)))=false from vn];refine JS ?_;refine LA ?_;refine A2 ?_;refine KO.on rfl rfl rfl ?_;refine KO.ce (cp:=[]) rfl rfl rfl call182 rfl (rb w0 _ _ _ b 1 (du V R) 97 V.nv R.names s br br rfl ae) ?_;rintro v' L' ⟨rfl,rfl⟩;rw[Jm];refine tW ?_;refine Br ?_;refine m_ ?_;refine iD ?_;refine Qy ?_;refine Z1 ?_;refine KO.zW dD s rfl rfl rfl underlying89 underlying9 zeroValue90 aQ rfl ?_;rw[E5];refine AZ ?_;refine KQ.aU rfl rfl (fun w' aM=>⟨_,_,rfl,⟨rfl,rfl⟩,aM.all ft⟩)
 |false=>
  refine cW ?_;refine KO.Ze rfl rfl rfl ?_;rw[show(decide (s=(⟨#[100,101,97,100]⟩:aj)))=false from vn];refine JS ?_;refine LA ?_;refine A2 ?_;refine KO.on rfl rfl rfl ?_;refine KO.ce (cp:=[]) rfl rfl rfl call182 rfl (rb w0 _ _ _ b 1 (du V R) 97 V.nv R.names s br br rfl ae) ?_;rintro v' L' ⟨rfl,rfl⟩;rw[Jm];refine A6 ?_;refine xf ?_;refine KQ.aU rfl rfl (fun w' aM=>⟨_,_,rfl,⟨?_,rfl⟩,aM.all ft⟩);rw[show kA R s=none by unfold kA;rw[if_neg (by rintro(h|h);exact K6 h;rw[Jm]at h;cases h)]]
theorem Od{V:Bc}{R:Rh}(hV:dz V R):((du V R).drop 3).take 4=(V.ps.take 4).map fK:=by
 unfold du;rw[List.drop_append_of_le_length ai,show([Value.int .i64 R.id,V.nv,.map (some V.mb)]:List Value).drop 3=[]from rfl,List.nil_append,List.take_append_of_le_length (by rw[hV.w4];exact aP _),List.take_of_length_le (by rw[hV.w4];exact aP _)]
theorem Kz(w0:World)(L:List HP)(b n:Nat)(V:Bc)(R:Rh)(u:Nat)(hV:dz V R)(hB:gd n R)(hn:n<=80000)(hu:u<5):
 KC prog 93 #[fK b,.int .i64 (u:Nat)] w0 (bA b (.cells (du V R).toArray 97 (0,0))::fb V.nv R.names::bP Value.string V.mb (eZ R.keys (V.ps.drop 4))::bI gR V.ps R.all::L)
  (fun v M=>v=.tuple #[]/\M=bA b (.cells (du {V with us:=V.us.set u (.slice none 0 0)} R).toArray 97 (0,0))::fb V.nv R.names::bP Value.string V.mb (eZ R.keys (V.ps.drop 4))::bI gR V.ps (R.all.map fun l=>dL l (u:Int) true)::L):=by
 have mV:=hB.Ed;refine KC.mk (n:=36) func93 rfl ntmps93 ai ?_;refine kO ?_;have ku:=hV.ps;have sv:=hV.al;have hlen:=fL hV;have Ra:(V.ps.drop 4).length=R.keys.length:=by rw[bf];omega
 have hEl:∀js,(kJ (fun l=>dL l (u:Int) true) R.all js).length=R.all.length:=fun js=>Cn js _
 have hEb:∀js,∀l∈kJ (fun l=>dL l (u:Int) true) R.all js,l.length<=n:=fun js=>Cp (p:=fun l:List Ri=>l.length<=n) (fun l h=>Nat.le_trans (CL _ _ _) h) js _ hB.len
 refine g_ ?_;refine Qy ?_;refine KO.YC rfl rfl underlying89 aQ rfl ?_;intro Uu;refine QG ?_;refine K.loop (fun p:List Nat×List Nat×Option (aj×Value)=>[(0,fK b),(1,.int .i64 (u:Nat)),(12,.pointer (some ⟨Uu,0,none⟩))])
  (fun p=>CY Value.string V.mb Uu (eZ R.keys (V.ps.drop 4)) (p.1.map fun r=>(eZ R.keys (V.ps.drop 4)).getD r default) p.2.2::bI gR V.ps (kJ (fun l=>dL l (u:Int) true) R.all (p.2.1.map (4+ ·)))::bA b (.cells (du V R).toArray 97 (0,0))::fb V.nv R.names::L)
  (fun p=>(p.2.1++p.1).Perm (List.range R.keys.length)) (fun p=>p.1.length) (List.range R.keys.length,[],none)
  ai ⟨rfl,rfl,rfl,trivial⟩ (fun _ h=>?_) ?_
 ·dsimp only;rw[tF Ra];exact h.all Y7
 rintro⟨rest,done,cur⟩ dQ;dsimp only at dQ ⊢;refine Z2 ?_;refine KO.BD rfl rfl br rfl (fun h0=>?_) (fun i e he=>?_);refine x9 ?_
 ·have iO:rest=[]:=by simpa using h0
  subst iO;rw[List.append_nil]at dQ;refine oI ?_;refine Z9 ?_;refine g_ ?_;refine XG ?_;refine KO.I6 (off:=3) (us:=(V.ps.take 4).map fK) rfl rfl isAgg91 sizeOf91 aQ (Od hV) (by rw[aX,bu];omega) rfl ?_;refine oL ?_;refine K.loop (fun k:Nat=>[(0,fK b),(1,.int .i64 (u:Nat)),(23,.agg ((V.ps.take 4).map fK).toArray),(24,.int .i64 (k:Nat))]) (fun k=>bI gR V.ps (kJ (fun l=>dL l (u:Int) true) R.all (done.map (4+ ·)++List.range k))::bP Value.string V.mb (eZ R.keys (V.ps.drop 4))::bA b (.cells (du V R).toArray 97 (0,0))::fb V.nv R.names::L) (fun k=>k<=4) (fun k=>4-k) 0 (aH _) ⟨rfl,rfl,rfl,rfl,trivial⟩ (fun _ h=>?_) ?_
  ·rw[show done.map (4+ ·)++List.range 0=done.map (4+ ·)by simp];exact h.all Y7
  intro k hk;refine lW ?_;refine K.bn rfl (fun h5=>?_) (fun h5=>?_)
  ·have qC:k<4:=by omega
   obtain⟨p,hp⟩:∃e,V.ps[k]? =some e:=⟨_,ak ae⟩;have hpk:((V.ps.take 4).map fK)[k]? =some (fK p):=by rw[aG,List.getElem?_take,if_pos qC,hp];rfl
   have WY:=hEl (done.map (4+ ·)++List.range k);have PD:=hEb (done.map (4+ ·)++List.range k);have gP:=zg (f:=fun l=>dL l (u:Int) true) R.all (done.map (4+ ·)++List.range k) k;rw[aR,<-List.range_succ]at gP;generalize kJ (fun l=>dL l (u:Int) true) R.all (done.map (4+ ·)++List.range k)=lk at WY PD gP;have hq:lk[k]? =some (lk.getD k default):=by rw[au,ak (show k<lk.length by omega)];rfl
   have NA:=PD _ (ax hq);generalize lk.getD k default=q at hq NA gP;refine si ?_;refine KO.K1 (cs:=(V.ps.take 4).map fK) (i:=k) rfl rfl underlying91 isAgg90 sizeOf90 rfl qC hpk rfl ?_;refine xc ?_;refine KO.cl (cp:=[]) rfl rfl rfl call177 rfl (KC.rD (φ:=fun v=>v=.tuple #[]) hp hq br (fun L=>KD w0 L p q (u:Nat) true ae)) ?_;rintro v' L' ⟨rfl,rfl⟩;refine pE ?_;refine KQ.round (k+1) ae ae ⟨rfl,rfl,rfl,rfl,trivial⟩ (fun _ h=>?_);rw[gP];exact h.all ft
  ·obtain rfl:k=4:=by omega
   have cU:kJ (fun l=>dL l (u:Int) true) R.all (done.map (4+ ·)++List.range 4)=R.all.map fun l=>dL l (u:Int) true:=by
    refine LO ?_;rw[sv,List.range_add];exact List.perm_append_comm.trans ((List.Perm.refl _).append (dQ.map _))
   rw[cU];refine Qi ?_;refine gY ?_;refine Nu ?_;refine KO.jd (i:=u) rfl rfl runUnderlying93 sizeOf92 rfl ae rfl ?_;refine KO.fu (v:=.slice none 0 0) (b:=b) (i:=7+u) rfl rfl aN rfl (by exact sizeOf92) rfl aQ xI Yr ?_;rw[td hV hu];refine jk ?_;refine KQ.wV rfl (fun w' aM=>⟨_,_,rfl,⟨rfl,rfl⟩,?_⟩);exact aM.all Y7
 obtain⟨r,hr,rfl⟩:∃r,rest[i]? =some r/\(eZ R.keys (V.ps.drop 4)).getD r default=e:=by
  rw[aG]at he;cases hr:rest[i]? with
  |none=>rw[hr]at he;cases he
  |some r=>rw[hr]at he;exact⟨r,rfl,by simpa using he⟩
 have Ad:r<R.keys.length:=by
  have :r∈List.range R.keys.length:=dQ.mem_iff.1 (List.mem_append_right _ (ax hr));simpa using this
 obtain⟨s,lP⟩:=SA Ra Ad;have hpd:(V.ps.drop 4).getD r 0=V.ps.getD (4+r) 0:=by rw[au,au,List.getElem?_drop]
 rw[hpd]at lP;obtain⟨p,hp⟩:∃e,V.ps[4+r]? =some e:=⟨_,ak ae⟩;have BH:V.ps.getD (4+r) 0=p:=by rw[au,hp];rfl
 rw[BH]at lP;rw[lP];have WY:=hEl (done.map (4+ ·));have PD:=hEb (done.map (4+ ·));have gP:=zg (f:=fun l=>dL l (u:Int) true) R.all (done.map (4+ ·)) (4+r);rw[show done.map (4+ ·)++[4+r]=(done++[r]).map (4+ ·)by simp]at gP;generalize kJ (fun l=>dL l (u:Int) true) R.all (done.map (4+ ·))=lk at WY PD gP;have hq:lk[4+r]? =some (lk.getD (4+r) default):=by rw[au,ak (show 4+r<lk.length by omega)];rfl
 have NA:=PD _ (ax hq);generalize lk.getD (4+r) default=q at hq NA gP;refine x9 ?_;refine xa ?_;refine si ?_;refine Ng ?_;refine xc ?_;refine KO.cl (cp:=[]) rfl rfl rfl call177 rfl (KC.rD (φ:=fun v=>v=.tuple #[]) hp hq aQ (fun L=>KD w0 L p q (u:Nat) true ae)) ?_;rintro v' L' ⟨rfl,rfl⟩;refine Xw ?_;refine KQ.round (rest.eraseIdx i,done++[r],some (s,fK p)) ?_ ?_ ⟨rfl,rfl,rfl,trivial⟩ (fun _ h=>?_)
 ·dsimp only;refine List.Perm.trans ?_ dQ;rw[aR];refine(List.Perm.refl done).append ?_;obtain⟨hi,rfl⟩:=aw.1 hr;exact oe hi
 ·dsimp only;have hi:=(aw.1 hr).1;rw[List.length_eraseIdx,if_pos hi];omega
 ·dsimp only;rw[gP,<-p8];exact h.all Y7
theorem Cz{V:Bc}{R:Rh}(hV:dz V R){u:Nat}:dz {V with us:=V.us.set u (.slice none 0 0)} (cO R u):=⟨by unfold cO;simp[hV.ps],by unfold cO;simp[hV.al],by simp[hV.us],by unfold cO;simp[hV.un],hV.ds,hV.db,hV.md,hV.ar,fun l hl d hd=>by
 have e:(cO R u).all.length=R.all.length:=by unfold cO;simp
 rw[e];rcases aD hl with h3|h3
 ·exact hV.dq l h3 d hd
 ·rw[h3]at hd;cases hd⟩
theorem FC(w0:World)(L:List HP)(b n:Nat)(R:Rh)(u:Nat)(hB:gd n R)(hn:n<=80000)(hu:u<5):
 KC prog 93 #[fK b,.int .i64 (u:Nat)] w0 (gL b R::L) (fun v M=>v=.tuple #[]/\M=gL b (cO R u)::L):=fun w hw=>by
 obtain⟨⟨V,hV⟩,h⟩:=cI hw;refine(Kz w0 (bI (mZ V.ps) V.us R.ay::bI ly V.ds R.bQ::L) b n V R u hV hB hn hu w (h.all ft)).mono ?_;rintro e w' ⟨v,M,rfl,⟨rfl,rfl⟩,aM⟩;refine⟨_,_,rfl,⟨rfl,rfl⟩,?_⟩;obtain⟨uv,Gh⟩:∃e,V.us[u]? =some e:=⟨_,ak (by rw[hV.us];exact hu)⟩;have h1:=cM (f:=mZ V.ps) (i:=u) Gh (uB (by rw[hV.un];exact hu)) (aM.pick (A:=bI (mZ V.ps) V.us R.ay) aQ);have h2:=kY (f:=mZ V.ps) (i:=u) (p:=.slice none 0 0) (x:=[]) (by rw[hV.us];exact hu) (by rw[hV.un];exact hu) (cw (E:=278) (sz:=7) (cf:=GY V.ps) (h1.all (iA.drop iA.refl)));exact bX {V with us:=V.us.set u (.slice none 0 0)} (Cz hV) (h2.all (M:=bA b (.cells (du {V with us:=V.us.set u (.slice none 0 0)} R).toArray 97 (0,0))::fb V.nv R.names::bP Value.string V.mb (eZ R.keys (V.ps.drop 4))::bI gR V.ps (R.all.map fun l=>dL l (u:Int) true)::bI (mZ V.ps) (V.us.set u (.slice none 0 0)) (R.ay.set u [])::bI ly V.ds R.bQ::L) Y7)
theorem Ob(w0:World)(L:List HP)(b n:Nat)(R:Rh)(hB:gd n R)(hn:n<=80000):KC prog 38 #[fK b] w0 (gL b R::L) (fun v M=>v=.tuple #[]/\M=gL b (dX R)::L):=by
 refine KC.mk (n:=20) func38 rfl ntmps38 ai ?_;refine m_ ?_;refine QG ?_;refine K.loop (fun k:Nat=>[(0,fK b),(3,.int .i64 (k:Nat))]) (fun k=>gL b ((List.range k).foldl cO R)::L) (fun k=>k<=5) (fun k=>5-k) 0 (aH _) ⟨rfl,rfl,trivial⟩ (fun _ h=>h) ?_;intro k hk;have PE:=hB.uE (List.range k);have gP:(List.range (k+1)).foldl cO R=cO ((List.range k).foldl cO R) k:=by rw[List.range_succ,List.foldl_append];rfl
 by_cases hk5:k<5
 ·generalize (List.range k).foldl cO R=Rk at PE gP ⊢;refine lW ?_;refine K.bW rfl ez ?_;refine sy ?_;refine xc ?_;refine KO.cl (cp:=[]) rfl rfl rfl call93 rfl (FC w0 L b n Rk k PE hn hk5) ?_;rintro v' L' ⟨rfl,rfl⟩;refine pE ?_;refine KQ.round (k+1) ae ae ⟨rfl,rfl,trivial⟩ (fun _ h=>?_);rw[gP];exact h
 ·obtain rfl:k=5:=by omega
  have iW:dX R={(List.range 5).foldl cO R with down:=false,count:=((List.range 5).foldl cO R).fD}:=by
   unfold dX;have :∀(us:List Nat) (R:Rh),(us.foldl cO R).fD=R.fD:=fun us=>by
    induction us with
    |nil=>intro R;rfl
    |cons u us ih=>intro R;rw[List.foldl_cons,ih];rfl
   rw[this]
  rw[iW];generalize (List.range 5).foldl cO R=Rk at PE ⊢;refine lW ?_;refine oI ?_;refine Qi ?_;refine K.bV (fun _ h=>cI h) ?_;rintro⟨V,hV⟩;dsimp only;have hlen:=fL hV;have lI:dz V {Rk with down:=false}:=hV.same rfl rfl rfl rfl rfl rfl;have oq:=fL lI;have c13:(du V Rk)[13]? =some (.int .i64 Rk.fD):=Oe hV (i:=1) ah;refine cW ?_;refine gZ ?_;refine XX ?_;refine KO.bO (i:=13) rfl rfl isAgg3 br rfl c13 rfl ?_;refine iD ?_;refine Nq ?_;refine KO.fu (i:=27) rfl rfl rfl aN Zr rfl br rfl Yr ?_;rw[CG hV];refine iD ?_;refine TX ?_;refine KO.fu (i:=12) rfl rfl rfl aN uc rfl br rfl (by rw[oq];omega) ?_;rw[CH lI];refine jk ?_;refine KQ.wV rfl (fun w' aM=>⟨_,_,rfl,⟨rfl,rfl⟩,?_⟩);exact bX V (hV.same rfl rfl rfl rfl rfl rfl) (aM.all ft)
theorem FD(w0:World)(L:List HP)(b n:Nat)(R:Rh)(u:Int)(hB:gd n R)(hn:n<=80000):KC prog 99 #[fK b,.int .i64 u] w0 (gL b R::L) (fun v M=>v=.int .i64 (oU R u)/\M=gL b (xO R u)::L):=by
 have ends:∀k:Int,k≠0->oU R u=k->(Value.int .i64 k=.int .i64 (oU R u)/\gL b R::L=gL b (xO R u)::L):=fun k hk he=>by
  unfold xO;rw[if_pos (by rw[he];exact hk),he];exact⟨rfl,rfl⟩
 refine KC.mk (n:=23) func99 rfl ntmps99 ai ?_;refine x6 ?_;by_cases hu:0<=u/\u<=4
 ·refine cW ?_;refine KO.ce (cp:=[]) rfl rfl rfl call118 rfl (kC w0 _ _ _ _) ?_;rintro v' L' ⟨rfl,rfl⟩;rw[show(decide ((0:Int)<=u)&&decide (u<=4))=true by simp[hu.1,hu.2]];refine BX ?_;obtain⟨j,rfl⟩:∃j:Nat,u=(j:Int):=⟨u.toNat,by omega⟩;have hj:j<5:=by omega
  have Pv:oU R (j:Int)=if R.uq j=[]then 8 else if R.down=true then 6 else 0:=by unfold oU;rw[if_neg ae,aE]
  refine K.bV (fun _ h=>cI h) ?_;rintro⟨V,hV⟩;dsimp only;obtain⟨uv,Gh⟩:∃e,V.us[j]? =some e:=⟨_,ak (by rw[hV.us];exact hj)⟩;have c7:(du V R)[7+j]? =some uv:=by rw[DX hV hj];exact Gh
  have P4:(du V R)[27]? =some (.bool R.down):=jS hV 1;refine K.fact (fun w hw=>bo (E:=278) (sz:=7) (cf:=GY V.ps) (v:=uv) (xs:=R.uq j) (cM (f:=mZ V.ps) (i:=j) Gh (uB (by rw[hV.un];exact hj)) (hw.pick (A:=bI (mZ V.ps) V.us R.ay) aQ))) ?_;rintro⟨a1,k1,rfl,-⟩;refine gY ?_;refine Nu ?_;refine acd ?_;refine KO.len rfl underlying92 rfl ?_;refine mM ?_;by_cases h0:R.uq j=[]
  ·refine K.bW rfl (by rw[h0];rfl) ?_;refine kr ?_;refine KQ.aU rfl rfl (fun w' aM=>⟨_,_,rfl,ends 8 ah (by rw[Pv,if_pos h0]),bX V hV (aM.all ft)⟩)
  have Ws:0<(R.uq j).length:=List.length_pos_iff.2 h0;refine K.ct rfl (by simp;exact h0) ?_;refine Z6 ?_;refine g_ ?_;refine Xy ?_;refine Z3 ?_;refine K.cond rfl (fun hd=>?_) (fun hd=>?_)
  ·refine kr ?_;refine KQ.aU rfl rfl (fun w' aM=>⟨_,_,rfl,ends 6 ah (by rw[Pv,if_neg h0,if_pos hd]),bX V hV (aM.all ft)⟩)
  have PG:oU R (j:Int)=0:=by rw[Pv,if_neg h0,if_neg (by rw[hd];decide)]
  refine K.conv (fun w h=>bX V hV (h.all ft)) ?_
  refine BT ?_;refine KO.cl (cp:=[]) rfl rfl rfl call93 rfl (FC w0 L b n R j hB hn hj) ?_;rintro v' L' ⟨rfl,rfl⟩;refine qO ?_;refine KQ.aU rfl rfl (fun w' aM=>⟨_,_,rfl,⟨by rw[PG],rfl⟩,?_⟩);rw[show xO R (j:Int)=cO R j by unfold xO;rw[if_neg (by rw[PG];decide),aE]];exact aM
 ·refine cW ?_;refine KO.ce (cp:=[]) rfl rfl rfl call118 rfl (kC w0 _ _ _ _) ?_;rintro v' L' ⟨rfl,rfl⟩;rw[show(decide ((0:Int)<=u)&&decide (u<=4))=false by simpa using hu];refine A4 ?_;refine kr ?_;refine KQ.aU rfl rfl (fun w' aM=>⟨_,_,rfl,ends 2 ah (by unfold oU;rw[if_pos hu]),aM⟩)
theorem II{w0 w:World}{b:Nat}{L:List HP}(h:St w0 (bA b (.cells [Value.slice none 0 0].toArray 171 (0,0))::L) w):St w0 (gR b []::L) w:=
 lR (v:=.slice none 0 0) ((cw (E:=271) (sz:=7) (cf:=pU) h).pick (.tail .head))
theorem RR(w0:World)(L:List HP)(id:Int):KC prog 30 #[.int .i64 id] w0 L (fun u M=> ∃b,u=fK b/\M=gL b (CA id)::L):=by
 refine KC.mk (n:=24) func30 rfl ntmps30 ai ?_;refine lg ?_;refine KO.ZZ (Value.string) rfl rfl ?_;intro b6;refine XV ?_;refine KO.box rfl rfl aN rfl ?_;intro b8;refine KO.ins dD cr rfl rfl rfl rfl underlying89 underlying9 aQ ?_;refine Z1 ?_;refine KO.AR (pl:=[(0,1),(1,1),(2,1),(3,4),(7,5),(12,1),(13,1),(14,4),(18,4),(22,4),(26,1),(27,1),(28,1),(29,1)]) rfl zeroValue97 runUnderlying97 (by intro w;simp[sizeOf3,sizeOf4,sizeOf88,sizeOf89,sizeOf91,sizeOf93,sizeOf94,sizeOf95]) aN rfl ?_;refine KO.box rfl rfl aN rfl ?_;intro Rm;refine jo ?_;refine QG ?_;refine K.loop (fun k:List Nat=>[(3,fK Rm),(12,.int .i64 (k.length:Nat))])
  (fun k=>bA Rm (.cells (OH id b6 k).toArray 97 (0,0))::bI gR k (List.replicate k.length [])::gR b8 []::bP Value.string b6 [(cr,fK b8)]::L) (fun k=>k.length<=4) (fun k=>4-k.length) []
  ai ⟨rfl,rfl,trivial⟩ (fun w h=>?_) ?_
 ·have h2:St w0 (gR b8 []::bA Rm (.cells (OH id b6 []).toArray 97 (0,0))::bP Value.string b6 [(cr,fK b8)]::L) w:=II (h.all Y7);exact(Lh (f:=gR) h2).all Y7
 rintro ps hk;refine lW ?_;refine K.bn rfl (fun h7=>?_) (fun h7=>?_)
 ·have qC:ps.length<4:=by omega
  refine sy ?_;refine xc ?_;refine XV ?_;refine KO.box rfl rfl aN rfl ?_;intro U7;refine iD ?_;refine XG ?_;refine KO.jd (i:=ps.length) rfl rfl runUnderlying91 sizeOf90 rfl ae rfl ?_;refine KO.fu (b:=Rm) (i:=3+ps.length) rfl rfl rfl aN (by exact sizeOf90) rfl aQ yY (by rw[(KM 0 qC).2];omega) ?_;rw[(KM U7 qC).1];refine pE ?_;refine KQ.round (ps++[U7]) ez ez ⟨rfl,by simp[cB],trivial⟩ (fun w h=>?_);have h2:St w0 (gR U7 []::bI gR ps (List.replicate ps.length [])::bA Rm (.cells (OH id b6 (ps++[U7])).toArray 97 (0,0))::gR b8 []::bP Value.string b6 [(cr,fK b8)]::L) w:=II (h.all Y7);have h3:=po ai h2;rw[aW,List.length_singleton,List.replicate_succ'];exact h3.all Y2
 have qC:ps.length=4:=by omega
 refine Hy ?_;refine KQ.aU rfl rfl (fun w' aM=>⟨_,_,rfl,⟨Rm,rfl,rfl⟩,?_⟩);rw[qC]at aM;have h1:=po (f:=gR) (p:=b8) (x:=[]) (ps:=ps) (xs:=List.replicate 4 []) (by simp[qC]) (aM.all (M:=gR b8 []::bI gR ps (List.replicate 4 [])::bA Rm (.cells (OH id b6 ps).toArray 97 (0,0))::bP Value.string b6 [(cr,fK b8)]::L) Y7);have h2:=cw (E:=75) (sz:=3) (cf:=Nm.cells) (rC (f:=mZ (ps++[b8])) (p:=.slice none 0 0) (x:=[]) (fun L h=>cw h) 5 (rC (f:=ly) (p:=.slice none 0 0) (x:=[]) (fun L h=>cw h) 4 h1));have e4:(ps++[b8]).take 4=ps:=by rw[List.take_append_of_le_length ae,List.take_of_length_le ae]
 have ed:(ps++[b8]).drop 4=[b8]:=by rw[List.drop_append_of_le_length ae,List.drop_of_length_le ae];rfl
 refine bX ⟨.slice none 0 0,b6,ps++[b8],List.replicate 5 (.slice none 0 0),List.replicate 4 (.slice none 0 0)⟩ ⟨by simp[qC,CA],rfl,rfl,rfl,rfl,rfl,rfl,rfl,fun l hl d hd=>by
  have :=List.eq_of_mem_replicate (n:=5) hl
  rw[this]at hd;cases hd⟩ ?_
 have e1:du ⟨.slice none 0 0,b6,ps++[b8],List.replicate 5 (.slice none 0 0),List.replicate 4 (.slice none 0 0)⟩ (CA id)=OH id b6 ps:=by
  unfold du OH;rw[e4,qC];simp[CA]
 unfold l4;rw[e1];dsimp only;rw[ed];exact h2.all Y7
theorem uO(w0:World)(L:List HP)(b n:Nat)(R:Rh)(x:Nm)(hB:gd n R)(hn:n<=80000)(h1:x.name.size<=maxLen)(h2:x.gK.size<=maxLen):
 KC prog 32 #[fK b,.agg x.cells.toArray] w0 (gL b R::L) (fun u M=>u=.int .i64 (ln R x)/\M=gL b (jt R x)::L):=by
 have xU:=hB.fT;obtain⟨xn,xt,xh⟩:=x;dsimp only at h1 h2;refine KC.mk (n:=49) func32 rfl ntmps32 ai ?_;refine kO ?_;refine K.bV (fun _ h=>cI h) ?_;rintro⟨V,hV⟩;dsimp only;refine di ?_;refine KO.box rfl rfl aN rfl ?_;intro b3;refine jL ?_;refine abY ?_;refine LA ?_;refine B7 ?_;refine KO.ce (cp:=[]) rfl rfl rfl call85 rfl (UA w0 _ _ _ b 1 (du V R) 97 V.nv R.names ⟨xn,xt,xh⟩ aQ aQ rfl ae h1 h2) ?_;rintro v' L' ⟨rfl,rfl⟩;refine jo ?_;refine tY ?_;refine K.bn rfl (fun hm=>?_) (fun hm=>?_)
 ·refine xd ?_;refine KQ.aU rfl rfl (fun w' aM=>⟨_,_,rfl,⟨by unfold ln;rw[if_pos hm],rfl⟩,?_⟩);rw[show jt R ⟨xn,xt,xh⟩=R by unfold jt;rw[if_pos hm]];exact bX V hV (aM.all Y4)
 refine qP ?_;refine A3 ?_;refine EM ?_;refine K.bn rfl (fun hd=>?_) (fun hd=>?_)
 ·have hd:xn=cr:=hd;refine kr ?_;refine KQ.aU rfl rfl (fun w' aM=>⟨_,_,rfl,⟨by unfold ln;rw[if_neg hm,if_pos hd],rfl⟩,?_⟩);rw[show jt R ⟨xn,xt,xh⟩=R by unfold jt;rw[if_neg hm,if_pos hd]];exact bX V hV (aM.all Y4)
 have hd:¬xn=cr:=hd;have hE:ln R ⟨xn,xt,xh⟩=eB R:=by unfold ln;rw[if_neg hm,if_neg hd]
 have hW:jt R ⟨xn,xt,xh⟩=if eB R≠0 then eP R else sI (eP R) ⟨xn,xt,xh⟩:=by unfold jt;rw[if_neg hm,if_neg hd]
 refine K.conv (fun w h=>bX V hV (h.all (M:=l4 b V R (bA b3 (.cells (Nm.cells ⟨xn,xt,xh⟩).toArray 75 (0,0))::L)) Y7)) ?_
 refine qp ?_;refine KO.cl (cp:=[]) rfl rfl rfl call86 rfl (zt w0 _ b n R hB) ?_;rintro v' L' ⟨rfl,rfl⟩;refine jo ?_;refine tY ?_;refine K.bn rfl (fun hw=>?_) (fun hw=>?_)
 ·refine xd ?_;refine KQ.aU rfl rfl (fun w' aM=>⟨_,_,rfl,⟨by rw[hE],rfl⟩,?_⟩);rw[hW,if_pos hw];exact aM.all Y4
 rw[if_neg hw]at hW;have GJ:ln R ⟨xn,xt,xh⟩=0:=by rw[hE];simpa using hw
 obtain⟨-,wn,wk,wa,wu,-⟩:=ib R;clear hE hw hV;have kG:=hB.w;generalize eP R=R1 at hW wn wk wa wu kG ⊢;have Bi:=kG.fT;clear V;refine K.bV (fun _ h=>cI h) ?_;rintro⟨V,hV⟩;dsimp only;have ku:=hV.ps;have sv:=hV.al;have Ra:(V.ps.drop 4).length=R1.keys.length:=by rw[bf];omega
 refine Z6 ?_;refine K.draw [.pure,.pure,.pure,.read,.write] [0,1,2,3,4] bC bC ?_;refine sB ?_;refine LA ?_;refine Qp ?_;refine KO.cl (cp:=[]) rfl rfl rfl call87 rfl (RM w0 _ _ _ b 1 (du V R1) 97 V.nv R1.names ⟨xn,xt,xh⟩ br br rfl ae h1 h2) ?_;rintro v' L' ⟨rfl,v2,rfl⟩;rw[show(du V R1).set 1 v2=du {V with nv:=v2} {R1 with names:=iN R1.names ⟨xn,xt,xh⟩}from rfl];refine Z0 ?_;have lI:dz {V with nv:=v2} {R1 with names:=iN R1.names ⟨xn,xt,xh⟩}:=⟨hV.ps,hV.al,hV.us,hV.un,hV.ds,hV.db,hV.md,hV.ar,hV.dq⟩;have c2:(du {V with nv:=v2} {R1 with names:=iN R1.names ⟨xn,xt,xh⟩})[2]? =some (.map (some V.mb)):=rfl;by_cases hx:xt=⟨#[]⟩
 ·have Ij:decide (xt=⟨#[]⟩)=true:=decide_eq_true hx;have hg:=vV hV xn;cases hq:R1.kI xn with
  |none=>
   rw[hq]at hg;refine Zk ?_;refine pG ?_;refine B6 ?_;refine EP ?_;refine EP ?_;refine iD ?_;refine vI ?_;refine Xx ?_;refine KO.on rfl rfl Ij ?_;refine KO.bO (i:=2) rfl rfl isAgg89 br rfl c2 rfl ?_;refine vI ?_;refine TI ?_;refine vI ?_;refine pG ?_;refine KO.on rfl rfl Ij ?_;refine KO.zW dD xn rfl rfl rfl underlying89 underlying9 zeroValue90 aQ rfl ?_;rw[hg];refine KO.on rfl rfl Ij ?_;refine KO.BL rfl underlying90 rfl ?_;refine J1 ?_;refine Br ?_;refine ab9 ?_;refine Xx ?_;refine KO.bO (i:=2) rfl rfl isAgg89 br rfl c2 rfl ?_;refine TI ?_;refine pG ?_;refine XV ?_;refine KO.box rfl rfl aN rfl ?_;intro JJ;refine KO.Yz dD xn rfl rfl rfl rfl underlying89 underlying9 aQ ?_;rw[F9 _ _ _ _ Ra hq];refine qO ?_;refine KQ.aU rfl rfl (fun w' aM=>⟨_,_,rfl,⟨by rw[GJ],rfl⟩,?_⟩);rw[hW];rw[show sI R1 ⟨xn,xt,xh⟩=sK {R1 with names:=iN R1.names ⟨xn,xt,xh⟩} xn by unfold sI;dsimp only;rw[if_pos ⟨hx,hq⟩]];have h3:St w0 (gR JJ []::bI gR V.ps R1.all::bA b (.cells (du {V with nv:=v2} {R1 with names:=iN R1.names ⟨xn,xt,xh⟩}).toArray 97 (0,0))::fb v2 (iN R1.names ⟨xn,xt,xh⟩)::bP Value.string V.mb (eZ (R1.keys++[xn]) (V.ps.drop 4++[JJ]))::bI (mZ V.ps) V.us R1.ay::bI ly V.ds R1.bQ::L) w':=II (aM.all Y4)
   have h4:=po (f:=gR) ku h3;have et:(V.ps++[JJ]).take 4=V.ps.take 4:=by rw[List.take_append_of_le_length ae]
   have ed:(V.ps++[JJ]).drop 4=V.ps.drop 4++[JJ]:=by rw[List.drop_append_of_le_length ae]
   have eg:=PV (E:=278) (b:=JJ) (us:=V.us) (xs:=R1.ay) (ps:=V.ps) (fun l hl d hd=>by rw[ku];exact hV.dq l hl d hd)
   refine bX {V with nv:=v2,ps:=V.ps++[JJ]} ⟨by simp[sK,ku],by simp[sK,sv];omega,hV.us,hV.un,hV.ds,hV.db,hV.md,hV.ar,fun l hl d hd=>by
    have :=hV.dq l hl d hd
    simp only[sK,aW,List.length_singleton];omega⟩ ?_
   have e1:du {V with nv:=v2,ps:=V.ps++[JJ]} (sK {R1 with names:=iN R1.names ⟨xn,xt,xh⟩} xn)=du {V with nv:=v2} {R1 with names:=iN R1.names ⟨xn,xt,xh⟩}:=by unfold du;dsimp only;rw[et];rfl
   unfold l4;rw[e1];dsimp only[sK];rw[ed];have h5:=h4.all (M:=bI (mZ V.ps) V.us R1.ay::bA b (.cells (du {V with nv:=v2} {R1 with names:=iN R1.names ⟨xn,xt,xh⟩}).toArray 97 (0,0))::fb v2 (iN R1.names ⟨xn,xt,xh⟩)::bP Value.string V.mb (eZ (R1.keys++[xn]) (V.ps.drop 4++[JJ]))::bI gR (V.ps++[JJ]) (R1.all++[[]])::bI ly V.ds R1.bQ::L) Y7;have h6:St w0 (bI (mZ (V.ps++[JJ])) V.us R1.ay::_) w':=eg▸h5;exact h6.all Y7
  |some i=>
   rw[hq]at hg;refine Zk ?_;refine pG ?_;refine B6 ?_;refine EP ?_;refine EP ?_;refine iD ?_;refine vI ?_;refine Xx ?_;refine KO.on rfl rfl Ij ?_;refine KO.bO (i:=2) rfl rfl isAgg89 br rfl c2 rfl ?_;refine vI ?_;refine TI ?_;refine vI ?_;refine pG ?_;refine KO.on rfl rfl Ij ?_;refine KO.zW dD xn rfl rfl rfl underlying89 underlying9 zeroValue90 aQ rfl ?_;rw[hg];refine KO.on rfl rfl Ij ?_;refine KO.Ay rfl underlying90 rfl ?_;refine J1 ?_;refine Z3 ?_;refine Lz ?_;refine xf ?_;refine KQ.aU rfl rfl (fun w' aM=>⟨_,_,rfl,⟨by rw[GJ],rfl⟩,?_⟩);rw[hW];rw[show sI R1 ⟨xn,xt,xh⟩={R1 with names:=iN R1.names ⟨xn,xt,xh⟩}by unfold sI;dsimp only;rw[if_neg (by rw[hq];simp)]];exact bX {V with nv:=v2} lI (aM.all Y4)
 ·have Ij:decide (xt=⟨#[]⟩)=false:=decide_eq_false hx;refine Zk ?_;refine pG ?_;refine B6 ?_;refine Z1 ?_;refine B8 ?_;refine B8 ?_;refine B8 ?_;refine B8 ?_;refine KO.lB rfl sE rfl rfl ?_;refine Z3 ?_;refine K.ct rfl vP ?_;refine Z6 ?_;refine xf ?_;refine KQ.aU rfl rfl (fun w' aM=>⟨_,_,rfl,⟨by rw[GJ],rfl⟩,?_⟩);rw[hW];rw[show sI R1 ⟨xn,xt,xh⟩={R1 with names:=iN R1.names ⟨xn,xt,xh⟩}by unfold sI;dsimp only;rw[if_neg vP]];exact bX {V with nv:=v2} lI (aM.all Y4)
theorem zu(w0:World)(L:List HP)(b n:Nat)(R:Rh)(s:aj)(hB:gd n R)(hn:n<=80000):
 KC prog 95 #[fK b,.string s] w0 (gL b R::L) (fun u M=>u=.int .i64 (zx R s)/\M=gL b (DW R s)::L):=by
 have xU:=hB.fT;refine KC.mk (n:=28) func95 rfl ntmps95 ai ?_;refine kO ?_;refine K.bV (fun _ h=>cI h) ?_;rintro⟨V,hV⟩;dsimp only;refine di ?_;refine jo ?_;refine iD ?_;refine LA ?_;refine Z1 ?_;refine KO.ce (cp:=[]) rfl rfl rfl call172 rfl (Si w0 _ _ _ b 1 (du V R) 97 V.nv R.names s br br rfl ae) ?_;rintro v' L' ⟨rfl,rfl⟩;refine LB ?_;refine KO.alloc rfl zeroValue75 aN rfl ?_;intro b5;refine B5 ?_;refine jo ?_;refine oJ ?_;cases hl:lk R.names s with
 |none=>
  refine JV ?_;refine kr ?_;refine KQ.aU rfl rfl (fun w' aM=>⟨_,_,rfl,⟨by unfold zx;rw[if_pos hl],rfl⟩,?_⟩);rw[show DW R s=R by unfold DW;rw[if_pos hl]];exact bX V hV (aM.all Y4)
 |some y=>
 have Bj:¬lk R.names s=none:=by rw[hl];simp
 have hE:zx R s=if eB R≠0 then eB R else og R.names s:=by unfold zx;rw[if_neg Bj]
 have hW:DW R s=if eB R≠0 then eP R else {eP R with names:=fU R.names s}:=by unfold DW;rw[if_neg Bj]
 refine J4 ?_;refine K.conv (fun w h=>bX V hV (h.all (M:=l4 b V R L) Y4)) ?_
 refine cW ?_;refine KO.cl (cp:=[]) rfl rfl rfl call86 rfl (zt w0 _ b n R hB) ?_;rintro v' L' ⟨rfl,rfl⟩;refine jo ?_;refine tY ?_;refine K.bn rfl (fun hw=>?_) (fun hw=>?_)
 ·refine xd ?_;refine KQ.aU rfl rfl (fun w' aM=>⟨_,_,rfl,⟨by rw[hE,if_pos hw],rfl⟩,?_⟩);rw[hW,if_pos hw];exact aM.all ft
 rw[if_neg hw]at hW hE;obtain⟨-,wn,wk,wa,wu,-⟩:=ib R;rw[<-wn]at hW hE;clear hw hV;have kG:=hB.w;generalize eP R=R1 at hW hE wn kG ⊢;have Bi:=kG.fT;clear V;refine K.bV (fun _ h=>cI h) ?_;rintro⟨V,hV⟩;dsimp only;refine Z6 ?_;refine g_ ?_;refine LA ?_;refine Z1 ?_;refine KO.cl (cp:=[]) rfl rfl rfl call173 rfl (FA w0 _ _ _ b 1 (du V R1) 97 V.nv R1.names s br br rfl ae) ?_;rintro v' L' ⟨rfl,v2,rfl⟩;rw[show(du V R1).set 1 v2=du {V with nv:=v2} {R1 with names:=fU R1.names s}from rfl];refine kq ?_;refine KQ.aU rfl rfl (fun w' aM=>⟨_,_,rfl,⟨by rw[hE],rfl⟩,?_⟩);rw[hW];exact bX {V with nv:=v2} ⟨hV.ps,hV.al,hV.us,hV.un,hV.ds,hV.db,hV.md,hV.ar,hV.dq⟩ (aM.all ft)
theorem RP(w0:World)(L:List HP)(b n:Nat)(R:Rh)(u:Int)(s:aj)(pri:Int)(body:aj)(hB:gd n R)(hn:n<=80000)(hb:body.size<=maxLen):
 KC prog 96 #[fK b,.int .i64 u,.string s,.int .i64 pri,.string body] w0 (gL b R::L) (fun v M=>v=.tuple #[.int .i64 (rf R u s pri body),.int .i64 (fO R u s pri body)]/\M=gL b (n7 R u s pri body)::L):=by
 have xU:=hB.fT;have hid:=hB.id;have hco:=hB.count;have ends:∀k:Int,k≠0->fO R u s pri body=k->(Value.tuple #[.int .i64 0,.int .i64 k]=.tuple #[.int .i64 (rf R u s pri body),.int .i64 (fO R u s pri body)]/\gL b R::L=gL b (n7 R u s pri body)::L):=fun k hk he=>by
  unfold n7 rf;rw[if_pos (by rw[he];exact hk),if_pos (by rw[he];exact hk),he];exact⟨rfl,rfl⟩
 refine KC.mk (n:=121) func96 rfl ntmps96 ai ?_;refine iz ?_;refine jL ?_;by_cases hu:¬(0<=u/\u<=4)
 ·refine cW ?_;refine KO.ce (cp:=[]) rfl rfl rfl call118 rfl (kC w0 _ _ _ _) ?_;rintro v' L' ⟨rfl,rfl⟩;rw[show(decide ((0:Int)<=u)&&decide (u<=4))=false by simpa using hu];refine A4 ?_;refine yg ?_;refine KQ.dG rfl rfl rfl (fun w' aM=>⟨_,_,rfl,ends 2 ah (by unfold fO;rw[if_pos hu]),aM⟩)
 have UF:0<=u/\u<=4:=by omega
 refine cW ?_;refine KO.ce (cp:=[]) rfl rfl rfl call118 rfl (kC w0 _ _ _ _) ?_;rintro v' L' ⟨rfl,rfl⟩;rw[show(decide ((0:Int)<=u)&&decide (u<=4))=true by simp[UF.1,UF.2]];refine BX ?_;by_cases hpb:¬(0<=pri/\pri<=9/\fJ body=true)
 ·have he:=ends 1 ah (by unfold fO;rw[if_neg hu,if_pos hpb]);by_cases hp:0<=pri/\pri<=9
  ·have hbf:fJ body=false:=by
    cases UQ:fJ body with
    |false=>rfl
    |true=>exact absurd ⟨hp.1,hp.2,UQ⟩ hpb
   refine cW ?_;refine KO.ce (cp:=[]) rfl rfl rfl call118 rfl (kC w0 _ _ _ _) ?_;rintro v' L' ⟨rfl,rfl⟩;rw[show(decide ((0:Int)<=pri)&&decide (pri<=9))=true by simp[hp.1,hp.2]];refine pC ?_;refine A1 ?_;refine KO.on rfl rfl rfl ?_;refine KO.ce (cp:=[]) rfl rfl rfl call180 rfl (uW w0 _ body hb) ?_;rintro v' L' ⟨rfl,rfl⟩;rw[hbf];refine pD ?_;refine tW ?_;refine Br ?_;refine yg ?_;refine KQ.dG rfl rfl rfl (fun w' aM=>⟨_,_,rfl,he,aM⟩)
  ·refine cW ?_;refine KO.ce (cp:=[]) rfl rfl rfl call118 rfl (kC w0 _ _ _ _) ?_;rintro v' L' ⟨rfl,rfl⟩;rw[show(decide ((0:Int)<=pri)&&decide (pri<=9))=false by simpa using hp];refine pC ?_;refine B_ ?_;refine EV ?_;refine yg ?_;refine KQ.dG rfl rfl rfl (fun w' aM=>⟨_,_,rfl,he,aM⟩)
 have Wl:0<=pri/\pri<=9/\fJ body=true:=Classical.not_not.1 hpb;refine cW ?_;refine KO.ce (cp:=[]) rfl rfl rfl call118 rfl (kC w0 _ _ _ _) ?_;rintro v' L' ⟨rfl,rfl⟩;rw[show(decide ((0:Int)<=pri)&&decide (pri<=9))=true by simp[Wl.1,Wl.2.1]];refine pC ?_;refine A1 ?_;refine KO.on rfl rfl rfl ?_;refine KO.ce (cp:=[]) rfl rfl rfl call180 rfl (uW w0 _ body hb) ?_;rintro v' L' ⟨rfl,rfl⟩;rw[Wl.2.2];refine pD ?_;refine A6 ?_;refine K.bV (fun _ h=>cI h) ?_;rintro⟨V,hV⟩;dsimp only;have ku:=hV.ps;have sv:=hV.al;have hlen:=fL hV;have c0:(du V R)[0]? =some (.int .i64 R.id):=rfl;have P4:(du V R)[27]? =some (.bool R.down):=jS hV 1;have c12:(du V R)[12]? =some (.int .i64 R.count):=Oe hV (i:=0) ah;have qL:sj R.names (R.names.length+1) [] s=((dP R s).1,(dP R s).2.1,(dP R s).2.2):=rfl;have hto:=hB.dto s;have hrr:=(tf hB.right (R.names.length+1) [] s).2;refine g_ ?_;refine LA ?_;refine Z1 ?_;refine KO.ce (cp:=[]) rfl rfl rfl call181 rfl (IG w0 _ _ _ b 1 (du V R) 97 V.nv R.names s br br rfl ae) ?_;rintro v' L' ⟨rfl,rfl⟩;rw[qL];refine Hv ?_;refine jo ?_;refine tY ?_;refine K.bn rfl (fun h6=>?_) (fun h6=>?_)
 ·refine JR ?_;refine KQ.dG rfl rfl rfl (fun w' aM=>⟨_,_,rfl,ends _ h6 (by unfold fO;rw[if_neg hu,if_neg hpb,if_pos h6]),bX V hV (aM.all ft)⟩)
 have SJ:cH (dP R s).1=true:=hrr (Classical.not_not.1 h6);refine Z6 ?_;refine HZ ?_;refine Z3 ?_;refine K.cut (fun _:Unit=>[(0,fK b),(1,.int .i64 u),(2,.string (dP R s).1),(3,.int .i64 pri),(4,.string body),(12,.int .i64 (lS R s))]) (fun _=>l4 b V R L) (fun _=>True) ?_ ?_
 ·refine K.bn rfl (fun h8=>?_) (fun h8=>?_)
  ·have e:lS R s=R.id:=by unfold lS;rw[if_pos h8]
   refine g_ ?_;refine XF ?_;refine rL ?_;exact KQ.kT () trivial ⟨rfl,rfl,rfl,rfl,rfl,by rw[e];rfl,trivial⟩ (fun w' aM=>aM.all ft)
  ·have e:lS R s=(dP R s).2.1:=by unfold lS;rw[if_neg h8]
   refine B3 ?_;exact KQ.kT () trivial ⟨rfl,rfl,rfl,rfl,rfl,by rw[e];rfl,trivial⟩ (fun w' aM=>aM.all ft)
 rintro⟨⟩-
 try dsimp only
 obtain⟨j,hj⟩:∃j:Nat,lS R s=(j:Int):=⟨(lS R s).toNat,by omega⟩;have hj4:j<4:=by omega
 have hjn:(lS R s).toNat=j:=by omega
 obtain⟨pj,hpj⟩:∃e,V.ps[j]? =some e:=⟨_,ak ae⟩;have c3:=uS hV hj4 hpj;have hEq:fO R u s pri body=if lS R s=R.id/\dJ R.names (dP R s).1=false then 7 else if R.down=true then 6 else iK (R.lq (cT R s)) (CB R s pri body):=by unfold fO;rw[if_neg hu,if_neg hpb,if_neg h6]
 refine lO ?_;refine iD ?_;refine XG ?_;refine KO.jd (i:=j) rfl rfl runUnderlying91 sizeOf90 hj ae rfl ?_;refine XC ?_;refine jo ?_;refine sB ?_;refine XF ?_;refine mM ?_;refine K.cut (fun _:Unit=>[(0,fK b),(1,.int .i64 u),(2,.string (dP R s).1),(3,.int .i64 pri),(4,.string body),(12,.int .i64 (lS R s)),(14,fK (V.ps.getD (cT R s) 0))]) (fun _=>l4 b V R L) (fun _=>lS R s=R.id->dJ R.names (dP R s).1=true) ?_ ?_
 ·refine K.bn rfl (fun Ao=>?_) (fun Ao=>?_)
  ·refine m_ ?_;refine iD ?_;refine LA ?_;refine Z1 ?_;refine KO.ce (cp:=[]) rfl rfl rfl call182 rfl (rb w0 _ _ _ b 1 (du V R) 97 V.nv R.names (dP R s).1 br br rfl ae) ?_;rintro v' L' ⟨rfl,rfl⟩;refine oJ ?_;cases Jm:dJ R.names (dP R s).1 with
   |false=>
    refine JV ?_;refine yg ?_;refine KQ.dG rfl rfl rfl (fun w' aM=>⟨_,_,rfl,ends 7 ah (by rw[hEq,if_pos ⟨Ao,Jm⟩]),bX V hV (aM.all ft)⟩)
   |true=>
    obtain⟨-,h2⟩:=hB.OT (s:=s) (fun _=>Jm);obtain⟨h3,h4⟩:=h2 Ao;have MK:=vV hV (dP R s).1;rw[h3]at MK;dsimp only at MK;rw[show 4+(cT R s-4)=cT R s by omega]at MK;refine K.ct rfl (by rfl) ?_;refine Nb ?_;refine g_ ?_;refine Qy ?_;refine Z1 ?_;refine KO.zW dD (dP R s).1 rfl rfl rfl underlying89 underlying9 zeroValue90 aQ rfl ?_;rw[MK];refine rL ?_;exact KQ.kT () (fun _=>by rfl) ⟨rfl,rfl,rfl,rfl,rfl,rfl,rfl,trivial⟩ (fun w' aM=>aM.all ft)
  ·have e:cT R s=j:=by unfold cT;rw[if_neg Ao,hjn]
   have e2:V.ps.getD (cT R s) 0=pj:=by rw[e,au,hpj];rfl
   refine B3 ?_;exact KQ.kT () (fun h=>absurd h Ao) ⟨rfl,rfl,rfl,rfl,rfl,rfl,by rw[e2];rfl,trivial⟩ (fun w' aM=>aM.all ft)
 rintro⟨⟩ Gu
 try dsimp only
 obtain⟨dN,-⟩:=hB.OT Gu;have abf:fO R u s pri body=if R.down=true then 6 else iK (R.lq (cT R s)) (CB R s pri body):=by rw[hEq,if_neg (fun h=>by rw[Gu h.1]at h;exact absurd h.2 ah)]
 refine m_ ?_;refine iD ?_;refine Xy ?_;refine Z3 ?_;refine K.cond rfl (fun hd=>?_) (fun hd=>?_)
 ·refine yg ?_;refine KQ.dG rfl rfl rfl (fun w' aM=>⟨_,_,rfl,ends 6 ah (by rw[abf,if_pos hd]),bX V hV (aM.all ft)⟩)
 have Ju:fO R u s pri body=iK (R.lq (cT R s)) (CB R s pri body):=by rw[abf,if_neg (by rw[hd];decide)]
 obtain⟨p,hp⟩:∃e,V.ps[cT R s]? =some e:=⟨_,ak ae⟩;have BH:V.ps.getD (cT R s) 0=p:=by rw[au,hp];rfl
 rw[BH];have Im:=hB.lq (cT R s);have wG:=nB dN;have Q0:(CB R s pri body).queue.size<=maxLen:=Nat.le_trans (hP SJ).2 ah;have YV:(CB R s pri body).body.size<=maxLen:=hb;have sr:CB R s pri body=⟨R.count *4+R.id,pri,body,(dP R s).1,lS R s⟩:=rfl;refine Z6 ?_;refine acx ?_;refine TX ?_;refine KO.bO (i:=12) rfl rfl isAgg3 br rfl c12 rfl ?_;refine KO.mul rfl rfl rfl ae rfl ?_;refine sB ?_;refine XF ?_;refine vO ?_;refine gZ ?_;refine gZ ?_;refine Z36 ?_;refine KO.alloc rfl zeroValue44 aN rfl ?_;intro b15;refine tX ?_;generalize CB R s pri body=m at Ju Q0 YV sr ends;refine K.conv (L':=bA b15 (.cells (dy m).toArray 44 (0,0))::l4 b V R L) (fun w h=>by rw[sr];exact h.all ft) ?_
 have hId:fO R u s pri body=0->rf R u s pri body=m.id:=fun e=>by unfold rf;rw[if_neg (by rw[e];decide),sr]
 have hSt:fO R u s pri body=0->n7 R u s pri body={R.ff (cT R s) (eT (R.lq (cT R s)) m u)with count:=R.count+1,ay:=R.ay.set u.toNat (R.uq u.toNat++[⟨true,m,cT R s⟩])}:=fun e=>by unfold n7;rw[if_neg (by rw[e];decide),sr];rfl
 clear sr;obtain⟨mi,mp,mb,mq,mh⟩:=m;refine cW ?_;refine yl ?_;refine Z1 ?_;refine KO.cl (cp:=[]) rfl rfl rfl call183 rfl (KC.rD (φ:=fun v=>v=.int .i64 (iK (R.lq (cT R s)) ⟨mi,mp,mb,mq,mh⟩)) hp wG aQ (fun L=>VF w0 L p (R.lq (cT R s)) ⟨mi,mp,mb,mq,mh⟩ u ae YV Q0)) ?_;rintro v' L' ⟨rfl,rfl⟩;refine jo ?_;refine tY ?_;refine K.bn rfl (fun h19=>?_) (fun h19=>?_)
 ·have sL:q_ (R.lq (cT R s)) ⟨mi,mp,mb,mq,mh⟩ u=R.lq (cT R s):=by unfold q_;rw[if_neg h19]
  refine JR ?_;refine KQ.dG rfl rfl rfl (fun w' aM=>?_);rw[sL,List.dE wG]at aM;exact⟨_,_,rfl,ends _ h19 Ju,bX V hV (aM.all Y4)⟩
 have Tg:iK (R.lq (cT R s)) ⟨mi,mp,mb,mq,mh⟩=0:=by simpa using h19
 have BG:q_ (R.lq (cT R s)) ⟨mi,mp,mb,mq,mh⟩ u=eT (R.lq (cT R s)) ⟨mi,mp,mb,mq,mh⟩ u:=by unfold q_;rw[if_pos Tg]
 rw[BG];have hId:=hId (Ju.trans Tg);have hSt:=hSt (Ju.trans Tg);have Ju:=Ju.trans Tg;obtain⟨ju,rfl⟩:∃ju:Nat,u=(ju:Int):=⟨u.toNat,by omega⟩;have S3:ju<5:=by omega
 rw[aE]at hSt;have K3:=hB.Bw _ (ax (uB (R:=R) (u:=ju) Y40));obtain⟨uv,Gh⟩:∃e,V.us[ju]? =some e:=⟨_,ak Y41⟩;have UD:=uB (R:=R) (u:=ju) Y40;have iB:dz V {R with count:=R.count+1}:=hV.same rfl rfl rfl rfl rfl rfl;have c7:(du V {R with count:=R.count+1})[7+ju]? =some uv:=by rw[DX iB S3];exact Gh
 have Ai:=fL iB;refine Z6 ?_;refine g_ ?_;refine TX ?_;refine KO.bO (i:=12) rfl rfl isAgg3 aQ rfl c12 rfl ?_;refine Hn ?_;refine TX ?_;refine KO.fu (i:=12) rfl rfl rfl aN uc rfl aQ rfl Yr ?_;rw[CH hV];refine Z0 ?_;refine acB ?_;refine gZ ?_;refine gZ ?_;refine Nu ?_;refine T6 ?_;refine KO.bO (i:=7+ju) rfl rfl isAgg92 aQ xI c7 rfl ?_;refine Qe ?_;refine Z1 ?_;refine aci ?_;refine KO.sw (z:=(Value.agg #[.bool false,.int .i64 0,.int .i64 0,.string ⟨#[]⟩,.string ⟨#[]⟩,.int .i64 0,.pointer none])) (sz:=7) (fk:=72) rfl rfl underlying92 bC aN aN ah ah rfl ?_;intro ak4;refine KO.app (z:=Value.agg #[.bool false,.int .i64 0,.int .i64 0,.string ⟨#[]⟩,.string ⟨#[]⟩,.int .i64 0,.pointer none]) (sz:=7) (fk:=72) (xs:=R.uq ju) (cf:=GY V.ps) rfl rfl rfl (.tail .head) .head underlying92 bC aN ⟨true,⟨mi,mp,mb,mq,mh⟩,cT R s⟩ (by unfold GY;rw[BH];rfl) rfl rfl ae ah rfl ?_;intro DN;refine KO.fact (fun _ hs=>bo hs) ?_;rintro⟨a13,k13,SK,-⟩;refine T6 ?_;refine KO.fu (i:=7+ju) rfl rfl rfl Vf (by exact sizeOf92) Vf aQ xI (by rw[Ai];omega) ?_;rw[td iB S3];refine rK ?_;refine Nj ?_;refine sD ?_;refine nP ?_;refine KQ.dG rfl rfl rfl (fun w' aM=>⟨_,_,rfl,⟨by rw[hId,Ju],rfl⟩,?_⟩);rw[hSt]
 have h2:=kY (f:=mZ V.ps) (ps:=V.us) (xs:=R.ay) (i:=ju) (p:=DN) (x:=R.uq ju++[⟨true,⟨mi,mp,mb,mq,mh⟩,cT R s⟩]) Y41 Y40 (aM.all (M:=mZ V.ps DN (R.uq ju++[⟨true,⟨mi,mp,mb,mq,mh⟩,cT R s⟩])::bI (mZ V.ps) (V.us.eraseIdx ju) (R.ay.eraseIdx ju)::bA b (.cells (du {V with us:=V.us.set ju DN} {R with count:=R.count+1}).toArray 97 (0,0))::fb V.nv R.names::bP Value.string V.mb (eZ R.keys (V.ps.drop 4))::bI gR V.ps (R.all.set (cT R s) (eT (R.lq (cT R s)) ⟨mi,mp,mb,mq,mh⟩ (ju:Int)))::bI ly V.ds R.bQ::L) Y4);refine bX {V with us:=V.us.set ju DN} ⟨by simp[Rh.ff,ku],by simp[Rh.ff,sv],by simp[hV.us],by simp[hV.un],hV.ds,hV.db,hV.md,hV.ar,fun l hl d wQ=>?_⟩ (h2.all Y7);have el:(R.ff (cT R s) (eT (R.lq (cT R s)) ⟨mi,mp,mb,mq,mh⟩ (ju:Int))).all.length=R.all.length:=by simp[Rh.ff]
 dsimp only;rw[el];rcases aD hl with h3|h3
 ·exact hV.dq l h3 d wQ
 ·rw[h3]at wQ;rcases aO.1 wQ with h4|h4
  ·exact hV.dq _ (ax UD) d h4
  ·rw[List.mem_singleton.1 h4];exact dN
theorem KC.PR{α β γ:Type}{f:α->β->HP}{P:Program}{g:FuncId}{args:Array Value}{w0:World}{L R:List HP}{ps:List α}{xs:List β}{p:α}{x:β}{i:Nat}{φ:γ->Value->Prop}{A:γ->HP}(hp:ps[i]? =some p)(hx:xs[i]? =some x)(pk:bB L (bI f ps xs) R)(h:∀L,KC P g args w0 (f p x::L) (fun u M=> ∃c,φ c u/\M=A c::f p x::L)):
 KC P g args w0 L (fun u M=> ∃c,φ c u/\M=A c::bI f ps xs::R):=
 KC.perm (L':=f p x::bI f (ps.eraseIdx i) (xs.eraseIdx i)::R) (fun w hw=>cM hp hx (hw.pick pk)) (KC.DQ (h _) (by
  rintro v M ⟨c,h1,rfl⟩
  exact⟨_,⟨c,h1,rfl⟩,fun w hw=>(fY hp hx ((hw.pick (A:=f p x) (.tail .head)).ey .head (.tail .head))).lZ⟩))
theorem Fy(w0:World)(L:List HP)(b:Nat)(l:List Ri)(hq:l.length<=90000):KC prog 90 #[.pointer (some ⟨b,0,none⟩)] w0 (gR b l::L) (fun v M=> ∃c,v=c/\M=oN c (eO l)::gR b l::L):=
 KC.DQ (N9 w0 L b l hq) (by rintro v M rfl;exact⟨_,⟨v,rfl,rfl⟩,fun _ h=>h⟩)
theorem DV(w0:World)(L:List HP)(b:Nat)(l:List Ri)(hq:l.length<=90000):KC prog 91 #[.pointer (some ⟨b,0,none⟩)] w0 (gR b l::L) (fun v M=> ∃c,v=c/\M=oN c (iL l)::gR b l::L):=
 KC.DQ (RO w0 L b l hq) (by rintro v M rfl;exact⟨_,⟨v,rfl,rfl⟩,fun _ h=>h⟩)
theorem L2(w0:World)(L:List HP)(b n:Nat)(R:Rh)(s:aj)(hB:gd n R)(hn:n<=80000):
 KC prog 104 #[fK b,.string s] w0 (gL b R::L) (fun u M=> ∃v,u=.tuple #[v,.int .i64 (jR R s)]/\M=oN v (jm R s)::gL b R::L):=by
 have xU:=hB.fT;refine KC.mk (n:=14) func104 rfl ntmps104 ai ?_;refine iz ?_;refine jL ?_;refine K.bV (fun _ h=>cI h) ?_;rintro⟨V,hV⟩;dsimp only;refine gY ?_;refine KO.cl (cp:=[]) rfl rfl rfl call184 rfl (Oa w0 L b V R s hV xU) ?_;rintro v' L' ⟨rfl,rfl⟩;refine jL ?_;unfold jR jm;cases ho:kA R s with
 |none=>
  refine cW ?_;refine KO.BL rfl underlying90 rfl ?_;refine Br ?_;refine yg ?_;refine KQ.dG rfl rfl rfl (fun w' aM=>⟨_,_,rfl,⟨_,rfl,rfl⟩,?_⟩);exact cw (bX V hV (aM.all ft))
 |some q=>
  have hq:=hB.of ho;have ku:=hV.ps;obtain⟨p,hp⟩:∃e,V.ps[q]? =some e:=⟨_,ak ae⟩;have BH:V.ps.getD q 0=p:=by rw[au,hp];rfl
  have Im:=hB.lq q;dsimp only;rw[BH];refine cW ?_;refine KO.Ay rfl underlying90 rfl ?_;refine Z3 ?_;refine Lz ?_;refine cW ?_;refine KO.cl (cp:=[]) rfl rfl rfl call90 rfl (KC.PR (γ:=Value) (φ:=fun c u=>u=c) (A:=fun c=>oN c (eO (R.lq q))) hp (nB hq) aQ (fun L=>Fy w0 L p (R.lq q) ae)) ?_;rintro v' L' ⟨c,rfl,rfl⟩;refine KO.fact (fun _ hs=>bo hs) ?_;rintro⟨ac,kc,rfl,-⟩;refine nP ?_;refine KQ.dG rfl rfl rfl (fun w' aM=>⟨_,_,rfl,⟨_,rfl,rfl⟩,?_⟩);exact(bX V hV (aM.all (M:=l4 b V R (oN (.slice ac (eO (R.lq q)).length kc) (eO (R.lq q))::L)) Y7)).all Y7
theorem L1(w0:World)(L:List HP)(b n:Nat)(R:Rh)(k:Int)(hB:gd n R)(hn:n<=80000):
 KC prog 109 #[fK b,.int .i64 k] w0 (gL b R::L) (fun u M=> ∃v,u=.tuple #[v,.int .i64 (jl R k)]/\M=oN v (s_ R k)::gL b R::L):=by
 refine KC.mk (n:=17) func109 rfl ntmps109 ai ?_;refine iz ?_;refine jL ?_;unfold jl s_;refine gY ?_;refine KO.ce (cp:=[]) rfl rfl rfl call89 rfl (rT w0 _ _ b R k .head) ?_;rintro v' L' ⟨rfl,rfl⟩;refine oJ ?_;cases ho:dA R k with
 |false=>
  refine JV ?_;refine yg ?_;refine KQ.dG rfl rfl rfl (fun w' aM=>⟨_,_,rfl,⟨_,by rfl,rfl⟩,?_⟩);exact cw aM
 |true=>
  have hk:0<=k/\k<=3:=by unfold dA at ho;simp at ho;omega
  obtain⟨j,rfl⟩:∃j:Nat,k=(j:Int):=⟨k.toNat,by omega⟩;have hj:j<4:=by omega
  refine J4 ?_;refine K.bV (fun _ h=>cI h) ?_;rintro⟨V,hV⟩;dsimp only;have ku:=hV.ps;have sv:=hV.al;obtain⟨p,hp⟩:∃e,V.ps[j]? =some e:=⟨_,ak ae⟩;have c3:=uS hV hj hp;have Im:=hB.lq j;refine JO ?_;refine Ue ?_;refine XC ?_;refine KO.cl (cp:=[]) rfl rfl rfl call91 rfl (KC.PR (γ:=Value) (φ:=fun c u=>u=c) (A:=fun c=>oN c (iL (R.lq j))) hp (nB ae) aQ (fun L=>DV w0 L p (R.lq j) ae)) ?_;rintro v' L' ⟨c,rfl,rfl⟩;refine KO.fact (fun _ hs=>bo hs) ?_;rintro⟨ac,kc,rfl,-⟩;refine nP ?_;refine KQ.dG rfl rfl rfl (fun w' aM=>⟨_,_,rfl,⟨_,rfl,rfl⟩,?_⟩);exact(bX V hV (aM.all (M:=l4 b V R (oN (.slice ac (iL (R.lq j)).length kc) (iL (R.lq j))::L)) Y7)).all Y7
theorem RS(w0:World)(L:List HP)(b n:Nat)(R:Rh)(u:Int)(s:aj)(hB:gd n R)(hn:n<=80000):
 KC prog 97 #[fK b,.int .i64 u,.string s] w0 (gL b R::L) (fun v M=>v=.tuple #[.agg (dy (nr R u s)).toArray,.int .i64 (gM R u s)]/\M=gL b (nt R u s)::L):=by
 have xU:=hB.fT;have ends:∀k:Int,k≠0->gM R u s=k->nr R u s=iP->(Value.tuple #[.agg (dy iP).toArray,.int .i64 k]=.tuple #[.agg (dy (nr R u s)).toArray,.int .i64 (gM R u s)]/\gL b R::L=gL b (nt R u s)::L):=fun k hk he hm=>by
  unfold nt;rw[if_pos (by rw[he];exact hk),he,hm];exact⟨rfl,rfl⟩
 refine KC.mk (n:=52) func97 rfl ntmps97 ai ?_;refine Z2 ?_;refine KO.alloc rfl zeroValue44 aN rfl ?_;intro b6;refine jL ?_;by_cases hu:¬(0<=u/\u<=4)
 ·refine cW ?_;refine KO.ce (cp:=[]) rfl rfl rfl call118 rfl (kC w0 _ _ _ _) ?_;rintro v' L' ⟨rfl,rfl⟩;rw[show(decide ((0:Int)<=u)&&decide (u<=4))=false by simpa using hu];refine A4 ?_;refine Nd ?_;refine Hm ?_;refine KQ.gT rfl rfl isAgg44 br yX rfl (fun w' aM=>⟨_,gL b R::L,rfl,?_,?_⟩)
  ·exact ends 2 ah (by unfold gM;rw[if_pos hu]) (by unfold nr;rw[if_pos hu])
  ·exact aM.all Y4
 have UF:0<=u/\u<=4:=by omega
 refine cW ?_;refine KO.ce (cp:=[]) rfl rfl rfl call118 rfl (kC w0 _ _ _ _) ?_;rintro v' L' ⟨rfl,rfl⟩;rw[show(decide ((0:Int)<=u)&&decide (u<=4))=true by simp[UF.1,UF.2]];refine BX ?_;refine K.conv (fun w h=>h.pick (A:=gL b R) aQ) ?_
 refine K.bV (fun _ h=>cI h) ?_;rintro⟨V,hV⟩;dsimp only;have ku:=hV.ps;have sv:=hV.al;have hlen:=fL hV;have P4:(du V R)[27]? =some (.bool R.down):=jS hV 1;refine gY ?_;refine KO.cl (cp:=[]) rfl rfl rfl call184 rfl (Oa w0 _ b V R s hV xU) ?_;rintro v' L' ⟨rfl,rfl⟩;refine jL ?_;have hE:gM R u s=match kA R s with|none=>7|some q=>if R.down=true then 6 else qy (R.lq q):=by unfold gM;rw[if_neg hu];all_goals rfl
 have hM:nr R u s=match kA R s with|none=>iP|some q=>if R.down=true then iP else kK (R.lq q):=by unfold nr;rw[if_neg hu];all_goals rfl
 have hS:gM R u s=0->nt R u s=match kA R s with|none=>R|some q=>{R.ff q (oA (R.lq q) u)with ay:=R.ay.set u.toNat (R.uq u.toNat++[⟨false,kK (R.lq q),q⟩])}:=fun e=>by unfold nt;rw[if_neg (by rw[e];decide)];all_goals rfl
 cases ho:kA R s with
 |none=>
  rw[ho]at hE hM;refine cW ?_;refine KO.BL rfl underlying90 rfl ?_;refine Br ?_;refine Nd ?_;refine J9 ?_;refine AZ ?_;refine KQ.gT rfl rfl isAgg44 br yX rfl (fun w' aM=>⟨_,gL b R::L,rfl,?_,?_⟩)
  ·exact ends 7 ah hE hM
  ·exact bX V hV (aM.all Y4)
 |some q=>
 rw[ho]at hE hM hS;dsimp only at hE hM hS;have hq:=hB.of ho;obtain⟨p,hp⟩:∃e,V.ps[q]? =some e:=⟨_,ak ae⟩;have BH:V.ps.getD q 0=p:=by rw[au,hp];rfl
 have Im:=hB.lq q;have wG:=nB hq;dsimp only;rw[BH];refine cW ?_;refine KO.Ay rfl underlying90 rfl ?_;refine Z3 ?_;refine Lz ?_;refine g_ ?_;refine Xy ?_;refine Z3 ?_;refine K.cond rfl (fun hd=>?_) (fun hd=>?_)
 ·rw[if_pos hd]at hE hM;refine Nd ?_;refine J9 ?_;refine AZ ?_;refine KQ.gT rfl rfl isAgg44 br yX rfl (fun w' aM=>⟨_,gL b R::L,rfl,?_,?_⟩)
  ·exact ends 6 ah hE hM
  ·exact bX V hV (aM.all Y4)
 have Eu:¬R.down=true:=by rw[hd];decide
 rw[if_neg Eu]at hE hM;refine Z6 ?_;obtain⟨ju,rfl⟩:∃ju:Nat,u=(ju:Int):=⟨u.toNat,by omega⟩;have S3:ju<5:=by omega
 rw[aE]at hS;have hgM:=rfl (a:=kK (R.lq q));generalize sr:kK (R.lq q)=m at hM hS;obtain⟨mi,mp,mb,mq,mh⟩:=m;refine gY ?_;refine KO.cl (cp:=[]) rfl rfl rfl call185 rfl (KC.rD (φ:=fun v=>v=.tuple #[.agg (dy (kK (R.lq q))).toArray,.int .i64 (qy (R.lq q))]) hp wG aQ (fun L=>VJ w0 L p (R.lq q) (ju:Nat) ae)) ?_;rintro v' L' ⟨rfl,rfl⟩;rw[sr];refine LB ?_;refine KO.alloc rfl zeroValue44 aN rfl ?_;intro b9;refine TH ?_;refine jo ?_;refine mM ?_;by_cases h0:qy (R.lq q)=0
 ·have hS:=hS (hE.trans h0);obtain⟨uv,Gh⟩:∃e,V.us[ju]? =some e:=⟨_,ak Y41⟩;have UD:=uB (R:=R) (u:=ju) Y40;have K3:=hB.Bw _ (ax UD);have c7:(du V R)[7+ju]? =some uv:=by rw[DX hV S3];exact Gh
  refine K.bW rfl (decide_eq_true h0) ?_;refine acB ?_;refine gZ ?_;refine gZ ?_;refine Nu ?_;refine T6 ?_;refine KO.bO (b:=b) (i:=7+ju) rfl rfl isAgg92 aQ xI c7 rfl ?_;refine Qe ?_;refine Z1 ?_;refine aci ?_;refine KO.sw (z:=(Value.agg #[.bool false,.int .i64 0,.int .i64 0,.string ⟨#[]⟩,.string ⟨#[]⟩,.int .i64 0,.pointer none])) (sz:=7) (fk:=72) rfl rfl underlying92 bC aN aN ah ah rfl ?_;intro b45;refine KO.app (z:=Value.agg #[.bool false,.int .i64 0,.int .i64 0,.string ⟨#[]⟩,.string ⟨#[]⟩,.int .i64 0,.pointer none]) (sz:=7) (fk:=72) (xs:=R.uq ju) (cf:=GY V.ps) rfl rfl rfl (.tail .head) .head underlying92 bC aN ⟨false,⟨mi,mp,mb,mq,mh⟩,q⟩ (by unfold GY;rw[BH];rfl) rfl rfl ae ah rfl ?_;intro DN;refine KO.fact (fun _ hs=>bo hs) ?_;rintro⟨a13,k13,SK,-⟩;refine T6 ?_;refine KO.fu (b:=b) (i:=7+ju) rfl rfl rfl Vf (by exact sizeOf92) Vf aQ xI Yr ?_;rw[td hV S3];refine HD ?_;refine Z1 ?_;refine Hz ?_;refine KQ.gT rfl rfl isAgg44 br yX rfl (fun w' aM=>⟨_,gL b (nt R (ju:Int) s)::L,rfl,?_,?_⟩)
  ·rw[hM,hE];exact⟨rfl,rfl⟩
  ·rw[hS];have h2:=kY (f:=mZ V.ps) (ps:=V.us) (xs:=R.ay) (i:=ju) (p:=DN) (x:=R.uq ju++[⟨false,⟨mi,mp,mb,mq,mh⟩,q⟩]) Y41 Y40 (aM.all (M:=mZ V.ps DN (R.uq ju++[⟨false,⟨mi,mp,mb,mq,mh⟩,q⟩])::bI (mZ V.ps) (V.us.eraseIdx ju) (R.ay.eraseIdx ju)::bA b (.cells (du {V with us:=V.us.set ju DN} R).toArray 97 (0,0))::fb V.nv R.names::bP Value.string V.mb (eZ R.keys (V.ps.drop 4))::bI gR V.ps (R.all.set q (oA (R.lq q) (ju:Int)))::bI ly V.ds R.bQ::L) Y4);refine bX {V with us:=V.us.set ju DN} ⟨by simp[Rh.ff,ku],by simp[Rh.ff,sv],by simp[hV.us],by simp[hV.un],hV.ds,hV.db,hV.md,hV.ar,fun l hl d wQ=>?_⟩ (h2.all Y7);have el:(R.ff q (oA (R.lq q) (ju:Int))).all.length=R.all.length:=by simp[Rh.ff]
   dsimp only;rw[el];rcases aD hl with h3|h3
   ·exact hV.dq l h3 d wQ
   ·rw[h3]at wQ;rcases aO.1 wQ with h4|h4
    ·exact hV.dq _ (ax UD) d h4
    ·rw[List.mem_singleton.1 h4];exact hq
 ·have mU:l5 (R.lq q)=none:=by
   unfold qy at h0;cases hi:l5 (R.lq q)with
   |none=>rfl
   |some k=>rw[hi]at h0;exact absurd rfl h0
  have sL:oA (R.lq q) (ju:Int)=R.lq q:=by unfold oA;rw[mU]
  have hz:(⟨mi,mp,mb,mq,mh⟩:Ms)=iP:=by rw[<-sr];unfold kK;rw[mU]
  rw[sL,List.dE wG];refine K.ct rfl (decide_eq_false h0) ?_;refine qP ?_;refine yl ?_;refine Z1 ?_;refine Hz ?_;refine KQ.gT rfl rfl isAgg44 br yX rfl (fun w' aM=>⟨_,gL b R::L,rfl,?_,?_⟩)
  ·have :=ends _ h0 hE (hM.trans hz);rw[<-hz]at this;exact this
  ·exact bX V hV (aM.all Y4)
theorem VB(w0:World)(L:List HP)(v:Value)(xs:List aj)(hl:xs.length<1000000):
 KC prog 193 #[v] w0 (SL 9 1 Ir v xs::L) (fun u M=>u=.tuple #[]/\M=SL 9 1 Ir v (cS xs)::L):=by
 refine KC.mk (n:=4) func193 rfl ntmps193 ai ?_;refine cW ?_;refine KO.cl (cp:=[]) rfl rfl rfl call66 rfl (Cm (E:=9) Tryz.slices_Sort_string_none Tryz.slices_Sort_string w0 L v xs hl) ?_;rintro v' L' ⟨rfl,rfl⟩;refine jk ?_;refine KQ.wV rfl (fun w' aM=>⟨_,_,rfl,⟨rfl,rfl⟩,aM⟩)
theorem uP(w0:World)(L:List HP)(b n:Nat)(R:Rh)(hB:gd n R)(hn:n<=80000):
 KC prog 105 #[fK b] w0 (gL b R::L) (fun u M=>M=oN u (iT R)::gL b R::L):=by
 have mV:=hB.Ed;refine KC.mk (n:=40) func105 rfl ntmps105 ai ?_;refine kO ?_;refine K.bV (fun _ h=>cI h) ?_;rintro⟨V,hV⟩;dsimp only;have ku:=hV.ps;have sv:=hV.al;have Ra:(V.ps.drop 4).length=R.keys.length:=by rw[bf];omega
 have S2:∀r,r<R.keys.length->∃v,(eZ R.keys (V.ps.drop 4)).getD r default=(R.keys.getD r ⟨#[]⟩,v):=fun r hr=>by
  obtain⟨p,hp⟩:∃e,(V.ps.drop 4)[r]? =some e:=⟨_,ak ae⟩;refine⟨fK p,?_⟩;unfold eZ;rw[au,List.getElem?_zipWith,hp,ak hr,au,ak hr];rfl
 refine di ?_;refine BZ ?_;refine iD ?_;refine Qy ?_;refine KO.YC rfl rfl underlying89 aQ rfl ?_;intro Uu;refine QG ?_;refine K.loop (fun p:List Nat×List Nat×Value×Option (aj×Value)=>[(0,fK b),(3,p.2.2.1),(12,.pointer (some ⟨Uu,0,none⟩))])
  (fun p=>SL 9 1 Ir p.2.2.1 (p.2.1.map fun r=>R.keys.getD r ⟨#[]⟩)::CY Value.string V.mb Uu (eZ R.keys (V.ps.drop 4)) (p.1.map fun r=>(eZ R.keys (V.ps.drop 4)).getD r default) p.2.2.2::bA b (.cells (du V R).toArray 97 (0,0))::fb V.nv R.names::bI gR V.ps R.all::bI (mZ V.ps) V.us R.ay::bI ly V.ds R.bQ::L)
  (fun p=>(p.2.1++p.1).Perm (List.range R.keys.length)) (fun p=>p.1.length) (List.range R.keys.length,[],.slice none 0 0,none)
  ai ⟨rfl,rfl,rfl,trivial⟩ (fun _ h=>?_) ?_
 ·have h1:=cw (E:=9) (sz:=1) (cf:=Ir) h;dsimp only;rw[tF Ra];exact h1.all ft
 rintro⟨rest,done,v,cur⟩ dQ;dsimp only at dQ ⊢;have o_:done.length<=1000:=by have :=dQ.length_eq;simp at this;omega
 refine Z2 ?_;refine KO.BD rfl rfl aQ rfl (fun h0=>?_) (fun i e he=>?_);refine x9 ?_
 ·have iO:rest=[]:=by simpa using h0
  subst iO;rw[List.append_nil]at dQ;have BI:(done.map fun r=>R.keys.getD r ⟨#[]⟩).Perm R.keys:=by
   refine(dQ.map _).trans ?_;have :(List.range R.keys.length).map (fun r=>R.keys.getD r ⟨#[]⟩)=R.keys:=by
    apply List.ext_getElem
    ·simp
    ·intro i h1 h2;simp[au,ak h2]
   rw[this]
  generalize WG:(done.map fun r=>R.keys.getD r ⟨#[]⟩)=ns at BI;have ae6:ns.length<=1000:=by rw[<-WG,aX];exact o_
  have Es:iT R=(cS ns).flatMap (my R):=by unfold iT;rw[q7 BI]
  have hsl:(cS ns).length=ns.length:=(nj ns).length_eq;have MB:∀s∈cS ns,∃i,R.kI s=some i:=fun s hs=>by
   have h1:s∈R.keys:=BI.mem_iff.1 ((nj ns).mem_iff.1 hs);cases hq:R.kI s with
   |some i=>exact⟨i,rfl⟩
   |none=>
    unfold Rh.kI at hq;rw[List.findIdx?_eq_none_iff]at hq;have :=hq s h1;simp at this
  refine oI ?_;refine Ba ?_;refine KO.cl (cp:=[]) rfl rfl rfl call193 rfl (KC.jN (.tail .head) (VB w0 _ v ns ae)) ?_;rintro v' L' ⟨rfl,rfl⟩;refine Z0 ?_;refine K.fact (fun w hw=>bo (E:=9) (sz:=1) (cf:=Ir) (hw.pick .head)) ?_;rintro⟨ad,cap,rfl,had⟩;refine di ?_;refine jo ?_;refine TL ?_;refine K.loop (fun p:Nat×Value=>[(0,fK b),(5,p.2),(23,.slice ad (cS ns).length cap),(24,.int .i64 ((cS ns).length:Nat)),(25,.int .i64 (p.1:Nat))])
   (fun p=>oN p.2 (((cS ns).take p.1).flatMap (my R))::SL 9 1 Ir (.slice ad (cS ns).length cap) (cS ns)::bP Value.string V.mb (eZ R.keys (V.ps.drop 4))::bA b (.cells (du V R).toArray 97 (0,0))::fb V.nv R.names::bI gR V.ps R.all::bI (mZ V.ps) V.us R.ay::bI ly V.ds R.bQ::L) (fun p=>p.1<=(cS ns).length/\(((cS ns).take p.1).flatMap (my R)).length<=p.1 *800000) (fun p=>(cS ns).length-p.1) (0,.slice none 0 0)
   ⟨aH _,by simp⟩ ⟨rfl,rfl,rfl,rfl,rfl,trivial⟩ (fun _ h=>?_) ?_
  ·have h1:=cw (E:=44) (sz:=5) (cf:=dy) h;exact h1.all ft
  rintro⟨k,v5⟩ ⟨hk,afa⟩;dsimp only at hk afa ⊢;refine lW ?_;refine K.bn rfl (fun h9=>?_) (fun h9=>?_)
  ·obtain⟨s,hs⟩:∃e,(cS ns)[k]? =some e:=⟨(cS ns)[k],ak ae⟩;obtain⟨ag,rfl⟩:=had ae;obtain⟨i,hi⟩:=MB s (ax hs);have kD:=CW hi;have hg:=vV hV s;rw[hi]at hg;dsimp only at hg;obtain⟨p,hp⟩:∃p,V.ps[4+i]? =some p:=⟨_,ak ae⟩;have BH:V.ps.getD (4+i) 0=p:=by rw[au,hp];rfl
   rw[BH]at hg;have ND:my R s=iL (R.lq (4+i)):=by unfold my;rw[hi]
   have Im:=hB.lq (4+i);have hkn:(iL (R.lq (4+i))).length<=800000:=Nat.le_trans (uL _) ae;have hk3:k *800000+800000<=900000000:=by omega
   refine T_ ?_;refine KO.j7 (i:=k) (sz:=1) (cf:=Ir) (e:=s) rfl rfl isAgg9 aQ (fun _=>rfl) hs aN aN rfl ?_;refine xc ?_;refine iD ?_;refine XI ?_;refine Z1 ?_;refine KO.zW dD s rfl rfl rfl underlying89 underlying9 zeroValue90 aQ rfl ?_;rw[hg];refine KO.cl (cp:=[]) rfl rfl rfl call91 rfl (KC.PR (γ:=Value) (φ:=fun c u=>u=c) (A:=fun c=>oN c (iL (R.lq (4+i)))) hp (nB ae) aQ (fun L=>DV w0 L p (R.lq (4+i)) ae)) ?_;rintro v' L' ⟨c,rfl,rfl⟩;refine KO.rH (cf:=dy) (z:=Value.agg #[.int .i64 0,.int .i64 0,.string ⟨#[]⟩,.string ⟨#[]⟩,.int .i64 0]) (sz:=5) (fk:=56) (xs:=((cS ns).take k).flatMap (my R)) (ys:=iL (R.lq (4+i))) rfl rfl rfl (.tail (.tail .head)) (fun w hw=>Src.of (E:=44) (sz:=5) (cf:=dy) .head w hw) underlying49 bC rfl (fun _=>rfl) (fun _=>rfl) ae ah rfl ?_;intro v37;refine qq ?_;refine KQ.round (k+1,v37) ⟨by dsimp only;omega,?_⟩ fZ ⟨rfl,rfl,rfl,rfl,rfl,trivial⟩ (fun _ h=>?_)
   ·dsimp only;rw[a_ hs,List.flatMap_append,aW];simp only[bj,List.flatMap_nil,List.append_nil,ND];omega
   ·dsimp only;rw[a_ hs,List.flatMap_append];simp only[bj,List.flatMap_nil,List.append_nil,ND];exact h.all Y4
  have afb:k=(cS ns).length:=by omega
  subst afb;rw[List.take_length,<-Es];refine Hy ?_;refine KQ.aU rfl rfl (fun w' aM=>⟨_,_,rfl,rfl,?_⟩);exact(bX V hV (aM.all (M:=l4 b V R (oN v5 (iT R)::L)) Y4)).all Y7
 obtain⟨r,hr,rfl⟩:∃r,rest[i]? =some r/\(eZ R.keys (V.ps.drop 4)).getD r default=e:=by
  rw[aG]at he;cases hr:rest[i]? with
  |none=>rw[hr]at he;cases he
  |some r=>rw[hr]at he;exact⟨r,rfl,by simpa using he⟩
 have Ad:r<R.keys.length:=by
  have :r∈List.range R.keys.length:=dQ.mem_iff.1 (List.mem_append_right _ (ax hr));simpa using this
 obtain⟨ev,lP⟩:=S2 r Ad;rw[lP];refine x9 ?_;refine xa ?_;refine si ?_;refine Ng ?_;refine xc ?_;refine KO.sw (z:=(Value.string ⟨#[]⟩)) (sz:=1) (fk:=16) rfl rfl underlying115 bC aN aN ah ah rfl ?_;intro b19;refine KO.app (cf:=Ir) (z:=Value.string ⟨#[]⟩) (sz:=1) (fk:=16) (xs:=done.map fun r=>R.keys.getD r ⟨#[]⟩) rfl rfl rfl (.tail (.tail .head)) .head underlying115 bC aN (R.keys.getD r ⟨#[]⟩) rfl rfl rfl ez ah rfl ?_;intro v20;refine He ?_;refine KQ.round (rest.eraseIdx i,done++[r],v20,some (R.keys.getD r ⟨#[]⟩,ev)) ?_ ?_ ⟨rfl,rfl,rfl,trivial⟩ (fun _ h=>?_)
 ·dsimp only;refine List.Perm.trans ?_ dQ;rw[aR];refine(List.Perm.refl done).append ?_;obtain⟨hi,rfl⟩:=aw.1 hr;exact oe hi
 ·dsimp only;have hi:=(aw.1 hr).1;rw[List.length_eraseIdx,if_pos hi];omega
 ·dsimp only;rw[aZ,<-p8,aJ,List.map_nil];exact h.all ft
theorem KA(w0:World)(L:List HP)(b n:Nat)(R:Rh)(u:Int)(hB:gd n R)(hn:n<=80000):
 KC prog 98 #[fK b,.int .i64 u] w0 (gL b R::L) (fun v M=>v=.int .i64 (lT R u)/\M=gL b (qx R u)::L):=by
 refine KC.mk (n:=74) func98 rfl ntmps98 ai ?_;refine x6 ?_;by_cases hu:¬(0<=u/\u<=4)
 ·refine cW ?_;refine KO.ce (cp:=[]) rfl rfl rfl call118 rfl (kC w0 _ _ _ _) ?_;rintro v' L' ⟨rfl,rfl⟩;rw[show(decide ((0:Int)<=u)&&decide (u<=4))=false by simpa using hu];refine A4 ?_;refine kr ?_;refine KQ.aU rfl rfl (fun w' aM=>⟨_,_,rfl,⟨by unfold lT;rw[if_pos hu],rfl⟩,?_⟩);rw[show qx R u=R by unfold qx;rw[if_pos hu]];exact aM
 have UF:0<=u/\u<=4:=by omega
 obtain⟨j,rfl⟩:∃j:Nat,u=(j:Int):=⟨u.toNat,by omega⟩;have hj:j<5:=by omega
 have hE:lT R (j:Int)=if R.uq j=[]then 8 else eB R:=by unfold lT;rw[if_neg hu,aE]
 have hS:qx R (j:Int)=if R.uq j=[]then R else if eB R≠0 then eP R else(R.uq j).foldl dY ((R.uq j).foldl dS (cO (eP R) j)):=by unfold qx;rw[if_neg hu,aE]
 refine cW ?_;refine KO.ce (cp:=[]) rfl rfl rfl call118 rfl (kC w0 _ _ _ _) ?_;rintro v' L' ⟨rfl,rfl⟩;rw[show(decide ((0:Int)<=(j:Int))&&decide ((j:Int)<=4))=true by simp[UF.1,UF.2]];refine BX ?_;have K3:=hB.Bw _ (ax (uB (R:=R) (u:=j) (by rw[hB.un];exact hj)));have hdq:=hB.dq _ (ax (uB (R:=R) (u:=j) (by rw[hB.un];exact hj)));refine K.bV (fun _ h=>cI h) ?_;rintro⟨V,hV⟩;dsimp only;obtain⟨uv,Gh⟩:∃e,V.us[j]? =some e:=⟨_,ak (by rw[hV.us];exact hj)⟩;have UD:=uB (R:=R) (u:=j) (by rw[hV.un];exact hj);have c7:(du V R)[7+j]? =some uv:=by rw[DX hV hj];exact Gh
 refine K.fact (fun w hw=>bo (E:=278) (sz:=7) (cf:=GY V.ps) (v:=uv) (xs:=R.uq j) (cM (f:=mZ V.ps) (i:=j) Gh UD (hw.pick (A:=bI (mZ V.ps) V.us R.ay) aQ))) ?_;rintro⟨a1,k1,rfl,Al⟩;refine gY ?_;refine Nu ?_;refine acd ?_;refine jo ?_;refine KO.len rfl underlying92 rfl ?_;refine mM ?_;by_cases h0:R.uq j=[]
 ·refine K.bW rfl (by rw[h0];rfl) ?_;refine kr ?_;refine KQ.aU rfl rfl (fun w' aM=>⟨_,_,rfl,⟨by rw[hE,if_pos h0],rfl⟩,?_⟩);rw[hS,if_pos h0];exact bX V hV (aM.all ft)
 have Ws:0<(R.uq j).length:=List.length_pos_iff.2 h0;rw[if_neg h0]at hE hS;obtain⟨g1,rfl⟩:=Al Ws;refine K.ct rfl (by simp;exact h0) ?_;refine Z6 ?_;have ku:=hV.ps;obtain⟨-,wn,wk,wa,wu,wd,-⟩:=ib R;refine cW ?_;refine KO.cl (cp:=[]) rfl rfl rfl call86 rfl (KC.jN br (oT w0 _ b n V R hV hB)) ?_;rintro v' L' ⟨rfl,rfl⟩;refine jL ?_;have iB:=zw hV;have kG:=hB.w;refine cW ?_;refine tY ?_;refine K.bn rfl (fun hw=>?_) (fun hw=>?_)
 ·refine xd ?_;refine KQ.aU rfl rfl (fun w' aM=>⟨_,_,rfl,⟨by rw[hE],rfl⟩,?_⟩);rw[hS,if_pos hw];refine bX V iB ?_;unfold l4;rw[wn,wk,wa,wu,wd];exact aM.all ft
 have GJ:lT R (j:Int)=0:=by rw[hE];simpa using hw
 rw[if_neg hw]at hS;clear hE hw;have MA:(eP R).uq j=R.uq j:=by unfold Rh.uq;rw[wu]
 refine K.conv (L':=bA b (.cells (du V (eP R)).toArray 97 (0,0))::fb V.nv (eP R).names::bP Value.string V.mb (eZ (eP R).keys (V.ps.drop 4))::bI gR V.ps (eP R).all::bI (mZ V.ps) V.us (eP R).ay::bI ly V.ds (eP R).bQ::L) (fun w h=>by
  rw[wn,wk,wa,wu,wd];exact h.all ft) ?_
 have Pf:V.ps.length=(eP R).all.length:=by rw[wa];exact ku
 rw[<-MA]at hS;have aao:((eP R).uq j).length<=n:=by rw[MA];exact K3
 have GF:∀d∈(eP R).uq j,d.q<(eP R).all.length/\0<=d.m.id/\d.m.id<=1099511627776:=by rw[MA,wa];exact hdq
 have SM:(eP R).ay[j]? =some ((eP R).uq j):=uB (by rw[wu,hV.un];exact hj);rw[<-MA]at Gh Ws;rw[show R.uq j=(eP R).uq j from MA.symm];clear hV hB h0 c7 MA UD wn wk wa wu wd K3 hdq ku;generalize eP R=R1 at iB kG hS Pf aao GF SM Gh Ws ⊢;obtain⟨l,hl⟩:∃l,R1.uq j=l:=⟨_,rfl⟩;rw[hl]at hS aao GF SM Gh Ws ⊢;clear hl;refine K.conv (fun w h=>cM (f:=mZ V.ps) Gh SM (h.pick (A:=bI (mZ V.ps) V.us R1.ay) aQ)) ?_
 refine K.conv (L':=bA b (.cells (du V R1).toArray 97 (0,0))::fb V.nv R1.names::bP Value.string V.mb (eZ R1.keys (V.ps.drop 4))::bI gR V.ps R1.all::mZ V.ps (.slice (some ⟨g1,0,none⟩) l.length k1) l::bI (mZ V.ps) (V.us.eraseIdx j) (R1.ay.eraseIdx j)::bI ly V.ds R1.bQ::L) (fun w h=>h.all Y7) ?_
 refine BT ?_;refine KO.cl (cp:=[]) rfl rfl rfl call93 rfl (Kz w0 _ b n V R1 j iB kG hn hj) ?_;rintro v' L' ⟨rfl,rfl⟩;refine Z0 ?_;have lI:=Cz iB (u:=j);have Bm:=kG.take j
 refine K.conv (L':=mZ V.ps (.slice (some ⟨g1,0,none⟩) l.length k1) l::l4 b {V with us:=V.us.set j (.slice none 0 0)} (cO R1 j) L) (fun w h=>by
  have h2:=kY (f:=mZ V.ps) (ps:=V.us) (xs:=R1.ay) (i:=j) (p:=.slice none 0 0) (x:=[]) (by rw[iB.us];exact hj) (by rw[iB.un];exact hj) (cw (E:=278) (sz:=7) (cf:=GY V.ps) (h.pick (A:=bI (mZ V.ps) (V.us.eraseIdx j) (R1.ay.eraseIdx j)) aQ))
  exact h2.all (M:=mZ V.ps (.slice (some ⟨g1,0,none⟩) l.length k1) l::bA b (.cells (du {V with us:=V.us.set j (.slice none 0 0)} R1).toArray 97 (0,0))::fb V.nv R1.names::bP Value.string V.mb (eZ R1.keys (V.ps.drop 4))::bI gR V.ps (R1.all.map fun l=>dL l (j:Int) true)::bI (mZ V.ps) (V.us.set j (.slice none 0 0)) (R1.ay.set j [])::bI ly V.ds R1.bQ::L) Y7) ?_
 have WV:(cO R1 j).all.length=R1.all.length:=by unfold cO;simp
 have SU:V.ps.length=(cO R1 j).all.length:=by rw[WV];exact Pf
 rw[<-WV]at GF;generalize cO R1 j=R2 at lI Bm hS SU GF ⊢;obtain⟨V2,abb,iq⟩:∃V2:Bc,V2={V with us:=V.us.set j (.slice none 0 0)}/\V2.ps=V.ps:=⟨_,rfl,rfl⟩;rw[<-abb]at lI ⊢;rw[<-iq]at SU ⊢;clear iB kG Pf SM Gh WV abb iq;clear V R1;refine cW ?_;refine KO.len rfl underlying92 rfl ?_;refine oL ?_;refine K.loop (fun k:Nat=>[(0,fK b),(5,.slice (some ⟨g1,0,none⟩) l.length k1),(31,.slice (some ⟨g1,0,none⟩) l.length k1),(32,.int .i64 (l.length:Nat)),(33,.int .i64 (k:Nat))]) (fun k=>mZ V2.ps (.slice (some ⟨g1,0,none⟩) l.length k1) l::l4 b V2 ((l.take k).foldl dS R2) L) (fun k=>k<=l.length) (fun k=>l.length-k) 0 (aH _) ⟨rfl,rfl,rfl,rfl,rfl,trivial⟩ (fun _ h=>h) ?_;intro k hk;have PE:=Bm.zL (R:=R2) (l.take k) (fun d hd=>(GF d (List.mem_of_mem_take hd)).2);have WX:=lI.zL (l.take k);have Tf:=zK (l.take k) R2;rw[bu]at PE;by_cases mV:k<l.length
 ·obtain⟨d,hd⟩:∃e,l[k]? =some e:=⟨l[k],ak mV⟩;have gP:(l.take (k+1)).foldl dS R2=dS ((l.take k).foldl dS R2) d:=by rw[a_ hd,List.foldl_append];rfl
  obtain⟨o_,m1,m2⟩:=GF d (ax hd);generalize (l.take k).foldl dS R2=Rk at PE WX Tf gP ⊢;obtain⟨p,hp⟩:∃e,V2.ps[d.q]? =some e:=⟨_,ak ae⟩;have BH:V2.ps.getD d.q 0=p:=by rw[au,hp];rfl
  have wG:=nB (R:=Rk) (q:=d.q) ae;have Im:=PE.lq d.q;have afD:(du V2 Rk)[13]? =some (.int .i64 Rk.fD):=Oe WX (i:=1) ah;have UQ:=PE.fD;have hlen:=fL WX;obtain⟨dp,⟨mi,mp,mb,mq,mh⟩,dq⟩:=d;dsimp only at o_ m1 m2 hp BH wG Im;refine lW ?_;refine K.bW rfl ez ?_;refine si ?_;refine acs ?_;refine KO.alloc rfl zeroValue278 aN rfl ?_;intro b8;refine KO.oQ rfl rfl rfl aN (by exact sizeOf278) aN br aN ?_;refine Z0 ?_;refine K.conv (L':=bA b8 (.cells [.bool dp,.int .i64 mi,.int .i64 mp,.string mb,.string mq,.int .i64 mh,fK p].toArray 278 (0,0))::mZ V2.ps (.slice (some ⟨g1,0,none⟩) l.length k1) l::l4 b V2 Rk L) (fun w h=>by rw[<-BH];exact h.all ft) ?_
  refine di ?_;refine ab5 ?_;refine Z3 ?_;refine K.cond rfl (fun Q_=>?_) (fun Q_=>?_)
  ·subst Q_;refine Z2 ?_;refine ab6 ?_;refine KO.fG (off:=1) rfl runUnderlying278 rfl rfl sizeOf44 rfl ?_
   (refine KO.I6 rfl rfl isAgg44 sizeOf44 br Y9 aN rfl ?_)
   refine KO.cl (cp:=[]) rfl rfl rfl call186 rfl (KC.rD (φ:=fun v=>v=.tuple #[]) hp wG aQ (fun L=>DU w0 L p (Rk.lq dq) ⟨mi,mp,mb,mq,mh⟩ (-1) ae)) ?_;rintro v' L' ⟨rfl,rfl⟩;refine Z3 ?_;refine K.draw [.pure,.pure,.pure,.pure,.read,.pure,.pure,.read,.pure,.pure,.pure,.pure,.pure,.write] [0,1,2,3,4,5,6,7,8,9,10,11,12,13] bC bC ?_;refine gZ ?_;refine XX ?_;refine KO.bO (b:=b) (i:=13) rfl rfl isAgg3 aQ rfl afD rfl ?_;refine ace ?_;refine sD ?_;refine KO.div (a:=mi) (c:=4) rfl rfl ah m1 ae rfl ?_;refine vO ?_;refine KO.max2 rfl rfl rfl rfl ?_;refine XX ?_;refine KO.fu (b:=b) (i:=13) rfl rfl rfl aN uc rfl aQ rfl Yr ?_;rw[L5 WX];refine pE ?_;refine KQ.round (k+1) ae ae ⟨rfl,rfl,rfl,rfl,rfl,trivial⟩ (fun w h=>?_);rw[gP,show dS Rk ⟨true,⟨mi,mp,mb,mq,mh⟩,dq⟩={Rk.ff dq (eT (Rk.lq dq) ⟨mi,mp,mb,mq,mh⟩ (-1))with fD:=max Rk.fD (mi/4+1)}from rfl];exact h.all Y4
  ·subst Q_;refine lY ?_;refine KQ.round (k+1) ae ae ⟨rfl,rfl,rfl,rfl,rfl,trivial⟩ (fun w h=>?_);rw[gP,show dS Rk ⟨false,⟨mi,mp,mb,mq,mh⟩,dq⟩=Rk from rfl];exact h.all Y4
 obtain rfl:k=l.length:=by omega
 rw[List.take_length]at PE WX Tf ⊢;generalize l.foldl dS R2=R3 at PE WX Tf hS ⊢;rw[<-Tf]at GF SU;refine Hu ?_;refine Ba ?_;refine KO.len rfl underlying92 rfl ?_;refine oL ?_;refine K.loop (fun k:Nat=>[(0,fK b),(58,.slice (some ⟨g1,0,none⟩) l.length k1),(59,.int .i64 (l.length:Nat)),(60,.int .i64 (k:Nat))]) (fun k=>mZ V2.ps (.slice (some ⟨g1,0,none⟩) l.length k1) l::l4 b V2 ((l.take k).foldl dY R3) L) (fun k=>k<=l.length) (fun k=>l.length-k) 0 (aH _) ⟨rfl,rfl,rfl,rfl,trivial⟩ (fun _ h=>h) ?_;intro k hk;have hBj:=PE.zb (l.take k);have hVj:=WX.zb (l.take k);have afF:=za (l.take k) R3;by_cases mV:k<l.length
 ·obtain⟨d,hd⟩:∃e,l[k]? =some e:=⟨l[k],ak mV⟩;have gP:(l.take (k+1)).foldl dY R3=dY ((l.take k).foldl dY R3) d:=by rw[a_ hd,List.foldl_append];rfl
  obtain⟨o_,m1,m2⟩:=GF d (ax hd);generalize (l.take k).foldl dY R3=Rk at hBj hVj afF gP ⊢;obtain⟨p,hp⟩:∃e,V2.ps[d.q]? =some e:=⟨_,ak ae⟩;have BH:V2.ps.getD d.q 0=p:=by rw[au,hp];rfl
  have wG:=nB (R:=Rk) (q:=d.q) ae;have Im:=hBj.lq d.q;obtain⟨dp,⟨mi,mp,mb,mq,mh⟩,dq⟩:=d;dsimp only at o_ m1 m2 hp BH wG Im;refine lW ?_;refine K.bW rfl ez ?_;refine si ?_;refine acs ?_;refine KO.alloc rfl zeroValue278 aN rfl ?_;intro TC;refine KO.oQ rfl rfl rfl aN (by exact sizeOf278) aN br aN ?_;refine Z0 ?_;refine K.conv (L':=bA TC (.cells [.bool dp,.int .i64 mi,.int .i64 mp,.string mb,.string mq,.int .i64 mh,fK p].toArray 278 (0,0))::mZ V2.ps (.slice (some ⟨g1,0,none⟩) l.length k1) l::l4 b V2 Rk L) (fun w h=>by rw[<-BH];exact h.all ft) ?_
  refine di ?_;refine ab5 ?_;refine oJ ?_;refine K.cond rfl (fun Q_=>?_) (fun Q_=>?_)
  ·obtain rfl:dp=false:=by simpa using Q_
   refine di ?_;refine ab6 ?_;refine ace ?_;refine sP ?_;refine KO.cl (cp:=[]) rfl rfl rfl call187 rfl (KC.rD (φ:=fun v=>v=.tuple #[.agg (dy (sW (Rk.lq dq) mi)).toArray,.int .i64 (sX (Rk.lq dq) mi)]) hp wG aQ (fun L=>Kt w0 L p (Rk.lq dq) mi ae)) ?_;rintro v' L' ⟨rfl,rfl⟩;refine pE ?_;refine KQ.round (k+1) ae ae ⟨rfl,rfl,rfl,rfl,trivial⟩ (fun w h=>?_);rw[gP,show dY Rk ⟨false,⟨mi,mp,mb,mq,mh⟩,dq⟩=Rk.ff dq (dR (Rk.lq dq) mi)from rfl];exact h.all Y4
  ·obtain rfl:dp=true:=by simpa using Q_
   refine lY ?_;refine KQ.round (k+1) ae ae ⟨rfl,rfl,rfl,rfl,trivial⟩ (fun w h=>?_);rw[gP,show dY Rk ⟨true,⟨mi,mp,mb,mq,mh⟩,dq⟩=Rk from rfl];exact h.all Y4
 obtain rfl:k=l.length:=by omega
 rw[List.take_length]at hVj ⊢;rw[<-hS]at hVj ⊢;refine Hu ?_;refine yc ?_;refine KQ.aU rfl rfl (fun w' aM=>⟨_,_,rfl,⟨by rw[GJ],rfl⟩,?_⟩);exact bX V2 hVj (aM.all Y4)
theorem L3(w0:World)(L:List HP)(b n:Nat)(R:Rh)(k:Int)(hB:gd n R)(hn:n<=80000):
 KC prog 34 #[fK b,.int .i64 k] w0 (gL b R::L) (fun u M=> ∃v,u=.tuple #[.int .i64 (uT R k),v,.int .i64 (jU R k)]/\M=oN v (nu R k)::gL b (jb R k)::L):=by
 have ends:∀e:Int,e≠0->jU R k=e->uT R k=0/\nu R k=[]:=fun e he h=>by
  unfold uT nu;rw[if_pos (by rw[h];exact he),if_pos (by rw[h];exact he)];exact⟨rfl,rfl⟩
 have fin:∀(e:Int) (w':World),e≠0->jU R k=e->St w0 (gL b (jb R k)::L) w'->∃v L',Ending.returned (.tuple #[.int .i64 0,.slice none 0 0,.int .i64 e])=Ending.returned v/\(∃c,v=.tuple #[.int .i64 (uT R k),c,.int .i64 (jU R k)]/\L'=oN c (nu R k)::gL b (jb R k)::L)/\St w0 L' w':=fun e w' he h hs=>by
  obtain⟨h1,h2⟩:=ends e he h;exact⟨_,_,rfl,⟨.slice none 0 0,by rw[h1,h],rfl⟩,by rw[h2];exact cw hs⟩
 refine KC.mk (n:=124) func34 rfl ntmps34 ai ?_;refine iz ?_;refine Z8 ?_;refine EJ ?_;refine KO.ce (cp:=[]) rfl rfl rfl call89 rfl (rT w0 _ _ b R k .head) ?_;rintro v' L' ⟨rfl,rfl⟩;refine oJ ?_;cases ho:dA R k with
 |false=>
  have Gs:jT R k=false:=by unfold jT;rw[ho];rfl
  refine JV ?_;refine iz ?_;refine xe ?_;refine KQ.rj rfl rfl rfl rfl (fun w' aM=>fin 2 w' ah (by unfold jU;rw[if_pos ho]) ?_);rw[show jb R k=R by unfold jb;rw[if_pos Gs]];exact aM
 |true=>
 have hk:0<=k/\k<=3:=by unfold dA at ho;simp at ho;omega
 obtain⟨j,rfl⟩:∃j:Nat,k=(j:Int):=⟨k.toNat,by omega⟩;have hj:j<4:=by omega
 refine J4 ?_;refine K.bV (fun _ h=>cI h) ?_;rintro⟨V,hV⟩;dsimp only;have ku:=hV.ps;have sv:=hV.al;have P4:(du V R)[27]? =some (.bool R.down):=jS hV 1;refine g_ ?_;refine Xy ?_;refine Z3 ?_;refine K.cond rfl (fun hd=>?_) (fun hd=>?_)
 ·have Gs:jT R (j:Int)=false:=by unfold jT;rw[ho,hd];rfl
  refine iz ?_;refine xe ?_;refine KQ.rj rfl rfl rfl rfl (fun w' aM=>fin 6 w' ah (by unfold jU;rw[if_neg (by rw[ho];decide),if_pos hd]) ?_);rw[show jb R (j:Int)=R by unfold jb;rw[if_pos Gs]];exact bX V hV (aM.all ft)
 have Eu:¬R.down=true:=by rw[hd];decide
 have hE:jU R (j:Int)=if R.jJ j≠[]then 0 else if eO (R.lq j)=[]then 8 else eB R:=by unfold jU;rw[if_neg (by rw[ho];decide),if_neg Eu,aE]
 have hN:jT R (j:Int)=(decide (R.jJ j=[])&&decide (eO (R.lq j)≠[])):=by unfold jT;rw[ho,hd,aE];simp
 obtain⟨dv,Dc⟩:∃e,V.ds[j]? =some e:=⟨_,ak Y48⟩;have E7:=AH (R:=R) (k:=j) Y49;have P5:(du V R)[14+j]? =some dv:=by rw[vW hV hj];exact Dc
 have o_:=hB.jJ j;refine K.fact (fun w hw=>bo (E:=3) (sz:=1) (cf:=iC) (v:=dv) (xs:=R.jJ j) (cM (f:=ly) (i:=j) Dc E7 (hw.pick (A:=bI ly V.ds R.bQ) aQ))) ?_;rintro⟨a1,k1,rfl,Al⟩;refine BT ?_;refine Hk ?_;refine T5 ?_;refine mM ?_;refine K.cut (fun _:Unit=>[(0,fK b),(1,.int .i64 (j:Nat))]) (fun _=>gL b (jb R (j:Int))::L) (fun _=>jU R (j:Int)=0) ?_ ?_
 ·by_cases xD:R.jJ j=[]
  ·refine K.bW rfl (by rw[xD];rfl) ?_;rw[if_neg (by rw[xD];simp)]at hE;obtain⟨p,hp⟩:∃e,V.ps[j]? =some e:=⟨_,ak ae⟩;have c3:=uS hV hj hp;have Im:=hB.lq j;refine lO ?_;refine iD ?_;refine Ue ?_;refine XC ?_;refine KO.cl (cp:=[]) rfl rfl rfl call90 rfl (KC.PR (γ:=Value) (φ:=fun c u=>u=c) (A:=fun c=>oN c (eO (R.lq j))) hp (nB ae) aQ (fun L=>Fy w0 L p (R.lq j) ae)) ?_;rintro v' L' ⟨c,rfl,rfl⟩;refine KO.fact (fun _ hs=>bo hs) ?_;rintro⟨ac,kc,rfl,hgc⟩;refine jL ?_;generalize hth:eO (R.lq j)=l at hE hN hgc ⊢;refine cW ?_;refine Is ?_;refine mM ?_;by_cases NC:l=[]
   ·refine K.bW rfl (by rw[NC];rfl) ?_;refine iz ?_;refine xe ?_;refine KQ.rj rfl rfl rfl rfl (fun w' aM=>fin 8 w' ah (by rw[hE,if_pos NC]) ?_);rw[show jb R (j:Int)=R by unfold jb;rw[if_pos (by rw[hN,NC];simp)]];exact bX V hV (aM.all Y4)
   rw[if_neg NC]at hE;have Gs:¬jT R (j:Int)=false:=by rw[hN,xD];simp[NC]
   have hS:jb R (j:Int)=if eB R≠0 then eP R else {eP R with bQ:=R.bQ.set j ((l.take 3).map (·.id)),made:=R.made.set j (R.md j+1)}:=by unfold jb;rw[if_neg Gs,aE,hth]
   have Ws:0<l.length:=List.length_pos_iff.2 NC;obtain⟨gc,rfl⟩:=hgc Ws;refine K.ct rfl (by simp;exact NC) ?_;refine qp ?_;refine KO.cl (cp:=[]) rfl rfl rfl call86 rfl (KC.jN aQ (oT w0 _ b n V R hV hB)) ?_;rintro v' L' ⟨rfl,rfl⟩;refine jL ?_;obtain⟨-,wn,wk,wa,wu,wd,-,-,wm,-⟩:=ib R;have iB:=zw hV;have kG:=hB.w;refine cW ?_;refine tY ?_;refine K.bn rfl (fun hw=>?_) (fun hw=>?_)
   ·refine m_ ?_;refine Z8 ?_;refine xe ?_;refine KQ.rj rfl rfl rfl rfl (fun w' aM=>fin _ w' hw hE ?_);rw[hS,if_pos hw];refine bX V iB ?_;unfold l4;rw[wn,wk,wa,wu,wd];exact aM.all Y4
   rw[if_neg hw]at hS;have GJ:jU R (j:Int)=0:=by rw[hE];simpa using hw
   have ae8:(eP R).md j=R.md j:=by unfold Rh.md;rw[wm]
   have S8:(eP R).jJ j=[]:=by unfold Rh.jJ;rw[wd];exact xD
   rw[<-wd,<-wm,<-ae8]at hS
   refine K.conv (L':=oN (.slice (some ⟨gc,0,none⟩) l.length kc) l::l4 b V (eP R) L) (fun w h=>by
    unfold l4
    rw[wn,wk,wa,wu,wd];exact h.all Y7) ?_
   clear hV hB hE hN hw P5 P4 c3 hd Eu E7 sv ku Im xD;generalize eP R=R1 at iB kG hS S8 ⊢;have aaZ:=AH (R:=R1) (k:=j) (by rw[iB.db];exact hj);rw[S8]at aaZ;refine qP ?_;refine Hf ?_;refine K.loop (fun q:Nat×Value=>[(0,fK b),(1,.int .i64 (j:Nat)),(7,.slice (some ⟨gc,0,none⟩) l.length kc),(9,.int .i64 (q.1:Nat))]) (fun q=>oN (.slice (some ⟨gc,0,none⟩) l.length kc) l::l4 b {V with ds:=V.ds.set j q.2} {R1 with bQ:=R1.bQ.set j ((l.take q.1).map (·.id))} L) (fun q=>q.1<=l.length/\q.1<=3) (fun q=>3-q.1) (0,.slice a1 (R.jJ j).length k1) ⟨aH _,aH _⟩ ⟨rfl,rfl,rfl,rfl,trivial⟩ (fun w h=>?_) ?_
   ·dsimp only;rw[List.dE Dc,List.take_zero,List.map_nil,List.dE aaZ];exact h
   rintro⟨i,NL⟩ ⟨hi,S5⟩;dsimp only at hi S5 ⊢;have E8:dz {V with ds:=V.ds.set j NL} {R1 with bQ:=R1.bQ.set j ((l.take i).map (·.id))}:=⟨iB.ps,iB.al,iB.us,iB.un,by simp[iB.ds],by simp[iB.db],iB.md,iB.ar,iB.dq⟩;have aaL:=fL E8;by_cases hc:i<l.length/\i<3
   ·obtain⟨m,hm⟩:∃e,l[i]? =some e:=⟨l[i],ak hc.1⟩;have Tb:(du {V with ds:=V.ds.set j NL} {R1 with bQ:=R1.bQ.set j ((l.take i).map (·.id))})[14+j]? =some NL:=by rw[vW E8 hj,List.getElem?_set_self (by rw[iB.ds];exact hj)]
    have hf1:({V with ds:=V.ds.set j NL}:Bc).ds[j]? =some NL:=by dsimp only;rw[List.getElem?_set_self (by rw[iB.ds];exact hj)]
    have hf2:({R1 with bQ:=R1.bQ.set j ((l.take i).map (·.id))}:Rh).bQ[j]? =some ((l.take i).map (·.id)):=by dsimp only;rw[List.getElem?_set_self (by rw[iB.db];exact hj)]
    have eS:∀v,(du {V with ds:=V.ds.set j NL} {R1 with bQ:=R1.bQ.set j ((l.take i).map (·.id))}).set (14+j) v=du {V with ds:=V.ds.set j v} {R1 with bQ:=R1.bQ.set j ((l.take (i+1)).map (·.id))}:=fun v=>by
     rw[zz E8 hj];unfold du;dsimp only;rw[List.set_set]
    refine lO ?_;refine Is ?_;refine um ?_;refine sC ?_;refine um ?_;refine B2 ?_;refine K.bW rfl Kf ?_;refine Zh ?_;refine K.conv (fun w hw=>cM (f:=ly) hf1 hf2 (hw.pick (A:=bI ly (V.ds.set j NL) (R1.bQ.set j ((l.take i).map (·.id)))) aQ)) ?_
    refine K.draw [.pure,.pure,.pure,.pure,.pure,.pure,.pure,.read,.pure,.pure,.pure,.pure,.read,.ef,.write,.pure,.pure,.pure,.write] [0,1,2,3,4,5,6,7,8,9,10,11,12,15,16,13,14,17,18] bC bC ?_;refine gZ ?_;refine gZ ?_;refine Hk ?_;refine KO.bO (b:=b) (i:=14+j) rfl rfl isAgg23 aQ xI Tb rfl ?_;refine gZ ?_;refine XT ?_;refine KO.fo (off:=0) rfl runUnderlying44 rfl rfl sizeOf3 rfl ?_;refine KO.j7 (i:=i) (sz:=5) (cf:=dy) (e:=m) rfl rfl isAgg3 aQ (fun _=>rfl) hm ai aN rfl ?_;refine Z82 ?_;refine KO.sw (z:=(Value.int .i64 0)) (sz:=1) (fk:=8) rfl rfl underlying23 bC aN aN ah ah rfl ?_;intro b69;refine KO.app (cf:=iC) (z:=Value.int .i64 0) (sz:=1) (fk:=8) (xs:=(l.take i).map (·.id)) rfl rfl rfl (.tail .head) .head underlying23 bC aN m.id rfl rfl rfl ez ah rfl ?_;intro v70;refine KO.fact (fun _ hs=>bo hs) ?_;rintro⟨a70,k70,aan,-⟩;refine Zl ?_;refine KO.fu (b:=b) (i:=14+j) rfl rfl rfl (by rw[aan];rfl) Y53 (by rw[aan];rfl) aQ xI (by rw[aaL];omega) ?_;rw[eS];refine Z15 ?_;refine ES ?_;refine KQ.round (i+1,v70) ⟨by dsimp only;omega,by dsimp only;omega⟩ fZ ⟨rfl,rfl,rfl,rfl,trivial⟩ (fun w' aM=>?_);dsimp only;have e3:(l.take (i+1)).map (·.id)=(l.take i).map (·.id)++[m.id]:=by rw[a_ hm,aZ];rfl
    have h2:=kY (f:=ly) (ps:=V.ds.set j NL) (xs:=R1.bQ.set j ((l.take i).map (·.id))) (i:=j) (p:=v70) (x:=(l.take i).map (·.id)++[m.id]) (by simp[iB.ds];omega) (by simp[iB.db];omega) (aM.ey (A:=ly v70 ((l.take i).map (·.id)++[m.id])) (B:=bI ly ((V.ds.set j NL).eraseIdx j) ((R1.bQ.set j ((l.take i).map (·.id))).eraseIdx j)) aQ aQ);rw[List.set_set,List.set_set,<-e3]at h2;exact h2.all Y7
   ·have e3:l.take i=l.take 3:=by
     rcases Nat.lt_or_ge i 3 with h3|h3
     ·rw[List.take_of_length_le ae,List.take_of_length_le ae]
     ·rw[show i=3 by omega]
    rw[e3]at E8 ⊢;have U4:(du {V with ds:=V.ds.set j NL} {R1 with bQ:=R1.bQ.set j ((l.take 3).map (·.id))})[18+j]? =some (.int .i64 (R1.md j)):=DY E8 hj;have hmk:=kG.mdk j;have UL:=fL E8;refine kO ?_;rcases Nat.lt_or_ge i l.length with h4|h4
    ·refine gY ?_;refine Is ?_;refine um ?_;refine sC ?_;refine um ?_;refine B2 ?_;refine K.ct rfl Kf ?_;refine Qi ?_;refine Ud ?_;refine iD ?_;refine H9 ?_;refine Iv ?_;refine TW ?_;refine Hn ?_;refine H9 ?_;refine Iv ?_;refine KO.fu (b:=b) (i:=18+j) rfl rfl rfl aN uc rfl aQ xI (by rw[UL];omega) ?_;rw[zy E8 hj];refine jk ?_
     exact KQ.kT () GJ ⟨rfl,rfl,trivial⟩ (fun w' aM=>by
      rw[hS]
      exact bX {V with ds:=V.ds.set j NL} (E8.same rfl rfl rfl rfl ai rfl) (aM.all Y4))
    ·refine gY ?_;refine Is ?_;refine um ?_;refine B9 ?_;refine HU ?_;refine K.ct rfl Y76 ?_;refine Qi ?_;refine Ud ?_;refine iD ?_;refine H9 ?_;refine Iv ?_;refine TW ?_;refine Hn ?_;refine H9 ?_;refine Iv ?_;refine KO.fu (b:=b) (i:=18+j) rfl rfl rfl aN uc rfl aQ xI (by rw[UL];omega) ?_;rw[zy E8 hj];refine jk ?_
     exact KQ.kT () GJ ⟨rfl,rfl,trivial⟩ (fun w' aM=>by
      rw[hS]
      exact bX {V with ds:=V.ds.set j NL} (E8.same rfl rfl rfl rfl ai rfl) (aM.all Y4))
  ·refine K.ct rfl (by simp[xD]) ?_;refine B3 ?_
   exact KQ.kT () (by rw[hE,if_pos xD]) ⟨rfl,rfl,trivial⟩ (fun w' aM=>by
    rw[show jb R (j:Int)=R by unfold jb;rw[if_pos (by rw[hN];simp[xD])]]
    exact bX V hV (aM.all ft))
 rintro⟨⟩ GJ
 try dsimp only
 have NH:=hB.bt (j:Int);have hO:nu R (j:Int)=zA (jb R (j:Int)) (j:Int):=by unfold nu;rw[if_neg (by rw[GJ];decide)]
 have hNn:uT R (j:Int)=(jb R (j:Int)).md j:=by unfold uT;rw[if_neg (by rw[GJ];decide),aE]
 clear fin ends hN hE hd Eu P4 Dc E7 P5 o_ hV ku sv Al;clear V;generalize jb R (j:Int)=R2 at NH hO hNn ⊢;unfold zA at hO;rw[aE]at hO;refine K.bV (fun _ h=>cI h) ?_;rintro⟨V,hV⟩;dsimp only;have ku:=hV.ps;have sv:=hV.al;obtain⟨p,hp⟩:∃e,V.ps[j]? =some e:=⟨_,ak ae⟩;have c3:=uS hV hj hp;have Im:=NH.lq j;obtain⟨dv,Dc⟩:∃e,V.ds[j]? =some e:=⟨_,ak Y48⟩;have E7:=AH (R:=R2) (k:=j) Y49;have P5:(du V R2)[14+j]? =some dv:=by rw[vW hV hj];exact Dc
 have U4:(du V R2)[18+j]? =some (.int .i64 (R2.md j)):=DY hV hj;have o_:=NH.jJ j;refine K.fact (fun w hw=>bo (E:=3) (sz:=1) (cf:=iC) (v:=dv) (xs:=R2.jJ j) (cM (f:=ly) (i:=j) Dc E7 (hw.pick (A:=bI ly V.ds R2.bQ) aQ))) ?_;rintro⟨a1,k1,rfl,Al⟩;refine lg ?_;refine sB ?_;refine Ue ?_;refine KO.bO (b:=b) (i:=3+j) rfl rfl isAgg90 br xI c3 rfl ?_;refine KO.cl (cp:=[]) rfl rfl rfl call91 rfl (KC.PR (γ:=Value) (φ:=fun c u=>u=c) (A:=fun c=>oN c (iL (R2.lq j))) hp (nB ae) aQ (fun L=>DV w0 L p (R2.lq j) ae)) ?_;rintro v' L' ⟨c,rfl,rfl⟩;refine KO.fact (fun _ hs=>bo hs) ?_;rintro⟨ac,kc,rfl,hgc⟩;refine BY ?_;have Q6:(iL (R2.lq j)).length<=1000000:=Nat.le_trans (uL _) ae;generalize iL (R2.lq j)=l at hO hgc Q6 ⊢;obtain⟨ds,Bl⟩:∃ds,R2.jJ j=ds:=⟨_,rfl⟩;rw[Bl]at hO E7 o_ Al P5 Dc;refine K.loop (fun q:Nat×Value=>[(0,fK b),(1,.int .i64 (j:Nat)),(10,q.2),(90,.slice ac l.length kc),(91,.int .i64 (l.length:Nat)),(92,.int .i64 (q.1:Nat))])
  (fun q=>oN q.2 ((l.take q.1).flatMap fun m=>rF m ds)::oN (.slice ac l.length kc) l::l4 b V R2 L) (fun q=>q.1<=l.length/\((l.take q.1).flatMap fun m=>rF m ds).length<=q.1 *3) (fun q=>l.length-q.1) (0,.slice none 0 0) ⟨aH _,by simp⟩ ⟨rfl,rfl,rfl,rfl,rfl,rfl,trivial⟩ (fun w h=>?_) ?_
 ·have h1:=cw (E:=44) (sz:=5) (cf:=dy) h;exact h1.all Y7
 rintro⟨i,v10⟩ ⟨hi,kD⟩;dsimp only at hi kD ⊢;by_cases dN:i<l.length
 ·obtain⟨m,hm⟩:∃e,l[i]? =some e:=⟨l[i],ak dN⟩;have Da:l[i]? =some ⟨m.id,m.pri,m.body,m.queue,m.bF⟩:=hm;obtain⟨gc,rfl⟩:=hgc ae;have gP:(l.take (i+1)).flatMap (fun m=>rF m ds)=(l.take i).flatMap (fun m=>rF m ds)++rF m ds:=by rw[a_ hm,List.flatMap_append];simp
  generalize (l.take i).flatMap (fun m=>rF m ds)=base at kD gP ⊢;refine lW ?_;refine J2 ?_;refine XT ?_;refine KO.BE (i:=i) (sz:=5) (cf:=dy) rfl rfl isAgg44 sizeOf44 aQ (fun _=>rfl) Da rfl ?_;refine KO.alloc rfl zeroValue44 aN rfl ?_;intro b12;refine tX ?_;refine K.conv (fun w hw=>cM (f:=ly) Dc E7 (hw.pick (A:=bI ly V.ds R2.bQ) aQ)) ?_
  refine gY ?_;refine Hk ?_;refine KO.bO (b:=b) (i:=14+j) rfl rfl isAgg23 aQ xI P5 rfl ?_;refine JY ?_;refine K.loop (fun q:Nat×Value=>[(0,fK b),(1,.int .i64 (j:Nat)),(10,q.2),(12,.pointer (some ⟨b12,0,none⟩)),(90,.slice (some ⟨gc,0,none⟩) l.length kc),(91,.int .i64 (l.length:Nat)),(92,.int .i64 (i:Nat)),(101,.slice a1 ds.length k1),(102,.int .i64 (ds.length:Nat)),(103,.int .i64 (q.1:Nat))])
   (fun q=>oN q.2 (base++rF m (ds.take q.1))::ly (.slice a1 ds.length k1) ds::bI ly (V.ds.eraseIdx j) (R2.bQ.eraseIdx j)::bA b12 (.cells (dy m).toArray 44 (0,0))::oN (.slice (some ⟨gc,0,none⟩) l.length kc) l::bA b (.cells (du V R2).toArray 97 (0,0))::fb V.nv R2.names::bP Value.string V.mb (eZ R2.keys (V.ps.drop 4))::bI gR V.ps R2.all::bI (mZ V.ps) V.us R2.ay::L) (fun q=>q.1<=ds.length) (fun q=>ds.length-q.1) (0,v10) (aH _) ⟨rfl,rfl,rfl,rfl,rfl,rfl,rfl,rfl,rfl,rfl,trivial⟩ (fun w h=>?_) ?_
  ·dsimp only;rw[List.take_zero,show rF m []=[]from rfl,List.append_nil];exact h.all Y7
  rintro⟨i2,v2⟩ Q7;dsimp only at Q7 ⊢;have hbl:=AN m (ds.take i2);have xy:(ds.take i2).length<=3:=by rw[bu];omega
  by_cases wN:i2<ds.length
  ·obtain⟨x,hx⟩:∃e,ds[i2]? =some e:=⟨ds[i2],ak wN⟩;obtain⟨g1,rfl⟩:=Al ae;have NG:rF m (ds.take (i2+1))=rF m (ds.take i2)++(if m.id=x then[m]else[]):=by rw[a_ hx];unfold rF;rw[List.flatMap_append];simp
   refine lW ?_;refine J2 ?_;refine KO.gO (i:=i2) rfl rfl runUnderlying23 sizeOf3 rfl ae rfl ?_;refine KO.j7 (i:=i2) (sz:=1) (cf:=iC) (e:=x) rfl rfl isAgg3 aQ (fun _=>rfl) hx aN aN rfl ?_;refine oK ?_;refine Nj ?_;refine KO.bO (b:=b12) (cs:=dy m) (i:=0) rfl rfl isAgg3 aQ rfl rfl rfl ?_;refine Z1 ?_;refine mM ?_;refine K.bn rfl (fun he=>?_) (fun he=>?_)
   ·rw[if_pos he]at NG;refine cW ?_;refine KO.wB (cs:=dy m) rfl rfl isAgg44 sizeOf44 aQ aN rfl ?_;refine KO.sw (z:=(Value.agg #[.int .i64 0,.int .i64 0,.string ⟨#[]⟩,.string ⟨#[]⟩,.int .i64 0])) (sz:=5) (fk:=56) rfl rfl underlying49 bC aN aN ah ah rfl ?_;intro ak5;refine KO.app (cf:=dy) (z:=Value.agg #[.int .i64 0,.int .i64 0,.string ⟨#[]⟩,.string ⟨#[]⟩,.int .i64 0]) (sz:=5) (fk:=56) (xs:=base++rF m (ds.take i2)) rfl rfl rfl (.tail .head) .head underlying49 bC aN m rfl rfl rfl ez ah rfl ?_;intro ad9;refine qq ?_;refine KQ.round (i2+1,ad9) fZ fZ ⟨rfl,rfl,rfl,rfl,rfl,rfl,rfl,rfl,rfl,rfl,trivial⟩ (fun w h=>?_);dsimp only;rw[NG,<-aR];exact h.all ft
   ·rw[if_neg he,List.append_nil]at NG;refine lY ?_;refine KQ.round (i2+1,v2) fZ fZ ⟨rfl,rfl,rfl,rfl,rfl,rfl,rfl,rfl,rfl,rfl,trivial⟩ (fun w h=>?_);dsimp only;rw[NG];exact h.all ft
  obtain rfl:i2=ds.length:=by omega
  rw[List.take_length]at hbl ⊢;refine Hu ?_;refine acv ?_;refine TG ?_;refine KQ.round (i+1,v2) ⟨by dsimp only;omega,?_⟩ fZ ⟨rfl,rfl,rfl,rfl,rfl,rfl,trivial⟩ (fun w h=>?_)
  ·dsimp only;rw[gP,aW];omega
  ·dsimp only;rw[gP];have h2:=fY (f:=ly) Dc E7 (h.ey (A:=ly (.slice a1 ds.length k1) ds) (B:=bI ly (V.ds.eraseIdx j) (R2.bQ.eraseIdx j)) aQ aQ);exact h2.all Y4
 obtain rfl:i=l.length:=by omega
 rw[List.take_length,<-hO];refine Hu ?_;refine Z9 ?_;refine K.fact (fun _ hs=>bo (hs.pick .head)) ?_;rintro⟨a10,k10,rfl,-⟩;refine JO ?_;refine H9 ?_;refine Iv ?_;refine TW ?_;refine Z1 ?_;refine Z8 ?_;refine nP ?_;refine KQ.rj rfl rfl rfl rfl (fun w' aM=>⟨_,_,rfl,⟨_,by rw[hNn,GJ],rfl⟩,?_⟩);exact(bX V hV (aM.all (M:=l4 b V R2 (oN (.slice a10 (nu R (j:Int)).length k10) (nu R (j:Int))::L)) Y4)).all Y7
theorem uQ(w0:World)(L:List HP)(b n:Nat)(R:Rh)(k m:Int)(hB:gd n R)(hn:n<=80000):
 KC prog 101 #[fK b,.int .i64 k,.int .i64 m] w0 (gL b R::L) (fun u M=>u=.int .i64 (sJ R k m)/\M=gL b (uR R k m)::L):=by
 refine KC.mk (n:=66) func101 rfl ntmps101 ai ?_;refine yb ?_;refine KO.ce (cp:=[]) rfl rfl rfl call89 rfl (rT w0 _ _ b R k .head) ?_;rintro v' L' ⟨rfl,rfl⟩;refine oJ ?_;cases ho:dA R k with
 |false=>
  refine JV ?_;refine kr ?_;refine KQ.aU rfl rfl (fun w' aM=>⟨_,_,rfl,⟨by unfold sJ;rw[if_pos ho],rfl⟩,?_⟩);rw[show uR R k m=R by unfold uR;rw[if_pos ho]];exact aM
 |true=>
 have NB:¬dA R k=false:=by rw[ho];decide
 have hk:0<=k/\k<=3:=by unfold dA at ho;simp at ho;omega
 obtain⟨j,rfl⟩:∃j:Nat,k=(j:Int):=⟨k.toNat,by omega⟩;have hj:j<4:=by omega
 refine J4 ?_;refine K.bV (fun _ h=>cI h) ?_;rintro⟨V,hV⟩;dsimp only;have ku:=hV.ps;have sv:=hV.al;have P4:(du V R)[27]? =some (.bool R.down):=jS hV 1;refine g_ ?_;refine Xy ?_;refine Z3 ?_;refine K.cond rfl (fun hd=>?_) (fun hd=>?_)
 ·refine kr ?_;refine KQ.aU rfl rfl (fun w' aM=>⟨_,_,rfl,⟨by unfold sJ;rw[if_neg NB,if_pos hd],rfl⟩,?_⟩);rw[show uR R (j:Int) m=R by unfold uR;rw[if_neg NB,if_pos hd]];exact bX V hV (aM.all ft)
 have Eu:¬R.down=true:=by rw[hd];decide
 have hE:sJ R (j:Int) m=if R.jJ j=[]\/m≠R.md j then 8 else eB R:=by unfold sJ;rw[if_neg NB,if_neg Eu,aE]
 have hS:uR R (j:Int) m=if R.jJ j=[]\/m≠R.md j then R else if eB R≠0 then eP R else {(eP R).ff j ((R.jJ j).foldl dR (R.lq j))with bQ:=R.bQ.set j []}:=by unfold uR;rw[if_neg NB,if_neg Eu,aE]
 obtain⟨dv,Dc⟩:∃e,V.ds[j]? =some e:=⟨_,ak Y48⟩;have E7:=AH (R:=R) (k:=j) Y49;have P5:(du V R)[14+j]? =some dv:=by rw[vW hV hj];exact Dc
 have U4:(du V R)[18+j]? =some (.int .i64 (R.md j)):=DY hV hj;refine K.fact (fun w hw=>bo (E:=3) (sz:=1) (cf:=iC) (v:=dv) (xs:=R.jJ j) (cM (f:=ly) (i:=j) Dc E7 (hw.pick (A:=bI ly V.ds R.bQ) aQ))) ?_;rintro⟨a1,k1,rfl,Al⟩;refine Z6 ?_;by_cases h8:R.jJ j=[]\/m≠R.md j
 ·have done:∀w',St w0 (l4 b V R L) w'->∃v L',Ending.returned (.int .i64 8)=Ending.returned v/\(v=.int .i64 (sJ R (j:Int) m)/\L'=gL b (uR R (j:Int) m)::L)/\St w0 L' w':=fun w' h=>by
   rw[hE,hS,if_pos h8,if_pos h8];exact⟨_,_,rfl,⟨rfl,rfl⟩,bX V hV h⟩
  by_cases xD:R.jJ j=[]
  ·have hz:(((R.jJ j).length:Nat):Int)=0:=by rw[xD];rfl
   refine gY ?_;refine Hk ?_;refine T5 ?_;refine KO.eqI rfl rfl rfl ?_;rw[show decide ((((R.jJ j).length:Nat):Int)=0)=true from decide_eq_true hz];refine BW ?_;refine Kb ?_;refine HH ?_;refine KQ.aU rfl rfl (fun w' aM=>done w' (aM.all ft))
  ·have hm:m≠R.md j:=h8.resolve_left xD;have hz:¬(((R.jJ j).length:Nat):Int)=0:=by simpa using xD
   refine gY ?_;refine Hk ?_;refine T5 ?_;refine KO.eqI rfl rfl rfl ?_;rw[show decide ((((R.jJ j).length:Nat):Int)=0)=false from decide_eq_false hz];refine BQ ?_;refine JS ?_;refine H9 ?_;refine KO.on rfl rfl rfl ?_;refine KO.jd (i:=j) rfl rfl runUnderlying95 sizeOf3 rfl ae rfl ?_;refine KO.on rfl rfl rfl ?_;refine KO.bO (i:=18+j) rfl rfl isAgg3 br xI U4 rfl ?_;refine Ni ?_;refine ua ?_;refine K.bW rfl (by simpa using hm) ?_;refine kr ?_;refine KQ.aU rfl rfl (fun w' aM=>done w' (aM.all ft))
 rw[if_neg h8]at hE hS;have xD:¬R.jJ j=[]:=fun e=>h8 (.inl e)
 have hm:m=R.md j:=Classical.byContradiction fun e=>h8 (.inr e)
 have hz:¬(((R.jJ j).length:Nat):Int)=0:=by simpa using xD
 refine gY ?_;refine Hk ?_;refine T5 ?_;refine KO.eqI rfl rfl rfl ?_;rw[show decide ((((R.jJ j).length:Nat):Int)=0)=false from decide_eq_false hz];refine BQ ?_;refine JS ?_;refine H9 ?_;refine KO.on rfl rfl rfl ?_;refine KO.jd (i:=j) rfl rfl runUnderlying95 sizeOf3 rfl ae rfl ?_;refine KO.on rfl rfl rfl ?_;refine KO.bO (i:=18+j) rfl rfl isAgg3 br xI U4 rfl ?_;refine Ni ?_;refine ua ?_;refine K.ct rfl (by simpa using hm) ?_;refine qp ?_;refine KO.cl (cp:=[]) rfl rfl rfl call86 rfl (KC.jN br (oT w0 _ b n V R hV hB)) ?_;rintro v' L' ⟨rfl,rfl⟩;refine jL ?_;obtain⟨-,wn,wk,wa,wu,wd,-⟩:=ib R;have iB:=zw hV;have kG:=hB.w;refine cW ?_;refine tY ?_;refine K.bn rfl (fun hw=>?_) (fun hw=>?_)
 ·refine xd ?_;refine KQ.aU rfl rfl (fun w' aM=>⟨_,_,rfl,⟨by rw[hE],rfl⟩,?_⟩);rw[hS,if_pos hw];refine bX V iB ?_;unfold l4;rw[wn,wk,wa,wu,wd];exact aM.all ft
 rw[if_neg hw]at hS;have GJ:sJ R (j:Int) m=0:=by rw[hE];simpa using hw
 have aaH:(eP R).lq j=R.lq j:=by unfold Rh.lq;rw[wa]
 have S8:(eP R).jJ j=R.jJ j:=by unfold Rh.jJ;rw[wd]
 rw[<-wd,<-aaH]at hS;rw[<-wd]at E7
 refine K.conv (L':=l4 b V (eP R) L) (fun w h=>by
  unfold l4
  rw[wn,wk,wa,wu,wd];exact h.all ft) ?_
 obtain⟨ds,Bl⟩:∃ds,R.jJ j=ds:=⟨_,rfl⟩;rw[Bl]at hS E7 Dc Al xD;have hd3:ds.length<=3:=by rw[<-Bl];exact hB.jJ j
 have Tb:(du V (eP R))[14+j]? =some (.slice a1 ds.length k1):=by rw[vW iB hj];exact Dc
 clear hE hw P5 U4 hd Eu P4 h8 hm hz aaH S8 wn wk wa wu wd hV hB ku sv;generalize eP R=R1 at hS iB kG Tb E7 ⊢;have ku:=iB.ps;have sv:=iB.al;have hlen:=fL iB;obtain⟨p,hp⟩:∃e,V.ps[j]? =some e:=⟨_,ak ae⟩;have c3:=uS iB hj hp;obtain⟨g1,rfl⟩:=Al (List.length_pos_iff.2 xD);have cU:∀i,(ds.take i).foldl dR (R1.lq j)=(ds.take i).foldl dR (R1.lq j):=fun _=>rfl
 have oq:∀l:List Int,(l.foldl dR (R1.lq j)).length<=n:=fun l=>by
  have :∀(l:List Int) (q:List Ri),(l.foldl dR q).length<=q.length:=fun l=>by
   induction l with
   |nil=>intro q;exact aP _
   |cons a l ih=>intro q;rw[List.foldl_cons];exact Nat.le_trans (ih _) (Ct _ _)
  exact Nat.le_trans (this l _) (kG.lq j).1
 refine K.conv (fun w hw=>cM (f:=ly) Dc E7 (hw.pick (A:=bI ly V.ds R1.bQ) aQ)) ?_
 refine BT ?_;refine Hk ?_;refine KO.bO (b:=b) (i:=14+j) rfl rfl isAgg23 aQ xI Tb rfl ?_;refine JY ?_;refine K.loop (fun i:Nat=>[(0,fK b),(1,.int .i64 (j:Nat)),(46,.slice (some ⟨g1,0,none⟩) ds.length k1),(47,.int .i64 (ds.length:Nat)),(48,.int .i64 (i:Nat))])
  (fun i=>bI gR V.ps (R1.all.set j ((ds.take i).foldl dR (R1.lq j)))::ly (.slice (some ⟨g1,0,none⟩) ds.length k1) ds::bI ly (V.ds.eraseIdx j) (R1.bQ.eraseIdx j)::bA b (.cells (du V R1).toArray 97 (0,0))::fb V.nv R1.names::bP Value.string V.mb (eZ R1.keys (V.ps.drop 4))::bI (mZ V.ps) V.us R1.ay::L) (fun i=>i<=ds.length) (fun i=>ds.length-i) 0 (aH _) ⟨rfl,rfl,rfl,rfl,rfl,trivial⟩ (fun w h=>?_) ?_
 ·rw[List.take_zero,List.foldl_nil,List.dE (nB ae)];exact h.all Y7
 intro i hi;by_cases dN:i<ds.length
 ·obtain⟨x,hx⟩:∃e,ds[i]? =some e:=⟨ds[i],ak dN⟩;have gP:(ds.take (i+1)).foldl dR (R1.lq j)=dR ((ds.take i).foldl dR (R1.lq j)) x:=by rw[a_ hx,List.foldl_append];rfl
  have hln:=oq (ds.take i);generalize (ds.take i).foldl dR (R1.lq j)=q at gP hln ⊢;have hq:(R1.all.set j q)[j]? =some q:=by rw[List.getElem?_set_self ae]
  refine lW ?_;refine K.bW rfl ez ?_;refine si ?_;refine XR ?_;refine KO.j7 (i:=i) (sz:=1) (cf:=iC) (e:=x) rfl rfl isAgg3 aQ (fun _=>rfl) hx aN aN rfl ?_;refine xc ?_;refine iD ?_;refine Ue ?_;refine KO.bO (b:=b) (i:=3+j) rfl rfl isAgg90 aQ xI c3 rfl ?_;refine Z1 ?_;refine KO.cl (cp:=[]) rfl rfl rfl call187 rfl (KC.rD (φ:=fun v=>v=.tuple #[.agg (dy (sW q x)).toArray,.int .i64 (sX q x)]) hp hq br (fun L=>Kt w0 L p q x ae)) ?_;rintro v' L' ⟨rfl,rfl⟩;refine pE ?_;refine KQ.round (i+1) ae ae ⟨rfl,rfl,rfl,rfl,rfl,trivial⟩ (fun w h=>?_);rw[gP];rw[List.set_set]at h;exact h.all ft
 obtain rfl:i=ds.length:=by omega
 rw[List.take_length];refine Hu ?_;refine Z9 ?_;refine gY ?_;refine Hk ?_;refine KO.fu (v:=.slice none 0 0) (b:=b) (i:=14+j) rfl rfl aN rfl Y53 rfl aQ xI Yr ?_;rw[zz iB hj];refine qO ?_;refine KQ.aU rfl rfl (fun w' aM=>⟨_,_,rfl,⟨by rw[GJ],rfl⟩,?_⟩);rw[hS];have h2:=kY (f:=ly) (ps:=V.ds) (xs:=R1.bQ) (i:=j) (p:=.slice none 0 0) (x:=[]) (by rw[iB.ds];exact hj) (by rw[iB.db];exact hj) (cw (E:=3) (sz:=1) (cf:=iC) (aM.pick (A:=bI ly (V.ds.eraseIdx j) (R1.bQ.eraseIdx j)) aQ));refine bX {V with ds:=V.ds.set j (.slice none 0 0)} ⟨by simp[Rh.ff,ku],by simp[Rh.ff,sv],iB.us,iB.un,by simp[iB.ds],by simp[iB.db],iB.md,iB.ar,fun l hl d wQ=>?_⟩ (h2.all (M:=bA b (.cells (du {V with ds:=V.ds.set j (.slice none 0 0)} R1).toArray 97 (0,0))::fb V.nv R1.names::bP Value.string V.mb (eZ R1.keys (V.ps.drop 4))::bI gR V.ps (R1.all.set j (ds.foldl dR (R1.lq j)))::bI (mZ V.ps) V.us R1.ay::bI ly (V.ds.set j (.slice none 0 0)) (R1.bQ.set j [])::L) Y4);have el:(R1.ff j (ds.foldl dR (R1.lq j))).all.length=R1.all.length:=by simp[Rh.ff]
 dsimp only;rw[el];exact iB.dq l hl d wQ
end Go.Proofs.YtjhogocabcdjbabGreatDoor
namespace WB
open Go Go.RowKit
def Ea (p:Int->Bool) (m:List (Int×Value)):Prop:= ∀i,(gj m i).getD (.bool false)=.bool (p i)
theorem ON:Ea (fun _=>false) []:=fun _=>rfl
theorem F5{p:Int->Bool}{m:List (Int×Value)}(h:Ea p m)(x:Int):Ea (fun i=>p i||decide (i=x)) (iU m x (.bool true)):=fun i=>by
 rw[sb];by_cases e:x=i
 ·rw[if_pos e];simp[e]
 ·rw[if_neg e,h i];have :¬i=x:=fun h=>e h.symm
  simp[this]
theorem yG{p q:Int->Bool}{m:List (Int×Value)}(h:Ea p m)(e:∀i,p i=q i):Ea q m:=fun i=>by rw[h i,e i]
theorem GU{R:Rh}{n:Nat}(hB:gd n R):R.all.drop 4=(List.range R.keys.length).map fun r=>R.lq (4+r):=by
 have h:=hB.al;apply List.ext_getElem?;intro i;rw[List.getElem?_drop,aG];by_cases hi:i<R.keys.length
 ·rw[List.getElem?_range hi,nB ae];rfl
 ·rw[cc ae,cc ez];rfl
theorem Qa{α:Type}{p:α->Bool}{a b:List α}(h:a.Perm b):a.any p=b.any p:=by
 rw[Bool.eq_iff_iff,List.any_eq_true,List.any_eq_true];constructor
 ·rintro⟨x,hx,hp⟩;exact⟨x,h.mem_iff.1 hx,hp⟩
 ·rintro⟨x,hx,hp⟩;exact⟨x,h.mem_iff.2 hx,hp⟩
def zm (R:Rh) (done:List Nat) (i:Int):Bool:=done.any fun r=>(R.lq (4+r)).any fun e=>decide (e.m.id=i)
theorem LU{R:Rh}{n:Nat}(hB:gd n R){done:List Nat}(h:done.Perm (List.range R.keys.length))(i:Int):zm R done i=iS R i:=by
 unfold zm iS;rw[Qa h,GU hB,List.any_map];rfl
theorem M1(R:Rh)(m:Ms):(dB R m).all.length=R.all.length:=by unfold dB Rh.ff;simp
theorem dz.AJ{V:Bc}:∀(l:List Ms) {R:Rh},dz V R->dz V (l.foldl dB R)
 |[],_,h=>h
 |m::l,_,h=>dz.AJ l (h.ff _ _)
theorem gd.abE{n:Nat}{R:Rh}(h:gd n R)(m:Ms)(hm:0<=m.id/\m.id<=1099511627776):gd (n+1) (dB R m):=
 (h.le (Nat.le_succ n)).ff (by unfold eT;have :=(h.lq (fP R m)).1;simp;omega) fun e he=>by
  unfold eT at he;rcases aO.1 he with h2|h2
  ·exact(h.lq _).2 e h2
  ·rw[List.mem_singleton.1 h2];exact hm
theorem gd.AJ:∀(l:List Ms) {n:Nat} {R:Rh},gd n R->(∀m∈l,0<=m.id/\m.id<=1099511627776)->gd (n+l.length) (l.foldl dB R)
 |[],_,_,h,_=>h
 |m::l,n,R,h,hm=>by
  have :=gd.AJ l (h.abE m (hm m ai)) fun e he=>hm e (List.mem_cons_of_mem _ he)
  rw[List.foldl_cons,List.length_cons]
  rwa [show n+(l.length+1)=n+1+l.length by omega]
theorem FF{R:Rh}{m:Ms}(h:gS R m=false):bD m=true/\m.bF=R.id/\m.id%4≠R.id:=by
 unfold gS at h;simp only[Bool.or_eq_false_iff,Bool.not_eq_false',decide_eq_true_eq,decide_eq_false_iff_not]at h;exact⟨h.1.1,h.1.2,h.2⟩
end WB
