import Derived.Laws.OwnMore
import Derived.Conc.Holds
import Derived.Leaving
import Derived.SevenTiedAt
import Derived.Test.YtjhogocabcdjbabGreatDoorB5
set_option linter.unusedSimpArgs false
set_option linter.unusedVariables false
set_option maxRecDepth 100000
set_option maxHeartbeats 8000000
namespace WB
open Go
structure Rg where
 w:List Ms
 i:List Ms
 b:List Int
 s:Int
 av:Nat->Int
def gx (R:Nat->Rg) (k:Nat) (r:Rg):Nat->Rg:=fun j=>if j=k then r else R j
theorem cO(R:Nat->Rg)(k:Nat)(r:Rg):gx R k r k=r:=if_pos rfl
theorem cZ{R:Nat->Rg}{k j:Nat}{r:Rg}(h:j≠k):gx R k r j=R j:=if_neg h
def fY (b:List Int) (m:Ms):Bool:=decide (m.id∈b)
def gM (b:List Int) (m:Ms):Bool:= !decide (m.id∈b)
def kg (n:Nat) (R:Nat->Rg) (k:Nat):Bool:=decide ((R k).b≠[]/\(R k).s<=(R (nx n k)).av k)
def fD (n:Nat) (R:Nat->Rg) (k:Nat):List Ms:=if kg n R k=true then(R k).w.filter (gM (R k).b)else(R k).w
def iP (n:Nat) (R:Nat->Rg) (k:Nat) (p:Int):List Ms:=(R (nx n k)).i.filter (eu p)++(fD n R k).filter (eu p)
structure FO (n:Nat) (R:Nat->Rg) (g:Gm):Prop where
 data:∀k:Nat,k<n->g.f.vN=false->g.f.fa=(k:Int)->g.dto=((nx n k:Nat):Int)/\(g.f.num=(R k).s->(R (nx n k)).av k<g.f.num->∀p,g.l.filter (eu p)=((R k).w.filter (fY (R k).b)).filter (eu p))
 P9:∀k:Nat,k<n->g.f.vN=true->g.dto=(k:Int)->g.f.fa=((nx n k:Nat):Int)
structure RG (n:Nat) (R:Nat->Rg) (cR:List Gm) (cc:Nat->Nat):Prop where
 pre:∀k,k<n->∀p,(R k).w.filter (eu p)=((R k).w.filter (fY (R k).b)).filter (eu p)++((R k).w.filter (gM (R k).b)).filter (eu p)
 fr:∀g∈cR,FO n R g
 RJ:∀k,k<n->(R (nx n k)).i.length+(fD n R k).length<=cc k
 acl:∀k,k<n->(R (nx n k)).av k<=((R (nx n k)).i.length:Int)
theorem V9{n i k:Nat}(hn:2<=n/\n<=4)(hi:i<n)(hk:k<n)(h:nx n i=nx n k):i=k:=by
 unfold nx at h
 have gO:n=2\/n=3\/n=4:=by omega
 rcases gO with rfl|rfl|rfl<;>omega
theorem mM{α:Type}(p q:α->Bool)(l:List α):(l.filter p).filter q=(l.filter q).filter p:=by
 rw[bp,bp]
 exact List.filter_congr fun x _=>Bool.and_comm _ _
theorem FT:∀(ms l:List Ms),(ms.foldl nn l).Perm (ms++l)
 |[],l=>.refl _
 |m::ms,l=>by
  have h1:(nn l m).Perm (m::l):=by
   unfold nn
   exact List.perm_middle.trans ((List.filter_append_perm _ l).cons m)
  rw[List.foldl_cons]
  exact(FT ms _).trans (((List.Perm.refl ms).append h1).trans List.perm_middle)
section
variable {n k:Nat} {R:Nat->Rg} {cR:List Gm} {cc:Nat->Nat} {r:Rg}
theorem RG.sub(h:RG n R cR cc){ud:List Gm}(hw:∀g∈ud,g∈cR\/FO n R g):RG n R ud cc:=⟨h.pre,fun g hg=>(hw g hg).elim (h.fr g) id,h.RJ,h.acl⟩
theorem RG.kO(h:RG n R cR cc)(hn:2<=n/\n<=4)(hk:k<n){ms:List Ms}(hm:∀m∈ms,m.id∉(R k).b)(hw:r.w=ms.foldl nn (R k).w)(hi:r.i=(R k).i)(hb:r.b=(R k).b)(hs:r.s=(R k).s)(x4:r.av=(R k).av):
 RG n (gx R k r) cR (fun j=>if j=k then cc k+ms.length else cc j)/\∀j,j<n->∀p,iP n (gx R k r) j p=iP n R j p++(if j=k then ms.filter (eu p)else[]):=by
 have e1:∀j,(gx R k r j).i=(R j).i:=fun j=>by by_cases e:j=k;(rw[e,cO,hi]);(rw[cZ e])
 have e2:∀j,(gx R k r j).b=(R j).b:=fun j=>by by_cases e:j=k;(rw[e,cO,hb]);(rw[cZ e])
 have e3:∀j,(gx R k r j).s=(R j).s:=fun j=>by by_cases e:j=k;(rw[e,cO,hs]);(rw[cZ e])
 have e4:∀j,(gx R k r j).av=(R j).av:=fun j=>by by_cases e:j=k;(rw[e,cO,x4]);(rw[cZ e])
 have uZ:∀j,kg n (gx R k r) j=kg n R j:=fun j=>by unfold kg;rw[e2,e3,e4]
 have qm:ms.filter (fY (R k).b)=[]:=by
  rw[List.filter_eq_nil_iff];intro m Cx;unfold fY;simpa using hm m Cx
 have pY:ms.filter (gM (R k).b)=ms:=by
  rw[aT];intro m Cx;unfold gM;simpa using hm m Cx
 have hwp:∀p,r.w.filter (eu p)=(R k).w.filter (eu p)++ms.filter (eu p):=fun p=>by rw[hw,Ae]
 have hwi:∀p,(r.w.filter (fY (R k).b)).filter (eu p)=((R k).w.filter (fY (R k).b)).filter (eu p):=fun p=>by
  rw[mM,hwp,bB,mM (eu p) _ ms,qm,mM]
  simp
 have hwo:∀p,(r.w.filter (gM (R k).b)).filter (eu p)=((R k).w.filter (gM (R k).b)).filter (eu p)++ms.filter (eu p):=fun p=>by
  rw[mM,hwp,bB,mM (eu p) _ ms,pY,mM]
 refine⟨⟨fun j hj p=>?_,fun g hg=>?_,fun j hj=>?_,fun j hj=>by rw[e4,e1];exact h.acl j hj⟩,fun j hj p=>?_⟩
 ·by_cases e:j=k
  ·subst e
   rw[cO,hb,hwi,hwo,hwp,<-aH,<-h.pre j hj p]
  ·rw[cZ e];exact h.pre j hj p
 ·refine⟨fun j hj ha hf=>?_,(h.fr g hg).P9⟩
  obtain⟨a,b⟩:=(h.fr g hg).data j hj ha hf
  refine⟨a,fun h1 h2 p=>?_⟩
  rw[e3]at h1
  rw[e4]at h2
  rw[b h1 h2 p]
  by_cases e:j=k
  ·subst e;rw[cO,hb,hwi]
  ·rw[cZ e]
 ·rw[e1]
  have h1:=h.RJ j hj
  unfold fD at h1 ⊢
  rw[uZ]
  by_cases e:j=k
  ·subst e
   rw[cO,if_pos rfl,hb]
   have hp:=FT ms (R j).w
   rw[<-hw]at hp
   split
   ·rename_i hc
    rw[if_pos hc]at h1
    have :=(hp.filter (gM (R j).b)).length_eq
    rw[bB,pY,aP]at this
    omega
   ·rename_i hc
    rw[if_neg hc]at h1
    have :=hp.length_eq
    rw[aP]at this
    omega
  ·rw[cZ e,if_neg e];exact h1
 ·unfold iP fD
  rw[e1,uZ]
  by_cases e:j=k
  ·subst e
   rw[cO,if_pos rfl,hb]
   split
   ·rw[hwo,aH]
   ·rw[hwp,aH]
  ·rw[cZ e,if_neg e,List.append_nil]
theorem RG.made(h:RG n R cR cc)(hk:k<n)(h0:(R k).b=[])(nM:((R k).w.map (·.id)).Nodup)(F6:(R (nx n k)).av k<=(R k).s)(gN:nx n k≠k)(hfn:∀g∈cR,g.f.vN=false->g.f.fa=(k:Int)->g.f.num<=(R k).s)(hw:r.w=(R k).w)(hi:r.i=(R k).i)(hb:r.b=((R k).w.take 3).map (·.id))(hs:r.s=(R k).s+1)(x4:r.av=(R k).av):
 RG n (gx R k r) cR cc/\∀j,j<n->∀p,iP n (gx R k r) j p=iP n R j p:=by
 have e1:∀j,(gx R k r j).i=(R j).i:=fun j=>by by_cases e:j=k;(rw[e,cO,hi]);(rw[cZ e])
 have e2:∀j,(gx R k r j).w=(R j).w:=fun j=>by by_cases e:j=k;(rw[e,cO,hw]);(rw[cZ e])
 have e4:∀j,(gx R k r j).av=(R j).av:=fun j=>by by_cases e:j=k;(rw[e,cO,x4]);(rw[cZ e])
 have fg:∀j,fD n (gx R k r) j=fD n R j:=fun j=>by
  by_cases e:j=k
  ·subst e
   have c1:kg n (gx R j r) j=false:=by
    unfold kg
    rw[decide_eq_false_iff_not]
    rintro⟨-,g2⟩
    rw[e4,cO,hs]at g2
    omega
   have c2:kg n R j=false:=by unfold kg;rw[h0];simp
   unfold fD
   rw[c1,c2,e2];rfl
  ·have :kg n (gx R k r) j=kg n R j:=by unfold kg;rw[e4,cZ e]
   unfold fD
   rw[this,cZ e]
 have htd:(R k).w=(R k).w.take 3++(R k).w.drop 3:=(List.take_append_drop 3 _).symm
 have WV:=nM
 rw[htd,aZ,List.nodup_append]at WV
 have qm:(R k).w.filter (fY r.b)=(R k).w.take 3/\(R k).w.filter (gM r.b)=(R k).w.drop 3:=by
  have a1:((R k).w.take 3).filter (fY r.b)=(R k).w.take 3:=by
   rw[aT];intro m hm;unfold fY;rw[hb,decide_eq_true_eq];exact bO hm
  have a2:((R k).w.drop 3).filter (fY r.b)=[]:=by
   rw[List.filter_eq_nil_iff];intro m hm;unfold fY;rw[hb,decide_eq_true_eq]
   intro h2
   obtain⟨z,hz,e⟩:=ay.1 h2
   exact WV.2.2 _ (bO hz) _ (bO hm) e
  have a3:((R k).w.take 3).filter (gM r.b)=[]:=by
   rw[List.filter_eq_nil_iff];intro m hm;unfold gM;rw[hb];simp only[Bool.not_eq_true',decide_eq_false_iff_not,Classical.not_not];exact bO hm
  have a4:((R k).w.drop 3).filter (gM r.b)=(R k).w.drop 3:=by
   rw[aT];intro m hm;unfold gM;rw[hb];simp only[Bool.not_eq_true',decide_eq_false_iff_not]
   intro h2
   obtain⟨z,hz,e⟩:=ay.1 h2
   exact WV.2.2 _ (bO hz) _ (bO hm) e
  constructor
  ·conv=>lhs;rw[htd]
   rw[bB,a1,a2,List.append_nil]
  ·conv=>lhs;rw[htd]
   rw[bB,a3,a4,List.nil_append]
 refine⟨⟨fun j hj p=>?_,fun g hg=>?_,fun j hj=>by rw[e1,fg];exact h.RJ j hj,fun j hj=>by rw[e4,e1];exact h.acl j hj⟩,fun j hj p=>by unfold iP;rw[e1,fg]⟩
 ·by_cases e:j=k
  ·subst e
   rw[cO,hw,qm.1,qm.2,<-bB,List.take_append_drop]
  ·rw[cZ e];exact h.pre j hj p
 ·refine⟨fun j hj ha hf=>?_,(h.fr g hg).P9⟩
  obtain⟨a,b⟩:=(h.fr g hg).data j hj ha hf
  refine⟨a,fun g1 g2 p=>?_⟩
  by_cases e:j=k
  ·subst e
   rw[cO,hs]at g1
   have :=hfn g hg ha hf
   omega
  ·rw[cZ e]at g1 ⊢
   rw[e4]at g2
   exact b g1 g2 p
theorem RG.yw(h:RG n R cR cc)(hn:2<=n/\n<=4)(hk:k<n){l:List Ms}(hl:∀p,l.filter (eu p)=((R k).w.filter (fY (R k).b)).filter (eu p))(WZ:l.length=((R k).w.filter (fY (R k).b)).length)(U5:l≠[])(sr:(R k).b≠[])(F6:(R k).s=(R (nx n k)).av k+1)(hw:r.w=(R (nx n k)).w)(hi:r.i=l.foldl nn (R (nx n k)).i)(hb:r.b=(R (nx n k)).b)(hs:r.s=(R (nx n k)).s)(x4:∀j,r.av j=if j=k then(R (nx n k)).av k+1 else(R (nx n k)).av j):
 RG n (gx R (nx n k) r) cR cc/\∀j,j<n->∀p,iP n (gx R (nx n k) r) j p=iP n R j p:=by
 have e1:∀j,(gx R (nx n k) r j).w=(R j).w:=fun j=>by by_cases e:j=nx n k;(rw[e,cO,hw]);(rw[cZ e])
 have e2:∀j,(gx R (nx n k) r j).b=(R j).b:=fun j=>by by_cases e:j=nx n k;(rw[e,cO,hb]);(rw[cZ e])
 have e3:∀j,(gx R (nx n k) r j).s=(R j).s:=fun j=>by by_cases e:j=nx n k;(rw[e,cO,hs]);(rw[cZ e])
 have eo:∀j,j<n->j≠k->gx R (nx n k) r (nx n j)=R (nx n j):=fun j hj wK=>cZ fun e=>wK (V9 hn hj hk e)
 have HD:kg n R k=false:=by unfold kg;rw[decide_eq_false_iff_not];rintro⟨-,g⟩;omega
 have EF:kg n (gx R (nx n k) r) k=true:=by
  unfold kg
  rw[e2,e3,cO,x4,if_pos rfl,decide_eq_true_eq]
  exact⟨sr,by omega⟩
 have fg:∀j,j<n->j≠k->fD n (gx R (nx n k) r) j=fD n R j:=fun j hj wK=>by
  unfold fD kg
  rw[e1,e2,e3,eo j hj wK]
 have hrk:fD n (gx R (nx n k) r) k=(R k).w.filter (gM (R k).b):=by unfold fD;rw[EF,if_pos rfl,e1,e2]
 have aaQ:fD n R k=(R k).w:=by unfold fD;rw[HD];rfl
 have OP:((R k).w.filter (fY (R k).b)).length+((R k).w.filter (gM (R k).b)).length=(R k).w.length:=by
  have :=(List.filter_append_perm (fY (R k).b) (R k).w).length_eq
  rw[aP]at this
  exact this
 have Q8:0<l.length:=List.length_pos_iff.2 U5
 refine⟨⟨fun j hj p=>by rw[e1,e2];exact h.pre j hj p,fun g hg=>?_,fun j hj=>?_,fun j hj=>?_⟩,fun j hj p=>?_⟩
 ·refine⟨fun j hj ha hf=>?_,(h.fr g hg).P9⟩
  obtain⟨a,b⟩:=(h.fr g hg).data j hj ha hf
  refine⟨a,fun g1 g2 p=>?_⟩
  rw[e3]at g1
  rw[e1,e2]
  by_cases e:j=k
  ·subst e
   rw[cO,x4,if_pos rfl]at g2
   omega
  ·rw[eo j hj e]at g2
   exact b g1 g2 p
 ·have h1:=h.RJ j hj
  by_cases e:j=k
  ·subst e
   rw[aaQ]at h1
   rw[hrk,cO,hi,Af]
   omega
  ·rw[fg j hj e,eo j hj e];exact h1
 ·have h1:=h.acl j hj
  by_cases e:j=k
  ·subst e
   rw[cO,x4,if_pos rfl,hi,Af]
   push_cast
   omega
  ·rw[eo j hj e];exact h1
 ·unfold iP
  by_cases e:j=k
  ·subst e
   rw[hrk,aaQ,cO,hi,Ae,hl p,aH,<-h.pre j hj p]
  ·rw[fg j hj e,eo j hj e]
theorem RG.known(h:RG n R cR cc)(hk:k<n)(gN:nx n k≠k)(sr:(R k).b≠[])(F6:(R k).s<=(R (nx n k)).av k)(hw:r.w=(R k).w.filter (gM (R k).b))(hi:r.i=(R k).i)(hb:r.b=[])(hs:r.s=(R k).s)(x4:r.av=(R k).av):
 RG n (gx R k r) cR cc/\∀j,j<n->∀p,iP n (gx R k r) j p=iP n R j p:=by
 have e1:∀j,(gx R k r j).i=(R j).i:=fun j=>by by_cases e:j=k;(rw[e,cO,hi]);(rw[cZ e])
 have e3:∀j,(gx R k r j).s=(R j).s:=fun j=>by by_cases e:j=k;(rw[e,cO,hs]);(rw[cZ e])
 have e4:∀j,(gx R k r j).av=(R j).av:=fun j=>by by_cases e:j=k;(rw[e,cO,x4]);(rw[cZ e])
 have EF:kg n R k=true:=by unfold kg;rw[decide_eq_true_eq];exact⟨sr,F6⟩
 have HD:kg n (gx R k r) k=false:=by unfold kg;rw[cO,hb];simp
 have fg:∀j,fD n (gx R k r) j=fD n R j:=fun j=>by
  by_cases e:j=k
  ·subst e
   unfold fD
   rw[EF,HD,cO,if_pos rfl]
   exact hw
  ·have :kg n (gx R k r) j=kg n R j:=by unfold kg;rw[e4,cZ e]
   unfold fD
   rw[this,cZ e]
 refine⟨⟨fun j hj p=>?_,fun g hg=>?_,fun j hj=>by rw[e1,fg];exact h.RJ j hj,fun j hj=>by rw[e4,e1];exact h.acl j hj⟩,fun j hj p=>by unfold iP;rw[e1,fg]⟩
 ·by_cases e:j=k
  ·subst e
   rw[cO,hb]
   have a1:r.w.filter (fY [])=[]:=by rw[List.filter_eq_nil_iff];intro m _;unfold fY;simp
   have a2:r.w.filter (gM [])=r.w:=by rw[aT];intro m _;unfold gM;simp
   rw[a1,a2];rfl
  ·rw[cZ e];exact h.pre j hj p
 ·refine⟨fun j hj ha hf=>?_,(h.fr g hg).P9⟩
  obtain⟨a,b⟩:=(h.fr g hg).data j hj ha hf
  refine⟨a,fun g1 g2 p=>?_⟩
  rw[e3]at g1
  rw[e4]at g2
  by_cases e:j=k
  ·subst e;omega
  ·rw[cZ e];exact b g1 g2 p
end
def Dl (n k:Nat) (H0:Ho):Rg:=⟨aW (H0.dY (nx n k)),aW (H0.dY 5),bm H0 (nx n k),bD H0 (nx n k),bY H0⟩
def RW (n:Nat) (W:Wo) (k:Nat):Rg:=Dl n k (bK (k:Int) (W.D k))
def pv (n k:Nat):Nat:=(k+n-1)%n
theorem aaj{n a:Nat}(hn:2<=n/\n<=4)(ha:a<n):pv n (nx n a)=a:=by
 unfold pv nx
 have gO:n=2\/n=3\/n=4:=by omega
 rcases gO with rfl|rfl|rfl<;>omega
def tY (n k:Nat) (H:Ho):Int:=bY H (pv n k)
def K5 (l:List Int):Int:=if l=[]then 0 else 1
def WQ (n k:Nat) (m:Ms):Prop:=m.queue=eV/\m.cq=((nx n k:Nat):Int)/\bT m=true/\m.id%4=(k:Int)
structure WO (n c:Nat) (W:Wo) (cc:Nat->Nat) (T:List Ms):Prop where
 n2:2<=n/\n<=4
 gi:∃C0,GI n W C0 T
 ho:∀(k:Nat) x,W.hs[k]? =some x->HO n k x.1 (bK (k:Int) x.2)
 rg:RG n (RW n W) W.cR cc
 us:∀(k:Nat) x,W.hs[k]? =some x->(x.1.used:Int)+K5 (bm x.1 (nx n k))<=3+c+2*bD x.1 (nx n k)+tY n k x.1
 wq:∀k,k<n->∀m∈(RW n W k).w,WQ n k m
 b3:∀k,k<n->(RW n W k).b.length<=3
section
variable {c kb n:Nat} {W:Wo} {cc:Nat->Nat} {T:List Ms}
theorem WO.hn(o:WO n c W cc T):W.hs.length=n:=by obtain⟨C0,g⟩:=o.gi;exact g.hn
theorem WO.at(o:WO n c W cc T){k:Nat}(hk:k<n):∃x,W.hs[k]? =some x/\W.H k=x.1/\W.D k=x.2/\HI k x.1 x.2 (bK (k:Int) x.2)/\HO n k x.1 (bK (k:Int) x.2)/\x.1.names=Sr k n:=by
 obtain⟨C0,g⟩:=o.gi
 obtain⟨x,hx,e1,e2,h⟩:=g.at hk
 exact⟨x,hx,e1,e2,by rw[h.opened];exact h,o.ho k x hx,g.jA k x hx⟩
theorem cJ{k:Nat}{x:Ho×Dk}(hx:W.hs[k]? =some x):RW n W k=Dl n k (bK (k:Int) x.2):=by
 unfold RW
 have :W.D k=x.2:=by unfold Wo.D Wo.at';rw[aq,hx];rfl
 rw[this]
theorem vX{k:Nat}{x:Ho×Dk}(i:Nat):(W.bU k x).D i=if i=k/\k<W.hs.length then x.2 else W.D i:=by
 unfold Wo.D Wo.at' Wo.bU
 dsimp only
 rw[aq,aq,List.getElem?_set]
 by_cases e:k=i
 ·subst e
  by_cases h:k<W.hs.length
  ·rw[if_pos rfl,if_pos h,if_pos ⟨rfl,h⟩];rfl
  ·rw[if_pos rfl,if_neg h,if_neg (fun x=>h x.2),br ae]
 ·rw[if_neg e,if_neg (fun x=>e x.1.symm)]
theorem jv{k:Nat}(hk:k<W.hs.length)(x:Ho×Dk):RW n (W.bU k x)=gx (RW n W) k (Dl n k (bK (k:Int) x.2)):=by
 funext i
 unfold RW gx
 rw[vX]
 by_cases e:i=k
 ·subst e
  rw[if_pos ⟨rfl,hk⟩,if_pos rfl]
 ·rw[if_neg (fun x=>e x.1),if_neg e]
theorem WO.NO(o:WO n c W cc T){k c':Nat}(hk:k<n)(hc:c<=c'){H':Ho}{D':Dk}{cc':Nat->Nat}{T':List Ms}(gi:∃C0,GI n (W.bU k (H',D')) C0 T')(ho:HO n k H' (bK (k:Int) D'))(rg:RG n (gx (RW n W) k (Dl n k (bK (k:Int) D'))) W.cR cc')(us:(H'.used:Int)+K5 (bm H' (nx n k))<=3+c'+2*bD H' (nx n k)+tY n k H')(wq:∀m∈aW ((bK (k:Int) D').dY (nx n k)),WQ n k m)(b3:(bm (bK (k:Int) D') (nx n k)).length<=3):WO n c' (W.bU k (H',D')) cc' T':=by
 have hn:=o.hn
 refine⟨o.n2,gi,fun i x hx=>?_,by rw[jv ae];exact rg,fun i x hx=>?_,fun i hi m hm=>?_,fun i hi=>?_⟩
 ·rcases ur hx with⟨rfl,rfl⟩|⟨gN,hx⟩
  ·exact ho
  ·exact o.ho i x hx
 ·rcases ur hx with⟨rfl,rfl⟩|⟨gN,hx⟩
  ·exact us
  ·have :=o.us i x hx;omega
 ·rw[jv ae]at hm
  by_cases e:i=k
  ·subst e;rw[cO]at hm;exact wq m hm
  ·rw[cZ e]at hm;exact o.wq i hi m hm
 ·rw[jv ae]
  by_cases e:i=k
  ·subst e;rw[cO];exact b3
  ·rw[cZ e];exact o.b3 i hi
theorem vV(R:Nat->Rg)(k:Nat):gx R k (R k)=R:=by
 funext i;unfold gx
 by_cases e:i=k
 ·rw[if_pos e,e]
 ·rw[if_neg e]
theorem WO.same(o:WO n c W cc T){k c':Nat}(hk:k<n)(hc:c<=c'){H':Ho}{D':Dk}(gi:∃C0,GI n (W.bU k (H',D')) C0 T)(hop:bK (k:Int) D'=bK (k:Int) (W.D k))(ho:HO n k H' (bK (k:Int) (W.D k)))(us:(H'.used:Int)+K5 (bm H' (nx n k))<=3+c'+2*bD H' (nx n k)+tY n k H'):WO n c' (W.bU k (H',D')) cc T/\RW n (W.bU k (H',D'))=RW n W:=by
 have hn:=o.hn
 have e:Dl n k (bK (k:Int) D')=RW n W k:=by unfold RW;rw[hop]
 refine⟨o.NO hk hc gi (by rw[hop];exact ho) (by rw[e,vV];exact o.rg) us (fun m hm=>o.wq k hk m ?_) ?_,by rw[jv ae,e,vV]⟩
 ·rw[hop]at hm
  exact hm
 ·rw[hop];exact o.b3 k hk
theorem WO.cR(o:WO n c W cc T){ud:List Gm}{lost:Int}(gi:∃C0,GI n {W with cR:=ud,lost:=lost} C0 T)(hw:∀g∈ud,g∈W.cR\/FO n (RW n W) g):WO n c {W with cR:=ud,lost:=lost} cc T:=
 ⟨o.n2,gi,o.ho,o.rg.sub hw,o.us,o.wq,o.b3⟩
theorem WO.ER(o:WO n c W cc T){g:Gm}(gi:∃C0,GI n (px W g) C0 T)(hg:FO n (RW n W) g):WO n c (px W g) cc T:=by
 unfold px at gi ⊢
 split
 ·rename_i h1
  rw[if_pos h1]at gi
  exact o.cR gi fun m hm=>.inl hm
 ·rename_i h1
  rw[if_neg h1]at gi
  have :=o.cR (ud:=W.cR++[g]) (lost:=W.lost) gi fun m hm=>by
   rcases aN.1 hm with h|h
   ·exact .inl h
   ·simp at h;subst h;exact .inr hg
  exact this
theorem WO.xH(o:WO n c W cc T){dst:Int}{f:Fr}{l:List Ms}(gi:∃C0,GI n (fm W dst f l) C0 T)(hg:FO n (RW n W) ⟨dst,f,l⟩):WO n c (fm W dst f l) cc T:=by
 unfold fm at gi ⊢
 split
 ·rename_i h1
  rw[if_pos h1]at gi
  exact o.ER gi hg
 ·exact o
theorem K_(W:Wo)(dst:Int)(f:Fr)(l:List Ms):RW n (fm W dst f l)=RW n W:=by
 funext k
 unfold RW Wo.D Wo.at'
 rw[oC]
theorem L0{H:Ho}{D:Dk}(he:c7 H D≠0):(dc H D).used=H.used:=by
 unfold dc
 split
 ·rfl
 ·rename_i h1
  split
  ·rfl
  ·rename_i h2
   exact absurd (by unfold c7;rw[if_neg h1];simpa using h2) he
theorem Dy{H:Ho}{D:Dk}(he:c7 H D≠0){n k:Nat}{z:Int}(h:(H.used:Int)+K5 (bm H (nx n k))<=z+2*bD H (nx n k)+tY n k H):((dc H D).used:Int)+K5 (bm (dc H D) (nx n k))<=z+2*bD (dc H D) (nx n k)+tY n k (dc H D):=by
 have hh:=kH H D
 have e1:∀d,bm (dc H D) d=bm H d:=fun d=>by unfold bm;rw[hh.2.2.2.2.2.1]
 have e2:∀d,bD (dc H D) d=bD H d:=fun d=>by unfold bD;rw[hh.2.2.2.2.2.2.1]
 have e3:tY n k (dc H D)=tY n k H:=by unfold tY bY;rw[hh.2.2.2.2.2.2.2.1]
 rw[L0 he,e1,e2,e3];exact h
theorem TX{H H':Ho}{n a:Nat}(hn:2<=n/\n<=4)(ha:a<n)(h4:H.aK.length=4)(h:H'.aK=H.aK.set a (bY H a+1)):tY n (nx n a) H'=tY n (nx n a) H+1:=by
 unfold tY
 rw[aaj hn ha]
 unfold bY;rw[h,dx ae,if_pos rfl];rfl
theorem WO.se(o:WO n c W cc T)(hw:c6 kb kb W->True){cw kw:Nat}(hB:c6 cw kw W)(hK:kw<=1000000000000)(k d:Int):WO n c (yf W k d) cc T/\∀j,j<n->∀p,iP n (RW n (yf W k d)) j p=iP n (RW n W) j p:=by
 obtain⟨C0,g⟩:=o.gi
 have Hy:=g.se hB hK k d
 unfold yf at Hy ⊢
 split
 ·rename_i hh
  rw[if_pos hh]at Hy
  have hk:=pw hh.1
  have hd:=pw hh.2
  have hn:=o.hn
  have gO:=o.n2
  obtain⟨x,hx,e1,e2,h,ho,ob⟩:=o.at (k:=k.toNat) ae
  have hb:=hB.hs _ x hx
  have np:k.toNat<n:=by omega
  have Gv:d.toNat<4:=by omega
  have gN:=xO gO np
  have nL:=lU (n:=n) (k:=k.toNat) gO.1
  have si:=o.us _ x hx
  have Pm:=hb.B
  have hbc:∀H0,HI k.toNat x.1 x.2 H0->∀j,j<4->j≠nx n k.toNat->bm x.1 j=[]:=fun H0 h j hj ED=>by
   cases hl:bm x.1 j with
   |nil=>rfl
   |cons i r=>
    obtain⟨y,hy,a1,-⟩:=h.bin j i JK
    obtain⟨e,he,rfl⟩:=ay.1 hy
    obtain⟨q,a2,z,a3,-⟩:=fH.1 (aC.1 he).1
    rw[show e.j=j from a1,iH Pm.ways hj]at a2
    simp only[az]at a2
    rw[<-a2,ho.wo j hj ED]at a3
    cases a3
  have I_:∃C1,GI n (l8 W k d) C1 T:=by
   have :=g.se hB hK k d
   unfold l8
   rw[e1,e2]
   by_cases hN:dQ x.1 d=true/\c7 x.1 x.2=0
   ·obtain⟨H3,h1,h2,h3,h4,h5,h6,h7,h8,-⟩:=h.made hb hN.1 hN.2
    have hr:=bM.1 (fh hN.1).1
    have hC:C0 k.toNat=bK ((k.toNat:Nat):Int) x.2:=((g.hi _ x hx).opened).symm
    rw[<-hC]at h2 h3 h4 h5 h6 h8
    have h0:bm (C0 k.toNat) d.toNat=[]:=by
     have :=(fh hN.1).2.2.1
     unfold bm at this ⊢;rw[(g.hi _ x hx).bt];exact this
    have qQ:=((g.hi _ x hx).B0 hb ae hK).1
    have Q_:=GC.made (c:=ny H3) g.gc (k:=k.toNat) (d:=d.toNat) ae ae (by have :=h.hid;omega) Gv h7 h0 h8 (by unfold ny;rw[h2];rfl)
     (fun b=>by show bm H3 b=_;unfold bm;rw[h3,dx (by rw[qQ.batch];exact Gv)];rfl)
     (fun b=>by show bD H3 b=_;unfold bD;rw[h4,dx (by rw[qQ.bW];exact Gv)];rfl)
     Y16 h6
    exact⟨_,g.set h1 Q_ Y37 (g.aB hx (o7 _ _ _)) (fun i x _ hx=>g.fresh i x hx)⟩
   ·have h1:=(g.hi _ x hx).FJ hb (a:=d) (by
     by_cases h2:dQ x.1 d=true
     ·exact .inr fun h3=>hN ⟨h2,h3⟩
     ·exact .inl Rq)
    exact⟨C0,g.same h1 Y37 (g.aB hx (o7 _ _ _))⟩
  have key:(WO n c (l8 W k d) cc T/\∀j,j<n->∀p,iP n (RW n (l8 W k d)) j p=iP n (RW n W) j p)/\HO n k.toNat (gR x.1 x.2 d) (bK ((k.toNat:Nat):Int) (lF x.1 x.2 d))/\HI k.toNat (gR x.1 x.2 d) (lF x.1 x.2 d) (bK ((k.toNat:Nat):Int) (lF x.1 x.2 d)):=by
   unfold l8 at I_ ⊢
   rw[e1,e2]at I_ ⊢
   by_cases hN:dQ x.1 d=true/\c7 x.1 x.2=0
   ·obtain⟨tT,IU,k9⟩:=ho.made h hb gO hN.1 hN.2
    obtain⟨H3,h1,h2,h3,h4,h5,h6,h7,h8,h9,HH,I9⟩:=h.made hb hN.1 hN.2
    have hop:=h1.opened
    rw[hop]at IU k9
    have qQ:=(h.B0 hb ae hK).1
    have h0:bm (bK ((k.toNat:Nat):Int) x.2) (nx n k.toNat)=[]:=by
     have :=(fh hN.1).2.2.1
     rw[tT]at this
     unfold bm at this ⊢;rw[h.bt];exact this
    have FZ:cP x.1 d.toNat=((aW ((bK ((k.toNat:Nat):Int) x.2).dY (nx n k.toNat))).take 3).map (·.id):=by
     rw[Nu ho Pm Gv,tT]
    have S3:=RG.made (r:=Dl n k.toNat H3) o.rg np (by rw[cJ hx];exact h0) ?_ ?_ gN ?_ (by rw[cJ hx];exact k9 _) (by rw[cJ hx];exact k9 5)
     (by rw[cJ hx];show bm H3 _=_;unfold bm;rw[h3,tT,dx Y44,if_pos rfl,<-tT];exact FZ)
     (by rw[cJ hx];show bD H3 _=bD _ _+1;unfold bD;rw[h4,tT,dx (by rw[qQ.bW];omega),if_pos rfl];rfl)
     (by rw[cJ hx];show bY H3=bY _;funext b;unfold bY;rw[h5])
    ·refine⟨⟨o.NO np (aD _) I_ Y56 Y45 ?_ (fun m hm=>o.wq k.toNat np m ?_) ?_,fun j hj p=>?_⟩,by rw[hop];exact IU,by rw[hop];exact h1⟩
     ·have u1:(gR x.1 x.2 d).used=x.1.used+1:=by
       unfold gR
       rw[if_pos hN.1]
       unfold lM
       rw[if_pos hN.2,(dV _ _).used]
       obtain⟨eL,-,-,-⟩:=dA hN.2 (iU d (cP x.1 d.toNat))
       rw[eL]
      have u2:tY n k.toNat (gR x.1 x.2 d)=tY n k.toNat x.1:=by
       unfold tY bY;rw[<-h1.av,h5,h.av]
      rw[tT]at h9 HH
      have h9':bm (gR x.1 x.2 d) (nx n k.toNat)=cP x.1 (nx n k.toNat):=h9
      have b0:bm x.1 (nx n k.toNat)=[]:=by rw[<-tT];exact(fh hN.1).2.2.1
      rw[u1,u2,h9',HH]
      rw[b0]at si
      have z1:K5 ([]:List Int)=0:=rfl
      have z2:K5 (cP x.1 (nx n k.toNat))<=1:=by unfold K5;split<;>decide
      push_cast
      omega
     ·rw[cJ hx];rw[hop,k9]at hm;exact hm
     ·rw[hop]
      have :bm H3 (nx n k.toNat)=cP x.1 (nx n k.toNat):=by unfold bm;rw[h3,tT,dx Y44,if_pos rfl]
      rw[this];unfold cP;simp;omega
     ·rw[jv ae,hop];exact S3.2 j hj p
    ·have Xu:=h.ye
     have nN:((aW (x.1.dy (nx n k.toNat))).map (·.id)).Nodup:=by
      have h13:((aW (x.1.dy (nx n k.toNat))).map (·.id)).Sublist (((x.1.dy (nx n k.toNat)).l.map fun e=>e.m.id)):=by
       unfold aW
       rw[List.map_map]
       exact List.filter_sublist.map _
      refine List.Nodup.sublist h13 ?_
      have Kw:=(mU (iH Pm.ways (show nx n k.toNat<4 by omega))).map eO
      have Rk:=Kw.nodup_iff.1 h.oy
      rw[aZ,List.nodup_append]at Rk
      have HG:=Rk.1
      unfold Jd at HG
      rw[List.map_map]at HG
      exact HG
     rw[cJ hx]
     show((aW ((bK ((k.toNat:Nat):Int) x.2).dY (nx n k.toNat))).map (·.id)).Nodup
     rw[<-ho.kq,kB Pm.ways ae]
     exact nN
    ·have Co:=(g.gc.pr k.toNat (nx n k.toNat) np nL (fun e=>gN e.symm)).1
     obtain⟨y,hy,-,-,hiy,-⟩:=o.at nL
     have c1:C0 k.toNat=bK ((k.toNat:Nat):Int) x.2:=((g.hi _ x hx).opened).symm
     have c2:C0 (nx n k.toNat)=bK ((nx n k.toNat:Nat):Int) y.2:=((g.hi _ y hy).opened).symm
     rw[cJ hx,cJ hy]
     have Co:bY (C0 (nx n k.toNat)) k.toNat<=bD (C0 k.toNat) (nx n k.toNat):=Co
     rw[c1,c2]at Co
     exact Co
    ·intro gm DR ha hf
     obtain⟨a,b,f1,f2,f3,f4,f5,f6,f7⟩:=(g.gc.fr gm DR).ok
     have :a=k.toNat:=by omega
     subst this
     have hto:=((o.rg.fr gm DR).data k.toNat np ha hf).1
     have :b=nx n k.toNat:=by omega
     subst this
     have c1:C0 k.toNat=bK ((k.toNat:Nat):Int) x.2:=((g.hi _ x hx).opened).symm
     have :=(f7 ha).1
     rw[cJ hx]
     have h17:gm.f.num<=bD (C0 k.toNat) (nx n k.toNat):=this
     rw[c1]at h17
     exact h17
   ·have hF:dQ x.1 d=false\/c7 x.1 x.2≠0:=by
     by_cases h2:dQ x.1 d=true
     ·exact .inr fun h3=>hN ⟨h2,h3⟩
     ·exact .inl Rq
    have h1:=h.FJ hb (a:=d) hF
    have hop:=h1.opened
    have IU:=ho.FJ (D:=x.2) (a:=d) hF
    have n4:=o.same np (aD c) I_ (by rw[e2];exact hop) (by rw[e2];exact IU) (by
     by_cases h2:dQ x.1 d=true
     ·have hl:c7 x.1 x.2≠0:=by
       rcases hF with h3|h3
       ·rw[h3]at h2;cases h2
       ·exact h3
      have e3:gR x.1 x.2 d=dc x.1 x.2:=by unfold gR;rw[if_pos h2];unfold lM;rw[if_neg hl]
      rw[e3]
      exact Dy hl si
     ·have e3:gR x.1 x.2 d=x.1:=by unfold gR;rw[if_neg h2]
      rw[e3];exact si)
    exact⟨⟨n4.1,fun j hj p=>by rw[n4.2]⟩,by rw[hop];exact IU,by rw[hop];exact h1⟩
  obtain⟨⟨o1,OY⟩,IU,Ko⟩:=key
  split
  ·rename_i M_
   rw[if_pos M_]at Hy
   obtain⟨-,-,Nh⟩:=B3 M_
   rw[e1,e2]at Nh
   obtain⟨hp,-⟩:=C3 Nh
   have hr:=bM.1 (tF hp)
   have sq:d.toNat=nx n k.toNat:=by
    refine Decidable.byContradiction fun e=>?_
    unfold kR at hp
    rw[if_neg (by rw[tF hp];decide)]at hp
    split at hp
    ·cases hp
    ·split at hp
     ·cases hp
     ·rename_i h4
      refine h4 ⟨hbc _ h d.toNat Gv e,?_⟩
      unfold dF
      rw[ho.wo d.toNat Gv e];rfl
   refine⟨o1.xH Hy ⟨fun j hj _ hf=>?_,fun j hj ha=>by cases ha⟩,fun j hj p=>by rw[K_];exact OY j hj p⟩
   have wK:j=k.toNat:=by
    have :(k:Int)=(j:Int):=hf
    omega
   subst wK
   refine⟨by show d=_;omega,fun _ _ p=>?_⟩
   have uT:(l8 W k d).hs[k.toNat]? =some (gR x.1 x.2 d,lF x.1 x.2 d):=by
    unfold l8
    rw[e1,e2]
    exact List.getElem?_set_self ae
   rw[cJ uT]
   show(y8 (W.H k.toNat) (W.D k.toNat) d).filter (eu p)=_
   rw[e1,e2]
   unfold y8
   rw[if_pos Nh]
   have hBt:=(hb.bt d).B
   rw[<-kB hBt.ways Gv,IU.kq,sq]
   have Zv:bm (bK ((k.toNat:Nat):Int) (lF x.1 x.2 d)) (nx n k.toNat)=bm (gR x.1 x.2 d) (nx n k.toNat):=by unfold bm;rw[Ko.bt]
   show _=((aW ((bK ((k.toNat:Nat):Int) (lF x.1 x.2 d)).dY (nx n k.toNat))).filter (fY (bm (bK ((k.toNat:Nat):Int) (lF x.1 x.2 d)) (nx n k.toNat)))).filter (eu p)
   rw[Zv]
   rfl
  ·exact⟨o1,OY⟩
 ·exact⟨o,fun j hj p=>rfl⟩
end
section
variable {c n:Nat} {W:Wo} {cc:Nat->Nat} {T:List Ms} {C0:Nat->Ho}
theorem GI.Db{dst:Int}{f:Fr}{l:List Ms}(g:GI n (fm W dst f l) C0 T):GI n W C0 T:=by
 unfold fm at g
 split at g
 ·unfold px at g
  split at g
  ·exact⟨g.hn,g.hi,g.gc,g.fresh,g.jA⟩
  ·exact⟨g.hn,g.hi,g.gc.sub fun m hm=>.inl (by simp[hm]),g.fresh,g.jA⟩
 ·exact g
theorem WO.cm(o:WO n c W cc T){cw kw:Nat}(hB:c6 cw kw W)(hK:kw<=1000000000000)(iB:∀k,cc k<=20){m:Gm}(hm:∃C0,GI n W C0 T/\Ht n (CC C0) m)(Q6:ZP W.hs.length m)(hf:FO n (RW n W) m):
 WO n c (vL W m) cc T/\∀j,j<n->∀p,iP n (RW n (vL W m)) j p=iP n (RW n W) j p:=by
 obtain⟨C0,g,hmo⟩:=hm
 obtain⟨a,b,f1,f2,ha,hb,vK,f3,f4⟩:=hmo.ok
 have Hy:=g.cm hB hK hmo Q6
 have gO:=o.n2
 have hn:=o.hn
 obtain⟨x,hx,e1,e2,h,ho,ob⟩:=o.at hb
 have qA:=hB.hs _ x hx
 have Pm:=qA.B
 have si:=o.us _ x hx
 have Pg:m.dto.toNat=b:=by rw[f2];rfl
 have Zp:m.f.fa.toNat=a:=by rw[f1];rfl
 have hC:∀(k:Nat) y,W.hs[k]? =some y->C0 k=bK (k:Int) y.2:=fun k y hy=>((g.hi k y hy).opened).symm
 have qQ:=(h.B0 qA ae hK).1
 unfold vL at Hy ⊢
 rw[Pg,e1,e2]at Hy ⊢
 by_cases hack:m.f.vN=true
 ·rw[if_pos hack]at Hy ⊢
  by_cases hc:iT x.1 m.f.fa m.f.num=0/\c7 x.1 x.2=0
  ·have akC:=hf.P9 b hb hack f2
   obtain rfl:a=nx n b:=by omega
   obtain⟨q1,-,q3,q4⟩:=nz hc.1
   obtain⟨H3,h1,h2,h3,h4,h5,h6⟩:=h.known qA ae hK hc.1 hc.2
   obtain⟨IU,k9⟩:=ho.known h qA ae hK hc.1 hc.2
   have hop:=h1.opened
   rw[hop]at IU k9
   rw[Zp]at q3 q4 h3 k9
   obtain⟨y,hy,-⟩:=o.at ha
   have hfa:m.f.num<=bY (C0 (nx n b)) b:=f3 hack
   rw[hC _ y hy]at hfa
   have ebt:bm (bK ((b:Nat):Int) x.2) (nx n b)=bm x.1 (nx n b):=by unfold bm;rw[h.bt]
   have esn:bD (bK ((b:Nat):Int) x.2) (nx n b)=bD x.1 (nx n b):=by unfold bD;rw[h.sn]
   have nb:bm H3 (nx n b)=[]:=by unfold bm;rw[h3,dx Y44,if_pos rfl]
   have S3:=RG.known (r:=Dl n b H3) o.rg hb (xO gO hb) (by rw[cJ hx];show bm _ _≠[];rw[ebt];exact q3)
    (by rw[cJ hx,cJ hy];show bD _ _<=bY _ _;rw[esn];omega)
    (by rw[cJ hx];exact(k9 (nx n b)).trans (if_pos rfl))
    (by rw[cJ hx];exact(k9 5).trans (if_neg ae))
    nb Y18 Y13
   refine⟨o.NO hb (aD c) Hy Y56 Y45 ?_ (fun m' tt=>?_) ?_,fun j hj p=>?_⟩
   ·have u1:(r9 x.1 x.2 m.f.fa m.f.num).used=x.1.used+1:=by
     unfold r9
     rw[if_neg (by simpa using hc.1)]
     unfold lM
     rw[if_pos hc.2,(dV _ _).used]
     obtain⟨eL,-,-,-⟩:=dA hc.2 (qW m.f.fa)
     rw[eL]
    have u2:tY n b (r9 x.1 x.2 m.f.fa m.f.num)=tY n b x.1:=by unfold tY bY;rw[<-h1.av,h5,h.av]
    have u3:bD (r9 x.1 x.2 m.f.fa m.f.num) (nx n b)=bD x.1 (nx n b):=by unfold bD;rw[<-h1.sn,h4,h.sn]
    have u4:bm (r9 x.1 x.2 m.f.fa m.f.num) (nx n b)=[]:=by rw[<-nb];unfold bm;rw[h1.bt]
    rw[u1,u2,u3,u4]
    have z1:K5 ([]:List Int)=0:=rfl
    have z2:K5 (bm x.1 (nx n b))=1:=by unfold K5;rw[if_neg q3]
    rw[z2]at si
    rw[z1]
    push_cast
    omega
   ·rw[hop,k9,if_pos rfl]at tt
    refine o.wq b hb m' ?_
    rw[cJ hx]
    exact(aC.1 tt).1
   ·rw[hop,nb];decide
   ·rw[jv ae,hop];exact S3.2 j hj p
  ·have hF:iT x.1 m.f.fa m.f.num≠0\/c7 x.1 x.2≠0:=by
    by_cases h2:iT x.1 m.f.fa m.f.num=0
    ·exact .inr fun h3=>hc ⟨h2,h3⟩
    ·exact .inl h2
   have h1:=h.DE (a:=m.f.fa) (num:=m.f.num) hF
   have n4:=o.same hb (aD c) Hy (by rw[e2];exact h1.opened) (by rw[e2];exact ho.DE hF) (by
    by_cases h2:iT x.1 m.f.fa m.f.num=0
    ·have hl:c7 x.1 x.2≠0:=hF.resolve_left fun h3=>h3 h2
     have e3:r9 x.1 x.2 m.f.fa m.f.num=dc x.1 x.2:=by unfold r9;rw[if_neg Rq];unfold lM;rw[if_neg hl]
     rw[e3]
     exact Dy hl si
    ·have e3:r9 x.1 x.2 m.f.fa m.f.num=x.1:=by unfold r9;rw[if_pos h2]
     rw[e3];exact si)
   exact⟨n4.1,fun j hj p=>by rw[n4.2]⟩
 ·have Vf:m.f.vN=false:=by simpa using hack
  rw[if_neg hack]at Hy ⊢
  obtain⟨f5,f6⟩:=f4 Vf
  obtain⟨d1,d2⟩:=hf.data a ha Vf f1
  obtain rfl:b=nx n a:=by omega
  have hl:m.l.length<=250:=by have :=Q6.ok;unfold okF at this;omega
  have I_:∃C1,GI n (W.bU (nx n a) (lb x.1 x.2 m.f.fa m.f.num m.l,oe x.1 x.2 m.f.fa m.f.num m.l)) C1 T:=by
   obtain⟨C1,g1⟩:=Hy
   split at g1
   ·exact⟨C1,g1.Db⟩
   ·exact⟨C1,g1⟩
  have key:WO n c (W.bU (nx n a) (lb x.1 x.2 m.f.fa m.f.num m.l,oe x.1 x.2 m.f.fa m.f.num m.l)) cc T/\∀j,j<n->∀p,iP n (RW n (W.bU (nx n a) (lb x.1 x.2 m.f.fa m.f.num m.l,oe x.1 x.2 m.f.fa m.f.num m.l))) j p=iP n (RW n W) j p:=by
   by_cases hc:xg x.1 m.f.fa m.f.num m.l=true/\c7 x.1 x.2=0
   ·obtain⟨q1,-,q3,-⟩:=mR hc.1
    obtain⟨H3,P,h1,h2,h3,h4,h5,h6,h7,h8,-⟩:=h.yw qA ae hK hl hc.1 hc.2
    rw[Zp]at h7 q3
    obtain⟨y,hy,-,-,Vd,U3,-⟩:=o.at ha
    have QY:=hB.hs _ y hy
    have eav:bY (bK ((nx n a:Nat):Int) x.2) a=bY x.1 a:=by unfold bY;rw[h.av]
    have Co:=g.gc.pr a (nx n a) ha hb vK
    have p1:bY (C0 (nx n a)) a<=bD (C0 a) (nx n a)/\bD (C0 a) (nx n a)<=bY (C0 (nx n a)) a+1:=⟨Co.1,Co.2.1⟩
    have f5':m.f.num<=bD (C0 a) (nx n a):=f5
    rw[hC _ x hx,hC _ y hy]at p1
    rw[hC _ y hy]at f5'
    have Cn:bD (bK ((a:Nat):Int) y.2) (nx n a)=bY (bK ((nx n a:Nat):Int) x.2) a+1:=by omega
    obtain⟨q5,q6⟩:=f6 (by show m.f.num=bD (C0 a) (nx n a);rw[hC _ y hy];omega) (by show bY (C0 (nx n a)) a<m.f.num;rw[hC _ x hx];omega)
    have Tk:=d2 (by rw[cJ hy];show m.f.num=bD _ _;omega) (by rw[cJ hx];show bY _ _<_;omega)
    have rX:(RW n W a).w=aW (y.1.dy (nx n a)):=by
     rw[cJ hy]
     show aW ((bK ((a:Nat):Int) y.2).dY (nx n a))=_
     rw[<-U3.kq,kB QY.B.ways ae]
    have jG:(RW n W a).b=bm y.1 (nx n a):=by
     rw[cJ hy]
     show bm _ _=_
     unfold bm;rw[Vd.bt]
    have q5':(RW n W a).b≠[]:=by
     have q5:bm (C0 a) (nx n a)≠[]:=q5
     rw[hC _ y hy]at q5
     rw[cJ hy];exact q5
    have fZ:m.l.Perm ((RW n W a).w.filter (fY (RW n W a).b)):=by
     have q6:m.l.Perm (sw (ny (C0 a)) (nx n a)):=q6
     rw[hC _ y hy]at q6
     refine q6.trans ?_
     rw[rX,jG]
     exact(D5 Vd QY.B (d:=nx n a) ae).symm
    have hq:∀m'∈m.l,m'.queue=eV:=fun m' tt=>(o.wq a ha m' (aC.1 (fZ.mem_iff.1 tt)).1).1
    have IM:=o.rg.RJ a ha
    have HD:kg n (RW n W) a=false:=by
     unfold kg
     rw[decide_eq_false_iff_not]
     rintro⟨-,hh⟩
     rw[cJ hy,cJ hx]at hh
     have hh:bD (bK ((a:Nat):Int) y.2) (nx n a)<=bY (bK ((nx n a:Nat):Int) x.2) a:=hh
     omega
    have fg:fD n (RW n W) a=(RW n W a).w:=by unfold fD;rw[HD];rfl
    have hlen:m.l.length<=(RW n W a).w.length:=by rw[fZ.length_eq];exact List.length_filter_le _ _
    have jE:(aW ((bK ((nx n a:Nat):Int) x.2).dY 5)).length+m.l.length<=20:=by
     have h9:=iB a
     rw[fg,cJ hx]at IM
     have IM:(aW ((bK ((nx n a:Nat):Int) x.2).dY 5)).length+(RW n W a).w.length<=cc a:=IM
     omega
    obtain⟨IU,k9⟩:=ho.yw h qA ae hK gO hb ob hl hc.1 hc.2 hq jE
    have hop:=h1.opened
    rw[hop]at IU k9
    have U5:m.l≠[]:=by
     intro e
     rw[e]at fZ
     have Ge:=fZ.symm.eq_nil
     obtain⟨i,r,Q9⟩:=List.exists_cons_of_ne_nil q5'
     have hi:i∈bm y.1 (nx n a):=by rw[<-jG,Q9];simp
     obtain⟨z,hz,z1,z2⟩:=Vd.bin _ _ hi
     have qN:z.2∈aW (y.1.dy (nx n a)):=by
      have :=Km QY.B.ways (j:=nx n a) ae (fun _=>true)
      rw[show(aW (y.1.dy (nx n a)))=(aW (y.1.dy (nx n a))).filter (fun _=>true)from(aT.2 fun _ _=>rfl).symm,<-this]
      exact bO (aC.2 ⟨hz,by simp[z1]⟩)
     have :z.2∈(RW n W a).w.filter (fY (RW n W a).b):=aC.2 ⟨by rw[rX];exact qN,by
      unfold fY
      rw[jG,decide_eq_true_eq]
      have z2:z.2.id=i:=z2
      rw[z2];exact hi⟩
     rw[Ge]at this
     cases this
    have x4:∀j,bY H3 j=if j=a then bY (bK ((nx n a:Nat):Int) x.2) a+1 else bY (bK ((nx n a:Nat):Int) x.2) j:=fun j=>by
     unfold bY;rw[h7,dx (by rw[qQ.aK];omega)];rfl
    have S3:=RG.yw (r:=Dl n (nx n a) H3) o.rg gO ha Tk fZ.length_eq U5 q5' (by rw[cJ hy,cJ hx];exact Cn)
     (by rw[cJ hx];exact(k9 _).trans (if_neg (by have :=lU (n:=n) (k:=nx n a) gO.1;omega)))
     (by rw[cJ hx];exact(k9 5).trans (if_pos rfl))
     (by rw[cJ hx];show bm H3 _=bm _ _;unfold bm;rw[h5])
     (by rw[cJ hx];show bD H3 _=bD _ _;unfold bD;rw[h6])
     (fun j=>by rw[cJ hx];exact x4 j)
    refine⟨o.NO hb (aD c) I_ Y56 Y45 ?_ (fun m' tt=>?_) ?_,fun j hj p=>?_⟩
    ·have u1:(lb x.1 x.2 m.f.fa m.f.num m.l).used=x.1.used+1:=by
      unfold lb
      rw[if_pos hc.1]
      unfold lM
      rw[if_pos hc.2,(dV _ _).used]
      obtain⟨eL,-,-,-⟩:=dA hc.2 (nA x.1 m.f.fa m.l)
      rw[eL]
     have u2:tY n (nx n a) (lb x.1 x.2 m.f.fa m.f.num m.l)=tY n (nx n a) x.1+1:=TX (a:=a) gO ha Pm.aK (by rw[<-h1.av,h7,eav,h.av])
     have u3:bD (lb x.1 x.2 m.f.fa m.f.num m.l) (nx n (nx n a))=bD x.1 (nx n (nx n a)):=by unfold bD;rw[<-h1.sn,h6,h.sn]
     have u4:bm (lb x.1 x.2 m.f.fa m.f.num m.l) (nx n (nx n a))=bm x.1 (nx n (nx n a)):=by unfold bm;rw[<-h1.bt,h5,h.bt]
     rw[u1,u2,u3,u4]
     push_cast
     omega
    ·rw[hop,k9,if_neg (by have :=lU (n:=n) (k:=nx n a) gO.1;omega)]at tt
     refine o.wq _ hb m' ?_
     rw[cJ hx]
     exact tt
    ·have :=o.b3 (nx n a) hb
     rw[cJ hx]at this
     rw[hop]
     have e:bm H3 (nx n (nx n a))=bm (bK ((nx n a:Nat):Int) x.2) (nx n (nx n a)):=by unfold bm;rw[h5]
     rw[e];exact this
    ·rw[jv ae,hop];exact S3.2 j hj p
   ·have hF:xg x.1 m.f.fa m.f.num m.l=false\/c7 x.1 x.2≠0:=by
     by_cases h2:xg x.1 m.f.fa m.f.num m.l=true
     ·exact .inr fun h3=>hc ⟨h2,h3⟩
     ·exact .inl Rq
    have h1:=h.KX (a:=m.f.fa) (num:=m.f.num) hl hF
    have n4:=o.same hb (aD c) I_ (by rw[e2];exact h1.opened) (by rw[e2];exact ho.KX hF) (by
     by_cases h2:xg x.1 m.f.fa m.f.num m.l=true
     ·have hl:c7 x.1 x.2≠0:=by
       rcases hF with h3|h3
       ·rw[h3]at h2;cases h2
       ·exact h3
      have e3:lb x.1 x.2 m.f.fa m.f.num m.l=dc x.1 x.2:=by unfold lb;rw[if_pos h2];unfold lM;rw[if_neg hl]
      rw[e3]
      exact Dy hl si
     ·have e3:lb x.1 x.2 m.f.fa m.f.num m.l=x.1:=by unfold lb;rw[if_neg h2]
      rw[e3];exact si)
    exact⟨n4.1,fun j hj p=>by rw[n4.2]⟩
  obtain⟨o1,OY⟩:=key
  split
  ·rename_i DS
   rw[if_pos DS]at Hy
   refine⟨o1.xH Hy ⟨fun j hj su _=>(by cases su),fun j hj _ ht=>?_⟩,fun j hj p=>by rw[K_];exact OY j hj p⟩
   have ht:m.f.fa=(j:Int):=ht
   show m.dto=_
   have :j=a:=by omega
   rw[this,d1]
  ·exact⟨o1,OY⟩
end
def OS (n c:Nat) (cc:Nat->Nat) (T:List Ms) (W W':Wo):Prop:=WO n c W' cc T/\∀j,j<n->∀p,iP n (RW n W') j p=iP n (RW n W) j p
section
variable {c n:Nat} {W A B:Wo} {cc:Nat->Nat} {T:List Ms} {C0:Nat->Ho}
theorem OS.trans(h:OS n c cc T W A)(g:OS n c cc T A B):OS n c cc T W B:=⟨g.1,fun j hj p=>(g.2 j hj p).trans (h.2 j hj p)⟩
theorem WO.rfl(o:WO n c W cc T):OS n c cc T W W:=⟨o,fun _ _ _=>Eq.refl _⟩
theorem VD{W W':Wo}(h:W'.hs=W.hs):RW n W'=RW n W:=by
 funext k;unfold RW Wo.D Wo.at';rw[h]
theorem WO.out(o:WO n c W cc T)(i:Nat):WO n c (qw W i) cc T:=by
 obtain⟨C0,g⟩:=o.gi
 have :=o.cR (ud:=W.cR.eraseIdx i) (lost:=W.lost) ⟨C0,g.out i⟩ fun m hm=>.inl ((List.eraseIdx_sublist _ _).subset hm)
 exact this
theorem WO.de(o:WO n c W cc T){cw kw:Nat}(hB:c6 cw kw W)(hK:kw<=1000000000000)(iB:∀k,cc k<=20)(i:Int):OS n c cc T W (tW W i):=by
 unfold tW
 split
 ·rename_i h0
  obtain⟨h1,h2⟩:=zj h0
  have hm:=ax (k_ (W:=W) (i:=i.toNat) ae)
  obtain⟨C0,g⟩:=o.gi
  exact(o.out i.toNat).cm (hB.out i.toNat) hK iB ⟨C0,g.out i.toNat,g.gc.fr _ hm⟩ (hB.cR _ hm) (o.rg.fr _ hm)
 ·exact o.rfl
theorem WO.lo(o:WO n c W cc T)(i:Int):OS n c cc T W (Ow W i):=by
 unfold Ow
 split
 ·exact⟨o.out _,fun _ _ _=>Eq.refl _⟩
 ·exact o.rfl
theorem WO.tw(o:WO n c W cc T)(i:Int):OS n c cc T W (Nz W i):=by
 unfold Nz
 split
 ·rename_i h0
  obtain⟨h1,h2⟩:=zj h0
  have hm:=ax (k_ (W:=W) (i:=i.toNat) ae)
  obtain⟨C0,g⟩:=o.gi
  exact⟨o.ER ⟨C0,g.ER (g.gc.fr _ hm)⟩ (o.rg.fr _ hm),fun _ _ _=>by rw[VD (C_ _ _)]⟩
 ·exact o.rfl
theorem WO.cut(o:WO n c W cc T){k:Nat}(hk:k<n)(t m:Int):OS n c cc T W (W.bU k ({W.H k with dz:=t},cu (W.D k) m)):=by
 obtain⟨x,hx,e1,e2,h,ho,ob⟩:=o.at hk
 obtain⟨C0,g⟩:=o.gi
 have :=o.same hk (aD c) (H':={W.H k with dz:=t}) (D':=cu (W.D k) m) ⟨C0,g.cut hk t m⟩ (by rw[e2];exact(h.cut m).opened) (by rw[e1,e2];exact ho.upd (Eq.refl _) (Eq.refl _) (Eq.refl _) (Eq.refl _)) (by rw[e1];exact o.us k x hx)
 exact⟨this.1,fun j hj p=>by rw[this.2]⟩
theorem WO.PJ(o:WO n c W cc T){k:Nat}(hk:k<n)(m:Int):OS n c cc T W (W.bU k (W.H k,cu (W.D k) m)):=by
 obtain⟨x,hx,e1,e2,h,ho,ob⟩:=o.at hk
 obtain⟨C0,g⟩:=o.gi
 have :=o.same hk (aD c) (H':=W.H k) (D':=cu (W.D k) m) ⟨C0,g.PJ hk m⟩ (by rw[e2];exact(h.cut m).opened) (by rw[e1,e2];exact ho) (by rw[e1];exact o.us k x hx)
 exact⟨this.1,fun j hj p=>by rw[this.2]⟩
theorem HI.ZT{k:Nat}{H:Ho}{D:Dk}{H0:Ho}(h:HI k H D H0):H0.used=H.used:=by
 obtain⟨R,r1,r2,r3⟩:=h.R9
 rw[r2.used,r3];simp[bX]
theorem WO.sg(o:WO n c W cc T){cw kw:Nat}(hB:c6 cw kw W)(hK:kw<=1000000000000){k:Nat}(hk:k<n):OS n c cc T W (WB.sg W k):=by
 obtain⟨x,hx,e1,e2,h,ho,ob⟩:=o.at hk
 obtain⟨C0,g⟩:=o.gi
 have qA:=hB.hs _ x hx
 have gO:=o.n2
 have qQ:=(h.B0 qA ae hK).1
 have hop:=(h.cut (-1)).opened
 have si:=o.us k x hx
 have hg:=(g.sg hk).1
 unfold WB.sg at hg ⊢
 have :=o.same hk (aD c) (H':=bK (k:Int) (cu (W.D k) (-1))) (D':=cu (W.D k) (-1)) ⟨C0,hg⟩ (by rw[e2];exact hop) (by rw[e2,hop];exact ho.Ij h qA.B qQ) (by
  rw[e2,hop,h.ZT]
  have a1:∀d,bm (bK (k:Int) x.2) d=bm x.1 d:=fun d=>by unfold bm;rw[h.bt]
  have a2:∀d,bD (bK (k:Int) x.2) d=bD x.1 d:=fun d=>by unfold bD;rw[h.sn]
  have a3:tY n k (bK (k:Int) x.2)=tY n k x.1:=by unfold tY bY;rw[h.av]
  rw[a1,a2,a3];exact si)
 exact⟨this.1,fun j hj p=>by rw[this.2]⟩
theorem WO.jt(o:WO n c W cc T){cw kw:Nat}(hB:c6 cw kw W)(hK:kw<=1000000000000){k:Nat}(hk:k<n):OS n c cc T W (WB.jt W k):=by
 have hn:=o.hn
 obtain⟨x,hx,e1,e2⟩:=fS (W:=W) (j:=k) ae
 have h1:=o.PJ hk (-1)
 unfold WB.jt
 split
 ·refine h1.trans (h1.1.sg (cw:=cw) (kw:=kw) ?_ hK hk)
  rw[e1,e2]
  exact hB.set ((hB.hs _ x hx).cut (n:= -1) ae)
 ·exact h1
theorem WO.AR{cw kw:Nat}(hK:kw<=1000000000000):∀(l:List Nat) {W:Wo},WO n c W cc T->c6 cw kw W->(∀k∈l,k<n)->OS n c cc T W (l.foldl WB.jt W)
 |[],_,o,_,_=>o.rfl
 |k::l,W,o,hB,h=>by
  have h1:=o.jt hB hK (h k aj)
  rw[List.foldl_cons]
  exact h1.trans (WO.AR hK l h1.1 (hB.jt hK (by rw[o.hn];exact h k aj)) fun j hj=>h j Uv)
theorem WO.iE(iB:∀k,cc k<=20):∀(f:Nat) {cw kw:Nat} {W:Wo},WO n c W cc T->c6 cw kw W->kw+2*f<=1000000000000->OS n c cc T W (WB.iE f W)
 |0,_,_,_,o,_,_=>o.rfl
 |f+1,cw,kw,W,o,hB,hK=>by
  unfold WB.iE
  split
  ·exact o.rfl
  ·have h1:=o.de hB ae iB 0
   exact h1.trans (WO.iE iB f h1.1 (hB.de 0) ae)
theorem WO.Vl(o:WO n c W cc T){cw kw:Nat}(hB:c6 cw kw W)(hK:kw+400<=1000000000000)(iB:∀k,cc k<=20):OS n c cc T W (lS W):=WO.iE iB _ o hB (by have :=uc hB;omega)
theorem WO.se'(o:WO n c W cc T){cw kw:Nat}(hB:c6 cw kw W)(hK:kw<=1000000000000)(k d:Int):OS n c cc T W (yf W k d):=o.se (kb:=0) (fun _=>trivial) hB hK k d
theorem WO.mr(o:WO n c W cc T){cw kw:Nat}(hB:c6 cw kw W)(hK:kw+402<=1000000000000)(iB:∀k,cc k<=20)(k d:Nat):OS n c cc T W (WB.mr W k d):=by
 have h1:=o.se' hB ae k d
 unfold WB.mr
 split
 ·exact h1.trans (h1.1.Vl (hB.se k d) ae iB)
 ·exact h1
theorem WO.Db{dst:Int}{f:Fr}{l:List Ms}(o:WO n c (fm W dst f l) cc T):WO n c W cc T:=by
 obtain⟨C0,g⟩:=o.gi
 have hh:=oC W dst f l
 have hr:RW n (fm W dst f l)=RW n W:=VD hh
 refine⟨o.n2,⟨C0,g.Db⟩,fun k x hx=>o.ho k x (by rw[hh];exact hx),?_,fun k x hx=>o.us k x (by rw[hh];exact hx),fun k hk m hm=>o.wq k hk m (by rw[hr];exact hm),fun k hk=>by rw[<-hr];exact o.b3 k hk⟩
 have h1:=o.rg
 rw[hr]at h1
 refine h1.sub fun m hm=>.inl ?_
 unfold fm
 split
 ·unfold px
  split
  ·exact hm
  ·simp[hm]
 ·exact hm
end
def UP (n:Nat) (W:Wo):Prop:= ∀k,k<n->(W.H k).down=false/\(W.D k).cut=false
section
variable {c n:Nat} {W A B:Wo} {cc:Nat->Nat} {T:List Ms} {C0:Nat->Ho} {H:Ho} {D:Dk}
theorem UP.set(u:UP n W){k:Nat}{H':Ho}{D':Dk}(hk:k<W.hs.length)(h:H'.down=false/\D'.cut=false):UP n (W.bU k (H',D')):=fun i hi=>by
 rw[jl,vX]
 by_cases e:i=k
 ·rw[if_pos ⟨e,hk⟩,if_pos ⟨e,hk⟩];exact h
 ·rw[if_neg (fun x=>e x.1),if_neg (fun x=>e x.1)];exact u i hi
theorem yX(h1:H.down=false/\D.cut=false)(h3:H.used<300):c7 H D=0:=by
 unfold c7 fU lX lE
 have :¬300<=H.used:=by omega
 simp[h1.1,h1.2,this]
theorem HZ(h:H.down=false/\D.cut=false)(he:c7 H D=0)(s:ak):(lM H D s).down=false/\(gU H D s).cut=false:=by
 obtain⟨eL,eD,-,ho⟩:=dA he s
 unfold lM
 rw[if_pos he,(dV _ _).down,eL,eD]
 refine⟨h.1,?_⟩
 unfold ew
 rw[if_neg ho]
 exact h.2
theorem acb(h:H.down=false/\D.cut=false)(he:c7 H D=0)(a:Int):(gR H D a).down=false/\(lF H D a).cut=false:=by
 unfold gR lF
 by_cases e:dQ H a=true
 ·rw[if_pos e,if_pos e];exact HZ h he _
 ·rw[if_neg e,if_neg e];exact h
theorem Vt(h:H.down=false/\D.cut=false)(he:c7 H D=0)(a m:Int):(r9 H D a m).down=false/\(AT H D a m).cut=false:=by
 unfold r9 AT
 by_cases e:iT H a m≠0
 ·rw[if_pos e,if_pos e];exact h
 ·rw[if_neg e,if_neg e];exact HZ h he _
theorem P8(h:H.down=false/\D.cut=false)(he:c7 H D=0)(a m:Int)(l:List Ms):(lb H D a m l).down=false/\(oe H D a m l).cut=false:=by
 unfold lb oe
 by_cases e:xg H a m l=true
 ·rw[if_pos e,if_pos e];exact HZ h he _
 ·rw[if_neg e,if_neg e];exact h
theorem aam{n k:Nat}(hn:2<=n/\n<=4)(hk:k<n):pv n k<n/\nx n (pv n k)=k:=by
 unfold pv nx
 have gO:n=2\/n=3\/n=4:=by omega
 rcases gO with rfl|rfl|rfl<;>omega
theorem WO.V_(o:WO n c W cc T){k:Nat}(hk:k<n){x y:Ho×Dk}(hx:W.hs[k]? =some x)(hy:W.hs[nx n k]? =some y):bY y.1 k<=bD x.1 (nx n k)/\bD x.1 (nx n k)<=bY y.1 k+1/\bY y.1 k<=cc k:=by
 obtain⟨C0,g⟩:=o.gi
 have gO:=o.n2
 have gN:=xO gO hk
 have hb:=lU (n:=n) (k:=k) gO.1
 have Co:=g.gc.pr k (nx n k) hk hb (fun e=>gN e.symm)
 have p1:bY (C0 (nx n k)) k<=bD (C0 k) (nx n k)/\bD (C0 k) (nx n k)<=bY (C0 (nx n k)) k+1:=⟨Co.1,Co.2.1⟩
 have a1:bY (C0 (nx n k)) k=bY y.1 k:=by unfold bY;rw[(g.hi _ y hy).av]
 have a2:bD (C0 k) (nx n k)=bD x.1 (nx n k):=by unfold bD;rw[(g.hi _ x hx).sn]
 rw[a1,a2]at p1
 have h1:=o.rg.acl k hk
 have h2:=o.rg.RJ k hk
 rw[cJ hy]at h1
 have a3:bY (bK ((nx n k:Nat):Int) y.2) k=bY y.1 k:=by
  have :=(g.hi _ y hy).opened
  rw[this];exact a1
 have h1:bY (bK ((nx n k:Nat):Int) y.2) k<=((aW ((bK ((nx n k:Nat):Int) y.2).dY 5)).length:Int):=h1
 rw[cJ hy]at h2
 have h2:(aW ((bK ((nx n k:Nat):Int) y.2).dY 5)).length+(fD n (RW n W) k).length<=cc k:=h2
 exact⟨p1.1,p1.2,by omega⟩
theorem WO.room(o:WO n c W cc T)(iB:∀k,cc k<=20)(hc:c<=200){k:Nat}(hk:k<n){x:Ho×Dk}(hx:W.hs[k]? =some x):x.1.used<300:=by
 have us:=o.us k x hx
 have gO:=o.n2
 have hn:=o.hn
 have hb:=lU (n:=n) (k:=k) gO.1
 obtain⟨p1,p2⟩:=aam gO hk
 obtain⟨y,hy,-⟩:=fS (W:=W) (j:=nx n k) ae
 obtain⟨z,hz,-⟩:=fS (W:=W) (j:=pv n k) ae
 obtain⟨-,h1,h2⟩:=o.V_ hk hx hy
 obtain⟨-,-,h3⟩:=o.V_ p1 hz (by rw[p2];exact hx)
 have c1:=iB k
 have c2:=iB (pv n k)
 have z1:0<=K5 (bm x.1 (nx n k)):=by unfold K5;split<;>decide
 unfold tY at us
 omega
theorem u7:∀(b:List Int) (l:List Ms),(l.map (·.id)).Nodup->(l.filter (fY b)).length<=b.length
 |[],l,_=>by
  have :l.filter (fY [])=[]:=by rw[List.filter_eq_nil_iff];intro m _;unfold fY;simp
  rw[this];decide
 |a::b,l,h=>by
  have h1:∀l:List Ms,(l.map (·.id)).Nodup->(l.filter fun m=>decide (m.id=a)).length<=1:=by
   intro l
   induction l with
   |nil=>intro _;exact aV _
   |cons m l ih=>
    intro h
    rw[aL,bI]at h
    by_cases e:m.id=a
    ·have :(l.filter fun m=>decide (m.id=a))=[]:=by
      rw[List.filter_eq_nil_iff]
      intro m' tt e'
      rw[decide_eq_true_eq]at e'
      exact h.1 (by rw[e,<-e'];exact List.mem_map_of_mem (f:=(·.id)) tt)
     rw[bE,if_pos Uw,this];exact aD _
    ·rw[bE,if_neg Uw];exact ih h.2
  have h2:=u7 b l h
  have h3:∀l:List Ms,(l.filter (fY (a::b))).length<=(l.filter fun m=>decide (m.id=a)).length+(l.filter (fY b)).length:=by
   intro l
   induction l with
   |nil=>exact aV _
   |cons m l ih=>
    have i1:fY (a::b) m=(decide (m.id=a)||fY b m):=by unfold fY;simp[aF,Bool.decide_or]
    rw[bE,bE,bE,i1]
    cases decide (m.id=a)<;>cases fY b m<;>simp only[Bool.or_true,Bool.true_or,Bool.or_self,Bool.false_or,Bool.or_false,if_true,Bool.false_eq_true,if_false,List.length_cons]<;>omega
  have :=h3 l
  have :=h1 l h
  rw[List.length_cons]
  omega
theorem EU{k m d:Nat}{H0:Ho}(h:HI k H D H0)(hB:cK m H)(hd:d<4):((aW (H.dy d)).map (·.id)).Nodup:=by
 have h13:((aW (H.dy d)).map (·.id)).Sublist (((H.dy d).l.map fun e=>e.m.id)):=by
  unfold aW
  rw[List.map_map]
  exact List.filter_sublist.map _
 refine List.Nodup.sublist h13 ?_
 have Kw:=(mU (iH hB.ways hd)).map eO
 have Rk:=Kw.nodup_iff.1 h.oy
 rw[aZ,List.nodup_append]at Rk
 have HG:=Rk.1
 unfold Jd at HG
 rw[List.map_map]at HG
 exact HG
theorem P2{k m d:Nat}{H0:Ho}(h:HI k H D H0)(hB:cK m H)(hd:d<4)(hb:bm H d≠[]):(aW (H.dy d)).filter (fY (bm H d))≠[]:=by
 intro Ge
 obtain⟨i,r,Q9⟩:=List.exists_cons_of_ne_nil hb
 have hi:i∈bm H d:=by rw[Q9];simp
 obtain⟨z,hz,z1,z2⟩:=h.bin _ _ hi
 have qN:z.2∈aW (H.dy d):=by
  have :=Km hB.ways (j:=d) hd (fun _=>true)
  rw[show(aW (H.dy d))=(aW (H.dy d)).filter (fun _=>true)from(aT.2 fun _ _=>rfl).symm,<-this]
  exact bO (aC.2 ⟨hz,by simp[z1]⟩)
 have :z.2∈(aW (H.dy d)).filter (fY (bm H d)):=aC.2 ⟨qN,by
  unfold fY
  rw[decide_eq_true_eq]
  have z2:z.2.id=i:=z2
  rw[z2];exact hi⟩
 rw[Ge]at this
 cases this
theorem T2(g:GI n W C0 T){k b:Nat}(np:k<n)(hb:b<n)(hkb:k≠b)(Vc:b<4){x y:Ho×Dk}(hx:W.hs[k]? =some x)(hy:W.hs[b]? =some y){m m':Nat}(Pm:cK m x.1)(hBy:cK m' y.1)(qm:∀e∈hv y.1,4<=e.j->e.put<0)(rh:bY y.1 k<bD x.1 b):
 AY y.1 ((aW (x.1.dy b)).filter (fY (bm x.1 b)))=false:=by
 have h:=g.hi k x hx
 have hh:=g.hi b y hy
 have nM:(((aW (x.1.dy b)).filter (fY (bm x.1 b))).map (·.id)).Nodup:=(EU h Pm Vc).sublist (List.filter_sublist.map _)
 obtain⟨R,hR⟩:=CJ np hb hkb (view n (CC C0))
 have hp:=hR (view n (CC C0)) fun _ _ _=>Eq.refl _
 have hT:=((hp.symm.trans g.gc.Kc).map (·.id)).nodup_iff.2 g.gc.tn
 rw[aZ,aZ,List.nodup_append]at hT
 have afI:∀m1∈view n (CC C0) k,∀m2∈view n (CC C0) b,m1.id≠m2.id:=fun m1 h1 m2 h2=>hT.2.2 _ (bO h1) _ (List.mem_append_left _ (bO h2))
 unfold AY
 rw[List.any_eq_false]
 rintro⟨m1,i⟩ O3
 have Gg:=List.mem_zipIdx' O3
 have hml:m1∈(aW (x.1.dy b)).filter (fY (bm x.1 b)):=by rw[Gg.2];exact List.getElem_mem _
 dsimp only
 unfold Dc
 rw[Bool.or_eq_true,not_or]
 constructor
 ·rw[List.any_eq_true]
  rintro⟨m2,Cx,hs⟩
  unfold vY at hs
  rw[decide_eq_true_eq]at hs
  have h5:=List.take_append_drop i ((aW (x.1.dy b)).filter (fY (bm x.1 b)))
  rw[<-h5,aZ,List.nodup_append]at nM
  have hmd:m1∈((aW (x.1.dy b)).filter (fY (bm x.1 b))).drop i:=by
   rw[List.drop_eq_getElem_cons Gg.1,<-Gg.2];simp
  exact nM.2.2 _ (bO Cx) _ (bO hmd) hs
 ·rw[List.any_eq_true]
  rintro⟨q,hq,hs⟩
  unfold Dm at hs
  rw[List.any_eq_true]at hs
  obtain⟨e,he,hid⟩:=hs
  obtain⟨j,hj,rfl⟩:=List.getElem_of_mem hq
  have I1:gE (4+j) e∈hv y.1:=fH.2 ⟨y.1.ec j,lI hBy.ways hj,e,by unfold Ho.ec;rw[aq,ao hj];exact he,Eq.refl _⟩
  obtain⟨e',h1,h2,h3⟩:=hh.to0 I1 (qm _ I1 (Nat.le_add_right 4 j))
  have hv2:e'.m∈view n (CC C0) b:=by
   unfold view
   refine ay.2 ⟨pV e',aC.2 ⟨bO h1,?_⟩,Eq.refl _⟩
   unfold gH
   have :4<=(pV e').1:=by show 4<=e'.j;rw[h2];show 4<=4+j;omega
   simp[this]
  have Cx:=aC.1 hml
  have Kl:(b,m1)∈hk x.1:=by
   have :=Km Pm.ways (j:=b) Vc (fun _=>true)
   have h6:m1∈(aW (x.1.dy b)).filter (fun _=>true):=by rw[aT.2 fun _ _=>Eq.refl _];exact Cx.1
   rw[<-this]at h6
   obtain⟨z,hz,qN⟩:=ay.1 h6
   obtain⟨z1,z2⟩:=aC.1 hz
   simp only[Bool.and_true,decide_eq_true_eq]at z2
   rw[<-z2,<-qN];exact z1
  have Me:m1∈view n (CC C0) k:=by
   unfold view
   refine ay.2 ⟨(b,m1),aC.2 ⟨h.ye.mem_iff.1 Kl,?_⟩,Eq.refl _⟩
   have uZ:vM n (CC C0) k b=false:=by
    unfold vM
    rw[decide_eq_false_iff_not]
    rintro⟨-,-,h7⟩
    have h7:bD (C0 k) b<=bY (C0 b) k:=h7
    have a1:bY (C0 b) k=bY y.1 k:=by unfold bY;rw[hh.av]
    have a2:bD (C0 k) b=bD x.1 b:=by unfold bD;rw[h.sn]
    rw[a1,a2]at h7
    omega
   unfold gH
   dsimp only
   rw[uZ]
   simp[Ne.symm hkb]
  refine afI m1 Me e'.m hv2 ?_
  rw[h3]
  have :e.m.id=m1.id:=by
   first|exact of_decide_eq_true hid|(unfold DJ at hid;exact of_decide_eq_true hid)
  exact this.symm
end
section
variable {c n:Nat} {W A B:Wo} {cc:Nat->Nat} {T:List Ms} {C0:Nat->Ho} {H:Ho} {D:Dk}
theorem BQ{W1:Wo}(hw:W1.cR=[]){dst:Int}{f:Fr}{l:List Ms}(h:okF f l):fm W1 dst f l={W1 with cR:=[⟨dst,f,l⟩]}:=by
 unfold fm
 rw[if_pos h]
 unfold px
 rw[if_neg (by rw[hw];decide),hw];rfl
theorem RA{W1:Wo}(hw:W1.cR=[]):({W1 with cR:=[]}:Wo)=W1:=congrArg (fun w=>({W1 with cR:=w}:Wo)) hw.symm
theorem KB{W1:Wo}(hw:W1.cR=[])(g:Gm):lS {W1 with cR:=[g]}=lS (vL W1 g):=by
 rw[r5 aj]
 congr 1
 unfold tW
 rw[if_pos (by unfold Hu;rw[if_pos ⟨by decide,by simp⟩])]
 show vL ({W1 with cR:=[]}:Wo) g=_
 rw[RA hw]
theorem R0{k:Nat}{x:Ho×Dk}(hk:k<W.hs.length):(W.bU k x).hs[k]? =some x:=List.getElem?_set_self hk
theorem JX{k j:Nat}{x:Ho×Dk}(h:j≠k):(W.bU k x).hs[j]? =W.hs[j]? :=List.getElem?_set_ne h.symm
theorem agQ{k:Nat}{x:Ho×Dk}(h:W.hs[k]? =some x):W.H k=x.1/\W.D k=x.2:=by
 unfold Wo.H Wo.D Wo.at'
 rw[aq,h]
 exact⟨Eq.refl _,Eq.refl _⟩
theorem WO.MF{W1:Wo}(o:WO n c W1 cc T){cw kw:Nat}(hB:c6 cw kw W1)(hK:kw+10<=1000000000000)(wM:cw<=1000)(iB:∀k,cc k<=20)(hc:c<=200)(up:UP n W1)(nK:W1.cR=[]){k:Nat}(hk:k<n){x y:Ho×Dk}(hx:W1.hs[k]? =some x)(hy:W1.hs[nx n k]? =some y)(sr:bm x.1 (nx n k)≠[]):
 ∃W5,lS (fm W1 ((nx n k:Nat):Int) ⟨(k:Int),bD x.1 (nx n k),false⟩ ((aW (x.1.dy (nx n k))).filter (fY (bm x.1 (nx n k)))))=W5/\UP n W5/\W5.cR=[]/\(∀j,j<n->j≠k->(RW n W5 j).w=(RW n W1 j).w/\(RW n W5 j).b=(RW n W1 j).b)/\(RW n W5 k).b=[]/\(RW n W5 k).w=(RW n W1 k).w.filter (gM (RW n W1 k).b):=by
 obtain⟨x',Kg,e1,e2,h,ho,ob⟩:=o.at hk
 rw[hx]at Kg
 simp only[az]at Kg
 subst Kg
 have gO:=o.n2
 have hn:=o.hn
 have Pg:=lU (n:=n) (k:=k) gO.1
 have gN:=xO gO hk
 obtain⟨y',hy',f1,f2,hh,U3,WU⟩:=o.at Pg
 rw[hy]at hy'
 simp only[az]at hy'
 subst hy'
 have qA:=hB.hs _ x hx
 have QY:=hB.hs _ y hy
 have QT:=up k hk
 have upy:=up _ Pg
 rw[e1,e2]at QT
 rw[f1,f2]at upy
 have lx:=yX QT (o.room iB hc hk hx)
 have ly:=yX upy (o.room iB hc Pg hy)
 obtain⟨n1,n2,n3⟩:=o.V_ hk hx hy
 have hck:=iB k
 have n4:(RW n W1 k).w=aW (x.1.dy (nx n k)):=by
  rw[cJ hx]
  show aW ((bK ((k:Nat):Int) x.2).dY (nx n k))=_
  rw[<-ho.kq,kB qA.B.ways ae]
 have Ku:(RW n W1 k).b=bm x.1 (nx n k):=by
  rw[cJ hx]
  show bm _ _=_
  unfold bm;rw[h.bt]
 have hwq:=o.wq k hk
 rw[n4]at hwq
 have hb3:=o.b3 k hk
 rw[Ku]at hb3
 have lB:0<=bD x.1 (nx n k):=(mJ qA.B.ext.VQ).1
 generalize hL:(aW (x.1.dy (nx n k))).filter (fY (bm x.1 (nx n k)))=L
 have af8:L≠[]:=by rw[<-hL];exact P2 h qA.B ae sr
 have hL3:L.length<=3:=by
  have :=u7 (bm x.1 (nx n k)) _ (EU h qA.B (d:=nx n k) ae)
  rw[hL]at this;omega
 have hLm:∀m∈L,m∈aW (x.1.dy (nx n k)):=fun m hm=>by rw[<-hL]at hm;exact(aC.1 hm).1
 have hLb:ju L=none:=C4 fun j m hm=>(hwq m (hLm m (ax hm))).2.2.1
 have hLl:0<L.length:=List.length_pos_iff.2 af8
 have okd:okF ⟨(k:Int),bD x.1 (nx n k),false⟩ L:=by
  refine⟨by dsimp only;omega,by dsimp only;omega,lB,by dsimp only;omega,?_,hL3,hLb⟩
  have :¬L.length=0:=by omega
  simp[this]
 generalize hg:(⟨((nx n k:Nat):Int),⟨(k:Int),bD x.1 (nx n k),false⟩,L⟩:Gm)=g
 have hFr:∃C0,GI n W1 C0 T/\Ht n (CC C0) g:=by
  obtain⟨C0,gi⟩:=o.gi
  refine⟨C0,gi,?_⟩
  subst hg
  refine⟨k,nx n k,Eq.refl _,Eq.refl _,hk,Pg,(fun e=>gN e.symm),(fun hh=>by cases hh),fun _=>?_⟩
  have hN:bD x.1 (nx n k)=bD (C0 k) (nx n k):=by unfold bD;rw[(gi.hi _ x hx).sn]
  dsimp only
  rw[hN]
  refine⟨Int.le_refl _,fun _ h2=>⟨fun h3=>?_,?_⟩⟩
  ·have h3:bm (C0 k) (nx n k)=[]:=h3
   have :bm (C0 k) (nx n k)=bm x.1 (nx n k):=by unfold bm;rw[(gi.hi _ x hx).bt]
   rw[this]at h3
   exact sr h3
  ·rw[<-hL]
   exact D5 (gi.hi _ x hx) qA.B ae
 have hFO:FO n (RW n W1) g:=by
  subst hg
  refine⟨fun j hj _ hf=>?_,fun j hj ha=>by cases ha⟩
  have wK:j=k:=by
   have :(k:Int)=(j:Int):=hf
   omega
  subst wK
  refine⟨Eq.refl _,fun _ _ p=>?_⟩
  rw[n4,Ku,hL]
 have hGm:ZP W1.hs.length g:=by
  subst hg
  exact⟨by dsimp only;omega,by dsimp only;omega,okd⟩
 have o2:=(o.cm hB ae iB hFr hGm hFO).1
 have rh:vL W1 g=if D7 y.1 y.2 (k:Int) (bD x.1 (nx n k)) L=0 then fm (W1.bU (nx n k) (lb y.1 y.2 (k:Int) (bD x.1 (nx n k)) L,oe y.1 y.2 (k:Int) (bD x.1 (nx n k)) L)) (k:Int) ⟨((nx n k:Nat):Int),rz y.1 y.2 (k:Int) (bD x.1 (nx n k)) L,true⟩ []
  else W1.bU (nx n k) (lb y.1 y.2 (k:Int) (bD x.1 (nx n k)) L,oe y.1 y.2 (k:Int) (bD x.1 (nx n k)) L):=by
  subst hg
  unfold vL
  dsimp only
  rw[if_neg ai,aA,f1,f2]
 have hry:cj y.1 (k:Int)=true:=bM.2 ⟨by omega,by omega,by rw[hh.hid];omega⟩
 have hrx:cj x.1 ((nx n k:Nat):Int)=true:=bM.2 ⟨by omega,by omega,by rw[h.hid];omega⟩
 have hnf:L.any (jV y.1)=false:=by
  rw[List.any_eq_false]
  intro m hm
  obtain⟨-,q2,-,q4⟩:=hwq m (hLm m hm)
  unfold jV
  rw[hh.hid,q2,q4]
  have :¬(k:Int)=((nx n k:Nat):Int):=by omega
  simp[this]
 have hPE:ry y.1 (k:Int) (bD x.1 (nx n k)) L=0:=by
  unfold ry
  rw[if_neg (by rw[hry];decide),if_neg (by rw[upy.1];decide),aA]
  split
  ·rfl
  ·rename_i h5
   rw[if_neg ae,if_neg (by rw[hLb,hnf];simp),if_neg]
   have :=o.gi
   obtain⟨C0,gi⟩:=this
   rw[<-hL,T2 gi hk Pg (fun e=>gN e.symm) ae hx hy qA.B QY.B U3.SF ae]
   decide
 have hAE:D7 y.1 y.2 (k:Int) (bD x.1 (nx n k)) L=0:=by
  unfold D7
  rw[if_neg (by rw[hPE];decide)]
  split
  ·exact ly
  ·rfl
 have DS:rz y.1 y.2 (k:Int) (bD x.1 (nx n k)) L=bD x.1 (nx n k)/\aW ((bK ((nx n k:Nat):Int) (oe y.1 y.2 (k:Int) (bD x.1 (nx n k)) L)).dY (nx n (nx n k)))=(RW n W1 (nx n k)).w/\bm (bK ((nx n k:Nat):Int) (oe y.1 y.2 (k:Int) (bD x.1 (nx n k)) L)) (nx n (nx n k))=(RW n W1 (nx n k)).b:=by
  unfold rz
  rw[if_pos hAE,cJ hy,aA]
  by_cases hw:xg y.1 (k:Int) (bD x.1 (nx n k)) L=true
  ·obtain⟨H3,P,h1,h2,h3,h4,h5,h6,h7,h8,h9⟩:=hh.yw QY ae ae ae hw ly
   rw[aA]at h9
   obtain⟨-,-,q3,-⟩:=mR hw
   rw[aA]at q3
   have hop:=h1.opened
   have IM:=o.rg.RJ k hk
   have HD:kg n (RW n W1) k=false:=by
    unfold kg
    rw[decide_eq_false_iff_not]
    rintro⟨-,Tf⟩
    rw[cJ hx,cJ hy]at Tf
    have Tf:bD (bK ((k:Nat):Int) x.2) (nx n k)<=bY (bK ((nx n k:Nat):Int) y.2) k:=Tf
    have a1:bD (bK ((k:Nat):Int) x.2) (nx n k)=bD x.1 (nx n k):=by unfold bD;rw[h.sn]
    have a2:bY (bK ((nx n k:Nat):Int) y.2) k=bY y.1 k:=by unfold bY;rw[hh.av]
    omega
   have fg:fD n (RW n W1) k=(RW n W1 k).w:=by unfold fD;rw[HD];rfl
   have jE:(aW ((bK ((nx n k:Nat):Int) y.2).dY 5)).length+L.length<=20:=by
    rw[fg,cJ hy,n4]at IM
    have IM:(aW ((bK ((nx n k:Nat):Int) y.2).dY 5)).length+(aW (x.1.dy (nx n k))).length<=cc k:=IM
    have :L.length<=(aW (x.1.dy (nx n k))).length:=by rw[<-hL];exact List.length_filter_le _ _
    omega
   obtain⟨IU,k9⟩:=U3.yw hh QY ae ae gO Pg WU ae hw ly (fun m hm=>(hwq m (hLm m hm)).1) jE
   refine⟨by rw[h9];omega,?_,?_⟩
   ·rw[k9,if_neg (by have :=lU (n:=n) (k:=nx n k) gO.1;omega)];rfl
   ·rw[hop]
    show bm H3 _=bm _ _
    unfold bm;rw[h5]
  ·have e3:lb y.1 y.2 (k:Int) (bD x.1 (nx n k)) L=y.1:=by unfold lb;rw[if_neg hw]
   have e4:oe y.1 y.2 (k:Int) (bD x.1 (nx n k)) L=y.2:=by unfold oe;rw[if_neg hw]
   rw[e3,e4]
   refine⟨?_,Eq.refl _,Eq.refl _⟩
   have :¬bY y.1 k<bD x.1 (nx n k):=fun h5=>hw (by unfold xg;rw[aA];exact decide_eq_true ⟨hPE,h5⟩)
   omega
 have VM:=P8 upy ly (k:Int) (bD x.1 (nx n k)) L
 obtain⟨a1,a2,a3⟩:=DS
 rw[if_pos hAE,a1]at rh
 generalize lb y.1 y.2 (k:Int) (bD x.1 (nx n k)) L=H2 at rh VM
 generalize oe y.1 y.2 (k:Int) (bD x.1 (nx n k)) L=D2 at rh VM a2 a3
 have oka:okF ⟨((nx n k:Nat):Int),bD x.1 (nx n k),true⟩ []:=⟨by dsimp only;omega,by dsimp only;omega,lB,by dsimp only;omega,Eq.refl _,by decide,Eq.refl _⟩
 have hx3:(W1.bU (nx n k) (H2,D2)).hs[k]? =some x:=by rw[JX (fun e=>gN e.symm)];exact hx
 obtain⟨g1,g2⟩:=agQ hx3
 have hca:iT x.1 ((nx n k:Nat):Int) (bD x.1 (nx n k))=0:=by
  unfold iT
  rw[if_neg (by rw[hrx];decide),if_neg (by rw[QT.1];decide),aA,if_neg (by simp[sr])]
 obtain⟨H3,k1,k2,k3,k4,k5,k6⟩:=h.known qA ae ae hca lx
 obtain⟨ho4,lV⟩:=ho.known h qA ae ae hca lx
 rw[aA]at k3 lV
 have hop:=k1.opened
 have aee:=Vt QT lx ((nx n k:Nat):Int) (bD x.1 (nx n k))
 refine⟨(W1.bU (nx n k) (H2,D2)).bU k (r9 x.1 x.2 ((nx n k:Nat):Int) (bD x.1 (nx n k)),AT x.1 x.2 ((nx n k:Nat):Int) (bD x.1 (nx n k))),?_,?_,nK,fun j hj wK=>?_,?_,?_⟩
 ·rw[BQ nK okd,hg,KB nK,rh,BQ (W1:=W1.bU (nx n k) (H2,D2)) nK oka,KB (W1:=W1.bU (nx n k) (H2,D2)) nK]
  rw[rj]
  ·unfold vL
   dsimp only
   rw[if_pos (Eq.refl _),aA,g1,g2]
  ·unfold vL
   dsimp only
   rw[if_pos (Eq.refl _)]
   exact nK
 ·exact(up.set ae VM).set (by rw[fx];omega) aee
 ·rw[jv (by rw[fx];omega),cZ wK,jv ae]
  by_cases e:j=nx n k
  ·subst e
   rw[cO]
   exact⟨a2,a3⟩
  ·rw[cZ e];exact⟨Eq.refl _,Eq.refl _⟩
 ·rw[jv (by rw[fx];omega),cO,hop]
  have qQ:=(h.B0 qA ae ae).1
  show bm H3 (nx n k)=[]
  unfold bm;rw[k3,dx Y44,if_pos (Eq.refl _)]
 ·rw[jv (by rw[fx];omega),cO]
  show aW ((bK ((k:Nat):Int) (AT x.1 x.2 ((nx n k:Nat):Int) (bD x.1 (nx n k)))).dY (nx n k))=_
  rw[lV,if_pos (Eq.refl _),cJ hx]
  rfl
end
structure LV (n:Nat) (W W':Wo) (P:Nat->Prop):Prop where
 up:UP n W'
 cR:W'.cR=[]
 N4:∀j,j<n->¬P j->(RW n W' j).w=(RW n W j).w/\(RW n W' j).b=(RW n W j).b
 nb:∀k,k<n->P k->(RW n W' k).b=[]
 le:∀k,k<n->P k->(RW n W' k).w.length<=(RW n W k).w.length
 sub:∀k,k<n->P k->(RW n W k).b=[]->(RW n W' k).w.length<=(RW n W k).w.length-3
section
variable {c n:Nat} {W A B:Wo} {cc:Nat->Nat} {T:List Ms} {C0:Nat->Ho} {H:Ho} {D:Dk}
theorem LV.none(up:UP n W)(nK:W.cR=[]){P:Nat->Prop}(hP:∀k,k<n->¬P k):LV n W W P:=
 ⟨up,nK,fun _ _ _=>⟨rfl,rfl⟩,fun k hk h=>absurd h (hP k hk),fun k hk h=>absurd h (hP k hk),fun k hk h=>absurd h (hP k hk)⟩
theorem LV.trans{W' W'':Wo}{P Q:Nat->Prop}(h:LV n W W' P)(g:LV n W' W'' Q)(hd:∀k,k<n->P k->¬Q k):LV n W W'' fun k=>P k\/Q k:=by
 refine⟨g.up,g.cR,fun j hj hn=>?_,fun k hk hp=>?_,fun k hk hp=>?_,fun k hk hp hb=>?_⟩
 ·rw[not_or]at hn
  obtain⟨a,b⟩:=h.N4 j hj hn.1
  obtain⟨a',b'⟩:=g.N4 j hj hn.2
  exact⟨a'.trans a,b'.trans b⟩
 ·rcases hp with hp|hp
  ·rw[(g.N4 k hk (hd k hk hp)).2];exact h.nb k hk hp
  ·exact g.nb k hk hp
 ·by_cases kY:P k
  ·rw[(g.N4 k hk (hd k hk kY)).1];exact h.le k hk kY
  ·have hq:=hp.resolve_left kY
   have :=g.le k hk hq
   rw[(h.N4 k hk kY).1]at this;exact this
 ·by_cases kY:P k
  ·rw[(g.N4 k hk (hd k hk kY)).1];exact h.sub k hk kY hb
  ·have hq:=hp.resolve_left kY
   have :=g.sub k hk hq (by rw[(h.N4 k hk kY).2];exact hb)
   rw[(h.N4 k hk kY).1]at this;exact this
theorem LV.same{W':Wo}{P Q:Nat->Prop}(h:LV n W W' P)(he:∀k,k<n->(P k↔Q k)):LV n W W' Q:=
 ⟨h.up,h.cR,fun j hj hn=>h.N4 j hj fun hp=>hn ((he j hj).1 hp),fun k hk hp=>h.nb k hk ((he k hk).2 hp),fun k hk hp=>h.le k hk ((he k hk).2 hp),fun k hk hp=>h.sub k hk ((he k hk).2 hp)⟩
theorem HO.bno{k m j:Nat}{H0:Ho}(ho:HO n k H H0)(h:HI k H D H0)(hB:cK m H)(hj:j<4)(ED:j≠nx n k):bm H j=[]:=by
 cases hl:bm H j with
 |nil=>rfl
 |cons i r=>
  obtain⟨y,hy,a1,-⟩:=h.bin j i JK
  obtain⟨e,he,rfl⟩:=ay.1 hy
  obtain⟨q,a2,z,a3,-⟩:=fH.1 (aC.1 he).1
  rw[show e.j=j from a1,iH hB.ways hj]at a2
  simp only[az]at a2
  rw[<-a2,ho.wo j hj ED]at a3
  cases a3
theorem PS{k d:Nat}(hk:k<W.hs.length)(hp:kR (W.H k) (d:Int)≠0):WB.mr W k d=W:=by
 have hN:dQ (W.H k) (d:Int)=false:=by unfold dQ;simp[hp]
 have hS:Dj W (k:Int) (d:Int)≠0:=by
  unfold Dj
  split
  ·unfold tX;rw[aA,if_pos hp];exact hp
  ·decide
 unfold WB.mr
 rw[if_neg hS]
 unfold yf
 split
 ·try rw[if_neg hS]
  unfold l8 gR lF
  rw[aA,hN]
  exact kE hk
 ·rfl
theorem WO.idle(o:WO n c W cc T){cw kw:Nat}(hB:c6 cw kw W){k d:Nat}(hk:k<n)(hd:d<n)(gN:d≠nx n k):WB.mr W k d=W:=by
 obtain⟨x,hx,e1,e2,h,ho,ob⟩:=o.at hk
 have gO:=o.n2
 have hn:=o.hn
 have Pm:=(hB.hs _ x hx).B
 refine PS ae ?_
 rw[e1]
 unfold kR
 rw[aA]
 split
 ·decide
 ·split
  ·decide
  ·rw[if_pos ⟨ho.bno h Pm ae gN,by unfold dF;rw[ho.wo d ae gN];rfl⟩];decide
theorem WO.live(o:WO n c W cc T){cw kw:Nat}(hB:c6 cw kw W)(hK:kw+100<=1000000000000)(wM:cw<=1000)(iB:∀k,cc k<=20)(hc:c<=200)(up:UP n W)(nK:W.cR=[]){k:Nat}(hk:k<n):LV n W (WB.mr W k (nx n k)) fun j=>j=k:=by
 obtain⟨x,hx,e1,e2,h,ho,ob⟩:=o.at hk
 have gO:=o.n2
 have hn:=o.hn
 have Pg:=lU (n:=n) (k:=k) gO.1
 have gN:=xO gO hk
 have qA:=hB.hs _ x hx
 have QT:=up k hk
 rw[e1,e2]at QT
 have lx:=yX QT (o.room iB hc hk hx)
 have hrx:cj x.1 ((nx n k:Nat):Int)=true:=bM.2 ⟨by omega,by omega,by rw[h.hid];omega⟩
 have hth:dF (x.1.dy (nx n k))=aW (x.1.dy (nx n k)):=zn qA.B ho.iS ae
 have n4:(RW n W k).w=aW (x.1.dy (nx n k)):=by
  rw[cJ hx]
  show aW ((bK ((k:Nat):Int) x.2).dY (nx n k))=_
  rw[<-ho.kq,kB qA.B.ways ae]
 have Ku:(RW n W k).b=bm x.1 (nx n k):=by
  rw[cJ hx]
  show bm _ _=_
  unfold bm;rw[h.bt]
 by_cases h0:bm x.1 (nx n k)=[]/\aW (x.1.dy (nx n k))=[]
 ·have :WB.mr W k (nx n k)=W:=PS ae (by
   rw[e1]
   unfold kR
   rw[aA,if_neg (by rw[hrx];decide),if_neg (by rw[QT.1];decide),if_pos ⟨h0.1,hth.trans h0.2⟩];decide)
  rw[this]
  refine⟨up,nK,fun _ _ _=>⟨Eq.refl _,Eq.refl _⟩,fun j hj e=>?_,fun j hj e=>aD _,fun j hj e _=>?_⟩
  ·subst e;rw[Ku];exact h0.1
  ·subst e;rw[n4,h0.2];exact aD _
 ·have hp:kR x.1 ((nx n k:Nat):Int)=0:=by
   unfold kR
   rw[aA,if_neg (by rw[hrx];decide),if_neg (by rw[QT.1];decide),if_neg (by rw[hth];exact h0)]
  have hE:tX x.1 x.2 ((nx n k:Nat):Int)=0:=by
   unfold tX
   rw[if_neg (by rw[hp];decide)]
   split
   ·exact lx
   ·rfl
  have Nb:W.is (k:Int)=true/\W.is ((nx n k:Nat):Int)=true:=by
   unfold Wo.is
   exact⟨decide_eq_true ae,decide_eq_true ae⟩
  have hS:Dj W (k:Int) ((nx n k:Nat):Int)=0:=by
   unfold Dj
   rw[if_pos Nb,aA,e1,e2];exact hE
  have M_:yf W (k:Int) ((nx n k:Nat):Int)=fm (W.bU k (gR x.1 x.2 ((nx n k:Nat):Int),lF x.1 x.2 ((nx n k:Nat):Int))) ((nx n k:Nat):Int) ⟨(k:Int),bD (gR x.1 x.2 ((nx n k:Nat):Int)) (nx n k),false⟩ ((aW ((gR x.1 x.2 ((nx n k:Nat):Int)).dy (nx n k))).filter (fY (bm (gR x.1 x.2 ((nx n k:Nat):Int)) (nx n k)))):=by
   unfold yf
   rw[if_pos Nb,if_pos hS]
   unfold l8
   rw[aA,e1,e2]
   unfold Jl y8
   rw[if_pos hE,if_pos hE,aA]
   rfl
  have qP:WB.mr W k (nx n k)=lS (yf W (k:Int) ((nx n k:Nat):Int)):=by unfold WB.mr;rw[if_pos hS]
  have o0:=(o.se' hB ae (k:Int) ((nx n k:Nat):Int)).1
  rw[M_]at o0
  have o1:=o0.Db
  have h_:=(hB.mono (aD _) (Nat.le_succ kw)).set (qA.bt ((nx n k:Nat):Int))
  have uT:=R0 (W:=W) (x:=(gR x.1 x.2 ((nx n k:Nat):Int),lF x.1 x.2 ((nx n k:Nat):Int))) (by omega :k<W.hs.length)
  obtain⟨y,hy,-⟩:=fS (W:=W) (j:=nx n k) ae
  have hy1:(W.bU k (gR x.1 x.2 ((nx n k:Nat):Int),lF x.1 x.2 ((nx n k:Nat):Int))).hs[nx n k]? =some y:=by rw[JX gN];exact hy
  have Q6:bm (gR x.1 x.2 ((nx n k:Nat):Int)) (nx n k)≠[]/\bm (bK ((k:Nat):Int) (lF x.1 x.2 ((nx n k:Nat):Int))) (nx n k)=(if(RW n W k).b=[]then((RW n W k).w.take 3).map (·.id)else(RW n W k).b)/\aW ((bK ((k:Nat):Int) (lF x.1 x.2 ((nx n k:Nat):Int))).dY (nx n k))=(RW n W k).w:=by
   by_cases hN:dQ x.1 ((nx n k:Nat):Int)=true
   ·obtain⟨H3,q1,q2,q3,q4,q5,q6,q7,q8,q9,-⟩:=h.made qA hN lx
    obtain⟨-,-,k2⟩:=ho.made h qA gO hN lx
    have sr:=(fh hN).2.2.1
    rw[aA]at q7 q9 sr
    have e3:bm (bK ((k:Nat):Int) (lF x.1 x.2 ((nx n k:Nat):Int))) (nx n k)=bm (gR x.1 x.2 ((nx n k:Nat):Int)) (nx n k):=by
     rw[q1.opened];unfold bm;rw[q1.bt]
    refine⟨by rw[q9];exact q7,?_,?_⟩
    ·refine Eq.trans ?_ (if_pos (Ku.trans sr)).symm
     rw[e3,q9,Nu ho qA.B ae,cJ hx];rfl
    ·rw[k2,cJ hx];rfl
   ·have e3:gR x.1 x.2 ((nx n k:Nat):Int)=x.1:=by unfold gR;rw[if_neg hN]
    have e4:lF x.1 x.2 ((nx n k:Nat):Int)=x.2:=by unfold lF;rw[if_neg hN]
    have sr:bm x.1 (nx n k)≠[]:=fun e=>hN (by unfold dQ;rw[aA];exact decide_eq_true ⟨hp,e⟩)
    rw[e3,e4]
    refine⟨sr,?_,?_⟩
    ·rw[if_neg (by rw[Ku];exact sr),cJ hx];rfl
    ·rw[cJ hx];rfl
  obtain⟨m1,m2,m3⟩:=Q6
  have aef:=acb QT lx ((nx n k:Nat):Int)
  have up1:UP n (W.bU k (gR x.1 x.2 ((nx n k:Nat):Int),lF x.1 x.2 ((nx n k:Nat):Int))):=up.set ae aef
  obtain⟨W5,w0,w1,w2,w3,w4,w5⟩:=o1.MF h_ ae wM iB hc up1 nK hk uT hy1 m1
  have xV:∀j,j≠k->RW n (W.bU k (gR x.1 x.2 ((nx n k:Nat):Int),lF x.1 x.2 ((nx n k:Nat):Int))) j=RW n W j:=fun j hj=>by rw[jv ae,cZ hj]
  have hR1:(RW n (W.bU k (gR x.1 x.2 ((nx n k:Nat):Int),lF x.1 x.2 ((nx n k:Nat):Int))) k).w=(RW n W k).w/\(RW n (W.bU k (gR x.1 x.2 ((nx n k:Nat):Int),lF x.1 x.2 ((nx n k:Nat):Int))) k).b=(if(RW n W k).b=[]then((RW n W k).w.take 3).map (·.id)else(RW n W k).b):=by
   rw[jv ae,cO]
   exact⟨m3,m2⟩
  rw[qP,M_,w0]
  rw[hR1.1,hR1.2]at w5
  refine⟨w1,w2,fun j hj wK=>?_,fun j hj e=>?_,fun j hj e=>?_,fun j hj e hb=>?_⟩
  ·obtain⟨a,b⟩:=w3 j hj wK
   rw[xV j wK]at a b
   exact⟨a,b⟩
  ·subst e;exact w4
  ·subst e;rw[w5];exact List.length_filter_le _ _
  ·subst e
   rw[w5,if_pos hb]
   generalize (RW n W j).w=l
   have h9:(l.take 3).filter (gM ((l.take 3).map (·.id)))=[]:=by
    rw[List.filter_eq_nil_iff];intro m hm;unfold gM
    simp only[Bool.not_eq_true',decide_eq_false_iff_not,Classical.not_not]
    exact bO hm
   have HH:(l.filter (gM ((l.take 3).map (·.id)))).length=((l.drop 3).filter (gM ((l.take 3).map (·.id)))).length:=by
    conv=>lhs;rw[show l.filter (gM ((l.take 3).map (·.id)))=(l.take 3++l.drop 3).filter (gM ((l.take 3).map (·.id)))by rw[List.take_append_drop]]
    rw[bB,h9,List.nil_append]
   rw[HH]
   have :=List.length_filter_le (gM ((l.take 3).map (·.id))) (l.drop 3)
   rw[bC]at this
   exact this
end
section
variable {c n cw:Nat} {W A B:Wo} {cc:Nat->Nat} {T:List Ms} {C0:Nat->Ho} {H:Ho} {D:Dk}
theorem hzC(c a b:Nat):a+c+b<=a+(b+c):=by omega
theorem hzD(c a b:Nat):a+b<=a+(b+c):=by omega
theorem hzA(kw z a b M:Nat)(h:kw+(z+a)+b<=M):kw+a+z+b<=M/\kw+z+b<=M/\kw+b<=M:=⟨by omega,by omega,by omega⟩
theorem WO.XM(wM:cw<=1000)(iB:∀k,cc k<=20)(hc:c<=200){k:Nat}(hk:k<n):∀(l:List Nat) {W:Wo} {kw:Nat},WO n c W cc T->c6 cw kw W->kw+402*l.length+500<=1000000000000->l.Nodup->(∀d∈l,d<n)->UP n W->W.cR=[]->
 LV n W (l.foldl (fun W d=>WB.mr W k d) W) (fun j=>j=k/\nx n k∈l)/\OS n c cc T W (l.foldl (fun W d=>WB.mr W k d) W)/\c6 cw (kw+402*l.length) (l.foldl (fun W d=>WB.mr W k d) W)
 |[],W,kw,o,hB,_,_,_,up,nK=>⟨LV.none up nK fun j _ h=>(by cases h.2),o.rfl,hB⟩
 |d::l,W,kw,o,hB,hK,nM,hl,up,nK=>by
  rw[List.length_cons,Nat.mul_succ]at hK
  rw[bI]at nM
  rw[List.foldl_cons,List.length_cons,Nat.mul_succ]
  have qN:∀a b:Nat,a+402+b<=a+(b+402):=hzC 402
  have hz3:∀a b:Nat,a+b<=a+(b+402):=hzD 402
  obtain⟨k9,sH,hk5⟩:=hzA _ _ _ _ _ hK
  clear hK
  have W8:kw+100<=1000000000000:=by omega
  have lV:kw+402<=1000000000000:=by omega
  by_cases e:d=nx n k
  ·have h1:=o.live hB W8 wM iB hc up nK hk
   have h2:=o.mr hB lV iB k (nx n k)
   have h3:=hB.mr k (nx n k)
   rw[<-e]at h1 h2 h3
   obtain⟨a,b,d'⟩:=WO.XM wM iB hc hk l h2.1 h3 k9 nM.2 (fun d hd=>hl d (by simp[hd])) h1.up h1.cR
   refine⟨(h1.trans a fun j _ _ hq=>nM.1 (by rw[e];exact hq.2)).same fun j _=>?_,h2.trans b,d'.mono (aD _) (qN _ _)⟩
   constructor
   ·rintro(h|h)
    ·exact⟨h,by rw[e];simp⟩
    ·exact⟨h.1,by simp[h.2]⟩
   ·rintro⟨h,-⟩;exact .inl h
  ·rw[o.idle hB hk (hl d aj) e]
   obtain⟨a,b,d'⟩:=WO.XM wM iB hc hk l o hB sH nM.2 (fun d hd=>hl d (by simp[hd])) up nK
   refine⟨a.same fun j _=>?_,b,d'.mono (aD _) (hz3 _ _)⟩
   rw[aF]
   constructor
   ·rintro⟨h1,h2⟩;exact⟨h1,.inr h2⟩
   ·rintro⟨h1,h2⟩;exact⟨h1,h2.resolve_left fun h=>e h.symm⟩
theorem WO.agJ(wM:cw<=1000)(iB:∀k,cc k<=20)(hc:c<=200){k kw:Nat}(hk:k<n){W:Wo}(o:WO n c W cc T)(hB:c6 cw kw W)(hK:kw+3000<=1000000000000)(up:UP n W)(nK:W.cR=[]):
 LV n W (vn n W k) (fun j=>j=k)/\OS n c cc T W (vn n W k)/\c6 cw (kw+1608) (vn n W k):=by
 have gO:=o.n2
 have :=WO.XM wM iB hc hk (List.range n) o hB YM List.nodup_range (fun d hd=>aO.1 hd) up nK
 rw[List.length_range]at this
 refine⟨this.1.same fun j _=>⟨fun h=>h.1,fun h=>⟨h,aO.2 (lU gO.1)⟩⟩,this.2.1,this.2.2.mono (aD _) ae⟩
theorem WO.ab9(wM:cw<=1000)(iB:∀k,cc k<=20)(hc:c<=200):∀(l:List Nat) {W:Wo} {kw:Nat},WO n c W cc T->c6 cw kw W->kw+1608*l.length+3000<=1000000000000->l.Nodup->(∀d∈l,d<n)->UP n W->W.cR=[]->
 LV n W (l.foldl (vn n) W) (fun j=>j∈l)/\OS n c cc T W (l.foldl (vn n) W)/\c6 cw (kw+1608*l.length) (l.foldl (vn n) W)
 |[],W,kw,o,hB,_,_,_,up,nK=>⟨LV.none up nK fun j _ h=>(by cases h),o.rfl,hB⟩
 |k::l,W,kw,o,hB,hK,nM,hl,up,nK=>by
  rw[List.length_cons,Nat.mul_succ]at hK
  rw[bI]at nM
  rw[List.foldl_cons,List.length_cons,Nat.mul_succ]
  have qN:∀a b:Nat,a+1608+b<=a+(b+1608):=hzC 1608
  obtain⟨k9,-,sH⟩:=hzA _ _ _ _ _ hK
  clear hK
  obtain⟨h1,h2,h3⟩:=WO.agJ wM iB hc (hl k aj) o hB sH up nK
  obtain⟨a,b,d'⟩:=WO.ab9 wM iB hc l h2.1 h3 k9 nM.2 (fun d hd=>hl d (by simp[hd])) h1.up h1.cR
  refine⟨(h1.trans a fun j _ hp hq=>nM.1 (by rw[<-hp];exact hq)).same fun j _=>by rw[aF],h2.trans b,d'.mono (aD _) (qN _ _)⟩
theorem Iq(id:Int)(D:Dk):(bK id D).down=false:=by
 unfold bK
 exact(s_ D _ _).2.1
theorem V0{V:Wo}{k:Nat}(hV:k<V.hs.length):((sg V k).H k).down=false/\((sg V k).D k).cut=false:=by
 unfold sg
 generalize V.D k=D
 rw[jl,vX,if_pos ⟨rfl,hV⟩,if_pos ⟨rfl,hV⟩]
 exact⟨Iq _ _,rfl⟩
theorem J4{V:Wo}{k i:Nat}(h:i≠k):(sg V k).H i=V.H i/\(sg V k).D i=V.D i:=by
 unfold sg
 generalize V.D k=D
 rw[jl,vX,if_neg (fun x=>h x.1),if_neg (fun x=>h x.1)]
 exact⟨rfl,rfl⟩
theorem JW{V:Wo}{k i:Nat}{x:Ho×Dk}(h:i≠k):(V.bU k x).H i=V.H i/\(V.bU k x).D i=V.D i:=by
 rw[jl,vX,if_neg (fun x=>h x.1),if_neg (fun x=>h x.1)]
 exact⟨rfl,rfl⟩
theorem XN{k:Nat}(hk:k<W.hs.length):((jt W k).H k).down=false/\((jt W k).D k).cut=false:=by
 unfold jt
 split
 ·exact V0 (by rw[fx];exact hk)
 ·rename_i h
  generalize hx:((W.H k,cu (W.D k) (-1)):Ho×Dk)=x
  rw[jl,vX,if_pos ⟨rfl,hk⟩,if_pos ⟨rfl,hk⟩,<-hx]
  exact⟨by simpa using h,rfl⟩
theorem KU{k i:Nat}(h:i≠k):(jt W k).H i=W.H i/\(jt W k).D i=W.D i:=by
 unfold jt
 split
 ·obtain⟨a,b⟩:=J4 (V:=W.bU k (W.H k,cu (W.D k) (-1))) h
  obtain⟨a',b'⟩:=JW (V:=W) (x:=(W.H k,cu (W.D k) (-1))) h
  exact⟨a.trans a',b.trans b'⟩
 ·exact JW h
theorem KS:∀(l:List Nat) {W:Wo},(∀k∈l,k<W.hs.length)->∀i,(i∈l\/((W.H i).down=false/\(W.D i).cut=false))->((l.foldl WB.jt W).H i).down=false/\((l.foldl WB.jt W).D i).cut=false
 |[],W,_,i,h=>by
  rcases h with h|h
  ·cases h
  ·exact h
 |k::l,W,hl,i,h=>by
  rw[List.foldl_cons]
  refine KS l (fun j hj=>by rw[KV];exact hl j Uv) i ?_
  by_cases e:i=k
  ·subst e;exact .inr (XN (hl i aj))
  ·rcases h with h|h
   ·rcases aF.1 h with h|h
    ·exact absurd h e
    ·exact .inl h
   ·right;rw[(KU e).1,(KU e).2];exact h
theorem UP.hs{W W':Wo}(u:UP n W)(h:W'.hs=W.hs):UP n W':=fun k hk=>by
 have :=u k hk
 unfold Wo.H Wo.D Wo.at' at this ⊢
 rw[h];exact this
theorem UP.cm(u:UP n W)(o:WO n c W cc T)(iB:∀k,cc k<=20)(hc:c<=200){m:Gm}(hm:0<=m.dto/\m.dto<(n:Int)):UP n (vL W m):=by
 have hn:=o.hn
 obtain⟨x,hx,e1,e2⟩:=fS (W:=W) (j:=m.dto.toNat) ae
 have ux:=u m.dto.toNat ae
 rw[e1,e2]at ux
 have lx:=yX ux (o.room iB hc (k:=m.dto.toNat) ae hx)
 unfold vL
 rw[e1,e2]
 split
 ·exact u.set ae (Vt ux lx _ _)
 ·split
  ·exact(u.set ae (P8 ux lx _ _ _)).hs (oC _ _ _ _)
  ·exact u.set ae (P8 ux lx _ _ _)
theorem UP.de(u:UP n W)(o:WO n c W cc T)(iB:∀k,cc k<=20)(hc:c<=200){kw:Nat}(hB:c6 cw kw W)(i:Int):UP n (tW W i):=by
 unfold tW
 split
 ·rename_i h0
  obtain⟨h1,h2⟩:=zj h0
  have hm:=ax (k_ (W:=W) (i:=i.toNat) ae)
  have hn:=o.hn
  have :=(hB.cR _ hm).dto
  rw[hn]at this
  exact UP.cm (u.hs (W':=qw W i.toNat) rfl) (o.out _) iB hc this
 ·exact u
theorem UP.iE(iB:∀k,cc k<=20)(hc:c<=200):∀(f:Nat) {kw:Nat} {W:Wo},UP n W->WO n c W cc T->c6 cw kw W->kw+2*f<=1000000000000->UP n (WB.iE f W)
 |0,_,_,u,_,_,_=>u
 |f+1,kw,W,u,o,hB,hK=>by
  unfold WB.iE
  split
  ·exact u
  ·exact UP.iE iB hc f (u.de o iB hc hB 0) (o.de hB ae iB 0).1 (hB.de 0) ae
theorem WO.agI(o:WO n c W cc T){kw:Nat}(hB:c6 cw kw W)(hK:kw+400<=1000000000000)(iB:∀k,cc k<=20)(hc:c<=200):UP n (tD W)/\(tD W).cR=[]/\OS n c cc T W (tD W)/\c6 cw (kw+400) (tD W):=by
 have hn:=o.hn
 have h1:=WO.AR (kw:=kw) ae (List.range W.hs.length) o hB fun k hk=>by rw[<-hn];exact aO.1 hk
 have h2:=c6.AR (kb:=kw) ae (List.range W.hs.length) W hB fun k hk=>aO.1 hk
 have u1:UP n ((List.range W.hs.length).foldl WB.jt W):=fun k hk=>KS _ (fun j hj=>aO.1 hj) k (.inl (aO.2 ae))
 refine⟨?_,Pv _,h1.trans (h1.1.Vl h2 ae iB),hB.tD ae⟩
 unfold tD lS
 exact UP.iE iB hc _ u1 h1.1 h2 (by have :=uc h2;omega)
theorem WO.PR(o:WO n c W cc T){kw:Nat}(hB:c6 cw kw W)(hK:kw+10000<=1000000000000)(wM:cw<=1000)(iB:∀k,cc k<=20)(hc:c<=200):OS n c cc T W (oA W)/\c6 cw (kw+10000) (oA W)/\LV n (tD W) (oA W) (fun _=>True):=by
 have hn:=o.hn
 have gO:=o.n2
 obtain⟨u,w,h1,h2⟩:=o.agI hB ae iB hc
 have :=WO.ab9 wM iB hc (List.range W.hs.length) h1.1 h2 YM List.nodup_range (fun d hd=>by rw[<-hn];exact aO.1 hd) u w
 unfold oA
 rw[hn]at this ⊢
 exact⟨h1.trans this.2.1,by have h9:=hB.oA ae;unfold oA at h9;rw[hn]at h9;exact h9,this.1.same fun j hj=>⟨fun _=>trivial,fun _=>aO.2 hj⟩⟩
theorem PU(o:WO n c W cc T)(u:UP n W){k:Nat}(hk:k<n):RW n (jt W k)=RW n W/\UP n (jt W k)/\(jt W k).cR=W.cR:=by
 have hn:=o.hn
 obtain⟨x,hx,e1,e2,h,-⟩:=o.at hk
 have ux:=u k hk
 have e:jt W k=W.bU k (W.H k,cu (W.D k) (-1)):=by unfold jt;rw[if_neg (by rw[ux.1];decide)]
 rw[e]
 refine⟨?_,u.set ae ⟨ux.1,rfl⟩,rfl⟩
 rw[jv ae]
 have :bK ((k:Nat):Int) (cu (W.D k) (-1))=bK ((k:Nat):Int) (W.D k):=by rw[e2];exact(h.cut (-1)).opened
 rw[this]
 exact vV (RW n W) k
theorem CW{kw:Nat}(hK:kw<=1000000000000):∀(l:List Nat) {W:Wo},WO n c W cc T->c6 cw kw W->UP n W->(∀k∈l,k<n)->RW n (l.foldl WB.jt W)=RW n W/\(l.foldl WB.jt W).cR=W.cR
 |[],_,_,_,_,_=>⟨rfl,rfl⟩
 |k::l,W,o,hB,u,h=>by
  obtain⟨a,b,d⟩:=PU o u (h k aj)
  rw[List.foldl_cons]
  obtain⟨a',b'⟩:=CW hK l (o.jt hB hK (h k aj)).1 (hB.jt hK (by rw[o.hn];exact h k aj)) b fun j hj=>h j Uv
  exact⟨a'.trans a,b'.trans d⟩
theorem PQ(o:WO n c W cc T){kw:Nat}(hB:c6 cw kw W)(hK:kw<=1000000000000)(u:UP n W)(hw:W.cR=[]):RW n (tD W)=RW n W:=by
 have hn:=o.hn
 obtain⟨a,b⟩:=CW hK (List.range W.hs.length) o hB u fun k hk=>by rw[<-hn];exact aO.1 hk
 unfold tD
 rw[rj (b.trans hw),a]
theorem WO.wl(o:WO n c W cc T)(iB:∀k,cc k<=20){k:Nat}(hk:k<n)(hb:(RW n W k).b=[]):(RW n W k).w.length<=20/\fD n (RW n W) k=(RW n W k).w:=by
 have h1:=o.rg.RJ k hk
 have HD:kg n (RW n W) k=false:=by unfold kg;rw[decide_eq_false_iff_not];rintro⟨h,-⟩;exact h hb
 have hr:fD n (RW n W) k=(RW n W k).w:=by unfold fD;rw[HD];exact if_neg ai
 rw[hr]at h1
 have :=iB k
 exact⟨by omega,hr⟩
theorem WO.Vs(wM:cw<=1000)(iB:∀k,cc k<=20)(hc:c<=200):∀(r:Nat) {W:Wo} {kw z:Nat},WO n c W cc T->c6 cw kw W->kw+10000*r<=1000000000000->UP n W->W.cR=[]->(∀k,k<n->(RW n W k).b=[]/\(RW n W k).w.length<=z)->
 OS n c cc T W (calm r W)/\(∀k,k<n->(RW n (calm r W) k).b=[]/\(RW n (calm r W) k).w.length<=z-3*r)
 |0,W,kw,z,o,hB,_,u,w,h=>⟨o.rfl,fun k hk=>by rw[show z-3*0=z by omega];exact h k hk⟩
 |r+1,W,kw,z,o,hB,hK,u,w,h=>by
  rw[Nat.mul_succ]at hK
  have hz:∀z:Nat,kw+(z+10000)<=1000000000000->kw+10000<=1000000000000/\kw<=1000000000000/\kw+10000+z<=1000000000000:=fun z h=>by omega
  obtain⟨k9,sH,W8⟩:=hz _ hK
  obtain⟨h1,h2,h3⟩:=o.PR hB k9 wM iB hc
  have hs:=PQ o hB sH u w
  obtain⟨a,b⟩:=WO.Vs wM iB hc r (z:=z-3) h1.1 h2 W8 h3.up h3.cR fun k hk=>by
   refine⟨h3.nb k hk trivial,?_⟩
   have :=h3.sub k hk trivial (by rw[hs];exact(h k hk).1)
   rw[hs]at this
   have :=(h k hk).2
   omega
  refine⟨h1.trans a,fun k hk=>?_⟩
  obtain⟨b1,b2⟩:=b k hk
  exact⟨b1,by show(RW n (calm r (oA W)) k).w.length<=_;omega⟩
theorem WO.done(o:WO n c W cc T){kw:Nat}(hB:c6 cw kw W)(hK:kw+200000<=1000000000000)(wM:cw<=1000)(iB:∀k,cc k<=20)(hc:c<=200){r:Nat}(hr:7<=r/\r<=15):
 OS n c cc T W (calm r (oA W))/\∀k,k<n->(RW n (calm r (oA W)) k).w=[]/\∀p,(RW n (calm r (oA W)) (nx n k)).i.filter (eu p)=iP n (RW n W) k p:=by
 obtain⟨h1,h2,h3⟩:=o.PR hB ae wM iB hc
 obtain⟨a,b⟩:=WO.Vs wM iB hc r (z:=20) h1.1 h2 ae h3.up h3.cR fun k hk=>⟨h3.nb k hk trivial,(h1.1.wl iB hk (h3.nb k hk trivial)).1⟩
 have yu:=h1.trans a
 refine⟨yu,fun k hk=>?_⟩
 obtain⟨b1,b2⟩:=b k hk
 have hw:(RW n (calm r (oA W)) k).w=[]:=List.length_eq_zero_iff.1 ae
 refine⟨hw,fun p=>?_⟩
 rw[<-yu.2 k hk p]
 unfold iP
 rw[(a.1.wl iB hk b1).2,hw]
 simp
end
theorem BV(S:nS)(k u:Nat)(q:ak):(uq S k u q).ks=S.ks/\(uq S k u q).Ls=S.Ls:=by
 unfold uq;dsimp only;split<;>exact⟨rfl,rfl⟩
theorem Cb{c kb:Nat}{S:nS}(h:nD c kb S)(hc:c<=200)(hO:pc (1000*c) S.ks S.Ls)(x:Bl):pc (1000*(c+1)) (dW S x).ks (dW S x).Ls:=by
 have hm:∀{ks Ls},pc (1000*c) ks Ls->pc (1000*(c+1)) ks Ls:=fun h=>h.mono ae
 have hk:dt S x<S.n:=by
  unfold dt
  have :=gW x.k (n:=(S.n:Int)) (by have :=h.n2;omega);omega
 have hu:je x<5:=by
  unfold je
  have :=gW x.unit (n:=5) ae;omega
 unfold dW
 split
 ·unfold oG;dsimp only;split<;>exact hm hO
 split
 ·rw[(BV S _ _ _).1,(BV S _ _ _).2];exact hm hO
 split
 ·unfold sC
  dsimp only
  split
  ·unfold sP
   dsimp only
   have hl:(S.P.getD (ix (dt S x) (je x)) []).length<=200:=by
    have h1:=h.P.2 (dt S x) (je x) (by have :=h.n2;omega) hu
    rw[aq,h1,Option.getD_some,bj]
    obtain⟨y,hy,e1,-,hb,-,-⟩:=h.at hk
    have h2:=h.um (dt S x) ((S.W.H (dt S x)).eP (je x)) (by rw[e1];exact ax (gu hb.B hu))
    omega
   exact(pc.ovs (k:=dt S x) _ (s:=⟨S.T,S.ks,S.Ls⟩) hO).mono ae
  ·exact hm hO
 split
 ·unfold zq;dsimp only;split<;>exact hm hO
 split
 ·exact hm hO
 split
 ·exact hm hO
 split
 ·exact hm hO
 split
 ·exact hm hO
 split
 ·exact hm hO
 split
 ·exact hm hO
 split
 ·unfold gS
  obtain⟨P,G,e,-⟩:=pC (List.range S.n) S h.P.1 h.G.1 fun k hk=>by have :=aO.1 hk;have :=h.n2;omega
  rw[e]
  exact hm hO
 ·exact hm hO
def tS (n:Nat) (xs:List Bl) (k:Nat):nS:=(xs.take k).foldl dW (E7 n)
section
variable {c n:Nat} {W A B:Wo} {cc:Nat->Nat} {T:List Ms} {C0:Nat->Ho} {H:Ho} {D:Dk}
theorem WO.mono(o:WO n c W cc T){c':Nat}(h:c<=c'):WO n c' W cc T:=
 ⟨o.n2,o.gi,o.ho,o.rg,fun k x hx=>by have :=o.us k x hx;omega,o.wq,o.b3⟩
theorem WO.put(o:WO n c W cc T){cw kw:Nat}(hB:c6 cw kw W){k u:Nat}(hk:k<n)(hu:u<5){pri:Int}(hp:0<=pri/\pri<3)(he:jn (W.H k) u eF pri xS=0):OS n c cc T W (W.bU k (fl (W.H k) u eF pri xS,W.D k)):=by
 obtain⟨x,hx,e1,e2,h,ho,ob⟩:=o.at hk
 obtain⟨C0,g⟩:=o.gi
 have hg:=g.put hB hk hu he
 have si:=o.us k x hx
 rw[e1]at he hg
 rw[e1]
 have hs:(fl x.1 u eF pri xS).used=x.1.used/\(fl x.1 u eF pri xS).batch=x.1.batch/\(fl x.1 u eF pri xS).bW=x.1.bW/\(fl x.1 u eF pri xS).aK=x.1.aK:=by
  unfold fl
  rw[if_pos he]
  exact⟨oH _ _,pI _ _,oI _ _,l7 _ _⟩
 have :=o.same hk (aD c) (H':=fl x.1 u eF pri xS) (D':=W.D k) ⟨C0,hg⟩ (Eq.refl _) (by rw[e2];exact ho.put h (hB.hs k x hx).B o.n2 hk ob hu hp he) (by
  rw[hs.1]
  unfold bm bD tY bY at si ⊢
  rw[hs.2.1,hs.2.2.1,hs.2.2.2];exact si)
 exact⟨this.1,fun j hj p=>by rw[this.2]⟩
theorem WO.back(o:WO n c W cc T){cw kw:Nat}(hB:c6 cw kw W){k u:Nat}(hk:k<n)(hu:u<5)(he:Bz (W.H k) u=0):OS n c cc T W (W.bU k (ou (W.H k) u,W.D k)):=by
 obtain⟨x,hx,e1,e2,h,ho,ob⟩:=o.at hk
 obtain⟨C0,g⟩:=o.gi
 have hg:=g.back hB hk hu he
 have si:=o.us k x hx
 rw[e1]at he hg
 rw[e1]
 have hs:(ou x.1 u).used=x.1.used/\(ou x.1 u).batch=x.1.batch/\(ou x.1 u).bW=x.1.bW/\(ou x.1 u).aK=x.1.aK:=by
  unfold ou
  rw[if_pos he]
  exact⟨Eq.refl _,Eq.refl _,Eq.refl _,Eq.refl _⟩
 have :=o.same hk (aD c) (H':=ou x.1 u) (D':=W.D k) ⟨C0,hg⟩ (Eq.refl _) (by rw[e2];exact ho.back (hB.hs k x hx).B he) (by
  rw[hs.1]
  unfold bm bD tY bY at si ⊢
  rw[hs.2.1,hs.2.2.1,hs.2.2.2];exact si)
 exact⟨this.1,fun j hj p=>by rw[this.2]⟩
theorem WO.mo(o:WO n c W cc T){cw kw:Nat}(hB:c6 cw kw W){k u:Nat}(hk:k<n)(hu:u<5)(he:vj (W.H k) (W.D k) u≠0):OS n c cc T W (W.bU k (la (W.H k) (W.D k) u,od (W.H k) (W.D k) u)):=by
 obtain⟨x,hx,e1,e2,h,ho,ob⟩:=o.at hk
 obtain⟨C0,g⟩:=o.gi
 have hg:=g.mo hB hk hu he
 have si:=o.us k x hx
 rw[e1,e2]at he hg
 rw[e1,e2]
 have h1:=h.mo (hB.hs k x hx) hu he
 have :=o.same hk (aD c) (H':=la x.1 x.2 u) (D':=od x.1 x.2 u) ⟨C0,hg⟩ (by rw[e2];exact h1.opened) (by rw[e2];exact ho.mo he) (by
  unfold la
  unfold vj at he
  by_cases hp:kP x.1 u≠0
  ·rw[if_pos hp];exact si
  ·rw[if_neg hp]at he ⊢
   rw[if_pos he]
   exact Dy he si)
 exact⟨this.1,fun j hj p=>by rw[this.2]⟩
theorem WO.kO(o:WO n c W cc T){cw kw:Nat}(hB:c6 cw kw W)(hK:kw<=1000000000000)(wM:cw<=250){k u:Nat}(hk:k<n)(hu:u<5)(he:vj (W.H k) (W.D k) u=0):
 WO n (c+1) (W.bU k (la (W.H k) (W.D k) u,od (W.H k) (W.D k) u)) (fun j=>if j=k then cc k+((W.H k).eP u).aM.length else cc j) (Fv T ((W.H k).eP u))/\
 ∀j,j<n->∀p,iP n (RW n (W.bU k (la (W.H k) (W.D k) u,od (W.H k) (W.D k) u))) j p=iP n (RW n W) j p++(if j=k then(((W.H k).eP u).aM.map (·.1)).filter (eu p)else[]):=by
 obtain⟨x,hx,e1,e2,h,ho,ob⟩:=o.at hk
 obtain⟨C0,g⟩:=o.gi
 have hg:=g.kO hB hK wM hk hu he
 have si:=o.us k x hx
 have gO:=o.n2
 have hn:=o.hn
 have qA:=hB.hs k x hx
 have nL:=lU (n:=n) (k:=k) gO.1
 rw[e1,e2]at he hg
 rw[e1,e2]
 obtain⟨H3,h1,h2,h3,h4,h5,h6,h7⟩:=h.kO qA ae hK wM hu he
 obtain⟨IU,k9⟩:=ho.kO h qA ae hK wM gO hk hu he
 have hop:=h1.opened
 rw[hop]at IU k9
 have kN:=gu qA.B hu
 have ui:=h.unit u _ kN
 have uo:=qA.aB _ (ax kN)
 have un:=ho.un _ (ax kN)
 have U2:∀m∈(x.1.eP u).aM.map (·.1),m.id∉(RW n W k).b:=fun m hm hb=>by
  obtain⟨p,hp,rfl⟩:=ay.1 hm
  obtain⟨-,-,e,I1,-,fQ,Nf⟩:=ui.aM p hp
  rw[cJ hx]at hb
  have hb:p.1.id∈bm (bK ((k:Nat):Int) x.2) (nx n k):=hb
  have :bm (bK ((k:Nat):Int) x.2) (nx n k)=bm x.1 (nx n k):=by unfold bm;rw[h.bt]
  rw[this]at hb
  obtain⟨y,hy,a1,a2⟩:=h.bin _ _ hb
  obtain⟨e',Xe,rfl⟩:=ay.1 hy
  obtain⟨b1,b2⟩:=aC.1 Xe
  have :e=e':=gQ h.oy I1 b1 (by
   unfold eO;rw[fQ];exact a2.symm)
  rw[<-this]at b2
  unfold iW at b2
  simp at b2;omega
 have S3:=RG.kO (r:=Dl n k H3) o.rg gO hk U2 (by rw[cJ hx];exact(k9 (nx n k)).trans (if_pos (Eq.refl _))) (by rw[cJ hx];exact(k9 5).trans (if_neg ae))
  (by rw[cJ hx];show bm H3 _=bm _ _;unfold bm;rw[h3]) Y18 Y13
 rw[bj]at S3
 refine⟨o.NO hk (Nat.le_succ c) hg Y56 Y45 ?_ (fun m hm=>?_) ?_,fun j hj p=>by rw[jv ae,hop];exact S3.2 j hj p⟩
 ·have u1:(la x.1 x.2 u).used=x.1.used+1:=by
   obtain⟨a1,a2⟩:=r8 he
   unfold la
   rw[if_neg (by simpa using a1),if_neg (by simpa using a2),(nq _ _).p.used]
   obtain⟨eL,-,-,-⟩:=dA a2 (qW 0)
   show(dc x.1 x.2).used=_
   rw[eL]
  have u2:tY n k (la x.1 x.2 u)=tY n k x.1:=by unfold tY bY;rw[<-h1.av,h5,h.av]
  have u3:bD (la x.1 x.2 u) (nx n k)=bD x.1 (nx n k):=by unfold bD;rw[<-h1.sn,h4,h.sn]
  have u4:bm (la x.1 x.2 u) (nx n k)=bm x.1 (nx n k):=by unfold bm;rw[<-h1.bt,h3,h.bt]
  rw[u1,u2,u3,u4]
  push_cast
  omega
 ·rw[hop,k9,if_pos (Eq.refl _),FU]at hm
  rcases hm with hm|hm
  ·obtain⟨p,hp,rfl⟩:=ay.1 hm
   obtain⟨b1,b2,-⟩:=un.2 p hp
   exact⟨b2,b1,uo.1.aM p hp,by rw[<-h.hid];exact(ui.aM p hp).2.1⟩
  ·refine o.wq k hk m ?_
   rw[cJ hx];exact hm
 ·have :=o.b3 k hk
  rw[cJ hx]at this
  rw[hop]
  have e:bm H3 (nx n k)=bm (bK ((k:Nat):Int) x.2) (nx n k):=by unfold bm;rw[h3]
  rw[e];exact this
theorem WO.XI(o:WO n c W cc T){k:Nat}(hk:k<n)(m t:Int):OS n c cc T W (Bm W k m t):=by
 have hn:=o.hn
 unfold Bm
 split
 ·rw[aA];exact o.cut hk t m
 ·exact o.rfl
theorem WO.wre(o:WO n c W cc T){cw kw:Nat}(hB:c6 cw kw W)(hK:kw<=1000000000000){k:Nat}(hk:k<n):OS n c cc T W (Le W k):=by
 unfold Le
 split
 ·rw[aA];exact o.sg hB hK hk
 ·exact o.rfl
theorem HO.start{k n:Nat}{j:Int}:HO n k (cD k j) (cD k j):=by
 have IL:=uU (k:Int) j
 have hl:∀i,((cD (k:Int) j).dY i).l=[]:=fun i=>by
  cases hl:((cD (k:Int) j).dY i).l with
  |nil=>rfl
  |cons z r=>
   have hi:i<(cD (k:Int) j).all.length:=by
    refine Nat.lt_of_not_le fun h=>?_
    unfold Ho.dY at hl
    rw[aq,br h]at hl
    cases hl
   have :gE i z∈hv (cD (k:Int) j):=fH.2 ⟨(cD (k:Int) j).dY i,vu hi,z,by rw[hl];simp,Eq.refl _⟩
   rw[IL]at this;cases this
 have hls:∀i,LS ((cD (k:Int) j).dY i):=fun i=>⟨(by rw[hl];exact .nil),fun e he=>by rw[hl]at he;cases he⟩
 refine⟨hls,hls,fun _=>Eq.refl _,(fun e he=>by rw[IL]at he;cases he),fun i hi _=>?_,(fun e he=>by rw[IL]at he;cases he),Eq.refl _,fun y hy=>?_,fun d _=>?_⟩
 ·have h4:(cD (k:Int) j).ways.length=4:=Eq.refl _
  rw[<-kB h4 hi];exact hl i
 ·have :y=⟨[],[]⟩:=List.eq_of_mem_replicate hy
  subst this
  exact⟨Eq.refl _,fun p hp=>by cases hp⟩
 ·unfold bD cD dC
  dsimp only
  rw[aq,List.getElem?_replicate];split<;>exact Eq.refl _
theorem WO.start(hn:2<=n/\n<=4):WO n 0 (nF n n) (fun _=>0) []/\∀j,j<n->∀p,iP n (RW n (nF n n)) j p=[]:=by
 have ta:=nD.start hn
 obtain⟨C0,g⟩:=ta.gi
 have hj:∀k:Nat,0<=((k:Int)+1)%n/\((k:Int)+1)%n<4:=fun k=>⟨Int.emod_nonneg _ ae,by have :=Int.emod_lt_of_pos ((k:Int)+1) (show(0:Int)<n by omega);omega⟩
 have Ph:∀(k:Nat) x,(nF n n).hs[k]? =some x->k<n/\x.1=cD k (((k:Int)+1)%n)/\bK (k:Int) x.2=cD k (((k:Int)+1)%n):=fun k x hx=>by
  have hk:k<n:=by have :=(au.1 hx).1;rw[iM]at this;exact this
  rw[vS hk,if_pos hk]at hx
  simp only[az]at hx
  obtain⟨-,hH,-,-,-⟩:=jB (k:Int) _ (hj k)
  have :=(HI.start (k:=k) ae (hj k)).opened
  subst hx
  exact⟨hk,hH,this⟩
 have hR:∀k,k<n->(RW n (nF n n) k).w=[]/\(RW n (nF n n) k).i=[]/\(RW n (nF n n) k).b=[]/\∀d,(RW n (nF n n) k).av d=0:=fun k hk=>by
  obtain⟨x,hx,-⟩:=fS (W:=nF n n) (j:=k) (by rw[iM];exact hk)
  obtain⟨-,-,h2⟩:=Ph k x hx
  have ls:=fun i=>(HO.start (k:=k) (n:=n) (j:=((k:Int)+1)%n)).kq i
  have IL:=uU (k:Int) (((k:Int)+1)%n)
  have hq:∀i,aW ((cD (k:Int) (((k:Int)+1)%n)).dY i)=[]:=fun i=>by
   have :((cD (k:Int) (((k:Int)+1)%n)).dY i).l=[]:=by
    cases hl:((cD (k:Int) (((k:Int)+1)%n)).dY i).l with
    |nil=>exact Eq.refl _
    |cons z r=>
     have hi:i<(cD (k:Int) (((k:Int)+1)%n)).all.length:=by
      refine Nat.lt_of_not_le fun h=>?_
      unfold Ho.dY at hl
      rw[aq,br h]at hl
      cases hl
     have :gE i z∈hv (cD (k:Int) (((k:Int)+1)%n)):=fH.2 ⟨(cD (k:Int) (((k:Int)+1)%n)).dY i,vu hi,z,by rw[hl];simp,Eq.refl _⟩
     rw[IL]at this;cases this
   unfold aW;rw[this];exact Eq.refl _
  rw[cJ hx,h2]
  refine⟨hq _,hq 5,vq _ _ _,fun d=>?_⟩
  show bY (cD k (((k:Int)+1)%n)) d=0
  unfold bY cD dC
  dsimp only
  rw[aq,List.getElem?_replicate];split<;>exact Eq.refl _
 have fg:∀k,k<n->fD n (RW n (nF n n)) k=[]:=fun k hk=>by
  unfold fD
  rw[(hR k hk).1]
  split<;>exact Eq.refl _
 refine⟨⟨hn,⟨C0,g⟩,fun k x hx=>?_,⟨fun k hk p=>?_,(fun g hg=>by cases hg),fun k hk=>?_,fun k hk=>?_⟩,fun k x hx=>?_,fun k hk m hm=>?_,fun k hk=>?_⟩,fun j hj p=>?_⟩
 ·obtain⟨hk,h1,h2⟩:=Ph k x hx
  rw[h1,h2]
  exact HO.start
 ·rw[(hR k hk).1];exact Eq.refl _
 ·have h1:=hR (nx n k) (lU hn.1)
  rw[fg k hk,h1.2.1];exact aD _
 ·have h1:=hR (nx n k) (lU hn.1)
  rw[h1.2.1,h1.2.2.2];exact Int.le_refl _
 ·obtain⟨hk,h1,h2⟩:=Ph k x hx
  rw[h1]
  have a1:K5 (bm (cD (k:Int) (((k:Int)+1)%n)) (nx n k))=0:=by rw[vq];exact Eq.refl _
  have a2:bD (cD (k:Int) (((k:Int)+1)%n)) (nx n k)=0:=by
   unfold bD cD dC
   dsimp only
   rw[aq,List.getElem?_replicate];split<;>exact Eq.refl _
  have a3:tY n k (cD (k:Int) (((k:Int)+1)%n))=0:=by
   unfold tY bY cD dC
   dsimp only
   rw[aq,List.getElem?_replicate];split<;>exact Eq.refl _
  rw[a1,a2,a3]
  show((3:Nat):Int)+0<=_
  decide
 ·rw[(hR k hk).1]at hm;cases hm
 ·rw[(hR k hk).2.2.1];decide
 ·unfold iP
  rw[fg j hj,(hR (nx n j) (lU hn.1)).2.1]
  exact Eq.refl _
end
def ri (ks:List Int) (Ls:List (List Int)) (x:Int):List Int:=match lP ks x with|some i=>Ls.getD i []|none=>[]
theorem Ca{ks:List Int}{x:Int}{i:Nat}(h:lP ks x=some i):ks[i]? =some x:=by
 obtain⟨h1,h2,-⟩:=List.findIdx?_eq_some_iff_getElem.1 h
 rw[ao h1]
 simpa using h2
theorem N5{ks:List Int}{x y:Int}(h:lP ks x=none):lP (ks++[x]) y=if y=x then some ks.length else lP ks y:=by
 unfold lP at h ⊢
 rw[List.findIdx?_append,List.findIdx?_singleton]
 by_cases e:y=x
 ·subst e
  rw[h,if_pos rfl];simp
 ·rw[if_neg e]
  have :¬x=y:=fun e2=>e e2.symm
  simp[this]
theorem LM{ks:List Int}{Ls:List (List Int)}(hl:Ls.length=ks.length)(x id:Int):(wk ks Ls x id).length=(wm ks x).length:=by
 unfold wm wk
 cases h:lP ks x<;>simp[hl]
theorem Pp{ks:List Int}{Ls:List (List Int)}(hl:Ls.length=ks.length)(x id y:Int):ri (wm ks x) (wk ks Ls x id) y=if y=x then ri ks Ls x++[id]else ri ks Ls y:=by
 unfold ri wm wk
 cases h:lP ks x with
 |some i=>
  have hi:=uH h
  dsimp only
  by_cases e:y=x
  ·subst e
   rw[if_pos rfl,h]
   dsimp only
   rw[dx ae,if_pos rfl]
  ·rw[if_neg e]
   cases hy:lP ks y with
   |none=>rfl
   |some j=>
    dsimp only
    rw[dx ae,if_neg]
    intro e2
    subst e2
    have a:=Ca h
    have b:=Ca hy
    rw[a]at b
    exact e (Option.some.inj b).symm
 |none=>
  dsimp only
  rw[N5 h]
  by_cases e:y=x
  ·rw[if_pos e,if_pos e]
   dsimp only
   rw[aq,<-hl,bf (aD _)]
   simp
  ·rw[if_neg e,if_neg e]
   cases hy:lP ks y with
   |none=>rfl
   |some j=>
    have hj:=uH hy
    dsimp only
    rw[aq,aq,List.getElem?_append_left ae]
theorem GF{k:Nat}:∀(l:List Ms) {s:OvS},s.Ls.length=s.ks.length->(∀m∈l,m.cq≠(k:Int)/\0<=m.pri/\m.pri<3)->∀j p:Int,0<=p->p<3->
 ri (l.foldl (sh k) s).ks (l.foldl (sh k) s).Ls (j *100+p)=ri s.ks s.Ls (j *100+p)++(if j=(k:Int)then(l.filter (eu p)).map (·.id)else[])
 |[],s,_,_,j,p,_,_=>by split<;>simp
 |m::l,s,hl,h,j,p,hp,Gb=>by
  obtain⟨h1,h2,h3⟩:=h m aj
  have e:sh k s m=⟨gh s.T m.id m,wm s.ks ((k:Int)*100+m.pri),wk s.ks s.Ls ((k:Int)*100+m.pri) m.id⟩:=by unfold sh;rw[if_pos h1]
  have hlen:(sh k s m).Ls.length=(sh k s m).ks.length:=by
   rw[e]
   exact LM hl _ _
  rw[List.foldl_cons,GF l hlen (fun m' tt=>h m' (by simp[tt])) j p hp Gb,e]
  dsimp only
  rw[Pp hl]
  by_cases ej:j=(k:Int)
  ·subst ej
   rw[if_pos rfl,if_pos rfl,bE]
   by_cases ep:m.pri=p
   ·rw[if_pos ae,if_pos (by unfold eu;simpa using ep),ep,aL,aH];rfl
   ·rw[if_neg ae,if_neg (by unfold eu;simpa using ep)]
  ·rw[if_neg ej,if_neg ej,if_neg ae]
def zN (l:List pg):Nat:=(l.map fun y=>y.aM.length).sum
theorem uF:∀{l:List pg} {u:Nat} {x:pg},l[u]? =some x->∀y:pg,zN (l.set u y)+x.aM.length=zN l+y.aM.length
 |[],u,x,h,_=>by cases h
 |z::l,0,x,h,y=>by
  simp at h;subst h
  show(y.aM.length+zN l)+z.aM.length=(z.aM.length+zN l)+y.aM.length
  omega
 |z::l,u+1,x,h,y=>by
  have :=uF (l:=l) (u:=u) (x:=x) HV y
  show(z.aM.length+zN (l.set u y))+x.aM.length=(z.aM.length+zN l)+y.aM.length
  omega
theorem Fq(k:Nat):zN (List.replicate k ⟨[],[]⟩)=0:=by
 unfold zN
 rw[List.map_replicate]
 induction k with
 |zero=>rfl
 |succ k ih=>rw[List.replicate_succ,List.sum_cons,ih];rfl
def lN (W:Wo) (k:Nat):Nat:=zN (W.H k).aB
theorem LI{W W':Wo}(h:fc W W')(k:Nat):lN W' k=lN W k:=by unfold lN;rw[h k]
theorem zM{W:Wo}{k:Nat}{x:Ho×Dk}(hk:k<W.hs.length)(i:Nat):lN (W.bU k x) i=if i=k then zN x.1.aB else lN W i:=by
 unfold lN
 rw[jl]
 by_cases e:i=k
 ·rw[if_pos ⟨e,hk⟩,if_pos e]
 ·rw[if_neg (fun x=>e x.1),if_neg e]
structure YX where
 S:nS
 q:List Int
def sM (x:Bl):Bl:={x with n:=2}
def kC (s:YX) (x:Bl):YX:=
 if x.jK=1 then s
 else if x.jK=0 then(if 20<=s.q.getD (dt s.S x) 0 then s else⟨dW s.S (sM x),s.q.set (dt s.S x) (s.q.getD (dt s.S x) 0+1)⟩)
 else⟨dW s.S x,s.q⟩
structure TO (c kb:Nat) (s:YX):Prop where
 ta:nD c kb s.S
 ql:s.q.length=s.S.n
 q0:∀k,0<=s.q.getD k 0/\s.q.getD k 0<=20
 wo:∃cc,WO s.S.n c s.S.W cc (s.S.T.map (·.2))/\(∀k,cc k<=20)/\(∀k,k<s.S.n->(cc k:Int)+lN s.S.W k<=s.q.getD k 0)/\
  ∀k,k<s.S.n->∀p:Int,0<=p->p<3->ri s.S.ks s.S.Ls ((k:Int)*100+p)=(iP s.S.n (RW s.S.n s.S.W) k p).map (·.id)/\∀m∈iP s.S.n (RW s.S.n s.S.W) k p,m.id%4=(k:Int)
 oB:pc (1000*c) s.S.ks s.S.Ls
section
variable {c kb:Nat} {s:YX}
theorem WO.swap{n c:Nat}{W:Wo}{cc:Nat->Nat}{T T':List Ms}(o:WO n c W cc T)(g:∃C0,GI n W C0 T'):WO n c W cc T':=⟨o.n2,g,o.ho,o.rg,o.us,o.wq,o.b3⟩
theorem TO.mono(h:TO c kb s){c' Ez:Nat}(h1:c<=c')(h2:kb<=Ez):TO c' Ez s:=by
 obtain⟨cc,o,a,b,d⟩:=h.wo
 exact⟨h.ta.mono h1 h2,h.ql,h.q0,⟨cc,o.mono h1,a,b,d⟩,h.oB.mono ae⟩
theorem TO.Du(h:TO c kb s){S':nS}{q':List Int}{c' Ez:Nat}(hc:c<=c')(hn:S'.n=s.S.n)(hk:S'.ks=s.S.ks)(hL:S'.Ls=s.S.Ls)(ta:nD c' Ez S')(ql:q'.length=s.S.n)(q0:∀k,0<=q'.getD k 0/\q'.getD k 0<=20)(os:∀cc,(∀k,cc k<=20)->WO s.S.n c s.S.W cc (s.S.T.map (·.2))->∃T,OS s.S.n c cc T s.S.W S'.W)(hp:∀k,k<s.S.n->(lN S'.W k:Int)+s.q.getD k 0<=lN s.S.W k+q'.getD k 0):TO c' Ez ⟨S',q'⟩:=by
 obtain⟨cc,o,a,b,d⟩:=h.wo
 obtain⟨T,o1,o2⟩:=os cc a o
 refine⟨ta,by dsimp only;rw[hn];exact ql,q0,⟨cc,?_,a,fun k r4=>?_,fun k r4 p OX Gb=>?_⟩,by dsimp only;rw[hk,hL];exact h.oB.mono ae⟩
 ·have :=(o1.mono hc).swap (T':=S'.T.map (·.2)) (by have :=ta.gi;rw[hn]at this;exact this)
  dsimp only
  rw[hn];exact this
 ·dsimp only at r4 ⊢
  rw[hn]at r4
  have :=hp k r4
  have :=b k r4
  omega
 ·dsimp only at r4 ⊢
  rw[hn]at r4 ⊢
  rw[hk,hL,o2 k r4 p]
  exact d k r4 p OX Gb
theorem TO.PD(h:TO c kb s)(hc:c<=150)(hK:kb<=100000000)(x:Bl):TO (c+1) (kb+10000) (kC s x):=by
 have hn:=h.ta.hn
 have gO:=h.ta.n2
 have hk:dt s.S x<s.S.n:=by
  unfold dt
  have :=gW x.k (n:=(s.S.n:Int)) ae;omega
 have hu:je x<5:=by
  unfold je
  have :=gW x.unit (n:=5) ae;omega
 obtain⟨y,hy,e1,e2,hb,ob,h5⟩:=h.ta.at hk
 have kN:(s.S.W.H (dt s.S x)).aB[je x]? =some ((s.S.W.H (dt s.S x)).eP (je x)):=by rw[e1];exact gu hb.B hu
 unfold kC
 split
 ·exact h.mono ae ae
 rename_i w1
 split
 ·rename_i w0
  split
  ·exact h.mono ae ae
  rename_i hq
  have ta:=h.ta.PD ae hK (sM x)
  have hd:dW s.S (sM x)=oG s.S (dt s.S x) (je x) eF (pk x.m 3):=by
   unfold dW
   rw[if_pos (show(sM x).jK=0 from w0)]
   rfl
  have Gb:=gW x.m (n:=3) ae
  have oB:=Cb h.ta ae h.oB (sM x)
  have WL:=(h.q0 (dt s.S x)).1
  have hgs:∀k,(s.q.set (dt s.S x) (s.q.getD (dt s.S x) 0+1)).getD k 0=if k=dt s.S x then s.q.getD (dt s.S x) 0+1 else s.q.getD k 0:=fun k=>dx (by rw[h.ql];exact hk) _ _ _
  rw[hd]at ta ⊢
  refine h.Du (Nat.le_succ c) ?_ ?_ ?_ ta (by simpa using h.ql) (fun k=>?_) (fun cc iB o=>⟨s.S.T.map (·.2),?_⟩) (fun k r4=>?_)
  ·unfold oG;dsimp only;split<;>rfl
  ·unfold oG;dsimp only;split<;>rfl
  ·unfold oG;dsimp only;split<;>rfl
  ·rw[hgs]
   split
   ·omega
   ·exact h.q0 k
  ·unfold oG
   dsimp only
   split
   ·rename_i he
    exact o.put h.ta.B hk hu Gb he
   ·rename_i he
    have e3:fl (s.S.W.H (dt s.S x)) (je x) eF (pk x.m 3) xS=s.S.W.H (dt s.S x):=by unfold fl;rw[if_neg he]
    dsimp only
    rw[e3,kE ae]
    exact o.rfl
  ·rw[hgs]
   have hW:(oG s.S (dt s.S x) (je x) eF (pk x.m 3)).W=s.S.W.bU (dt s.S x) (fl (s.S.W.H (dt s.S x)) (je x) eF (pk x.m 3) xS,s.S.W.D (dt s.S x)):=by unfold oG;dsimp only;split<;>rfl
   rw[hW,zM ae]
   by_cases e:k=dt s.S x
   ·rw[if_pos e,if_pos e,e]
    dsimp only
    by_cases he:jn (s.S.W.H (dt s.S x)) (je x) eF (pk x.m 3) xS=0
    ·have gY:(fl (s.S.W.H (dt s.S x)) (je x) eF (pk x.m 3) xS).aB=(s.S.W.H (dt s.S x)).aB.set (je x) ⟨((s.S.W.H (dt s.S x)).eP (je x)).aM++[(fk (s.S.W.H (dt s.S x)) eF (pk x.m 3) xS,(jU (s.S.W.H (dt s.S x)) eF).2.1)],((s.S.W.H (dt s.S x)).eP (je x)).bu⟩:=by
      unfold fl
      rw[if_pos he]
      unfold cQ
      dsimp only
      rw[gy,aA]
     rw[gY]
     have :=uF kN ⟨((s.S.W.H (dt s.S x)).eP (je x)).aM++[(fk (s.S.W.H (dt s.S x)) eF (pk x.m 3) xS,(jU (s.S.W.H (dt s.S x)) eF).2.1)],((s.S.W.H (dt s.S x)).eP (je x)).bu⟩
     dsimp only at this
     rw[aP,List.length_singleton]at this
     unfold lN
     omega
    ·have e3:fl (s.S.W.H (dt s.S x)) (je x) eF (pk x.m 3) xS=s.S.W.H (dt s.S x):=by unfold fl;rw[if_neg he]
     rw[e3]
     unfold lN
     omega
   ·rw[if_neg e,if_neg e]
    omega
 rename_i w0
 have ta:=h.ta.PD ae hK x
 have oB:=Cb h.ta ae h.oB x
 have WX:∀W',fc s.S.W W'->∀k,k<s.S.n->(lN W' k:Int)+s.q.getD k 0<=lN s.S.W k+s.q.getD k 0:=fun W' hU k _=>by rw[LI hU];exact Int.le_refl _
 unfold dW at ta oB ⊢
 rw[if_neg w0,if_neg w1]at ta oB ⊢
 by_cases w2:x.jK=2
 ·rw[if_pos w2]at ta oB ⊢
  by_cases he:vj (s.S.W.H (dt s.S x)) (s.S.W.D (dt s.S x)) (je x)=0
  ·obtain⟨cc,o,a,b,d⟩:=h.wo
   obtain⟨x',Kg,f1,f2,hi,ho,-⟩:=o.at hk
   have un:=ho.un ((s.S.W.H (dt s.S x)).eP (je x)) (by rw[<-f1];exact ax kN)
   have afc:∀p∈((s.S.W.H (dt s.S x)).eP (je x)).aM,p.1.id%4=((dt s.S x:Nat):Int):=fun p hp=>by
    have :=((hi.unit (je x) ((s.S.W.H (dt s.S x)).eP (je x)) (by rw[<-f1];exact kN)).aM p hp).2.1
    rw[this,hi.hid]
   have rh:=o.kO h.ta.B ae ae hk hu he
   have hS:sC s.S (dt s.S x) (je x)=sP {s.S with W:=s.S.W.bU (dt s.S x) (la (s.S.W.H (dt s.S x)) (s.S.W.D (dt s.S x)) (je x),od (s.S.W.H (dt s.S x)) (s.S.W.D (dt s.S x)) (je x))} (dt s.S x) (je x):=by unfold sC;dsimp only;rw[if_pos he]
   have Rh:s.S.P.getD (ix (dt s.S x) (je x)) []=((s.S.W.H (dt s.S x)).eP (je x)).aM.map (·.1):=by rw[aq,h.ta.P.2 _ _ ae hu];rfl
   have yr:=kQ (H:=s.S.W.H (dt s.S x)) (D:=s.S.W.D (dt s.S x)) (je x:Int)
   rw[if_pos he,aA]at yr
   have aaT:∀k,lN (s.S.W.bU (dt s.S x) (la (s.S.W.H (dt s.S x)) (s.S.W.D (dt s.S x)) (je x),od (s.S.W.H (dt s.S x)) (s.S.W.D (dt s.S x)) (je x))) k+(if k=dt s.S x then((s.S.W.H (dt s.S x)).eP (je x)).aM.length else 0)=lN s.S.W k:=fun k=>by
    rw[zM ae]
    by_cases e:k=dt s.S x
    ·rw[if_pos e,if_pos e,e]
     dsimp only
     rw[yr]
     have :=uF kN cC
     have z:cC.aM.length=0:=rfl
     rw[z]at this
     unfold lN
     omega
    ·rw[if_neg e,if_neg e];rfl
   rw[hS]at ta oB ⊢
   refine⟨ta,h.ql,h.q0,⟨_,(rh.1.swap ta.gi),fun k=>?_,fun k r4=>?_,fun k r4 p OX Gb=>?_⟩,oB⟩
   ·split
    ·have h1:=b _ hk
     have h2:=(h.q0 (dt s.S x)).2
     have h3:=aaT (dt s.S x)
     rw[if_pos rfl]at h3
     omega
    ·exact a k
   ·have h1:=b k r4
    have h3:=aaT k
    show((if k=dt s.S x then cc (dt s.S x)+((s.S.W.H (dt s.S x)).eP (je x)).aM.length else cc k:Nat):Int)+(lN (s.S.W.bU (dt s.S x) (la (s.S.W.H (dt s.S x)) (s.S.W.D (dt s.S x)) (je x),od (s.S.W.H (dt s.S x)) (s.S.W.D (dt s.S x)) (je x))) k:Nat)<=s.q.getD k 0
    split
    ·rename_i e
     rw[if_pos e]at h3
     rw[e]at h1 h3 ⊢
     push_cast
     omega
    ·rename_i e
     rw[if_neg e]at h3
     omega
   ·have Mj:=GF (k:=dt s.S x) (((s.S.W.H (dt s.S x)).eP (je x)).aM.map (·.1)) (s:=⟨s.S.T,s.S.ks,s.S.Ls⟩) h.oB.len (fun m hm=>by
     obtain⟨p,hp,rfl⟩:=ay.1 hm
     obtain⟨b1,b2,b3⟩:=un.2 p hp
     refine⟨?_,b3⟩
     rw[b1]
     have :=xO gO hk
     omega) (k:Int) p OX Gb
    have h8:=rh.2 k r4 p
    refine And.symm ⟨fun m hm=>?_,?_⟩
    ·have hm:m∈iP s.S.n (RW s.S.n (s.S.W.bU (dt s.S x) (la (s.S.W.H (dt s.S x)) (s.S.W.D (dt s.S x)) (je x),od (s.S.W.H (dt s.S x)) (s.S.W.D (dt s.S x)) (je x)))) k p:=hm
     rw[h8]at hm
     rcases aN.1 hm with h9|h9
     ·exact(d k r4 p OX Gb).2 m h9
     ·split at h9
      ·rename_i e
       obtain⟨p',Cq,rfl⟩:=ay.1 (aC.1 h9).1
       rw[e]
       exact afc p' Cq
      ·cases h9
    show ri ((s.S.P.getD (ix (dt s.S x) (je x)) []).foldl (sh (dt s.S x)) ⟨s.S.T,s.S.ks,s.S.Ls⟩).ks ((s.S.P.getD (ix (dt s.S x) (je x)) []).foldl (sh (dt s.S x)) ⟨s.S.T,s.S.ks,s.S.Ls⟩).Ls ((k:Int)*100+p)=_
    rw[Rh,Mj]
    have r4:k<s.S.n:=r4
    dsimp only
    rw[(d k r4 p OX Gb).1]
    refine Eq.trans ?_ (congrArg (List.map (·.id)) h8).symm
    rw[aZ]
    congr 1
    by_cases e:k=dt s.S x
    ·rw[if_pos ae,if_pos e]
    ·rw[if_neg ae,if_neg e];rfl
  ·have hS:sC s.S (dt s.S x) (je x)={s.S with W:=s.S.W.bU (dt s.S x) (la (s.S.W.H (dt s.S x)) (s.S.W.D (dt s.S x)) (je x),od (s.S.W.H (dt s.S x)) (s.S.W.D (dt s.S x)) (je x))}:=by unfold sC;dsimp only;rw[if_neg he]
   rw[hS]at ta ⊢
   have yr:=kQ (H:=s.S.W.H (dt s.S x)) (D:=s.S.W.D (dt s.S x)) (je x:Int)
   rw[if_neg he]at yr
   exact h.Du (Nat.le_succ c) rfl rfl rfl ta h.ql h.q0 (fun cc iB o=>⟨_,o.mo h.ta.B hk hu he⟩) (WX _ (fc.set yr))
 rw[if_neg w2]at ta oB ⊢
 by_cases w3:x.jK=3
 ·rw[if_pos w3]at ta oB ⊢
  have hW:(zq s.S (dt s.S x) (je x)).W=s.S.W.bU (dt s.S x) (ou (s.S.W.H (dt s.S x)) (je x),s.S.W.D (dt s.S x)):=by unfold zq;dsimp only;split<;>rfl
  refine h.Du (Nat.le_succ c) ?_ ?_ ?_ ta h.ql h.q0 (fun cc iB o=>⟨s.S.T.map (·.2),?_⟩) (fun k r4=>?_)
  ·unfold zq;dsimp only;split<;>rfl
  ·unfold zq;dsimp only;split<;>rfl
  ·unfold zq;dsimp only;split<;>rfl
  ·rw[hW]
   by_cases he:Bz (s.S.W.H (dt s.S x)) (je x)=0
   ·exact o.back h.ta.B hk hu he
   ·have e3:ou (s.S.W.H (dt s.S x)) (je x)=s.S.W.H (dt s.S x):=by unfold ou;rw[if_neg he]
    rw[e3,kE ae]
    exact o.rfl
  ·rw[hW,zM ae]
   by_cases e:k=dt s.S x
   ·rw[if_pos e,e]
    dsimp only
    by_cases he:Bz (s.S.W.H (dt s.S x)) (je x)=0
    ·have gY:(ou (s.S.W.H (dt s.S x)) (je x)).aB=(s.S.W.H (dt s.S x)).aB.set (je x) cC:=by
      unfold ou
      rw[if_pos he]
      rfl
     rw[gY]
     have :=uF kN cC
     have z:cC.aM.length=0:=rfl
     rw[z]at this
     unfold lN
     omega
    ·have e3:ou (s.S.W.H (dt s.S x)) (je x)=s.S.W.H (dt s.S x):=by unfold ou;rw[if_neg he]
     rw[e3]
     unfold lN
     omega
   ·rw[if_neg e];omega
 rw[if_neg w3]at ta oB ⊢
 by_cases w4:x.jK=4
 ·rw[if_pos w4]at ta oB ⊢
  exact h.Du (Nat.le_succ c) rfl rfl rfl ta h.ql h.q0 (fun cc iB o=>⟨_,o.se' h.ta.B ae _ _⟩) (WX _ (fc.se _ _ _))
 rw[if_neg w4]at ta oB ⊢
 by_cases w5:x.jK=5
 ·rw[if_pos w5]at ta oB ⊢
  exact h.Du (Nat.le_succ c) rfl rfl rfl ta h.ql h.q0 (fun cc iB o=>⟨_,o.de h.ta.B ae iB _⟩) (WX _ (fc.de _ _))
 rw[if_neg w5]at ta oB ⊢
 by_cases w6:x.jK=6
 ·rw[if_pos w6]at ta oB ⊢
  exact h.Du (Nat.le_succ c) rfl rfl rfl ta h.ql h.q0 (fun cc iB o=>⟨_,o.lo _⟩) (WX _ (fc.lo _ _))
 rw[if_neg w6]at ta oB ⊢
 by_cases w7:x.jK=7
 ·rw[if_pos w7]at ta oB ⊢
  exact h.Du (Nat.le_succ c) rfl rfl rfl ta h.ql h.q0 (fun cc iB o=>⟨_,o.tw _⟩) (WX _ (fc.tw _ _))
 rw[if_neg w7]at ta oB ⊢
 by_cases w8:x.jK=8
 ·rw[if_pos w8]at ta oB ⊢
  refine h.Du (Nat.le_succ c) rfl rfl rfl ta h.ql h.q0 (fun cc iB o=>⟨_,o.XI hk _ _⟩) (WX _ ?_)
  unfold Bm
  split
  ·exact fc.set (by rw[aA])
  ·exact fc.refl _
 rw[if_neg w8]at ta oB ⊢
 by_cases w9:x.jK=9
 ·rw[if_pos w9]at ta oB ⊢
  refine h.Du (Nat.le_succ c) rfl rfl rfl ta h.ql h.q0 (fun cc iB o=>⟨_,o.wre h.ta.B ae hk⟩) (fun k r4=>?_)
  obtain⟨C0,g⟩:=h.ta.gi
  dsimp only
  unfold Le
  split
  ·rw[aA]
   have h1:=(g.sg hk).2
   by_cases e:k=dt s.S x
   ·unfold lN
    rw[e,h1,Fq];omega
   ·unfold lN
    rw[(J4 (V:=s.S.W) e).1];omega
  ·exact Int.le_refl _
 rw[if_neg w9]at ta oB ⊢
 by_cases w10:x.jK=10
 ·rw[if_pos w10]at ta oB ⊢
  obtain⟨P,G,e,-⟩:=pC (List.range s.S.n) s.S h.ta.P.1 h.ta.G.1 fun k hk=>by have :=aO.1 hk;omega
  have hC:gS s.S={s.S with P:=P,G:=G,W:=oA s.S.W}:=by unfold gS;rw[e];rfl
  rw[hC]at ta ⊢
  refine h.Du (Nat.le_succ c) rfl rfl rfl ta h.ql h.q0 (fun cc iB o=>⟨_,(o.PR h.ta.B ae ae iB ae).1⟩) (fun k r4=>?_)
  obtain⟨C0,g⟩:=h.ta.gi
  dsimp only
  unfold lN
  rw[xc g r4]
  split
  ·rw[Fq];omega
  ·omega
 rw[if_neg w10]at ta oB ⊢
 exact h.Du (Nat.le_succ c) rfl rfl rfl ta h.ql h.q0 (fun cc iB o=>⟨_,o.rfl⟩) (WX _ (fc.refl _))
end
def A0 (n:Nat):YX:=⟨E7 n,List.replicate n 0⟩
def QS (n:Nat) (xs:List Bl) (k:Nat):YX:=(xs.take k).foldl kC (A0 n)
theorem zh{n:Nat}{xs:List Bl}{k:Nat}{x:Bl}(hx:xs[k]? =some x):QS n xs (k+1)=kC (QS n xs k) x:=by
 unfold QS
 rw[bJ hx,List.foldl_append];rfl
theorem J3(n k:Nat):(List.replicate n (0:Int)).getD k 0=0:=by
 rw[aq,List.getElem?_replicate];split<;>rfl
theorem TO.start{n:Nat}(hn:2<=n/\n<=4):TO 0 3 (A0 n):=by
 obtain⟨o,h⟩:=WO.start hn
 have ta:=nD.start hn
 refine⟨ta,by unfold A0 E7;simp,fun k=>by unfold A0;rw[J3];decide,⟨fun _=>0,o,fun _=>aV _,fun k hk=>?_,fun k hk p _ _=>?_⟩,⟨rfl,fun l hl=>by cases hl⟩⟩
 ·have h5:=ta.um k
  have :lN (nF n n) k=0:=by
   unfold lN zN
   have h6:∀l:List pg,(∀y∈l,y.aM.length+y.bu.length<=0)->(l.map fun y=>y.aM.length).sum=0:=by
    intro l
    induction l with
    |nil=>intro _;rfl
    |cons y l ih=>
     intro h
     have :=h y aj
     rw[aL,List.sum_cons,ih fun z hz=>h z (by simp[hz])]
     omega
   exact h6 _ h5
  show((0:Nat):Int)+(lN (nF n n) k:Nat)<=(List.replicate n (0:Int)).getD k 0
  rw[this,J3];decide
 ·have h1:=h k hk p
  have h1:iP n (RW n (A0 n).S.W) k p=[]:=h1
  refine⟨?_,fun m hm=>?_⟩
  ·show[]=_
   have :iP (A0 n).S.n (RW (A0 n).S.n (A0 n).S.W) k p=[]:=h1
   rw[this];rfl
  ·have :iP (A0 n).S.n (RW (A0 n).S.n (A0 n).S.W) k p=[]:=h1
   rw[this]at hm;cases hm
theorem H7{n:Nat}(hn:2<=n/\n<=4)(xs:List Bl):∀k,k<=xs.length->k<=110->TO k (3+10000*k) (QS n xs k)
 |0,_,_=>TO.start hn
 |k+1,h1,h2=>by
  have a:=H7 hn xs k ae ae
  have hx:xs[k]? =some xs[k]:=ao ae
  rw[zh hx]
  exact(a.PD ae ae _).mono (aD _) ae
theorem RS(S:nS)(k u:Nat)(q:ak):(uq S k u q).n=S.n:=by unfold uq;dsimp only;split<;>rfl
theorem E8(S:nS)(x:Bl):(dW S x).n=S.n:=by
 unfold dW
 split
 ·unfold oG;dsimp only;split<;>rfl
 split
 ·exact RS _ _ _ _
 split
 ·unfold sC;dsimp only;split<;>rfl
 split
 ·unfold zq;dsimp only;split<;>rfl
 split
 ·rfl
 split
 ·rfl
 split
 ·rfl
 split
 ·rfl
 split
 ·rfl
 split
 ·rfl
 split
 ·unfold gS
  dsimp only
  have :∀(l:List Nat) (S:nS),(l.foldl fI S).n=S.n:=by
   intro l
   induction l with
   |nil=>intro _;rfl
   |cons k l ih=>
    intro S
    rw[List.foldl_cons,ih]
    unfold fI gI
    split<;>rfl
  exact this _ _
 ·rfl
theorem ET(n:Nat)(xs:List Bl):∀k,k<=xs.length->(QS n xs k).S.n=n
 |0,_=>rfl
 |k+1,h=>by
  have hx:xs[k]? =some xs[k]:=ao ae
  rw[zh hx]
  unfold kC
  split
  ·exact ET n xs k ae
  split
  ·split
   ·exact ET n xs k ae
   ·exact(E8 _ _).trans (ET n xs k ae)
  ·exact(E8 _ _).trans (ET n xs k ae)
section
variable {c n cw:Nat} {W:Wo} {cc:Nat->Nat} {T:List Ms} {C0:Nat->Ho}
theorem fc.oA(g:GI n W C0 T)(u:UP n W):fc W (WB.oA W):=fun i=>by
 by_cases hi:i<n
 ·rw[xc g hi,if_neg (by rw[(u i hi).1];decide)]
 ·have h1:=Vp W
  have hn:=g.hn
  unfold Wo.H Wo.at'
  rw[aq,aq,br ae,br ae]
theorem fc.calm(wM:cw<=1000)(iB:∀k,cc k<=20)(hc:c<=200):∀(r:Nat) {W:Wo} {kw:Nat},WO n c W cc T->c6 cw kw W->kw+10000*r<=1000000000000->UP n W->fc W (WB.calm r W)
 |0,W,_,_,_,_,_=>fc.refl W
 |r+1,W,kw,o,hB,hK,u=>by
  rw[Nat.mul_succ]at hK
  obtain⟨k9,sH⟩:kw+10000<=1000000000000/\kw+10000+10000*r<=1000000000000:=by
   have hz:∀z:Nat,kw+(z+10000)<=1000000000000->kw+10000<=1000000000000/\kw+10000+z<=1000000000000:=fun z h=>by omega
   exact hz _ hK
  obtain⟨h1,h2,h3⟩:=o.PR hB k9 wM iB hc
  obtain⟨C1,g⟩:=o.gi
  exact(fc.oA g u).trans (fc.calm wM iB hc r h1.1 h2 sH h3.up)
end
def qf (r:Nat) (S:nS):nS:={gS S with W:=calm r (gS S).W}
def QX (k:Nat) (p:Int) (m:Ms):Bool:=decide (m.id%4=(k:Int))&&decide (m.pri=p)
theorem TO.end{c kb:Nat}{s:YX}(h:TO c kb s)(hc:c<=110)(hK:kb<=100000000){r:Nat}(hr:7<=r/\r<=10):nD (c+1) (kb+110000) (qf r s.S)/\(qf r s.S).n=s.S.n/\(qf r s.S).ks=s.S.ks/\(qf r s.S).Ls=s.S.Ls/\
 ∀k,k<s.S.n->cj ((qf r s.S).W.H k) ((nx s.S.n k:Nat):Int)=true/\aW (((qf r s.S).W.H k).dy (nx s.S.n k))=[]/\ie ((qf r s.S).W.H (nx s.S.n k)) eV=0/\
  ∀p:Int,0<=p->p<3->((jL ((qf r s.S).W.H (nx s.S.n k)) eV).filter (QX k p)).map (·.id)=ri s.S.ks s.S.Ls ((k:Int)*100+p):=by
 have hn:=h.ta.hn
 have gO:=h.ta.n2
 obtain⟨P,G,e,-⟩:=pC (List.range s.S.n) s.S h.ta.P.1 h.ta.G.1 fun k hk=>by have :=aO.1 hk;omega
 have hC:gS s.S={s.S with P:=P,G:=G,W:=oA s.S.W}:=by unfold gS;rw[e];rfl
 have hE:qf r s.S={s.S with P:=P,G:=G,W:=calm r (oA s.S.W)}:=by unfold qf;rw[hC]
 obtain⟨cc,o,a,b,d⟩:=h.wo
 have t1:=(h.ta.calm ae).mono (Nat.le_succ c) (aD _)
 obtain⟨yu,hd⟩:=o.done h.ta.B ae ae a ae (r:=r) ae
 obtain⟨h1,h2,h3⟩:=o.PR h.ta.B ae ae a ae
 have gY:=fc.calm (cw:=c) ae a ae r h1.1 h2 ae h3.up
 have EA:(gS s.S).n=s.S.n:=by rw[hC]
 have Pk:(gS s.S).W=oA s.S.W:=by rw[hC]
 have t2:nD (c+1) (kb+110000) (qf r s.S):=by
  obtain⟨C1,g1⟩:=t1.gi
  obtain⟨C2,g2,tV⟩:=GI.calm r g1 t1.B ae
  have :=t1.Du (W':=calm r (gS s.S).W) (b:=100000) (tV.mono (aD _) ae) (by rw[Pk];exact gY) ⟨C2,g2⟩
  exact this.mono (aD _) ae
 refine⟨t2,by rw[hE],by rw[hE],by rw[hE],fun k hk=>?_⟩
 rw[hE]
 dsimp only
 have nL:=lU (n:=s.S.n) (k:=k) gO.1
 have gN:=xO gO hk
 have tV:=t2.B
 rw[hE]at tV
 dsimp only at tV
 obtain⟨x,hx,e1,e2,hi,ho,ob⟩:=yu.1.at hk
 obtain⟨y,hy,f1,f2,hj,U3,WU⟩:=yu.1.at nL
 have qA:=(tV.hs _ x hx).B
 have QY:=(tV.hs _ y hy).B
 obtain⟨d1,d2⟩:=hd k hk
 rw[cJ hx]at d1
 have d1:aW ((bK ((k:Nat):Int) x.2).dY (nx s.S.n k))=[]:=d1
 rw[<-ho.kq,kB qA.ways ae]at d1
 have hrk:cj x.1 ((nx s.S.n k:Nat):Int)=true:=bM.2 ⟨by omega,by omega,by rw[hi.hid];omega⟩
 have yY:=Wr U3
 have hlc:=FW nL gO WU
 have htE:ie y.1 eV=0:=by
  unfold ie
  rw[yY]
  dsimp only
  rw[if_neg (fun x=>by rw[hlc]at x;exact absurd x.2 ai)]
 have htL:jL y.1 eV=(RW s.S.n (calm r (oA s.S.W)) (nx s.S.n k)).i:=by
  unfold jL
  rw[if_pos htE,yY,cJ hy]
  show dF (y.1.ec 1)=aW ((bK ((nx s.S.n k:Nat):Int) y.2).dY 5)
  rw[<-U3.kq]
  have dS:=(ik yY).1
  rw[show 5=4+1 from rfl,GY QY.ways dS]
  unfold dF aW
  congr 1
  apply List.filter_congr
  intro e he
  have hm:gE 5 e∈hv y.1:=fH.2 ⟨y.1.ec 1,lI QY.ways dS,e,he,rfl⟩
  have a1:e.iS<0:=U3.iS (gE 5 e) hm
  unfold f_
  simp[a1]
 refine⟨by rw[e1];exact hrk,by rw[e1];exact d1,by rw[f1];exact htE,fun p OX Gb=>?_⟩
 rw[f1,htL]
 obtain⟨d3,d4⟩:=d k hk p OX Gb
 rw[d3,<-d2 p]
 congr 1
 have d5:=d2 p
 apply Eq.symm
 rw[show(QX k p)=fun m=>decide (m.id%4=(k:Int))&&eu p m from rfl,<-bp]
 refine(aT.2 fun m hm=>?_).symm
 rw[d5]at hm
 exact decide_eq_true (d4 m hm)
open Go Go.RowKit
theorem Ff{α:Type}{cf:α->List Value}{e0:α}{z:Value}(hc:cf e0=[z]):∀m:Nat,(List.replicate m e0).flatMap cf=List.replicate m z
 |0=>rfl
 |m+1=>by rw[List.replicate_succ,aR,Ff hc m,hc,List.replicate_succ];rfl
section
variable {P:Program} {ops:Array Oper} {d:Bool} {Q:Exit->Act->World->Prop} {n:Nat} {D:List Deferred} {w0:World} {G:Env} {L R:List HP} {l:List (Kd×Oper)} {k:Kd}
 {t:Nat} {ty T E:TypeId} {pos:String} {af:Array Edge} {x y:Operand}
theorem KO.aeE{α:Type}{cf:α->List Value}(e0:α){z:Value}{m dP:Nat}{kl kc:IntKind}(hk:(!d||(k== .dm||k== .write))=true)(hx:ev G x=some (.int kl (m:Nat)))(hy:ev G y=some (.int kc (m:Nat)))(hT:P.underlying T=some (.slice E))(hi:(P.info? E).map (fun i=>(i.zero,i.size,i.bytes))=some (some z,1,dP))(hz:z.cells=#[z])(hc:cf e0=[z])(hb:dP *m<=281474976710656)(hm:m<=maxLen)(Cx:(m:Int)<=9223372036854775807)(ht:Nat.blt t n=true)(h:∀bb,KO P ops d Q n D w0 ((t,.slice (some ⟨bb,0,none⟩) m m)::G) (SL E 1 cf (.slice (some ⟨bb,0,none⟩) m m) (List.replicate m e0)::L) l):KO P ops d Q n D w0 G L ((k,⟨some t,.makeSlice T x y,ty,pos,af,none⟩)::l):=by
 obtain⟨i0,Ko,xU,n0,qN⟩:=info_parts hi
 refine KO.pU hk (F:=fun bb=>.slice (some ⟨bb,0,none⟩) m m) (N:=fun bb=>SL E 1 cf (.slice (some ⟨bb,0,none⟩) m m) (List.replicate m e0)::L) (fun a w ha hw=>⟨w.heap.size,w.alloc (.cells (madeCells z.cells (m *1)) E),?_,Ext.alloc w _,?_⟩) ht h
 ·have jF:(i0.bytes:Int)*(m:Int)<=281474976710656:=by
   have h3:((i0.bytes *m:Nat):Int)<=281474976710656:=by rw[qN];omega
   rwa [Int.natCast_mul]at h3
  have hr:=run_make (P:=P) w T E i0 z hT Ko xU kl kc m m ae (Int.le_refl _) jF Cx
  simp only[aA,n0]at hr
  simp[execOp,ha.eval hx,ha.eval hy]
  rw[hr];simp
 ·have sF:=hw.alloc (.cells (madeCells z.cells (m *1)) E)
  have :=C6 (E:=E) (sz:=1) (cf:=cf) (xs:=List.replicate m e0) (cap:=m) sF (by rw[List.length_replicate];exact aD _) hm (by rw[size_madeCells]) (by
   rw[hz,Nat.mul_one,toList_madeCells_one,Ff hc,List.length_replicate,Nat.mul_one,List.take_replicate,Nat.min_self])
  rw[List.length_replicate]at this
  exact this
end
theorem CB{ks:List Int}{Ls:List (List Int)}{x:Int}{i:Nat}{Li:List Int}(h:lP ks x=some i)(hl:Ls[i]? =some Li):ri ks Ls x=Li:=by
 unfold ri;rw[h];dsimp only;rw[aq,hl];rfl
theorem Mx{ks:List Int}{Ls:List (List Int)}{x:Int}(h:lP ks x=none):ri ks Ls x=[]:=by unfold ri;rw[h]
theorem XL{p:Ms->Bool}{l:List Ms}{w:List Int}(hw:(l.filter p).map (·.id)=w){j:Nat}{m:Ms}(hm:l[j]? =some m)(hp:p m=true):w[((l.take j).filter p).length]? =some m.id/\((l.take (j+1)).filter p).length=((l.take j).filter p).length+1:=by
 have hj:=(au.1 hm).1
 have e1:l.take (j+1)=l.take j++[m]:=bJ hm
 have e2:l=l.take j++m::l.drop (j+1):=by
  have h1:=List.take_append_drop j l
  rw[List.drop_eq_getElem_cons hj]at h1
  rw[(au.1 hm).2]at h1
  exact h1.symm
 constructor
 ·rw[<-hw]
  conv=>lhs;rw[show l.filter p=(l.take j).filter p++m::(l.drop (j+1)).filter p by conv=>lhs;rw[e2,bB,bE,if_pos hp]]
  rw[aZ,bf aj]
  simp
 ·rw[e1,bB];simp[hp]
theorem PO{p:Ms->Bool}{l:List Ms}{j:Nat}{m:Ms}(hm:l[j]? =some m)(hp:p m=false):((l.take (j+1)).filter p).length=((l.take j).filter p).length:=by
 have e1:l.take (j+1)=l.take j++[m]:=bJ hm
 rw[e1,bB];simp[hp]
theorem Ll{n:Nat}{H:Ho}(hB:cK n H)(s:ak):∀m∈jL H s,0<=m.id:=fun m hm=>by
 unfold jL at hm
 split at hm
 case isTrue h0=>
  cases hq:H.qI s with
  |none=>unfold ie at h0;rw[hq]at h0;cases h0
  |some i=>
   rw[hq]at hm
   have dS:=(ik hq).1
   have hb:=hB.qs (H.ec i) (ax (lI hB.ways dS))
   have hm:m∈dF (H.ec i):=hm
   unfold dF at hm
   obtain⟨e,he,rfl⟩:=ay.1 hm
   exact(hb.ids e (aC.1 he).1).1
 case isFalse=>cases hm
section
variable {E:TypeId}
theorem TG{os:List Value}{ks:List Int}{Ls:List (List Int)}(ho:os.length=ks.length)(hl:Ls.length=ks.length)(x:Int):
 ∃(wv:Value) (F:HP),(eI (ks.zip os) x).getD (.slice none 0 0)=wv/\(∀w0 w L,St w0 (cr (fun v l=>SL E 1 iC v l) os Ls::L) w->St w0 (SL E 1 iC wv (ri ks Ls x)::F::L) w)/\
  ∀w0 w L,St w0 (SL E 1 iC wv (ri ks Ls x)::F::L) w->St w0 (cr (fun v l=>SL E 1 iC v l) os Ls::L) w:=by
 cases hi:lP ks x with
 |none=>
  refine⟨.slice none 0 0,cr (fun v l=>SL E 1 iC v l) os Ls,by rw[t_ _ _ _ ho,hi];rfl,fun w0 w L h=>?_,fun w0 w L h=>?_⟩
  ·rw[Mx hi];exact cM h
  ·exact h.all (gP.drop gP.refl)
 |some i=>
  have qn:=uH hi
  obtain⟨ov,Mj⟩:∃e,os[i]? =some e:=⟨_,ao (show i<os.length by omega)⟩
  obtain⟨Li,Vg⟩:∃e,Ls[i]? =some e:=⟨_,ao (show i<Ls.length by omega)⟩
  refine⟨ov,cr (fun v l=>SL E 1 iC v l) (os.eraseIdx i) (Ls.eraseIdx i),by rw[t_ _ _ _ ho,hi];simp[Mj],fun w0 w L h=>?_,fun w0 w L h=>?_⟩
  ·rw[CB hi Vg];exact dD (f:=fun v l=>SL E 1 iC v l) Mj Vg h
  ·rw[CB hi Vg]at h;exact j0 (f:=fun v l=>SL E 1 iC v l) Mj Vg h
end
theorem zp(S:nS):dW S ⟨10,0,0,0,0⟩=gS S:=by simp[dW]
end WB
namespace Go.Proofs.YtjhogocabcdjbabGreatDoor
open Tryz
open Go Go.RowKit WB
theorem KC.ab1{α β γ:Type}{f:α->β->HP}{P:Program}{g:FuncId}{args:Array Value}{w0:World}{L R:List HP}{ps:List α}{xs:List β}{p:α}{x:β}{i:Nat}{φ:γ->Value->Prop}{A:γ->HP}(hp:ps[i]? =some p)(hx:xs[i]? =some x)(pk:bQ L (cr f ps xs) R)(h:∀L,KC P g args w0 (f p x::L) (fun u M=> ∃c,φ c u/\M=A c::f p x::L)):
 KC P g args w0 L (fun u M=> ∃c,φ c u/\M=A c::cr f ps xs::R):=by
 have e:xs.set i x=xs:=by obtain⟨h2,rfl⟩:=au.1 hx;exact List.set_getElem_self h2
 have :=KC.Py hp hx pk h
 rwa [e]at this
theorem KC.hdR{γ:Type}{P:Program}{g:FuncId}{args:Array Value}{w0:World}{L:List HP}{p:Nat×Nat}{x:Ho×Dk}{φ:γ->Value->Prop}{A:γ->HP}(h:∀L,KC P g args w0 (dL p.1 p.2 x.1::L) (fun u M=> ∃c,φ c u/\M=A c::dL p.1 p.2 x.1::L)):KC P g args w0 (vJ p x::L) (fun u M=> ∃c,φ c u/\M=A c::vJ p x::L):=
 KC.perm (fun w hw=>hw.split) (KC.pA (h (fR p.2 x.2::L)) (by
  rintro v M ⟨c,h1,rfl⟩
  exact⟨_,⟨c,h1,rfl⟩,fun w hw=>((hw.gk (A:=dL p.1 p.2 x.1) (B:=fR p.2 x.2) (.tail .head) (.tail .head)).join).gJ⟩))
theorem Nr(w0:World)(L:List HP)(vl:Value)(a:Int)(xs:List Bl)(qm:∀w,St w0 L w->x9 w 5 nP vl xs)(hT:qH w0)(hM:qK w0)(hQ:YP w0):
 KE prog 5 #[.int .i64 a,vl] w0 L (fun u M=>u=.bool true/\M=L):=by
 refine KE.mk (n:=205) func5 rfl ntmps5 aj ?_
 intro w hw
 have Rc:qH w:=hT.ext (Ext.ct hw.below)
 have Rj:qK w:=hM.ext (Ext.ct hw.below)
 have hQw:YP w:=hQ.ext (Ext.ct hw.below)
 obtain⟨sa,cap,rfl,hc⟩:=qm w hw
 have fin:∀(w':World) (M:List HP),St w M w'->∃v L',Ending.returned (.bool true)=Ending.returned v/\(v=.bool true/\L'=L)/\St w0 L' w'/\Below w.heap.size w w':=fun w' M hs=>⟨_,_,rfl,⟨rfl,rfl⟩,hw.aE hs.below,hs.below⟩
 have Gb:=gW a (n:=3) ai
 have hml:(4:Nat)<=maxLen:=by decide
 refine A3 ?_
 by_cases uT:(xs.length:Int)>110
 ·refine Z8 ?_
  refine KO.len rfl underlying22 rfl ?_
  refine vC ?_
  refine Z2 ?_
  refine K.cV rfl (by simpa using uT) ?_
  refine A_ ?_
  refine KQ.bG rfl rfl (fun w' hs=>fin w' _ hs)
 refine Z8 ?_
 refine KO.len rfl underlying22 rfl ?_
 refine vC ?_
 refine Z2 ?_
 refine K.dp rfl (by simpa using uT) ?_
 refine xB ?_
 refine KO.cl (cp:=[]) rfl rfl rfl call21 rfl (MJ w _ Rc Rj) ?_;rintro v' L' ⟨rfl,rfl⟩
 refine Ee ?_
 refine Z8 ?_
 refine KO.cl (cp:=[]) rfl rfl rfl call22 rfl (RP w _ a Rc Rj) ?_;rintro v' L' ⟨⟨bt,bw,hd⟩,hN,rfl,rfl⟩;dsimp only at hN ⊢
 refine lK ?_
 obtain⟨n,hn,gO⟩:∃n:Nat,2+(pk a 3).toNat=n/\2<=n/\n<=4:=⟨_,rfl,by omega,by omega⟩
 rw[hn]
 refine Z8 ?_
 refine KO.AF rfl underlying52 rfl ?_
 refine BL ?_
 refine K.cx (fun _ h=>fA h) ?_
 rintro⟨⟨us,vs,os,mT,mO⟩,hV⟩
 dsimp only
 refine kp ?_
 refine Z70 ?_
 refine tL ?_
 refine KO.aeE (cf:=iC) (m:=n) (dP:=8) (0:Int) rfl rfl rfl underlying23 bH rfl rfl ae ae ae rfl ?_;intro HJ
 refine lK ?_
 refine K.conv (fun w' h=>dZ ⟨us,vs,os,mT,mO⟩ hV (h.all (M:=vH bt bw ⟨us,vs,os,mT,mO⟩ (E7 n) (SL 3 1 iC (.slice (some ⟨HJ,0,none⟩) n n) (List.replicate n (0:Int))::jJ bw hd (E7 n).W::[])) Y7)) ?_
 clear hV
 refine dR ?_
 refine Z7 ?_
 refine K8 ?_
 refine K.loop (fun k:Nat=>[(1,.slice sa xs.length cap),(5,bA bt),(6,.slice (some ⟨HJ,0,none⟩) n n),(7,.int .i64 (k:Nat))]) (fun k=>[ll bt bw (QS n xs k).S,jJ bw hd (QS n xs k).S.W,SL 3 1 iC (.slice (some ⟨HJ,0,none⟩) n n) (QS n xs k).q]) (fun k=>k<=xs.length) (fun k=>xs.length-k) 0 (aV _) ⟨rfl,rfl,rfl,rfl,trivial⟩ (fun w' aX=>aX.all Y7) ?_
 intro k hk
 have Mq:=H7 gO xs k hk ae
 have Xq:=ET n xs k hk
 refine sy ?_
 refine KO.len rfl underlying22 rfl ?_
 refine rD ?_
 refine K.bz rfl (fun h1=>?_) (fun h1=>?_)
 ·have qn:k<xs.length:=by omega
  obtain⟨x,hx⟩:∃e,xs[k]? =some e:=⟨xs[k],ao qn⟩
  obtain⟨ad,rfl,iX⟩:=hc k x hx
  have c8:=zh (n:=n) hx
  have Tt:=H7 gO xs (k+1) ae ae
  rw[c8]at Tt
  generalize QS n xs k=s at Mq Xq c8 Tt ⊢
  obtain⟨S,q⟩:=s
  dsimp only at Xq ⊢
  have F7:q.length=n:=Mq.ql.trans Xq
  obtain⟨kx,Kj,np⟩:∃i:Nat,dt S x=i/\i<n:=⟨_,rfl,by unfold dt;have :=gW x.k (n:=(S.n:Int)) ae;omega⟩
  have hpk:pk x.k (S.n:Nat)=(kx:Nat):=by unfold dt at Kj;have :=gW x.k (n:=(S.n:Int)) ae;omega
  obtain⟨c,hcq⟩:∃e,q[kx]? =some e:=⟨q[kx],ao ae⟩
  have hqd:q.getD kx 0=c:=by rw[aq,hcq];rfl
  have Ng:=Mq.q0 kx
  dsimp only at Ng
  rw[hqd]at Ng
  have rX:x.jK=1->kC ⟨S,q⟩ x=⟨S,q⟩:=fun e=>by unfold kC;rw[if_pos e]
  have aay:x.jK=0->20<=c->kC ⟨S,q⟩ x=⟨S,q⟩:=fun e h=>by unfold kC;dsimp only;rw[if_neg ae,if_pos e,Kj,hqd,if_pos h]
  have aax:x.jK=0->¬20<=c->kC ⟨S,q⟩ x=⟨dW S (sM x),q.set kx (c+1)⟩:=fun e h=>by unfold kC;dsimp only;rw[if_neg ae,if_pos e,Kj,hqd,if_neg h]
  have sF:x.jK≠1->x.jK≠0->kC ⟨S,q⟩ x=⟨dW S x,q⟩:=fun e h=>by unfold kC;dsimp only;rw[if_neg e,if_neg h]
  clear Kj hqd
  obtain⟨xw,xk,xn,xm,xu⟩:=x
  dsimp only at hpk rX aay aax sF
  refine HU ?_
  refine ji ?_
  refine KO.II rfl rfl runUnderlying22 sizeOf38 aQ ae rfl ?_
  refine KO.L3 (cs:=(nP ⟨xw,xk,xn,xm,xu⟩).toArray) rfl rfl isAgg38 sizeOf38 rfl iX rfl ?_
  refine KO.alloc rfl zeroValue38 aQ rfl ?_;intro b8
  refine KO.pD rfl rfl rfl aQ (by exact sizeOf38) aQ bZ aQ ?_
  refine Z0 ?_
  refine K.conv (fun w' h=>h.pick (A:=ll bt bw S) bo) ?_
  refine K.cx (fun _ h=>fA h) ?_
  rintro⟨⟨us,vs,os,mT,mO⟩,hV⟩
  dsimp only
  refine K.draw [.pure,.read,.pure,.pure,.pure,.read,.dm,.pure] [0,1,2,3,4,5,6,7] bH bH ?_
  refine KO.gd (off:=1) rfl runUnderlying38 rfl rfl sizeOf3 rfl ?_
  refine vy ?_
  refine A6 ?_
  refine tL ?_
  refine KO.ce (cp:=[]) rfl rfl rfl call13 rfl (m_ w _ xk (S.n:Nat) ae ae) ?_;rintro v' L' ⟨rfl,rfl⟩;rw[hpk]
  refine mB ?_
  refine Yq ?_
  refine tJ ?_
  refine K.bz rfl (fun Kw=>?_) (fun Kw=>?_)
  ·refine ZB ?_
   refine He ?_
   refine KQ.round (k+1) ae ae ⟨rfl,rfl,rfl,rfl,trivial⟩ (fun w' aX=>?_)
   rw[c8,rX Kw]
   exact(dZ ⟨us,vs,os,mT,mO⟩ hV (aX.all (M:=vH bt bw ⟨us,vs,os,mT,mO⟩ S (jJ bw hd S.W::SL 3 1 iC (.slice (some ⟨HJ,0,none⟩) n n) q::[])) Y8)).all nH
  refine xB ?_
  refine Yq ?_
  refine tJ ?_
  refine K.bz rfl (fun Rk=>?_) (fun Rk=>?_)
  ·refine sy ?_
   refine acE ?_
   refine vO ?_
   refine Z2 ?_
   refine K.bz rfl (fun Po=>?_) (fun Po=>?_)
   ·refine ZB ?_
    refine He ?_
    refine KQ.round (k+1) ae ae ⟨rfl,rfl,rfl,rfl,trivial⟩ (fun w' aX=>?_)
    rw[c8,aay Rk Po]
    exact(dZ ⟨us,vs,os,mT,mO⟩ hV (aX.all (M:=vH bt bw ⟨us,vs,os,mT,mO⟩ S (jJ bw hd S.W::SL 3 1 iC (.slice (some ⟨HJ,0,none⟩) n n) q::[])) Y8)).all nH
   refine Z6 ?_
   refine ji ?_
   refine acE ?_
   refine vP ?_
   refine KO.eX (i:=kx) rfl rfl runUnderlying23 sizeOf3 rfl ae rfl ?_
   refine KO.Y_ (i:=kx) (j:=0) (sz:=1) (cf:=iC) (us:=[.int .i64 (c+1)]) rfl rfl rfl aQ za aQ bo (fun _=>rfl) hcq rfl (c+1) rfl ?_
   refine Z2 ?_
   refine dR ?_
   refine Qp ?_
   (refine KO.JV rfl rfl rfl aQ za aQ bo aQ Y0 ?_)
   refine Z0 ?_
   refine K.conv (fun w' h=>dZ ⟨us,vs,os,mT,mO⟩ hV (h.all (M:=vH bt bw ⟨us,vs,os,mT,mO⟩ S (jJ bw hd S.W::SL 3 1 iC (.slice (some ⟨HJ,0,none⟩) n n) (q.set kx (c+1))::bP b8 (.cells (nP ⟨xw,xk,2,xm,xu⟩).toArray 38 (0,0))::[])) Y7)) ?_
   clear hV
   refine Z8 ?_
   refine KO.uS rfl rfl isAgg38 sizeOf38 bo aQ rfl ?_
   refine KO.cl (cp:=[]) rfl rfl rfl call23 rfl (De w _ bt bw k (3+10000*k) hd hN S (sM ⟨xw,xk,xn,xm,xu⟩) Rc Rj hQw Mq.ta Mq.oB ae ae) ?_;rintro v' L' ⟨rfl,rfl⟩
   refine Z0 ?_
   have kt:=aax Rk Po
   rw[kt]at Tt c8
   refine K.cx (fun _ h=>fA h) ?_
   rintro⟨⟨us,vs,os,mT,mO⟩,hV⟩
   dsimp only
   have abp:=NK (bw:=bw) (n:=(dW S (sM ⟨xw,xk,xn,xm,xu⟩)).n) (V:=⟨us,vs,os,mT,mO⟩) hV.us hV.vs
   refine kp ?_
   refine acu ?_
   refine qp ?_
   refine GZ ?_
   refine JB ?_
   refine KQ.round (k+1) ae ae ⟨rfl,rfl,rfl,rfl,trivial⟩ (fun w' aX=>?_)
   rw[c8]
   exact(dZ ⟨us,vs,os,mT,mO⟩ hV (aX.all (M:=vH bt bw ⟨us,vs,os,mT,mO⟩ (dW S (sM ⟨xw,xk,xn,xm,xu⟩)) (jJ bw hd (dW S (sM ⟨xw,xk,xn,xm,xu⟩)).W::SL 3 1 iC (.slice (some ⟨HJ,0,none⟩) n n) (q.set kx (c+1))::[])) Y11)).all nH
  ·refine K.conv (fun w' h=>dZ ⟨us,vs,os,mT,mO⟩ hV (h.all (M:=vH bt bw ⟨us,vs,os,mT,mO⟩ S (jJ bw hd S.W::SL 3 1 iC (.slice (some ⟨HJ,0,none⟩) n n) q::bP b8 (.cells (nP ⟨xw,xk,xn,xm,xu⟩).toArray 38 (0,0))::[])) Y7)) ?_
   clear hV
   refine xv ?_
   refine KO.uS rfl rfl isAgg38 sizeOf38 bo aQ rfl ?_
   refine KO.cl (cp:=[]) rfl rfl rfl call23 rfl (De w _ bt bw k (3+10000*k) hd hN S ⟨xw,xk,xn,xm,xu⟩ Rc Rj hQw Mq.ta Mq.oB ae ae) ?_;rintro v' L' ⟨rfl,rfl⟩
   refine Z0 ?_
   have kt:=sF Kw Rk
   rw[kt]at Tt c8
   refine K.cx (fun _ h=>fA h) ?_
   rintro⟨⟨us,vs,os,mT,mO⟩,hV⟩
   dsimp only
   have abp:=NK (bw:=bw) (n:=(dW S ⟨xw,xk,xn,xm,xu⟩).n) (V:=⟨us,vs,os,mT,mO⟩) hV.us hV.vs
   refine kp ?_
   refine acu ?_
   refine qp ?_
   refine GZ ?_
   refine JB ?_
   refine KQ.round (k+1) ae ae ⟨rfl,rfl,rfl,rfl,trivial⟩ (fun w' aX=>?_)
   rw[c8]
   exact(dZ ⟨us,vs,os,mT,mO⟩ hV (aX.all (M:=vH bt bw ⟨us,vs,os,mT,mO⟩ (dW S ⟨xw,xk,xn,xm,xu⟩) (jJ bw hd (dW S ⟨xw,xk,xn,xm,xu⟩).W::SL 3 1 iC (.slice (some ⟨HJ,0,none⟩) n n) q::[])) Y11)).all nH
 obtain rfl:k=xs.length:=by omega
 clear hc
 generalize QS n xs xs.length=s at Mq Xq ⊢
 obtain⟨S,q⟩:=s
 dsimp only at Xq ⊢
 have U4:xs.length<=110:=by omega
 generalize xs.length=m at Mq U4 uT hk h1 ⊢
 obtain⟨tE,eN,ek,eL,hE⟩:=Mq.end U4 ae (r:=10) ae
 have t1:=Mq.ta.PD ae ae ⟨10,0,0,0,0⟩
 rw[zp]at t1
 dsimp only at tE eN ek eL hE t1
 simp only[Xq]at hE
 unfold qf at tE eN ek eL hE
 obtain⟨C,hC⟩:∃C,gS S=C:=⟨_,rfl⟩
 rw[hC]at tE eN ek eL t1
 simp only[hC]at hE
 obtain⟨W2,hW2⟩:∃W2,calm 10 C.W=W2:=⟨_,rfl⟩
 rw[hW2]at tE eN ek eL
 simp only[hW2]at hE
 obtain⟨E,hEE⟩:∃E:nS,E={C with W:=W2}:=⟨_,rfl⟩
 rw[<-hEE]at tE eN ek eL
 have hE:∀k,k<n->cj (E.W.H k) ((nx n k:Nat):Int)=true/\aW ((E.W.H k).dy (nx n k))=[]/\ie (E.W.H (nx n k)) eV=0/\∀p:Int,0<=p->p<3->((jL (E.W.H (nx n k)) eV).filter (QX k p)).map (·.id)=ri E.ks E.Ls ((k:Int)*100+p):=by
  rw[ek,eL,hEE]
  exact hE
 have hO:=Mq.oB
 have hLs:=hO.len
 refine xr ?_
 refine KO.xe (pl:=[(0,1),(1,1),(2,1),(3,1),(4,1)]) rfl zeroValue38 runUnderlying38 (by intro w;simp[sizeOf3]) aQ rfl ?_
 refine KO.cl (cp:=[]) rfl rfl rfl call23 rfl (De w _ bt bw m (3+10000*m) hd hN S ⟨10,0,0,0,0⟩ Rc Rj hQw Mq.ta hO ae ae) ?_;rintro v' L' ⟨rfl,rfl⟩;rw[zp,hC]
 refine Z0 ?_
 refine K.cx (fun _ h=>fA h) ?_
 rintro⟨⟨us,vs,os,mT,mO⟩,hV⟩
 dsimp only
 refine kp ?_
 refine Uq ?_
 refine KO.ld rfl rfl isAgg55 bZ aQ rfl ?_
 refine KO.cl (cp:=[]) rfl rfl rfl call25 rfl (KC.qv bo (C8 w _ bw (m+1) (3+10000*m+10000) 10 hd C.W (.inl hN) Rc Rj t1.B ae ai ae)) ?_;rintro v' L' ⟨rfl,rfl⟩;rw[hW2]
 refine Z0 ?_
 refine K.conv (L':=[ll bt bw E,jJ bw hd E.W]) (fun w' h=>by
  rw[hEE]
  exact dZ (S:={C with W:=W2}) ⟨us,vs,os,mT,mO⟩ hV (h.all (M:=vH bt bw ⟨us,vs,os,mT,mO⟩ {C with W:=W2} (jJ bw hd W2::[])) Y8)) ?_
 clear hV t1 hC hW2 hEE
 refine Z8 ?_
 refine KO.cl (cp:=[]) rfl rfl rfl call24 rfl (RL w _ bt bw (m+1) (3+10000*m+110000) hd E tE ae (Wc w)) ?_;rintro v' L' ⟨rfl,rfl⟩
 refine Ee ?_
 have hEn:E.n=n:=eN.trans Xq
 have hEO:E.Ls.length=E.ks.length:=by rw[ek,eL];exact hLs
 have hnE:=tE.hn
 refine dR ?_
 refine Z7 ?_
 refine K8 ?_
 refine K.loop (fun j:Nat=>[(5,bA bt),(10,.int .i64 (j:Nat))]) (fun _=>[ll bt bw E,jJ bw hd E.W]) (fun j=>j<=n) (fun j=>n-j) 0 (aV _) ⟨rfl,rfl,trivial⟩ (fun w' aX=>aX.all nH) ?_
 intro j hj
 refine K.cx (fun _ h=>fA h) ?_
 rintro⟨⟨us,vs,os,mT,mO⟩,hV⟩
 dsimp only
 refine K.conv (fun w' h=>h.pick (A:=jJ bw hd E.W) bo) ?_
 refine K.cx (fun _ h=>dM h) ?_
 rintro⟨⟨hv,dv,wv,ps⟩,Kv,e8,e9⟩
 dsimp only at Kv e8 e9 ⊢
 refine K.conv (L':=oi bw ⟨hv,dv,wv,ps⟩ E.W (vH bt bw ⟨us,vs,os,mT,mO⟩ E [])) (fun w' h=>h.all nH) ?_
 have back:∀w',St w (oi bw ⟨hv,dv,wv,ps⟩ E.W (vH bt bw ⟨us,vs,os,mT,mO⟩ E [])) w'->St w [ll bt bw E,jJ bw hd E.W] w':=fun w' h=>l4 (V:=⟨hv,dv,wv,ps⟩) (TV:=⟨us,vs,os,mT,mO⟩) Kv e8 e9 hV h
 refine jI ?_
 refine A6 ?_
 refine vy ?_
 refine rD ?_
 refine K.bz rfl (fun Zs=>?_) (fun Zs=>?_)
 ·have ED:j<n:=by omega
  have nL:=lU (n:=n) (k:=j) gO.1
  obtain⟨x,hx,exH,-,vI,-,-⟩:=tE.at (k:=j) ae
  obtain⟨y,hy,eyH,-,QZ,-,-⟩:=tE.at (k:=nx n j) ae
  obtain⟨p,hp⟩:∃e,ps[j]? =some e:=⟨_,ao ae⟩
  obtain⟨p2,ku⟩:∃e,ps[nx n j]? =some e:=⟨_,ao ae⟩
  obtain⟨f1,f2,f3,f4⟩:=hE j ED
  rw[exH]at f1 f2
  rw[eyH]at f3 f4
  have aaX:(((j:Nat):Int)+1)%((E.n:Nat):Int)=((nx n j:Nat):Int):=by rw[hEn,Ob]
  have hwe:ug x.1 ((nx n j:Nat):Int)=0:=by unfold ug;rw[if_pos f1]
  have FZ:fJ x.1 ((nx n j:Nat):Int)=[]:=by unfold fJ;rw[if_pos f1,aA];exact f2
  have hxO:=vI.B.le (k:=75420) (by have :=vI.B.used;omega)
  have Ww:=QZ.B.le (k:=75420) (by have :=QZ.B.used;omega)
  have aaJ:=Ll Ww eV
  obtain⟨TL,hTL⟩:∃l,jL y.1 eV=l:=⟨_,rfl⟩
  rw[hTL]at f4 aaJ
  refine HU ?_
  refine kp ?_
  refine X_ ?_
  refine Z1 ?_
  refine KO.ce (cp:=[]) rfl rfl rfl call26 rfl (lh w _ bw ⟨hv,dv,wv,ps⟩ E.W j p Kv hp) ?_;rintro v' L' ⟨rfl,rfl⟩
  refine qc ?_
  refine K.draw [.pure,.pure,.pure,.read,.pure,.pure,.pure,.pure,.pure,.read,.pure,.dm,.pure,.pure,.pure,.pure,.pure] [0,1,2,3,4,5,6,7,8,9,10,11,12,13,14,15,16] bH bH ?_
  refine mA ?_
  refine X_ ?_
  refine Z1 ?_
  refine vP ?_
  refine A6 ?_
  refine vy ?_
  refine KO.rem rfl rfl ae ae rfl ?_;rw[aaX]
  refine KO.ce (cp:=[]) rfl rfl rfl call26 rfl (lh w _ bw ⟨hv,dv,wv,ps⟩ E.W (nx n j) p2 Kv ku) ?_;rintro v' L' ⟨rfl,rfl⟩
  refine Ei ?_
  refine Jo ?_
  refine Eg ?_
  refine ji ?_
  refine vP ?_
  refine A6 ?_
  refine vy ?_
  refine KO.rem rfl rfl ae ae rfl ?_;rw[aaX]
  refine KO.cl (cp:=[]) rfl rfl rfl call27 rfl (KC.ab1 (γ:=Value) (φ:=fun c u=>u=.tuple #[c,cS 70 (ug x.1 ((nx n j:Nat):Int))]) (A:=fun c=>SL 44 5 du c (fJ x.1 ((nx n j:Nat):Int))) hp hx bo (fun L=>KC.hdR (fun L=>Ag w L p.1 p.2 75420 x.1 ((nx n j:Nat):Int) hxO ae))) ?_;rintro v' L' ⟨vw,rfl,rfl⟩;rw[hwe,FZ];refine KO.fact (fun _ hs=>aY hs) ?_;rintro⟨aw,cw,rfl,-⟩
  refine ky ?_
  refine A4 ?_
  refine A2 ?_
  refine KO.on rfl rfl (by rfl) ?_;refine KO.len rfl underlying49 rfl ?_
  refine rA ?_
  refine vC ?_
  refine Eg ?_
  refine Z8 ?_
  refine KO.cl (cp:=[]) rfl rfl rfl call28 rfl (KC.ab1 (γ:=Value) (φ:=fun c u=>u=.tuple #[c,cS 70 (ie y.1 eV)]) (A:=fun c=>SL 44 5 du c (jL y.1 eV)) ku hy bo (fun L=>KC.hdR (fun L=>F1 w L p2.1 p2.2 75420 y.1 eV Ww ae))) ?_;rintro v' L' ⟨vt,rfl,rfl⟩;rw[f3,hTL];refine KO.fact (fun _ hs=>aY hs) ?_;rintro⟨a1,c1,rfl,rb⟩
  refine qc ?_
  have afk:maxLen<=9223372036854775807:=by decide
  refine K.fact (p:=TL.length<=9223372036854775807) (fun _ hs=>?_) ?_
  ·rcases Nat.eq_zero_or_pos TL.length with h0|h0
   ·omega
   ·obtain⟨g,rfl⟩:=rb h0
    obtain⟨-,h2,h3,-⟩:=gF (hs.pick (A:=SL 44 5 du (.slice (some ⟨g,0,none⟩) TL.length c1) TL) bZ)
    omega
  intro hal
  refine Z8 ?_
  refine A4 ?_
  refine BL ?_
  refine dR ?_
  refine Z7 ?_
  refine K8 ?_
  refine K.loop (fun pp:Nat=>[(5,bA bt),(10,.int .i64 (j:Nat)),(17,.slice a1 TL.length c1),(18,.int .i64 (pp:Nat))]) (fun _=>SL 44 5 du (.slice a1 TL.length c1) TL::oi bw ⟨hv,dv,wv,ps⟩ E.W (vH bt bw ⟨us,vs,os,mT,mO⟩ E [])) (fun pp=>pp<=3) (fun pp=>3-pp) 0 (aV _) ⟨rfl,rfl,rfl,rfl,trivial⟩ (fun w' aX=>aX.all Y8) ?_
  intro pp hpp
  refine jI ?_
  refine rD ?_
  refine K.bz rfl (fun h40=>?_) (fun h40=>?_)
  ·have f5:=f4 (pp:Nat) ae ae
   obtain⟨wv,F,mg,aa_,pY⟩:=TG (E:=3) (os:=os) (ks:=E.ks) (Ls:=E.Ls) hV.os hEO ((j:Int)*100+(pp:Nat))
   generalize ri E.ks E.Ls ((j:Int)*100+(pp:Nat))=Wd at f5 aa_ pY
   refine K.conv (fun w' h=>aa_ _ _ _ (h.pick (A:=cr gV os E.Ls) bo)) ?_
   refine K.fact (fun _ hs=>aY hs) ?_
   rintro⟨a3,c3,rfl,Ti⟩
   have Tp:=NL (bw:=bw) (n:=E.n) (V:=⟨us,vs,os,mT,mO⟩) hV.us hV.vs
   refine HU ?_
   refine kp ?_
   refine X2 ?_
   refine Z1 ?_
   refine KO.mul rfl rfl rfl ae rfl ?_
   refine Z1 ?_
   refine vP ?_
   refine KO.Ey jX ((j:Int)*100+(pp:Nat)) rfl rfl rfl underlying60 underlying3 zeroValue23 bo rfl ?_;rw[mg]
   refine mB ?_
   refine mS ?_
   refine BI ?_
   refine K.loop (fun q:Nat×Nat=>[(5,bA bt),(10,.int .i64 (j:Nat)),(17,.slice a1 TL.length c1),(18,.int .i64 (pp:Nat)),(19,.slice a3 Wd.length c3),(20,.int .i64 (q.2:Nat)),(168,.slice a1 TL.length c1),(169,.int .i64 (TL.length:Nat)),(170,.int .i64 (q.1:Nat))]) (fun _=>gV (.slice a3 Wd.length c3) Wd::F::SL 44 5 du (.slice a1 TL.length c1) TL::oi bw ⟨hv,dv,wv,ps⟩ E.W (bP bt (.cells (sf bw ⟨us,vs,os,mT,mO⟩ E.n).toArray 62 (0,0))::cg (Value.int .i64) mT (Bp E.T)::cg (Value.int .i64) mO (E.ks.zip os)::cr Bg us E.P::cr gV vs E.G::[])) (fun q=>q.1<=TL.length/\q.2=((TL.take q.1).filter (QX j (pp:Nat))).length) (fun q=>TL.length-q.1) (0,0) ⟨aV _,rfl⟩ ⟨rfl,rfl,rfl,rfl,rfl,rfl,rfl,rfl,rfl,trivial⟩ (fun w' aX=>aX.all nH) ?_
   rintro⟨i,c⟩ ⟨hi,hc⟩
   dsimp only at hi hc ⊢
   refine iJ ?_
   refine K.bz rfl (fun h45=>?_) (fun h45=>?_)
   ·have qn:i<TL.length:=by omega
    obtain⟨g1,rfl⟩:=rb ae
    obtain⟨e,he⟩:∃e,TL[i]? =some e:=⟨TL[i],ao qn⟩
    have Kr:=aaJ e (ax he)
    have hee:TL[i]? =some ⟨e.id,e.pri,e.body,e.queue,e.cq⟩:=he
    have akI:c<=i:=by rw[hc];exact Nat.le_trans (List.length_filter_le _ _) (by rw[bL];exact Nat.min_le_left _ _)
    refine Yw ?_
    refine KO.wC (i:=i) (sz:=5) (cf:=du) rfl rfl isAgg44 sizeOf44 bo (fun _=>rfl) hee rfl ?_
    refine KO.alloc rfl zeroValue44 aQ rfl ?_;intro b22
    refine yB ?_
    by_cases k9:e.id%4=(j:Int)
    ·by_cases sH:e.pri=(pp:Nat)
     ·have Kk:QX j (pp:Nat) e=true:=by unfold QX;simp[k9,sH]
      obtain⟨hw,EF⟩:=XL f5 he Kk
      rw[<-hc]at hw EF
      have wM:=(au.1 hw).1
      obtain⟨g3,rfl⟩:=Ti ae
      refine Yd ?_
      refine Z1 ?_
      refine D_ ?_
      refine A1 ?_
      refine T6 ?_
      refine o_ ?_
      refine A1 ?_
      refine D_ ?_
      refine Ej ?_
      refine K.cV rfl (by simpa using sH) ?_
      refine qq ?_
      refine K.draw [.pure,.pure,.pure,.pure,.pure,.pure,.pure,.pure,.read,.pure,.read,.pure,.pure] [0,1,2,3,4,5,6,7,8,9,10,11,12] bH bH ?_
      refine nB ?_
      refine rG ?_
      refine vO ?_
      refine tN ?_
      refine Z1 ?_
      refine KO.on rfl rfl ga ?_;refine KO.eX (i:=c) rfl rfl runUnderlying23 sizeOf3 rfl ae rfl ?_
      refine KO.on rfl rfl ga ?_;refine KO.iw (i:=c) (sz:=1) (cf:=iC) (e:=e.id) rfl rfl isAgg3 bo (fun _=>rfl) hw aj aQ rfl ?_
      refine lL ?_
      refine Qm ?_
      refine o_ ?_
      refine xA ?_
      refine KO.nd rfl ga rfl rfl ?_
      refine Hf ?_
      refine T4 ?_
      refine Um ?_
      refine vz ?_
      refine KQ.round (i+1,c+1) ⟨by dsimp only;omega,by dsimp only;rw[EF]⟩ iK ⟨rfl,rfl,rfl,rfl,rfl,rfl,rfl,rfl,rfl,trivial⟩ (fun w' aX=>aX.all Y8)
     ·have Kk:QX j (pp:Nat) e=false:=by unfold QX;simp[sH]
      refine Yd ?_
      refine Z1 ?_
      refine D_ ?_
      refine A1 ?_
      refine T6 ?_
      refine o_ ?_
      refine A1 ?_
      refine D_ ?_
      refine Ej ?_
      refine K.dp rfl (by simpa using sH) ?_
      refine qD ?_
      refine KQ.round (i+1,c) ⟨by dsimp only;omega,by dsimp only;rw[PO he Kk];exact hc⟩ iK ⟨rfl,rfl,rfl,rfl,rfl,rfl,rfl,rfl,rfl,trivial⟩ (fun w' aX=>aX.all Y8)
    ·have Kk:QX j (pp:Nat) e=false:=by unfold QX;simp[k9]
     refine Yd ?_
     refine Z1 ?_
     refine D_ ?_
     refine Hg ?_
     refine x8 ?_
     refine GZ ?_
     refine qD ?_
     refine KQ.round (i+1,c) ⟨by dsimp only;omega,by dsimp only;rw[PO he Kk];exact hc⟩ iK ⟨rfl,rfl,rfl,rfl,rfl,rfl,rfl,rfl,rfl,trivial⟩ (fun w' aX=>aX.all Y8)
   ·obtain rfl:i=TL.length:=by omega
    have hcW:c=Wd.length:=by rw[hc,List.take_length,<-f5,bj]
    refine Z9 ?_
    refine ji ?_
    refine rG ?_
    refine xA ?_
    refine Z2 ?_
    refine K.dp rfl ga ?_
    refine JB ?_
    refine KQ.round (pp+1) ae ae ⟨rfl,rfl,rfl,rfl,trivial⟩ (fun w' aX=>?_)
    exact(pY _ _ _ (aX.all (M:=gV (.slice a3 Wd.length c3) Wd::F::SL 44 5 du (.slice a1 TL.length c1) TL::oi bw ⟨hv,dv,wv,ps⟩ E.W (bP bt (.cells (sf bw ⟨us,vs,os,mT,mO⟩ E.n).toArray 62 (0,0))::cg (Value.int .i64) mT (Bp E.T)::cg (Value.int .i64) mO (E.ks.zip os)::cr Bg us E.P::cr gV vs E.G::[])) nH)).all Y7
  ·refine Z73 ?_
   refine He ?_
   refine KQ.round (j+1) ae ae ⟨rfl,rfl,trivial⟩ (fun w' aX=>back w' (aX.all Y8))
 ·refine Jy ?_
  refine KQ.bG rfl rfl (fun w' aX=>fin w' _ aX)
end Go.Proofs.YtjhogocabcdjbabGreatDoor
namespace WB
open Go Go.RowKit Go.Lib Go.ChangeShapes
theorem By{H:Type}{enc:TypeId×Value->H}{P:Program}{w:World}{base:Nat}{sp:Nat->Bool}{held:Bool}{fuel:Nat}{t e:TypeId}{n:Nat}{cs:List Value}{zs:List ak}{p:List MemPlace}(ht:P.underlying t=some (.array n e))(he:P.underlying e=some .string)(hce:P.cellsOf e=1)(EF:P.cellsOf t=n)(h:DataW.trod enc P w base sp held fuel t cs=some (.agg (zs.map fun z=>.lit (.string z.data.toList)),p)):cs=zs.map Value.string:=by
 cases fuel with
 |zero=>simp[DataW.trod]at h
 |succ fuel=>
  simp only[DataW.trod,ht,hce,EF,Nat.mul_one]at h
  split at h
  ·rename_i hl
   obtain⟨xs,hm,hx⟩:=Option.map_eq_some_iff.1 h
   have tP:xs.map (·.1)=zs.map fun z=>(DataW.lit (.string z.data.toList):DataW H):=by
    have :=congrArg Prod.fst hx
    simpa using this
   have tQ:xs.length=n:=by simpa using mapM_length hm
   have Md:zs.length=n:=by
    have :=congrArg List.length tP
    simp at this
    omega
   apply List.ext_getElem?
   intro i
   by_cases hi:i<n
   ·obtain⟨b,hb,hf⟩:=mapM_at hm i i (by simp[hi])
    obtain⟨z,hc,rfl,_⟩:=DataW.trod_string he hf
    have h1:cs[i]? =some (.string z):=by
     have :=congrArg (·[0]?) hc
     simpa[List.getElem?_take,List.getElem?_drop]using this
    have h2:(xs.map (·.1))[i]? =some (DataW.lit (.string z.data.toList):DataW H):=by simp[hb]
    rw[tP]at h2
    simp only[aG,Option.map_eq_some_iff,DataW.lit.injEq,Lit.string.injEq]at h2
    obtain⟨z',hz',h3⟩:=h2
    have h4:z'=z:=by
     obtain⟨⟨a⟩⟩:=z'
     obtain⟨⟨b⟩⟩:=z
     dsimp only at h3
     rw[h3]
    rw[h1,aG,hz',h4];rfl
   ·rw[br ae,br ga]
  ·cases h
theorem Df{P:Program}{W:World}{name:String}{zs:List ak}{l:List (String×DataW Unit)}{g:Nat}{t e:TypeId}{n:Nat}(h:laidMet P l W)(hm:(name,(.agg (zs.map fun z=>.lit (.string z.data.toList)):DataW Unit))∈l)(hg:P.globalNamed name=some g)(hty:(P.globals[g]?).map (·.type)=some t)(ht:P.underlying t=some (.array n e))(he:P.underlying e=some .string)(hce:P.cellsOf e=1)(EF:P.cellsOf t=n):
 ∀k z,zs[k]? =some z->W.cell? ⟨g,k,none⟩=some (.string z):=by
 obtain⟨ps,hv,_⟩:=h
 obtain⟨g',t',cs,fuel,p,h1,h2,h3,h4⟩:=pT hv _ hm
 obtain rfl:=Option.some.inj (hg.symm.trans h1)
 obtain rfl:=Option.some.inj (hty.symm.trans h2)
 have h5:=By ht he hce EF h4
 intro k z hz
 have h6:=World.var?_cell hg h3 k
 rw[h6]
 have :cs.toList[k]? =some (.string z):=by rw[h5,aG,hz];rfl
 simpa using this
open Go
theorem uR{a:Assume}{C:Checked}{os:Os}{f:FuncId}{r:Reach}{Pre:World->Array Value->Prop}{acX:World->Array Value->Value->World->Prop}(h:ReturnsInHanded a C os f r Pre acX):ReturnsInLeavingWide a C os f r Pre acX:=fun enter=>by
 obtain⟨h1,h2,h3,h4,h5⟩:=h enter
 refine⟨h1,h2,h3,h4,fun w tape i hf=>?_⟩
 obtain⟨n,v,w',k1,k2,k3,k4,⟨j,last,k5,k6,k7⟩,k8⟩:=h5 w tape i hf
 exact⟨n,v,w',k1,k2,k3,k4,⟨j,last,k5,k6,k7.2.1,onlyLeaving_of_quiet k7.1,k7.2.2⟩,k8⟩
theorem yv(Lk:Looks){p:Pinned}{s:OpenSpec}{c:OpenClaim}(kinds:List LaidKind)(tests:Bool)(DS:Bool×String)(lk:Bool)(hc:c.holds p s)(hw:c.wfByText s=true)(aeX:c.laidByTextAt Lk p kinds tests)(kt:c.start=.entering)(hnb:c.noBlocks=false/\c.again=false)(hm:p.checked.prog.mainIs=some (DS.1,DS.2.toList))(hn:(!DS.1&&DS.2.isEmpty&& !lk)=false)(hl:∀f fn,p.checked.prog.funcNamed c.func=some f->p.checked.prog.funcs[f]? =some fn->lk=p.checked.prog.looks []/\∀(j:Nat) t,fn.params[j]? =some t->p.checked.prog.wantsStandIn t=false)(hg:true=c.goesBy p.checked.prog):
 Claim7.holds p (.plain s) {stood:={row:=c,standIns:=[],harness:=DS,looks:=lk},kinds:=[],alts:=[],goes:=true,laidByText:=true,laidKinds:=kinds,laidTests:=tests,laidLooks:=Lk}:=by
 have h6:Claim7.isSixth {stood:={row:=c,standIns:=[],harness:=DS,looks:=lk},kinds:=[]}=false:=by simpa[Claim7.isSixth]using hn
 exact⟨Claim7.tied_new_at Lk kinds tests (Claim7.new_of_sixth hc DS lk kt hnb hm h6 hl) hw,(fun D hD=>by cases hD),aeX,(fun h=>by cases h),hg⟩
theorem Tz{P:Program}{c:OpenClaim}{f:FuncId}(hf:P.funcNamed c.func=some f)(hu:P.unfollowed f=true)(hg:P.funcs.any Func.goes=true):true=c.goesBy P:=by
 unfold OpenClaim.goesBy Program.goesAt Program.goesFrom
 rw[hf]
 simp[Program.goes,hu,hg]
theorem L7{P:Program}{f:FuncId}{fn:Func}{s:ChangeSpec}{c:OpenClaim}(a1:(c.wf (OpenSpec.ofChange s)&&laidOutB P&&mapsRowed P)=true)(a2:(fn.params.all (P.readableRec ·)&&namedTie P c.named s.vars&&(c.stops==[])&&(P.stops==[])&&(c.knobs==[])&&(P.stopKnobs==[]))=true)(a3:(c.inPlace==P.inPlace f)=true)(a4:(c.unfollowed==P.unfollowed f)=true)(a5:(c.recurses==P.recurses f)=true)(a6:(c.named==P.varsNamed f)=true)(a7:((c.maps==(fn.params.toList++s.plain.varTypes P).any (P.mapsRec ·))&&(c.ifaces==(fn.params.toList++s.plain.varTypes P).any (P.ifacesRec ·))&&(c.mapsOut==P.mapsAmong fn.resultTypes.toList)&&
  (c.loops==(fn.params.toList++s.plain.varTypes P).any (P.loopsFrom ·))&&(c.wideKeys==(fn.params.toList++s.plain.varTypes P++fn.resultTypes.toList).any (P.wideKeysFrom ·))&&
  s.vars.all (P.varReadable ·)&&fn.resultTypes.all (fun t=>P.readableRec t&&decide (t<P.types.size))&&(c.ifacesOut==fn.resultTypes.toList.any (P.ifacesRec ·))&&(c.loopsOut==fn.resultTypes.toList.any (P.loopsFrom ·))&&(c.plainKeys==P.plainKeys)&&c.shortTexts.isNone)=true)(a8:(P.stopsHeard&&P.mayEnter&&(c.lifted==P.liftsFinal)&&(P.make==some c.make))=true)(a9:((c.kinds==(if c.domain.isEmpty then[]else fn.params.toList.map fun t=>match P.underlying t with|some (.int k)=>some k|_=>none))&&(c.pinned==c.pinnedBy)&&
  (c.veiled==(fn.params.toList++s.plain.varTypes P++fn.resultTypes.toList).any (P.veiledRec ·))&&c.veiledFits P fn.params.toList (fn.params.toList++s.plain.varTypes P++fn.resultTypes.toList))=true):
 joinedFacts P f fn s c=true:=by
 unfold joinedFacts
 simp only[bn]at a1 a2 a7 a8 a9 ⊢
 grind
end WB
